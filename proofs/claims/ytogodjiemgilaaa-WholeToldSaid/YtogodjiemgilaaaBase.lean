/- Words of my own for memory that is read, for arguments of any type, and the frame that all laws share. No program stands in this text. -/
import Derived.WalkKit
import Derived.WalkSpells
import Derived.WalkLawsBesides
import Derived.ProofKit
import Derived.OpenShut
import Derived.Lib.Hide
namespace Go.Proofs.Ytogodjiemgilaaa
open Go.ChangeShapes Go.WideShapes Go.ChangeAt Go.RowKit

/-! ### Worlds that have grown: nothing that there was has turned -/

/-- what there was in w is in w' as it was -/
abbrev Ext (w w' : World) : Prop := Below w.heap.size w w'

theorem Ext.refl (w : World) : Ext w w := Below.refl _ _
theorem Ext.trans {a b c : World} (h : Ext a b) (k : Ext b c) : Ext a c := Below.trans h (k.mono h.size)
theorem Ext.alloc {a b : World} (h : Ext a b) (o : Obj) : Ext a (b.alloc o) := Below.alloc h h.size o
theorem Ext.new (w : World) (o : Obj) : Ext w (w.alloc o) := (Ext.refl w).alloc o
theorem Ext.drew {a b : World} (h : Ext a b) : Ext a b.drew := Below.drew h
theorem Ext.drewN {a b : World} (h : Ext a b) (n : Nat) : Ext a (b.drewN n) := ⟨h.os, h.tape, h.output, h.size, h.block⟩
theorem Ext.set {a b : World} (h : Ext a b) {p : Addr} (hp : a.heap.size ≤ p.block) (u : Value) : Ext a (b.setCell p u) := Below.setCell h hp u
theorem Ext.grown {a b c : World} {row : Option Nat} (h : Ext a b) (hg : b.grownBy c row) (hr : ∀ k, row = some k → a.heap.size ≤ k) : Ext a c := Below.grown h hg h.size hr
theorem Ext.cell {a b : World} (h : Ext a b) {p : Addr} {v : Value} (hc : a.cell? p = some v) : b.cell? p = some v :=
  (Below.cell h (World.block_lt_of_cell? a p hc)).trans hc
theorem Ext.obj {a b : World} (h : Ext a b) {k : Nat} {o : Obj} (hc : a.heap[k]? = some o) : b.heap[k]? = some o :=
  (h.block k (Array.getElem?_eq_some_iff.1 hc).1).trans hc

/-! ### A row of cells that is read -/

/-- from the address a on lie the cells xs -/
def Rd (w : World) (a : Option Addr) (xs : List Value) : Prop :=
  xs = [] ∨ ∃ b off, a = some ⟨b, off, none⟩ ∧ ∀ j u, xs[j]? = some u → w.cell? ⟨b, off + j, none⟩ = some u

theorem Rd.nil (w : World) (a : Option Addr) : Rd w a [] := .inl rfl
theorem Rd.get {w : World} {a : Option Addr} {xs : List Value} (h : Rd w a xs) {j : Nat} {u : Value} (hu : xs[j]? = some u) :
    ∃ b off, a = some ⟨b, off, none⟩ ∧ w.cell? ⟨b, off + j, none⟩ = some u := by
  rcases h with rfl | ⟨b, off, e, hc⟩
  · simp at hu
  · exact ⟨b, off, e, hc j u hu⟩
theorem Rd.all {w : World} {a : Option Addr} {xs : List Value} (h : Rd w a xs) (hn : 0 < xs.length) :
    ∃ b off, a = some ⟨b, off, none⟩ ∧ b < w.heap.size ∧ ∀ j u, xs[j]? = some u → w.cell? ⟨b, off + j, none⟩ = some u := by
  rcases h with rfl | ⟨b, off, e, hc⟩
  · simp at hn
  · exact ⟨b, off, e, World.block_lt_of_cell? w ⟨b, off + 0, none⟩ (hc 0 _ (List.getElem?_eq_getElem hn)), hc⟩
theorem Rd.ext {w w' : World} {a : Option Addr} {xs : List Value} (h : Rd w a xs) (e : Ext w w') : Rd w' a xs := by
  rcases h with rfl | ⟨b, off, ea, hc⟩
  · exact .inl rfl
  · exact .inr ⟨b, off, ea, fun j u hu => e.cell (hc j u hu)⟩
theorem Rd.alloc {w : World} {a : Option Addr} {xs : List Value} (h : Rd w a xs) (o : Obj) : Rd (w.alloc o) a xs := h.ext (Ext.new w o)
theorem Rd.drew {w : World} {a : Option Addr} {xs : List Value} (h : Rd w a xs) : Rd w.drew a xs := h
theorem Rd.drewN {w : World} {a : Option Addr} {xs : List Value} (h : Rd w a xs) (n : Nat) : Rd (w.drewN n) a xs := h
/-- a row that ends in another world with the same cells -/
theorem Rd.keep {w w' : World} {a : Option Addr} {xs : List Value} (h : Rd w a xs) (k : ∀ b off, a = some ⟨b, off, none⟩ → b < w.heap.size → w'.heap[b]? = w.heap[b]?) : Rd w' a xs := by
  rcases h with rfl | ⟨b, off, ea, hc⟩
  · exact .inl rfl
  · refine .inr ⟨b, off, ea, fun j u hu => ?_⟩
    have hx := hc j u hu
    have hb := World.block_lt_of_cell? w _ hx
    rw [World.cell?_of_block (w := w) (k b off ea hb)]; exact hx
theorem Rd.take {w : World} {a : Option Addr} {xs : List Value} (h : Rd w a xs) (n : Nat) : Rd w a (xs.take n) := by
  rcases h with rfl | ⟨b, off, ea, hc⟩
  · simp [Rd]
  · refine .inr ⟨b, off, ea, fun j u hu => hc j u ?_⟩
    rw [List.getElem?_take] at hu
    split at hu
    · exact hu
    · cases hu
theorem Rd.drop {w : World} {b off : Nat} {xs : List Value} (h : Rd w (some ⟨b, off, none⟩) xs) (n : Nat) : Rd w (some ⟨b, off + n, none⟩) (xs.drop n) := by
  rcases h with rfl | ⟨b', off', ea, hc⟩
  · simp [Rd]
  · injection ea with ea
    injection ea with e1 e2
    subst e1 e2
    refine .inr ⟨b, off + n, rfl, fun j u hu => ?_⟩
    rw [List.getElem?_drop] at hu
    rw [Nat.add_assoc]
    exact hc _ _ hu

theorem Rd.own {w : World} {base : Nat} {e : TypeId} {size n : Nat} {a : Option Addr} {c : Nat} {xs : List Value} (h : w.ownsRow base e size (.slice a n c) n xs) : Rd w a xs := by
  obtain ⟨h1, h2⟩ := h
  rcases h2 with ⟨hv, hn⟩ | ⟨g, cap, cur, hv, hg, hh, hnc, hcm, hcs, htake⟩
  · subst hn; left; exact List.eq_nil_of_length_eq_zero (by simpa using h1)
  · injection hv with hv
    subst hv
    refine .inr ⟨g, 0, rfl, fun j u hu => ?_⟩
    rw [cell_of_row w g (0 + j) cur e (0, 0) hh, Nat.zero_add]
    rw [← htake, List.getElem?_take] at hu
    split at hu
    · simpa using hu
    · cases hu

/-! ### What an argument of some type is: typed values -/

/-- cs are the cells of a value of type t; what it leads to lies in w -/
def Typed (P : Program) (w : World) : Nat → TypeId → List Value → Prop
  | 0, _, _ => False
  | n + 1, t, cs => match P.underlying t with
    | some .bool => ∃ b, cs = [.bool b]
    | some (.int k) => ∃ x, cs = [.int k x] ∧ (Lit.int k x).wf = true
    | some (.float k) => ∃ x, cs = [.float k x] ∧ (Lit.float k x).wf = true
    | some .string => ∃ s : ByteArray, cs = [.string s] ∧ s.size ≤ maxLen
    | some (.slice e) => ∃ a cap, ∃ xs : List (List Value), cs = [.slice a xs.length cap] ∧ xs.length ≤ cap ∧ cap ≤ maxLen ∧ (∀ x ∈ xs, x.length = P.cellsOf e ∧ Typed P w n e x) ∧ Rd w a xs.flatten
    | some (.struct fs) => cs.length = P.cellsOf t ∧ ∀ f ∈ fs.toList, Typed P w n f.type ((cs.drop f.offset).take (P.cellsOf f.type))
    | _ => True

section
variable {H : Type} {enc : TypeId × Value → H} {P : Program} {w : World} {base : Nat} {spare : Nat → Bool} {held : Bool}

theorem flatten_get {s : Nat} {xs : List (List Value)} (h : ∀ x ∈ xs, x.length = s) : ∀ {j : Nat} {u : Value}, xs.flatten[j]? = some u → ∃ x, xs[j / s]? = some x ∧ x[j % s]? = some u := by
  induction xs with
  | nil => intro j u hu; simp at hu
  | cons y ys ih =>
    intro j u hu
    have hy := h y (by simp)
    rw [List.flatten_cons] at hu
    by_cases hj : j < s
    · rw [List.getElem?_append_left (by omega)] at hu
      exact ⟨y, by rw [Nat.div_eq_of_lt hj]; rfl, by rw [Nat.mod_eq_of_lt hj]; exact hu⟩
    · rw [List.getElem?_append_right (by omega), hy] at hu
      obtain ⟨x, hx, hu⟩ := ih (fun x hx => h x (by simp [hx])) hu
      have hs : 0 < s := by
        rcases Nat.eq_zero_or_pos s with h0 | h0
        · subst h0
          have := (List.getElem?_eq_some_iff.1 hu).1
          have hx' := h x (by have := List.mem_of_getElem? hx; simp [this])
          omega
        · exact h0
      refine ⟨x, ?_, ?_⟩
      · rw [Nat.div_eq_sub_div hs (by omega)]; simpa using hx
      · rw [Nat.mod_eq_sub_mod (by omega)]; exact hu

theorem add_add (a : Addr) (i j : Nat) : (a.add i).add j = a.add (i + j) := by
  unfold Addr.add
  by_cases hi : i = 0 <;> by_cases hj : j = 0 <;> simp [hi, hj, Nat.add_assoc]
theorem add_plain (b off i : Nat) : (⟨b, off, none⟩ : Addr).add i = ⟨b, off + i, none⟩ := by
  unfold Addr.add
  by_cases hi : i = 0 <;> simp [hi]

theorem typed_of_trod : ∀ (fuel : Nat) (t : TypeId) (cs : List Value) (x : DataW H × List MemPlace), DataW.trod enc P w base spare held fuel t cs = some x → Typed P w fuel t cs := by
  intro fuel
  induction fuel with
  | zero => intro t cs x h; simp [DataW.trod] at h
  | succ n ih =>
    intro t cs x h
    unfold Typed
    cases hu : P.underlying t with
    | none => trivial
    | some d =>
      cases d <;> simp only [] <;> try trivial
      case bool => obtain ⟨b, h1, _⟩ := DataW.trod_bool hu h; exact ⟨b, h1⟩
      case int k => obtain ⟨b, h1, _, h2⟩ := DataW.trod_int hu h; exact ⟨b, h1, h2⟩
      case float k =>
        unfold DataW.trod at h
        rw [hu] at h
        split at h <;> simp_all
      case string => obtain ⟨b, h1, _, h2⟩ := DataW.trod_string hu h; exact ⟨b, h1, h2⟩
      case slice e =>
        rcases DataW.trod_slice hu h with ⟨rfl, _⟩ | ⟨a, len, cap, elems, rest, m, hm, rfl, _, _, hl, hc, hel, he, _⟩
        · exact ⟨none, 0, [], rfl, Nat.le_refl _, by simp [maxLen], by simp, Rd.nil _ _⟩
        · obtain rfl : n = m := by omega
          have hcs : ∀ i, i < len → ∃ c, w.cells? base (a.add (i * P.cellsOf e)) (P.cellsOf e) = some c ∧ Typed P w n e c := by
            intro i hi
            have h1 := he i hi
            rw [List.getElem?_eq_getElem (by omega), Option.bind_eq_some_iff] at h1
            obtain ⟨c, h2, h3⟩ := h1
            exact ⟨c, h2, ih e c _ h3⟩
          let pick : Nat → List Value := fun i => (w.cells? base (a.add (i * P.cellsOf e)) (P.cellsOf e)).getD []
          have hp : ∀ i, i < len → w.cells? base (a.add (i * P.cellsOf e)) (P.cellsOf e) = some (pick i) ∧ Typed P w n e (pick i) := by
            intro i hi
            obtain ⟨c, h2, h3⟩ := hcs i hi
            have : pick i = c := by show (w.cells? base _ _).getD [] = c; rw [h2]; rfl
            rw [this]; exact ⟨h2, h3⟩
          refine ⟨some a, cap, (List.range len).map pick, by simp, by simpa using hl, hc, ?_, ?_⟩
          · intro y hy
            simp only [List.mem_map, List.mem_range] at hy
            obtain ⟨i, hi, rfl⟩ := hy
            obtain ⟨h2, h3⟩ := hp i hi
            exact ⟨(World.cells?_some h2).2.1, h3⟩
          · have hlen : ∀ y ∈ (List.range len).map pick, y.length = P.cellsOf e := by
              intro y hy
              simp only [List.mem_map, List.mem_range] at hy
              obtain ⟨i, hi, rfl⟩ := hy
              exact (World.cells?_some (hp i hi).1).2.1
            have hget : ∀ j u, ((List.range len).map pick).flatten[j]? = some u → w.cell? (a.add j) = some u := by
              intro j u hu
              obtain ⟨y, hy, hu⟩ := flatten_get hlen hu
              rw [List.getElem?_map, Option.map_eq_some_iff] at hy
              obtain ⟨i, hi, rfl⟩ := hy
              obtain ⟨hi1, hi2⟩ := List.getElem?_eq_some_iff.1 hi
              simp only [List.length_range] at hi1
              simp only [List.getElem_range] at hi2
              subst hi2
              obtain ⟨_, hsz, hcell⟩ := World.cells?_some (hp _ hi1).1
              have hlt := (List.getElem?_eq_some_iff.1 hu).1
              have h4 := hcell (j % P.cellsOf e) (by omega)
              rw [add_add, hu] at h4
              have hj : j / P.cellsOf e * P.cellsOf e + j % P.cellsOf e = j := by rw [Nat.mul_comm]; exact Nat.div_add_mod j _
              rw [hj] at h4
              exact h4
            rcases hz : ((List.range len).map pick).flatten with _ | ⟨z, zs⟩
            · exact .inl rfl
            · right
              have h0 := hget 0 z (by rw [hz]; rfl)
              have hspot : a.spot = none := by
                cases hs : a.spot with
                | none => rfl
                | some _ =>
                  unfold World.cell? at h0
                  rw [show a.add 0 = a from rfl] at h0
                  rw [hs] at h0
                  split at h0 <;> simp at h0
              obtain ⟨b, off, sp⟩ := a
              simp only at hspot
              subst hspot
              refine ⟨b, off, rfl, fun j u hu => ?_⟩
              rw [← hz] at hu
              rw [← add_plain]
              exact hget j u hu
      case struct fs =>
        obtain ⟨xs, m, hm, _, hlen, hsz, hf⟩ := DataW.trod_struct hu h
        obtain rfl : n = m := by omega
        refine ⟨hlen, fun f hmem => ?_⟩
        obtain ⟨i, hi, rfl⟩ := List.mem_iff_getElem.1 hmem
        have h1 := hf i fs[i] (Array.getElem?_eq_getElem (by simpa using hi))
        rw [List.getElem?_eq_getElem (by rw [hsz]; simpa using hi)] at h1
        exact ih _ _ _ h1
end

/-- v is a value of type t that came in, as w has it -/
def Arg (P : Program) (w : World) (t : TypeId) (v : Value) : Prop :=
  ∃ n cs, Typed P w n t cs ∧ v = (match P.underlying t with | some (.struct _) => .agg cs.toArray | _ => cs.headD undef)

/-- the types that are served -/
def Served (P : Program) (t : TypeId) : Prop :=
  match P.underlying t with
  | some .bool | some (.int _) | some (.float _) | some .string | some (.slice _) | some (.struct _) => True
  | _ => False

section
variable {H : Type} {enc : TypeId × Value → H} {P : Program} {w : World} {base : Nat} {spare : Nat → Bool} {held : Bool}

theorem arg_of {t : TypeId} {v : Value} {d : DataW H} {ps : List MemPlace} {r : Reach} {b0 : Nat} (hs : Served P t) (hok : Value.okWide P w r b0 t v) (h : DataW.Trod enc P w base spare held t v d ps) : Arg P w t v := by
  obtain ⟨n, hn⟩ := h
  refine ⟨n, v.cells.toList, typed_of_trod n t _ _ hn, ?_⟩
  unfold Served at hs
  cases hu : P.underlying t with
  | none => rw [hu] at hs; exact hs.elim
  | some u =>
    rw [hu] at hs
    cases u <;> simp only at hs ⊢
    case bool => obtain ⟨b, rfl⟩ := okWide_bool hu hok; rfl
    case int k => obtain ⟨b, rfl⟩ := okWide_int hu hok; rfl
    case float k => obtain ⟨b, rfl⟩ := okWide_float hu hok; rfl
    case string => obtain ⟨b, rfl⟩ := okWide_string hu hok; rfl
    case slice e => obtain ⟨a, l, c, rfl⟩ := okWide_slice hu hok; rfl
    case struct fs => obtain ⟨cs, rfl, _⟩ := okWide_struct hu hok; simp [Value.cells]

theorem below_trodAll {W W' : World} (hl : laidOutB P = true) (hb : Below W.heap.size W W') : ∀ {ts : List TypeId} {vs : List Value} {ds : List (DataW H)} {p : List MemPlace},
    (∀ t ∈ ts, P.readableRec t = true ∧ t < P.types.size) → DataW.TrodAll enc P W 0 (fun _ => true) true ts vs ds p → DataW.TrodAll enc P W' 0 (fun b => decide (b < W.heap.size)) true ts vs ds p
  | [], _, _, _, _, h => by
    obtain ⟨rfl, rfl, rfl⟩ := trodAll_nil h
    rfl
  | t :: ts, _, _, _, hr, h => by
    obtain ⟨v, vs1, d, ds1, a, b, rfl, rfl, rfl, h1, h2⟩ := trodAll_cons h
    have hlt : ∀ x ∈ a, x.block < W.heap.size := by obtain ⟨m, hm⟩ := h1; exact DataW.trod_lt m _ _ _ hm
    exact ⟨a, b, Below.trod hl (hr t (by simp)).1 (hr t (by simp)).2 h1 hb hlt, below_trodAll hl hb (fun u hu => hr u (by simp [hu])) h2, rfl⟩

theorem trodAll_len : ∀ {ts : List TypeId} {vs : List Value} {ds : List (DataW H)} {p : List MemPlace}, DataW.TrodAll enc P w base spare held ts vs ds p → vs.length = ts.length ∧ ds.length = ts.length
  | [], _, _, _, h => by obtain ⟨rfl, rfl, rfl⟩ := trodAll_nil h; exact ⟨rfl, rfl⟩
  | t :: ts, _, _, _, h => by
    obtain ⟨v, vs1, d, ds1, a, b, rfl, rfl, rfl, h1, h2⟩ := trodAll_cons h
    obtain ⟨e1, e2⟩ := trodAll_len h2
    simp [e1, e2]

theorem trodAll_at : ∀ {ts : List TypeId} {vs : List Value} {ds : List (DataW H)} {p : List MemPlace}, DataW.TrodAll enc P w base spare held ts vs ds p → ∀ (j : Nat) (t : TypeId) (v : Value), ts[j]? = some t → vs[j]? = some v → ∃ d q, DataW.Trod enc P w base spare held t v d q
  | [], _, _, _, _, j, t, v, ht, _ => by simp at ht
  | t :: ts, _, _, _, h, j, t', v', ht, hv => by
    obtain ⟨v, vs1, d, ds1, a, b, rfl, rfl, rfl, h1, h2⟩ := trodAll_cons h
    cases j with
    | zero => simp at ht hv; subst ht hv; exact ⟨_, _, h1⟩
    | succ j => simp at ht hv; exact trodAll_at h2 j t' v' ht hv

theorem Typed.int {k : IntKind} {n : Nat} {t : TypeId} {cs : List Value} (ht : P.underlying t = some (.int k)) (h : Typed P w n t cs) : ∃ x, cs = [.int k x] ∧ (Lit.int k x).wf = true := by
  cases n with
  | zero => exact h.elim
  | succ n => unfold Typed at h; rw [ht] at h; exact h
theorem Typed.bool {n : Nat} {t : TypeId} {cs : List Value} (ht : P.underlying t = some .bool) (h : Typed P w n t cs) : ∃ b, cs = [.bool b] := by
  cases n with
  | zero => exact h.elim
  | succ n => unfold Typed at h; rw [ht] at h; exact h
theorem Typed.float {k : FloatKind} {n : Nat} {t : TypeId} {cs : List Value} (ht : P.underlying t = some (.float k)) (h : Typed P w n t cs) : ∃ x, cs = [.float k x] ∧ (Lit.float k x).wf = true := by
  cases n with
  | zero => exact h.elim
  | succ n => unfold Typed at h; rw [ht] at h; exact h
theorem Typed.string {n : Nat} {t : TypeId} {cs : List Value} (ht : P.underlying t = some .string) (h : Typed P w n t cs) : ∃ s : ByteArray, cs = [.string s] ∧ s.size ≤ maxLen := by
  cases n with
  | zero => exact h.elim
  | succ n => unfold Typed at h; rw [ht] at h; exact h
theorem Typed.slice {e : TypeId} {n : Nat} {t : TypeId} {cs : List Value} (ht : P.underlying t = some (.slice e)) (h : Typed P w n t cs) :
    ∃ a cap, ∃ xs : List (List Value), ∃ m, cs = [.slice a xs.length cap] ∧ xs.length ≤ cap ∧ cap ≤ maxLen ∧ (∀ x ∈ xs, x.length = P.cellsOf e ∧ Typed P w m e x) ∧ Rd w a xs.flatten := by
  cases n with
  | zero => exact h.elim
  | succ n =>
    unfold Typed at h; rw [ht] at h
    obtain ⟨a, cap, xs, h1, h2, h3, h4, h5⟩ := h
    exact ⟨a, cap, xs, n, h1, h2, h3, h4, h5⟩
theorem Typed.struct {fs : Array Field} {n : Nat} {t : TypeId} {cs : List Value} (ht : P.underlying t = some (.struct fs)) (h : Typed P w n t cs) :
    ∃ m, cs.length = P.cellsOf t ∧ ∀ f ∈ fs.toList, Typed P w m f.type ((cs.drop f.offset).take (P.cellsOf f.type)) := by
  cases n with
  | zero => exact h.elim
  | succ n => unfold Typed at h; rw [ht] at h; exact ⟨n, h⟩

theorem Arg.int {k : IntKind} {t : TypeId} {v : Value} (ht : P.underlying t = some (.int k)) (h : Arg P w t v) : ∃ x, v = .int k x ∧ (Lit.int k x).wf = true := by
  obtain ⟨n, cs, h1, rfl⟩ := h
  obtain ⟨x, rfl, hx⟩ := h1.int ht
  exact ⟨x, by rw [ht]; rfl, hx⟩
theorem Arg.string {t : TypeId} {v : Value} (ht : P.underlying t = some .string) (h : Arg P w t v) : ∃ x : ByteArray, v = .string x ∧ x.size ≤ maxLen := by
  obtain ⟨n, cs, h1, rfl⟩ := h
  obtain ⟨x, rfl, hx⟩ := h1.string ht
  exact ⟨x, by rw [ht]; rfl, hx⟩
theorem Arg.slice {e : TypeId} {t : TypeId} {v : Value} (ht : P.underlying t = some (.slice e)) (h : Arg P w t v) :
    ∃ a cap, ∃ xs : List (List Value), ∃ m, v = .slice a xs.length cap ∧ xs.length ≤ cap ∧ cap ≤ maxLen ∧ (∀ x ∈ xs, x.length = P.cellsOf e ∧ Typed P w m e x) ∧ Rd w a xs.flatten := by
  obtain ⟨n, cs, h1, rfl⟩ := h
  obtain ⟨a, cap, xs, m, rfl, h2⟩ := h1.slice ht
  exact ⟨a, cap, xs, m, by rw [ht]; rfl, h2⟩
theorem Arg.struct {fs : Array Field} {t : TypeId} {v : Value} (ht : P.underlying t = some (.struct fs)) (h : Arg P w t v) :
    ∃ (cs : List Value) (m : Nat), v = .agg cs.toArray ∧ cs.length = P.cellsOf t ∧ ∀ f ∈ fs.toList, Typed P w m f.type ((cs.drop f.offset).take (P.cellsOf f.type)) := by
  obtain ⟨n, cs, h1, rfl⟩ := h
  obtain ⟨m, h2, h3⟩ := h1.struct ht
  exact ⟨cs, m, by rw [ht], h2, h3⟩

/-- THE FRAME OF ALL LAWS: the walk that ends in true and turns nothing that there was. -/
theorem law_lifted {C : Checked} {f : FuncId} {fn : Func} {s : ChangeSpec} {os : Os} (T : TypeId)
    (own : ownKnob C.prog.godebug = none) (started : os.Started) (hinit : C.prog.inits.idxOf? f = none) (hfn : C.prog.funcs[f]? = some fn) (hl : laidOutB C.prog = true)
    (hr : ∀ t ∈ fn.params.toList, C.prog.readableRec t = true ∧ t < C.prog.types.size) (hsv : ∀ t ∈ fn.params.toList, Served C.prog t)
    (hres : fn.resultTypes = #[T]) (hT : C.prog.underlying T = some .bool) (hvars : s.vars = [])
    (hs : ∀ ds : List (DataW H), ds.length = fn.params.size → s.fn H ds = { results := [.lit (.bool true)], args := ds })
    (witness : ∃ (w : World) (tape : Tape) (i : Input), w.os = os ∧ (w.forCall tape i).Shaped C.prog ∧ i.vars = [] ∧ Input.okWide C.prog (w.forCall tape i) .any w.heap.size f i ∧
      s.pre6 enc C.prog fn [] false (w.forCall tape i).memory i.args ∧ ({} : Assume).holds C.prog (lone (Frame.enter C.prog f i.args .normal) [] (w.forCall tape i)))
    (walk : ∀ (W : World) (args : Array Value), args.size = fn.params.size → (∀ (j : Nat) (t : TypeId) (v : Value), fn.params[j]? = some t → args[j]? = some v → Arg C.prog W t v) →
      Calls C.prog f args W fun e W' => e = .returned (.bool true) ∧ Ext W W') :
    ReturnsInHanded {} C os f .any (s.pre6 enc C.prog fn [] false) (s.post enc C.prog fn false true false false) := by
  refine returnsInHanded_of_change (C := C) own started hinit hfn witness ?_
  intro W b0 args ds gs before hval hW _ _
  have hW' := hW
  obtain ⟨p, q, hA, hV, rfl, _, _⟩ := hW
  rw [hvars] at hV
  obtain ⟨rfl, rfl⟩ := trodVars_none hV
  obtain ⟨e1, e2⟩ := trodAll_len hA
  have hsz : args.size = fn.params.size := by simpa using e1
  refine (walk W args hsz fun j t v ht hv => ?_).mono fun e W' ⟨he, hb⟩ => ?_
  · obtain ⟨d, q, hd⟩ := trodAll_at hA j t v (by simpa using ht) (by simpa using hv)
    exact arg_of (hsv t (by have := Array.mem_of_getElem? ht; simpa using this)) (hval j t v ht hv) hd
  · subst he
    have hfn' : s.fn H (ds ++ []) = { results := [.lit (.bool true)], args := ds } := by rw [List.append_nil]; exact hs ds (by simpa using e2)
    refine ⟨_, rfl, ds, [], _, [], p, [], hW', ?_, ?_, ?_, ?_, fun h => by cases h⟩
    · rw [hfn', hres]
      exact trodAll_mk1 (shut_bool hT true)
    · rw [hfn']
      exact below_trodAll hl hb hr hA
    · rw [hfn', hvars]; rfl
    · exact hb.frame _
end

/-! ### append of one element onto a row of the call's own -/

/-- T is the type of slices whose elements are of type E: size cells each, bytes wide, z their zero -/
def Elem (P : Program) (T E : TypeId) (z : Value) (size bytes : Nat) : Prop :=
  P.underlying T = some (.slice E) ∧ ∃ i, P.info? E = some i ∧ i.zero = some z ∧ i.size = size ∧ i.bytes = bytes ∧ z.cells.size = size ∧ 0 < size
theorem Elem.mk {P : Program} {T E : TypeId} {z : Value} {size bytes : Nat} (h1 : P.underlying T = some (.slice E)) (h2 : (P.info? E).map (fun i => (i.zero, i.size, i.bytes)) = some (some z, size, bytes)) (h3 : z.cells.size = size) (h4 : 0 < size) : Elem P T E z size bytes := by
  obtain ⟨i, a, b, c, d⟩ := info_parts h2
  exact ⟨h1, i, a, b, c, d, h3, h4⟩

theorem cells_new (w : World) (cs : Array Value) (E : TypeId) : ∀ j u, cs.toList[j]? = some u → (w.alloc (.cells cs E)).cell? ((⟨w.heap.size, 0, none⟩ : Addr).add j) = some u := by
  intro j u hu
  rw [add_plain, cell_of_row _ w.heap.size (0 + j) cs E (0, 0) (heap_alloc_new w _), Nat.zero_add]
  simpa using hu

theorem append_elem {P : Program} {T E : TypeId} {z : Value} {size bytes : Nat} (he : Elem P T E z size bytes) {W w : World} {v : Value} {n : Nat} {xs : List Value}
    (own : w.ownsRow W.heap.size E size v n xs) (ext : Ext W w) (hn : n + 1 ≤ maxLen) (hb : (n + 1) * bytes ≤ 140737488355328)
    {cs : Array Value} (hcs : cs.size = size) (h1 : ∀ u ∈ cs.toList, u.oneCell' = true)
    {ops : Array Oper} {rest : List Oper} {o : Oper} {a : Act} {Q : Exit → Act → World → Prop} (hgd : o.guard = none) (s x : Operand)
    (ho : o.op = .call { callee := .builtin .append, args := #[s, x], argTypes := #[T, T] }) (hs : a.eval s = v) (hx : a.eval x = .slice (some ⟨w.heap.size, 0, none⟩) 1 1)
    (h : ∀ v' w', w'.ownsRow W.heap.size E size v' (n + 1) (xs ++ cs.toList) → Ext W w' → (w.alloc (.cells cs E)).grownBy w' v.ownBlock → wpList P ops Q rest (a.put o.dst v') w') : wpList P ops Q (o :: rest) a (w.alloc (.cells cs E)) := by
  obtain ⟨ht, i, hi, hz, hsz, hby, hzs, hpos⟩ := he
  refine wpList_append_own _ hgd s x T ho W.heap.size E i z size bytes ht hi hz hsz hby hzs hpos v n xs hs (own.alloc _) ⟨w.heap.size, 0, none⟩ 1 1 cs.toList hx (by simpa using hcs) (cells_new w cs E) h1 hn hb (by have := ext.size; simp; omega) ?_
  intro v' w' own' hg _
  exact h v' w' own' ((ext.alloc _).grown hg (fun k hk => (own.lt k hk).1)) hg

theorem own_form {w : World} {base : Nat} {e : TypeId} {size n : Nat} {v : Value} {xs : List Value} (h : w.ownsRow base e size v n xs) :
    ∃ a cap, v = .slice a n cap ∧ n ≤ cap ∧ cap ≤ maxLen ∧ Rd w a xs := by
  have h' := h
  obtain ⟨h1, h2⟩ := h
  rcases h2 with ⟨rfl, rfl⟩ | ⟨g, cap, cur, rfl, hg, hh, hnc, hcm, hcs, htake⟩
  · exact ⟨none, 0, rfl, Nat.le_refl _, by simp [maxLen], Rd.own h'⟩
  · exact ⟨_, cap, rfl, hnc, hcm, Rd.own h'⟩

/-! ### a block that is known whole -/

/-- block g is just the cells xs of element type E, none frozen -/
def Row (w : World) (g : Nat) (E : TypeId) (xs : List Value) : Prop := w.heap[g]? = some (.cells xs.toArray E (0, 0))
section
variable {w w' : World} {g : Nat} {E : TypeId} {xs : List Value}
theorem Row.lt (h : Row w g E xs) : g < w.heap.size := (Array.getElem?_eq_some_iff.1 h).1
theorem Row.new (w : World) (E : TypeId) (xs : List Value) : Row (w.alloc (.cells xs.toArray E)) w.heap.size E xs := heap_alloc_new w _
theorem Row.cell (h : Row w g E xs) {i : Nat} {u : Value} (hu : xs[i]? = some u) : w.cell? ⟨g, i, none⟩ = some u := by
  rw [cell_of_row w g i _ E (0, 0) h]; simpa using hu
theorem Row.frozen (h : Row w g E xs) (i : Nat) : w.frozen? ⟨g, i, none⟩ = false := by
  unfold Row at h; simp [World.frozen?, h]
theorem Row.set (h : Row w g E xs) (i : Nat) (u : Value) : Row (w.setCell ⟨g, i, none⟩ u) g E (xs.set i u) := by
  unfold Row at h ⊢
  simp [World.setCell, Array.getElem?_modify, h]
theorem Row.far (h : Row w g E xs) {p : Addr} (hp : g ≠ p.block) (u : Value) : Row (w.setCell p u) g E xs := (Below.heap_setCell w p u g hp).trans h
theorem Row.alloc (h : Row w g E xs) (o : Obj) : Row (w.alloc o) g E xs := (Below.heap_alloc w o g h.lt).trans h
theorem Row.drew (h : Row w g E xs) : Row w.drew g E xs := h
theorem Row.ext (h : Row w g E xs) (e : Ext w w') : Row w' g E xs := (e.block g h.lt).trans h
theorem Row.grown {row : Option Nat} (h : Row w g E xs) (hb : w.grownBy w' row) (hg : some g ≠ row) : Row w' g E xs := (hb.block g h.lt hg).trans h
theorem Row.rd (h : Row w g E xs) : Rd w (some ⟨g, 0, none⟩) xs :=
  .inr ⟨g, 0, rfl, fun j u hu => by rw [Nat.zero_add]; exact h.cell hu⟩
theorem Row.own (h : Row w g E xs) {base : Nat} (hb : base ≤ g) (hm : xs.length ≤ maxLen) : w.ownsRow base E 1 (.slice (some ⟨g, 0, none⟩) xs.length xs.length) xs.length xs :=
  ⟨by simp, .inr ⟨g, xs.length, xs.toArray, rfl, hb, h, Nat.le_refl _, hm, by simp, by simp⟩⟩
end

/-- make([]T, n), elements of one cell: the world written out -/
theorem make_one {P : Program} {T E : TypeId} {z : Value} {bytes : Nat} (he : Elem P T E z 1 bytes) (hz1 : z.cells = #[z]) {w : World} {n : Nat}
    {ops : Array Oper} {rest : List Oper} {o : Oper} {a : Act} {Q : Exit → Act → World → Prop} (hg : o.guard = none) (l c : Operand) (hop : o.op = Op.makeSlice T l c)
    {kl kc : IntKind} {L C : Int} (hl : a.eval l = .int kl L) (hc : a.eval c = .int kc C) (hL : L = (n : Int)) (hC : C = (n : Int)) (hb : bytes * n ≤ 281474976710656) (hm : n ≤ maxLen)
    (h : ∀ w1, Row w1 w.heap.size E (List.replicate n z) → Ext w w1 → wpList P ops Q rest (a.put o.dst (.slice (some ⟨w.heap.size, 0, none⟩) n n)) w1) : wpList P ops Q (o :: rest) a w := by
  obtain ⟨ht, i, hi, hz, hsz, hby, _, _⟩ := he
  refine wpList_plain hg fun K hK => ?_
  have h63 : (n : Int) ≤ 9223372036854775807 := by have := hm; simp [maxLen] at this; omega
  have hb' : (i.bytes : Int) * (n : Int) ≤ 281474976710656 := by
    have h : ((i.bytes * n : Nat) : Int) ≤ 281474976710656 := by rw [hby]; omega
    rwa [Int.natCast_mul] at h
  have hr := run_make (P := P) w T E i z ht hi hz kl kc n n (by omega) (by omega) hb' h63
  simp only [Int.toNat_natCast, hsz, Nat.mul_one] at hr
  have hmc : madeCells z.cells n = (List.replicate n z).toArray := by
    rw [hz1]; apply Array.toList_inj.1; rw [toList_madeCells_one]
  rw [hmc] at hr
  subst hL hC
  unfold Oper.wp
  have h' := h _ (Row.new w E _) (Ext.new w _)
  simp [execOp, hop, hl, hc, hr, Result.andThen]
  exact hK _ _ (by simpa using h')

/-! ### append of a row that is read (nil, empty or not) onto a row of the call's own -/

theorem run_append_noth {P : Program} (w : World) (base : Nat) (t ty e : TypeId) (i : TypeInfo) (size : Nat) (ht : P.underlying t = some (.slice e)) (hi : P.info? e = some i)
    (v : Value) (n : Nat) (xs : List Value) (own : w.ownsRow base e size v n xs) (c : Nat) : (Builtin.append_ #[t, t] ty #[v, .slice none 0 c]).run P w = .ok v w := by
  rcases own.2 with ⟨rfl, rfl⟩ | ⟨g, cap, cur, rfl, _, _, hnc, _⟩
  · simp [Builtin.append_, run_underlying ht, sizeOf, typeInfo, hi, Builtin.lenOf, Builtin.firstCells]
  · simp [Builtin.append_, run_underlying ht, sizeOf, typeInfo, hi, Builtin.lenOf, Builtin.firstCells, hnc, storeCells]

theorem append_row {P : Program} {T E : TypeId} {z : Value} {size bytes : Nat} (he : Elem P T E z size bytes) {W w : World} {v : Value} {n : Nat} {xs : List Value}
    (own : w.ownsRow W.heap.size E size v n xs) (ext : Ext W w) {A : Option Addr} {m c : Nat} {ys : List Value} (hl : ys.length = m * size) (hr : Rd w A ys)
    (hn : n + m ≤ maxLen) (hb : (n + m) * bytes ≤ 140737488355328) (h1 : ∀ u ∈ ys, u.oneCell' = true)
    {ops : Array Oper} {rest : List Oper} {o : Oper} {a : Act} {Q : Exit → Act → World → Prop} (hgd : o.guard = none) (s x : Operand)
    (ho : o.op = .call { callee := .builtin .append, args := #[s, x], argTypes := #[T, T] }) (hs : a.eval s = v) (hx : a.eval x = .slice A m c)
    (h : ∀ v' w', w'.ownsRow W.heap.size E size v' (n + m) (xs ++ ys) → Ext W w' → w.grownBy w' v.ownBlock → wpList P ops Q rest (a.put o.dst v') w') : wpList P ops Q (o :: rest) a w := by
  obtain ⟨ht, i, hi, hz, hsz, hby, hzs, hpos⟩ := he
  have hcells : ∀ ad, A = some ad → ∀ j u, ys[j]? = some u → w.cell? (ad.add j) = some u := by
    intro ad hA j u hu
    obtain ⟨b, off, e, hc⟩ := hr.get hu
    rw [hA] at e
    injection e with e
    subst e
    rw [add_plain]; exact hc
  rcases A with _ | ad
  · have hy : ys = [] := by
      rcases hr with h0 | ⟨b, off, e, _⟩
      · exact h0
      · cases e
    subst hy
    have hm : m = 0 := by
      rcases Nat.eq_zero_or_pos m with h0 | h0
      · exact h0
      · have := Nat.mul_pos h0 hpos; simp at hl; omega
    subst hm
    refine wpList_plain hgd fun K hK => ?_
    have hrun := run_append_noth (P := P) w W.heap.size T o.type E i size ht hi v n xs own c
    unfold Oper.wp
    simp [execOp, ho, resolve, invoke, builtin, hs, hx, hrun, Result.andThen]
    exact hK _ _ (h v w (by simpa using own) ext (World.grownBy.refl w _))
  · refine wpList_append_own _ hgd s x T ho W.heap.size E i z size bytes ht hi hz hsz hby hzs hpos v n xs hs own ad m c ys hx hl (hcells ad rfl) h1 hn hb ext.size ?_
    intro v' w' own' hg _
    exact h v' w' own' (ext.grown hg (fun k hk => (own.lt k hk).1)) hg

/-- a slice value that lies in a block from base on, or is nil -/
def From (base : Nat) (a : Option Addr) : Prop := ∀ ad, a = some ad → base ≤ ad.block
theorem From.none (base : Nat) : From base .none := fun _ h => by cases h
theorem From.mono {b c : Nat} {a : Option Addr} (h : From b a) (hc : c ≤ b) : From c a := fun ad e => Nat.le_trans hc (h ad e)
theorem own_from {w : World} {base : Nat} {e : TypeId} {size n c : Nat} {a : Option Addr} {xs : List Value} (h : w.ownsRow base e size (.slice a n c) n xs) : From base a := by
  intro ad ha
  subst ha
  exact (h.lt ad.block rfl).1
/-- the result is a slice of n elements with the cells xs, in new memory; nothing that there was has turned -/
def GotC (W : World) (n : Nat) (xs : List Value) (e : Ending) (w' : World) : Prop :=
  ∃ a cap, e = .returned (.slice a n cap) ∧ n ≤ cap ∧ cap ≤ maxLen ∧ Rd w' a xs ∧ Ext W w' ∧ From W.heap.size a
end Go.Proofs.Ytogodjiemgilaaa
