/- Part of the proof that a law returns true for all that comes in, and that what came in reads as it did. No condition. -/
import Derived.WalkKit
import Derived.WalkSpells
import Derived.WalkLawsBesides
import Derived.ProofKit
import Derived.OpenShut
import Derived.Lib.Hide
import Derived.Orders
import Derived.Deep.LoopGhost
/- Words of my own for memory that is read, for arguments of any type, and the frame that all laws share. No program stands in this text. -/
namespace Go.Proofs.Ytapmngmpomhjmaa
open Go.ChangeShapes Go.WideShapes Go.ChangeAt Go.RowKit

/-! ### Worlds that have grown: nothing that there was has turned -/

/-- what there was in w is in w' as it was -/
abbrev Ext (w w' : World) : Prop := Below w.heap.size w w'

theorem Ext.refl (w : World) : Ext w w := Below.refl _ _
theorem Ext.trans {a b c : World} (h : Ext a b) (k : Ext b c) : Ext a c := Below.trans h (k.mono h.size)
theorem Ext.alloc {a b : World} (h : Ext a b) (o : Obj) : Ext a (b.alloc o) := Below.alloc h h.size o
theorem Ext.new (w : World) (o : Obj) : Ext w (w.alloc o) := (Ext.refl w).alloc o
theorem Ext.drew {a b : World} (h : Ext a b) : Ext a b.drew := Below.drew h
theorem Ext.set {a b : World} (h : Ext a b) {p : Addr} (hp : a.heap.size ≤ p.block) (u : Value) : Ext a (b.setCell p u) := Below.setCell h hp u
theorem Ext.grown {a b c : World} {row : Option Nat} (h : Ext a b) (hg : b.grownBy c row) (hr : ∀ k, row = some k → a.heap.size ≤ k) : Ext a c := Below.grown h hg h.size hr
theorem Ext.cell {a b : World} (h : Ext a b) {p : Addr} {v : Value} (hc : a.cell? p = some v) : b.cell? p = some v :=
  (Below.cell h (World.block_lt_of_cell? a p hc)).trans hc
/-! ### A row of cells that is read -/

/-- from the address a on lie the cells xs -/
def Rd (w : World) (a : Option Addr) (xs : List Value) : Prop :=
  xs = [] ∨ ∃ b off, a = some ⟨b, off, none⟩ ∧ ∀ j u, xs[j]? = some u → w.cell? ⟨b, off + j, none⟩ = some u

theorem Rd.nil (w : World) (a : Option Addr) : Rd w a [] := .inl rfl
theorem Rd.get {w : World} {a : Option Addr} {xs : List Value} (h : Rd w a xs) {j : Nat} {u : Value} (hu : xs[j]? = some u) :
    ∃ b off, a = some ⟨b, off, none⟩ ∧ w.cell? ⟨b, off + j, none⟩ = some u := by
  rcases h with rfl | ⟨b, off, e, hc⟩
  · simp at hu
  · exact ⟨b, off, e, hc j u hu⟩
theorem Rd.all {w : World} {a : Option Addr} {xs : List Value} (h : Rd w a xs) (hn : 0 < xs.length) :
    ∃ b off, a = some ⟨b, off, none⟩ ∧ b < w.heap.size ∧ ∀ j u, xs[j]? = some u → w.cell? ⟨b, off + j, none⟩ = some u := by
  rcases h with rfl | ⟨b, off, e, hc⟩
  · simp at hn
  · exact ⟨b, off, e, World.block_lt_of_cell? w ⟨b, off + 0, none⟩ (hc 0 _ (List.getElem?_eq_getElem hn)), hc⟩
theorem Rd.ext {w w' : World} {a : Option Addr} {xs : List Value} (h : Rd w a xs) (e : Ext w w') : Rd w' a xs := by
  rcases h with rfl | ⟨b, off, ea, hc⟩
  · exact .inl rfl
  · exact .inr ⟨b, off, ea, fun j u hu => e.cell (hc j u hu)⟩
theorem Rd.alloc {w : World} {a : Option Addr} {xs : List Value} (h : Rd w a xs) (o : Obj) : Rd (w.alloc o) a xs := h.ext (Ext.new w o)
theorem Rd.drew {w : World} {a : Option Addr} {xs : List Value} (h : Rd w a xs) : Rd w.drew a xs := h
/-- a row that ends in another world with the same cells -/
theorem Rd.keep {w w' : World} {a : Option Addr} {xs : List Value} (h : Rd w a xs) (k : ∀ b off, a = some ⟨b, off, none⟩ → b < w.heap.size → w'.heap[b]? = w.heap[b]?) : Rd w' a xs := by
  rcases h with rfl | ⟨b, off, ea, hc⟩
  · exact .inl rfl
  · refine .inr ⟨b, off, ea, fun j u hu => ?_⟩
    have hx := hc j u hu
    have hb := World.block_lt_of_cell? w _ hx
    rw [World.cell?_of_block (w := w) (k b off ea hb)]; exact hx
theorem Rd.take {w : World} {a : Option Addr} {xs : List Value} (h : Rd w a xs) (n : Nat) : Rd w a (xs.take n) := by
  rcases h with rfl | ⟨b, off, ea, hc⟩
  · simp [Rd]
  · refine .inr ⟨b, off, ea, fun j u hu => hc j u ?_⟩
    rw [List.getElem?_take] at hu
    split at hu
    · exact hu
    · cases hu
theorem Rd.drop {w : World} {b off : Nat} {xs : List Value} (h : Rd w (some ⟨b, off, none⟩) xs) (n : Nat) : Rd w (some ⟨b, off + n, none⟩) (xs.drop n) := by
  rcases h with rfl | ⟨b', off', ea, hc⟩
  · simp [Rd]
  · injection ea with ea
    injection ea with e1 e2
    subst e1 e2
    refine .inr ⟨b, off + n, rfl, fun j u hu => ?_⟩
    rw [List.getElem?_drop] at hu
    rw [Nat.add_assoc]
    exact hc _ _ hu

theorem Rd.own {w : World} {base : Nat} {e : TypeId} {size n : Nat} {a : Option Addr} {c : Nat} {xs : List Value} (h : w.ownsRow base e size (.slice a n c) n xs) : Rd w a xs := by
  obtain ⟨h1, h2⟩ := h
  rcases h2 with ⟨hv, hn⟩ | ⟨g, cap, cur, hv, hg, hh, hnc, hcm, hcs, htake⟩
  · subst hn; left; exact List.eq_nil_of_length_eq_zero (by simpa using h1)
  · injection hv with hv
    subst hv
    refine .inr ⟨g, 0, rfl, fun j u hu => ?_⟩
    rw [cell_of_row w g (0 + j) cur e (0, 0) hh, Nat.zero_add]
    rw [← htake, List.getElem?_take] at hu
    split at hu
    · simpa using hu
    · cases hu

/-! ### What an argument of some type is: typed values -/

/-- cs are the cells of a value of type t; what it leads to lies in w -/
def Typed (P : Program) (w : World) : Nat → TypeId → List Value → Prop
  | 0, _, _ => False
  | n + 1, t, cs => match P.underlying t with
    | some .bool => ∃ b, cs = [.bool b]
    | some (.int k) => ∃ x, cs = [.int k x] ∧ (Lit.int k x).wf = true
    | some (.float k) => ∃ x, cs = [.float k x] ∧ (Lit.float k x).wf = true
    | some .string => ∃ s : ByteArray, cs = [.string s] ∧ s.size ≤ maxLen
    | some (.slice e) => ∃ a cap, ∃ xs : List (List Value), cs = [.slice a xs.length cap] ∧ xs.length ≤ cap ∧ cap ≤ maxLen ∧ (∀ x ∈ xs, x.length = P.cellsOf e ∧ Typed P w n e x) ∧ Rd w a xs.flatten
    | some (.struct fs) => cs.length = P.cellsOf t ∧ ∀ f ∈ fs.toList, Typed P w n f.type ((cs.drop f.offset).take (P.cellsOf f.type))
    | _ => True

section
variable {H : Type} {enc : TypeId × Value → H} {P : Program} {w : World} {base : Nat} {spare : Nat → Bool} {held : Bool}

theorem flatten_get {s : Nat} {xs : List (List Value)} (h : ∀ x ∈ xs, x.length = s) : ∀ {j : Nat} {u : Value}, xs.flatten[j]? = some u → ∃ x, xs[j / s]? = some x ∧ x[j % s]? = some u := by
  induction xs with
  | nil => intro j u hu; simp at hu
  | cons y ys ih =>
    intro j u hu
    have hy := h y (by simp)
    rw [List.flatten_cons] at hu
    by_cases hj : j < s
    · rw [List.getElem?_append_left (by omega)] at hu
      exact ⟨y, by rw [Nat.div_eq_of_lt hj]; rfl, by rw [Nat.mod_eq_of_lt hj]; exact hu⟩
    · rw [List.getElem?_append_right (by omega), hy] at hu
      obtain ⟨x, hx, hu⟩ := ih (fun x hx => h x (by simp [hx])) hu
      have hs : 0 < s := by
        rcases Nat.eq_zero_or_pos s with h0 | h0
        · subst h0
          have := (List.getElem?_eq_some_iff.1 hu).1
          have hx' := h x (by have := List.mem_of_getElem? hx; simp [this])
          omega
        · exact h0
      refine ⟨x, ?_, ?_⟩
      · rw [Nat.div_eq_sub_div hs (by omega)]; simpa using hx
      · rw [Nat.mod_eq_sub_mod (by omega)]; exact hu

theorem add_add (a : Addr) (i j : Nat) : (a.add i).add j = a.add (i + j) := by
  unfold Addr.add
  by_cases hi : i = 0 <;> by_cases hj : j = 0 <;> simp [hi, hj, Nat.add_assoc]
theorem add_plain (b off i : Nat) : (⟨b, off, none⟩ : Addr).add i = ⟨b, off + i, none⟩ := by
  unfold Addr.add
  by_cases hi : i = 0 <;> simp [hi]

theorem typed_of_trod : ∀ (fuel : Nat) (t : TypeId) (cs : List Value) (x : DataW H × List MemPlace), DataW.trod enc P w base spare held fuel t cs = some x → Typed P w fuel t cs := by
  intro fuel
  induction fuel with
  | zero => intro t cs x h; simp [DataW.trod] at h
  | succ n ih =>
    intro t cs x h
    unfold Typed
    cases hu : P.underlying t with
    | none => trivial
    | some d =>
      cases d <;> simp only [] <;> try trivial
      case bool => obtain ⟨b, h1, _⟩ := DataW.trod_bool hu h; exact ⟨b, h1⟩
      case int k => obtain ⟨b, h1, _, h2⟩ := DataW.trod_int hu h; exact ⟨b, h1, h2⟩
      case float k =>
        unfold DataW.trod at h
        rw [hu] at h
        split at h <;> simp_all
      case string => obtain ⟨b, h1, _, h2⟩ := DataW.trod_string hu h; exact ⟨b, h1, h2⟩
      case slice e =>
        rcases DataW.trod_slice hu h with ⟨rfl, _⟩ | ⟨a, len, cap, elems, rest, m, hm, rfl, _, _, hl, hc, hel, he, _⟩
        · exact ⟨none, 0, [], rfl, Nat.le_refl _, by simp [maxLen], by simp, Rd.nil _ _⟩
        · obtain rfl : n = m := by omega
          have hcs : ∀ i, i < len → ∃ c, w.cells? base (a.add (i * P.cellsOf e)) (P.cellsOf e) = some c ∧ Typed P w n e c := by
            intro i hi
            have h1 := he i hi
            rw [List.getElem?_eq_getElem (by omega), Option.bind_eq_some_iff] at h1
            obtain ⟨c, h2, h3⟩ := h1
            exact ⟨c, h2, ih e c _ h3⟩
          let pick : Nat → List Value := fun i => (w.cells? base (a.add (i * P.cellsOf e)) (P.cellsOf e)).getD []
          have hp : ∀ i, i < len → w.cells? base (a.add (i * P.cellsOf e)) (P.cellsOf e) = some (pick i) ∧ Typed P w n e (pick i) := by
            intro i hi
            obtain ⟨c, h2, h3⟩ := hcs i hi
            have : pick i = c := by show (w.cells? base _ _).getD [] = c; rw [h2]; rfl
            rw [this]; exact ⟨h2, h3⟩
          refine ⟨some a, cap, (List.range len).map pick, by simp, by simpa using hl, hc, ?_, ?_⟩
          · intro y hy
            simp only [List.mem_map, List.mem_range] at hy
            obtain ⟨i, hi, rfl⟩ := hy
            obtain ⟨h2, h3⟩ := hp i hi
            exact ⟨(World.cells?_some h2).2.1, h3⟩
          · have hlen : ∀ y ∈ (List.range len).map pick, y.length = P.cellsOf e := by
              intro y hy
              simp only [List.mem_map, List.mem_range] at hy
              obtain ⟨i, hi, rfl⟩ := hy
              exact (World.cells?_some (hp i hi).1).2.1
            have hget : ∀ j u, ((List.range len).map pick).flatten[j]? = some u → w.cell? (a.add j) = some u := by
              intro j u hu
              obtain ⟨y, hy, hu⟩ := flatten_get hlen hu
              rw [List.getElem?_map, Option.map_eq_some_iff] at hy
              obtain ⟨i, hi, rfl⟩ := hy
              obtain ⟨hi1, hi2⟩ := List.getElem?_eq_some_iff.1 hi
              simp only [List.length_range] at hi1
              simp only [List.getElem_range] at hi2
              subst hi2
              obtain ⟨_, hsz, hcell⟩ := World.cells?_some (hp _ hi1).1
              have hlt := (List.getElem?_eq_some_iff.1 hu).1
              have h4 := hcell (j % P.cellsOf e) (by omega)
              rw [add_add, hu] at h4
              have hj : j / P.cellsOf e * P.cellsOf e + j % P.cellsOf e = j := by rw [Nat.mul_comm]; exact Nat.div_add_mod j _
              rw [hj] at h4
              exact h4
            rcases hz : ((List.range len).map pick).flatten with _ | ⟨z, zs⟩
            · exact .inl rfl
            · right
              have h0 := hget 0 z (by rw [hz]; rfl)
              have hspot : a.spot = none := by
                cases hs : a.spot with
                | none => rfl
                | some _ =>
                  unfold World.cell? at h0
                  rw [show a.add 0 = a from rfl] at h0
                  rw [hs] at h0
                  split at h0 <;> simp at h0
              obtain ⟨b, off, sp⟩ := a
              simp only at hspot
              subst hspot
              refine ⟨b, off, rfl, fun j u hu => ?_⟩
              rw [← hz] at hu
              rw [← add_plain]
              exact hget j u hu
      case struct fs =>
        obtain ⟨xs, m, hm, _, hlen, hsz, hf⟩ := DataW.trod_struct hu h
        obtain rfl : n = m := by omega
        refine ⟨hlen, fun f hmem => ?_⟩
        obtain ⟨i, hi, rfl⟩ := List.mem_iff_getElem.1 hmem
        have h1 := hf i fs[i] (Array.getElem?_eq_getElem (by simpa using hi))
        rw [List.getElem?_eq_getElem (by rw [hsz]; simpa using hi)] at h1
        exact ih _ _ _ h1
end

/-- v is a value of type t that came in, as w has it -/
def Arg (P : Program) (w : World) (t : TypeId) (v : Value) : Prop :=
  ∃ n cs, Typed P w n t cs ∧ v = (match P.underlying t with | some (.struct _) => .agg cs.toArray | _ => cs.headD undef)

/-- the types that are served -/
def Served (P : Program) (t : TypeId) : Prop :=
  match P.underlying t with
  | some .bool | some (.int _) | some (.float _) | some .string | some (.slice _) | some (.struct _) => True
  | _ => False

section
variable {H : Type} {enc : TypeId × Value → H} {P : Program} {w : World} {base : Nat} {spare : Nat → Bool} {held : Bool}

theorem arg_of {t : TypeId} {v : Value} {d : DataW H} {ps : List MemPlace} {r : Reach} {b0 : Nat} (hs : Served P t) (hok : Value.okWide P w r b0 t v) (h : DataW.Trod enc P w base spare held t v d ps) : Arg P w t v := by
  obtain ⟨n, hn⟩ := h
  refine ⟨n, v.cells.toList, typed_of_trod n t _ _ hn, ?_⟩
  unfold Served at hs
  cases hu : P.underlying t with
  | none => rw [hu] at hs; exact hs.elim
  | some u =>
    rw [hu] at hs
    cases u <;> simp only at hs ⊢
    case bool => obtain ⟨b, rfl⟩ := okWide_bool hu hok; rfl
    case int k => obtain ⟨b, rfl⟩ := okWide_int hu hok; rfl
    case float k => obtain ⟨b, rfl⟩ := okWide_float hu hok; rfl
    case string => obtain ⟨b, rfl⟩ := okWide_string hu hok; rfl
    case slice e => obtain ⟨a, l, c, rfl⟩ := okWide_slice hu hok; rfl
    case struct fs => obtain ⟨cs, rfl, _⟩ := okWide_struct hu hok; simp [Value.cells]

theorem below_trodAll {W W' : World} (hl : laidOutB P = true) (hb : Below W.heap.size W W') : ∀ {ts : List TypeId} {vs : List Value} {ds : List (DataW H)} {p : List MemPlace},
    (∀ t ∈ ts, P.readableRec t = true ∧ t < P.types.size) → DataW.TrodAll enc P W 0 (fun _ => true) true ts vs ds p → DataW.TrodAll enc P W' 0 (fun b => decide (b < W.heap.size)) true ts vs ds p
  | [], _, _, _, _, h => by
    obtain ⟨rfl, rfl, rfl⟩ := trodAll_nil h
    rfl
  | t :: ts, _, _, _, hr, h => by
    obtain ⟨v, vs1, d, ds1, a, b, rfl, rfl, rfl, h1, h2⟩ := trodAll_cons h
    have hlt : ∀ x ∈ a, x.block < W.heap.size := by obtain ⟨m, hm⟩ := h1; exact DataW.trod_lt m _ _ _ hm
    exact ⟨a, b, Below.trod hl (hr t (by simp)).1 (hr t (by simp)).2 h1 hb hlt, below_trodAll hl hb (fun u hu => hr u (by simp [hu])) h2, rfl⟩

theorem trodAll_len : ∀ {ts : List TypeId} {vs : List Value} {ds : List (DataW H)} {p : List MemPlace}, DataW.TrodAll enc P w base spare held ts vs ds p → vs.length = ts.length ∧ ds.length = ts.length
  | [], _, _, _, h => by obtain ⟨rfl, rfl, rfl⟩ := trodAll_nil h; exact ⟨rfl, rfl⟩
  | t :: ts, _, _, _, h => by
    obtain ⟨v, vs1, d, ds1, a, b, rfl, rfl, rfl, h1, h2⟩ := trodAll_cons h
    obtain ⟨e1, e2⟩ := trodAll_len h2
    simp [e1, e2]

theorem trodAll_at : ∀ {ts : List TypeId} {vs : List Value} {ds : List (DataW H)} {p : List MemPlace}, DataW.TrodAll enc P w base spare held ts vs ds p → ∀ (j : Nat) (t : TypeId) (v : Value), ts[j]? = some t → vs[j]? = some v → ∃ d q, DataW.Trod enc P w base spare held t v d q
  | [], _, _, _, _, j, t, v, ht, _ => by simp at ht
  | t :: ts, _, _, _, h, j, t', v', ht, hv => by
    obtain ⟨v, vs1, d, ds1, a, b, rfl, rfl, rfl, h1, h2⟩ := trodAll_cons h
    cases j with
    | zero => simp at ht hv; subst ht hv; exact ⟨_, _, h1⟩
    | succ j => simp at ht hv; exact trodAll_at h2 j t' v' ht hv

theorem Typed.int {k : IntKind} {n : Nat} {t : TypeId} {cs : List Value} (ht : P.underlying t = some (.int k)) (h : Typed P w n t cs) : ∃ x, cs = [.int k x] ∧ (Lit.int k x).wf = true := by
  cases n with
  | zero => exact h.elim
  | succ n => unfold Typed at h; rw [ht] at h; exact h
theorem Typed.bool {n : Nat} {t : TypeId} {cs : List Value} (ht : P.underlying t = some .bool) (h : Typed P w n t cs) : ∃ b, cs = [.bool b] := by
  cases n with
  | zero => exact h.elim
  | succ n => unfold Typed at h; rw [ht] at h; exact h
theorem Typed.float {k : FloatKind} {n : Nat} {t : TypeId} {cs : List Value} (ht : P.underlying t = some (.float k)) (h : Typed P w n t cs) : ∃ x, cs = [.float k x] ∧ (Lit.float k x).wf = true := by
  cases n with
  | zero => exact h.elim
  | succ n => unfold Typed at h; rw [ht] at h; exact h
theorem Typed.string {n : Nat} {t : TypeId} {cs : List Value} (ht : P.underlying t = some .string) (h : Typed P w n t cs) : ∃ s : ByteArray, cs = [.string s] ∧ s.size ≤ maxLen := by
  cases n with
  | zero => exact h.elim
  | succ n => unfold Typed at h; rw [ht] at h; exact h
theorem Typed.slice {e : TypeId} {n : Nat} {t : TypeId} {cs : List Value} (ht : P.underlying t = some (.slice e)) (h : Typed P w n t cs) :
    ∃ a cap, ∃ xs : List (List Value), ∃ m, cs = [.slice a xs.length cap] ∧ xs.length ≤ cap ∧ cap ≤ maxLen ∧ (∀ x ∈ xs, x.length = P.cellsOf e ∧ Typed P w m e x) ∧ Rd w a xs.flatten := by
  cases n with
  | zero => exact h.elim
  | succ n =>
    unfold Typed at h; rw [ht] at h
    obtain ⟨a, cap, xs, h1, h2, h3, h4, h5⟩ := h
    exact ⟨a, cap, xs, n, h1, h2, h3, h4, h5⟩
theorem Typed.struct {fs : Array Field} {n : Nat} {t : TypeId} {cs : List Value} (ht : P.underlying t = some (.struct fs)) (h : Typed P w n t cs) :
    ∃ m, cs.length = P.cellsOf t ∧ ∀ f ∈ fs.toList, Typed P w m f.type ((cs.drop f.offset).take (P.cellsOf f.type)) := by
  cases n with
  | zero => exact h.elim
  | succ n => unfold Typed at h; rw [ht] at h; exact ⟨n, h⟩

theorem Arg.int {k : IntKind} {t : TypeId} {v : Value} (ht : P.underlying t = some (.int k)) (h : Arg P w t v) : ∃ x, v = .int k x ∧ (Lit.int k x).wf = true := by
  obtain ⟨n, cs, h1, rfl⟩ := h
  obtain ⟨x, rfl, hx⟩ := h1.int ht
  exact ⟨x, by rw [ht]; rfl, hx⟩
theorem Arg.string {t : TypeId} {v : Value} (ht : P.underlying t = some .string) (h : Arg P w t v) : ∃ x : ByteArray, v = .string x ∧ x.size ≤ maxLen := by
  obtain ⟨n, cs, h1, rfl⟩ := h
  obtain ⟨x, rfl, hx⟩ := h1.string ht
  exact ⟨x, by rw [ht]; rfl, hx⟩
theorem Arg.slice {e : TypeId} {t : TypeId} {v : Value} (ht : P.underlying t = some (.slice e)) (h : Arg P w t v) :
    ∃ a cap, ∃ xs : List (List Value), ∃ m, v = .slice a xs.length cap ∧ xs.length ≤ cap ∧ cap ≤ maxLen ∧ (∀ x ∈ xs, x.length = P.cellsOf e ∧ Typed P w m e x) ∧ Rd w a xs.flatten := by
  obtain ⟨n, cs, h1, rfl⟩ := h
  obtain ⟨a, cap, xs, m, rfl, h2⟩ := h1.slice ht
  exact ⟨a, cap, xs, m, by rw [ht]; rfl, h2⟩
theorem Arg.struct {fs : Array Field} {t : TypeId} {v : Value} (ht : P.underlying t = some (.struct fs)) (h : Arg P w t v) :
    ∃ (cs : List Value) (m : Nat), v = .agg cs.toArray ∧ cs.length = P.cellsOf t ∧ ∀ f ∈ fs.toList, Typed P w m f.type ((cs.drop f.offset).take (P.cellsOf f.type)) := by
  obtain ⟨n, cs, h1, rfl⟩ := h
  obtain ⟨m, h2, h3⟩ := h1.struct ht
  exact ⟨cs, m, by rw [ht], h2, h3⟩

/-- THE FRAME OF ALL LAWS: the walk that ends in true and turns nothing that there was. -/
theorem law_lifted {C : Checked} {f : FuncId} {fn : Func} {s : ChangeSpec} {os : Os} (T : TypeId)
    (own : ownKnob C.prog.godebug = none) (started : os.Started) (hinit : C.prog.inits.idxOf? f = none) (hfn : C.prog.funcs[f]? = some fn) (hl : laidOutB C.prog = true)
    (hr : ∀ t ∈ fn.params.toList, C.prog.readableRec t = true ∧ t < C.prog.types.size) (hsv : ∀ t ∈ fn.params.toList, Served C.prog t)
    (hres : fn.resultTypes = #[T]) (hT : C.prog.underlying T = some .bool) (hvars : s.vars = [])
    (hs : ∀ ds : List (DataW H), ds.length = fn.params.size → s.fn H ds = { results := [.lit (.bool true)], args := ds })
    (witness : ∃ (w : World) (tape : Tape) (i : Input), w.os = os ∧ (w.forCall tape i).Shaped C.prog ∧ i.vars = [] ∧ Input.okWide C.prog (w.forCall tape i) .any w.heap.size f i ∧
      s.pre6 enc C.prog fn [] false (w.forCall tape i).memory i.args ∧ ({} : Assume).holds C.prog (lone (Frame.enter C.prog f i.args .normal) [] (w.forCall tape i)))
    (walk : ∀ (W : World) (args : Array Value), args.size = fn.params.size → (∀ (j : Nat) (t : TypeId) (v : Value), fn.params[j]? = some t → args[j]? = some v → Arg C.prog W t v) →
      Calls C.prog f args W fun e W' => e = .returned (.bool true) ∧ Ext W W') :
    ReturnsInHanded {} C os f .any (s.pre6 enc C.prog fn [] false) (s.post enc C.prog fn false true false false) := by
  refine returnsInHanded_of_change (C := C) own started hinit hfn witness ?_
  intro W b0 args ds gs before hval hW _ _
  have hW' := hW
  obtain ⟨p, q, hA, hV, rfl, _, _⟩ := hW
  rw [hvars] at hV
  obtain ⟨rfl, rfl⟩ := trodVars_none hV
  obtain ⟨e1, e2⟩ := trodAll_len hA
  have hsz : args.size = fn.params.size := by simpa using e1
  refine (walk W args hsz fun j t v ht hv => ?_).mono fun e W' ⟨he, hb⟩ => ?_
  · obtain ⟨d, q, hd⟩ := trodAll_at hA j t v (by simpa using ht) (by simpa using hv)
    exact arg_of (hsv t (by have := Array.mem_of_getElem? ht; simpa using this)) (hval j t v ht hv) hd
  · subst he
    have hfn' : s.fn H (ds ++ []) = { results := [.lit (.bool true)], args := ds } := by rw [List.append_nil]; exact hs ds (by simpa using e2)
    refine ⟨_, rfl, ds, [], _, [], p, [], hW', ?_, ?_, ?_, ?_, fun h => by cases h⟩
    · rw [hfn', hres]
      exact trodAll_mk1 (shut_bool hT true)
    · rw [hfn']
      exact below_trodAll hl hb hr hA
    · rw [hfn', hvars]; rfl
    · exact hb.frame _
end

/-! ### append of one element onto a row of the call's own -/

/-- T is the type of slices whose elements are of type E: size cells each, bytes wide, z their zero -/
def Elem (P : Program) (T E : TypeId) (z : Value) (size bytes : Nat) : Prop :=
  P.underlying T = some (.slice E) ∧ ∃ i, P.info? E = some i ∧ i.zero = some z ∧ i.size = size ∧ i.bytes = bytes ∧ z.cells.size = size ∧ 0 < size
theorem Elem.mk {P : Program} {T E : TypeId} {z : Value} {size bytes : Nat} (h1 : P.underlying T = some (.slice E)) (h2 : (P.info? E).map (fun i => (i.zero, i.size, i.bytes)) = some (some z, size, bytes)) (h3 : z.cells.size = size) (h4 : 0 < size) : Elem P T E z size bytes := by
  obtain ⟨i, a, b, c, d⟩ := info_parts h2
  exact ⟨h1, i, a, b, c, d, h3, h4⟩

/-! ### a block that is known whole -/

/-- block g is just the cells xs of element type E, none frozen -/
def Row (w : World) (g : Nat) (E : TypeId) (xs : List Value) : Prop := w.heap[g]? = some (.cells xs.toArray E (0, 0))
section
variable {w w' : World} {g : Nat} {E : TypeId} {xs : List Value}
theorem Row.lt (h : Row w g E xs) : g < w.heap.size := (Array.getElem?_eq_some_iff.1 h).1
theorem Row.new (w : World) (E : TypeId) (xs : List Value) : Row (w.alloc (.cells xs.toArray E)) w.heap.size E xs := heap_alloc_new w _
theorem Row.cell (h : Row w g E xs) {i : Nat} {u : Value} (hu : xs[i]? = some u) : w.cell? ⟨g, i, none⟩ = some u := by
  rw [cell_of_row w g i _ E (0, 0) h]; simpa using hu
theorem Row.frozen (h : Row w g E xs) (i : Nat) : w.frozen? ⟨g, i, none⟩ = false := by
  unfold Row at h; simp [World.frozen?, h]
theorem Row.set (h : Row w g E xs) (i : Nat) (u : Value) : Row (w.setCell ⟨g, i, none⟩ u) g E (xs.set i u) := by
  unfold Row at h ⊢
  simp [World.setCell, Array.getElem?_modify, h]
theorem Row.far (h : Row w g E xs) {p : Addr} (hp : g ≠ p.block) (u : Value) : Row (w.setCell p u) g E xs := (Below.heap_setCell w p u g hp).trans h
theorem Row.alloc (h : Row w g E xs) (o : Obj) : Row (w.alloc o) g E xs := (Below.heap_alloc w o g h.lt).trans h
theorem Row.drew (h : Row w g E xs) : Row w.drew g E xs := h
theorem Row.ext (h : Row w g E xs) (e : Ext w w') : Row w' g E xs := (e.block g h.lt).trans h
theorem Row.grown {row : Option Nat} (h : Row w g E xs) (hb : w.grownBy w' row) (hg : some g ≠ row) : Row w' g E xs := (hb.block g h.lt hg).trans h
theorem Row.own (h : Row w g E xs) {base : Nat} (hb : base ≤ g) (hm : xs.length ≤ maxLen) : w.ownsRow base E 1 (.slice (some ⟨g, 0, none⟩) xs.length xs.length) xs.length xs :=
  ⟨by simp, .inr ⟨g, xs.length, xs.toArray, rfl, hb, h, Nat.le_refl _, hm, by simp, by simp⟩⟩
end

/-! ### append of a row that is read (nil, empty or not) onto a row of the call's own -/

/-- a slice value that lies in a block from base on, or is nil -/
def From (base : Nat) (a : Option Addr) : Prop := ∀ ad, a = some ad → base ≤ ad.block
theorem From.none (base : Nat) : From base .none := fun _ h => by cases h
theorem From.mono {b c : Nat} {a : Option Addr} (h : From b a) (hc : c ≤ b) : From c a := fun ad e => Nat.le_trans hc (h ad e)
end Go.Proofs.Ytapmngmpomhjmaa

/- A logic of my own over slots and boxes: what values, worlds and frames are said to be. No program stands in this text. -/
namespace Go.Proofs.Ytapmngmpomhjmaa
open Go.RowKit

/-! ### The world goes on: what holds numbers stands -/
def NotInt (v : Value) : Prop := ∀ k n, v ≠ .int k n
def Boxed (w : World) (b : Nat) : Prop := ∃ cs T, w.heap[b]? = some (.cells cs T (0, 0)) ∧ ∀ u ∈ cs.toList, NotInt u
def Evol (w w' : World) : Prop := w.heap.size ≤ w'.heap.size ∧ ∀ b, b < w.heap.size → w'.heap[b]? = w.heap[b]? ∨ (Boxed w b ∧ Boxed w' b)
theorem Evol.of_ext {w w' : World} (e : Ext w w') : Evol w w' := ⟨e.size, fun b hb => .inl (e.block b hb)⟩
theorem Evol.refl (w : World) : Evol w w := .of_ext (Ext.refl w)
theorem Evol.trans {a b c : World} (h : Evol a b) (k : Evol b c) : Evol a c := by
  refine ⟨Nat.le_trans h.1 k.1, fun x hx => ?_⟩
  rcases h.2 x hx with e1 | ⟨b1, b2⟩ <;> rcases k.2 x (Nat.lt_of_lt_of_le hx h.1) with e2 | ⟨b3, b4⟩
  · exact .inl (e2.trans e1)
  · refine .inr ⟨?_, b4⟩
    obtain ⟨cs, T, h1, h2⟩ := b3
    exact ⟨cs, T, e1.symm.trans h1, h2⟩
  · refine .inr ⟨b1, ?_⟩
    obtain ⟨cs, T, h1, h2⟩ := b2
    exact ⟨cs, T, e2.trans h1, h2⟩
  · exact .inr ⟨b1, b4⟩
theorem Rd.evol {w w' : World} {a : Option Addr} {xs : List Value} (h : Rd w a xs) (hx : ∀ u ∈ xs, ¬ NotInt u) (e : Evol w w') : Rd w' a xs := by
  rcases h with rfl | ⟨b, off, ea, hc⟩
  · exact .inl rfl
  · refine .inr ⟨b, off, ea, fun j u hu => ?_⟩
    have h1 := hc j u hu
    have hb := World.block_lt_of_cell? w _ h1
    rcases e.2 b hb with e1 | ⟨⟨cs, T, h2, h3⟩, _⟩
    · rw [World.cell?_of_block (w := w) e1]; exact h1
    · exfalso
      refine hx u (List.mem_of_getElem? hu) (h3 u ?_)
      rw [cell_of_row w b (off + j) cs T (0, 0) h2] at h1
      have := List.mem_of_getElem? (l := cs.toList) (i := off + j) (a := u) (by simpa using h1)
      exact this

/-! ### What is said of a value -/
structure VP where
  p : Value → World → Prop
  ni : Bool
  st : ∀ v w w', p v w → Evol w w' → p v w'
  hni : ni = true → ∀ v w, p v w → NotInt v
  one : Bool
  hone : one = true → ∀ v w, p v w → v.oneCell' = true
  ab : Bool
  hab : ab = true → ∀ v w w', p v w → p v w'

def All2 : List VP → List Value → World → Prop
  | [], [], _ => True
  | x :: xs, v :: vs, w => x.p v w ∧ All2 xs vs w
  | _, _, _ => False
theorem All2.len : ∀ {ps : List VP} {vs : List Value} {w : World}, All2 ps vs w → vs.length = ps.length
  | [], [], _, _ => rfl
  | _ :: _, _ :: _, _, h => by simp [All2.len h.2]
  | [], _ :: _, _, h => h.elim
  | _ :: _, [], _, h => h.elim
theorem All2.st : ∀ {ps : List VP} {vs : List Value} {w w' : World}, All2 ps vs w → Evol w w' → All2 ps vs w'
  | [], [], _, _, _, _ => trivial
  | x :: _, v :: _, _, _, h, e => ⟨x.st v _ _ h.1 e, All2.st h.2 e⟩
  | [], _ :: _, _, _, h, _ => h.elim
  | _ :: _, [], _, _, h, _ => h.elim
theorem All2.get : ∀ {ps : List VP} {vs : List Value} {w : World}, All2 ps vs w → ∀ {i : Nat} {x : VP}, ps[i]? = some x → ∃ v, vs[i]? = some v ∧ x.p v w
  | [], [], _, _, i, _, h => by simp at h
  | y :: _, v :: _, _, h, 0, x, hx => by simp at hx; subst hx; exact ⟨v, rfl, h.1⟩
  | _ :: _, _ :: _, _, h, i + 1, x, hx => by simpa using All2.get h.2 (by simpa using hx)
  | [], _ :: _, _, h, _, _, _ => h.elim
  | _ :: _, [], _, h, _, _, _ => h.elim
theorem All2.app : ∀ {ps qs : List VP} {us vs : List Value} {w : World}, All2 ps us w → All2 qs vs w → All2 (ps ++ qs) (us ++ vs) w
  | [], _, [], _, _, _, k => k
  | _ :: _, _, _ :: _, _, _, h, k => ⟨h.1, All2.app h.2 k⟩
  | [], _, _ :: _, _, _, h, _ => h.elim
  | _ :: _, _, [], _, _, h, _ => h.elim
theorem All2.take : ∀ {ps : List VP} {vs : List Value} {w : World}, All2 ps vs w → ∀ n, All2 (ps.take n) (vs.take n) w
  | [], [], _, _, n => by simp [All2]
  | _ :: _, _ :: _, _, h, 0 => trivial
  | _ :: _, _ :: _, _, h, n + 1 => ⟨h.1, All2.take h.2 n⟩
  | [], _ :: _, _, h, _ => h.elim
  | _ :: _, [], _, h, _ => h.elim
theorem All2.drop : ∀ {ps : List VP} {vs : List Value} {w : World}, All2 ps vs w → ∀ n, All2 (ps.drop n) (vs.drop n) w
  | [], [], _, _, n => by simp [All2]
  | _ :: _, _ :: _, _, h, 0 => h
  | _ :: _, _ :: _, _, h, n + 1 => All2.drop h.2 n
  | [], _ :: _, _, h, _ => h.elim
  | _ :: _, [], _, h, _ => h.elim
theorem All2.ones {ps : List VP} {vs : List Value} {w : World} (h : All2 ps vs w) (hn : ps.all (·.one) = true) : ∀ u ∈ vs, u.oneCell' = true := by
  intro u hu
  obtain ⟨i, hi, rfl⟩ := List.mem_iff_getElem.1 hu
  have hl := h.len
  obtain ⟨v, hv, hp⟩ := h.get (i := i) (x := ps[i]'(by omega)) (List.getElem?_eq_getElem _)
  rw [List.getElem?_eq_getElem hi] at hv
  injection hv with hv
  subst hv
  exact (ps[i]'(by omega)).hone (List.all_eq_true.1 hn _ (List.getElem_mem _)) _ _ hp

theorem All2.abs {ps : List VP} {vs : List Value} {w w' : World} (h : All2 ps vs w) (hn : ps.all (·.ab) = true) : All2 ps vs w' := by
  induction ps generalizing vs with
  | nil => cases vs with
    | nil => trivial
    | cons v vs => exact h.elim
  | cons x xs ih => cases vs with
    | nil => exact h.elim
    | cons v vs =>
      simp only [List.all_cons, Bool.and_eq_true] at hn
      exact ⟨x.hab hn.1 v w w' h.1, ih h.2 hn.2⟩
/-- nothing is known -/
def VP.any : VP := ⟨fun _ _ => True, false, fun _ _ _ _ _ => trivial, fun h => (by cases h), false, fun h => (by cases h), true, fun _ _ _ _ _ => trivial⟩
def VP.bool (b : Bool) : VP := ⟨fun v _ => v = .bool b, true, fun _ _ _ h _ => h, fun _ v _ h k n e => (by rw [h] at e; cases e), true, fun _ v _ h => (by rw [h]; rfl), true, fun _ _ _ _ h => h⟩
def VP.int (k : IntKind) (n : Int) : VP := ⟨fun v _ => v = .int k n, false, fun _ _ _ h _ => h, fun h => (by cases h), true, fun _ v _ h => (by rw [h]; rfl), true, fun _ _ _ _ h => h⟩
def VP.str (s : ByteArray) : VP := ⟨fun v _ => v = .string s, true, fun _ _ _ h _ => h, fun _ v _ h k n e => (by rw [h] at e; cases e), true, fun _ v _ h => (by rw [h]; rfl), true, fun _ _ _ _ h => h⟩
/-- numbers of a kind as cells -/
def ksI (k : IntKind) (l : List Nat) : List Value := l.map fun d : Nat => .int k (d : Int)
/-- a slice of numbers -/
def VP.nums (k : IntKind) (l : List Nat) : VP := ⟨fun v w => ∃ a c, v = .slice a l.length c ∧ l.length ≤ c ∧ c ≤ maxLen ∧ Rd w a (ksI k l), true,
  fun _ _ _ ⟨a, c, h1, h2, h3, h4⟩ e => ⟨a, c, h1, h2, h3, h4.evol (fun u hu => by
    unfold ksI at hu
    obtain ⟨d, _, rfl⟩ := List.mem_map.1 hu
    exact fun hn => hn _ _ rfl) e⟩,
  fun _ v _ ⟨a, c, h1, _⟩ k n e => (by rw [h1] at e; cases e), true, fun _ v _ ⟨a, c, h1, _⟩ => (by rw [h1]; rfl), false, fun h => (by cases h)⟩
def VP.agg (ps : List VP) : VP := ⟨fun v w => ∃ cs : List Value, v = .agg cs.toArray ∧ All2 ps cs w, true, fun _ _ _ ⟨cs, h1, h2⟩ e => ⟨cs, h1, h2.st e⟩, fun _ v _ ⟨cs, h1, _⟩ k n e => (by rw [h1] at e; cases e), false, fun h => (by cases h), ps.all (·.ab), fun hn _ _ _ ⟨cs, h1, h2⟩ => ⟨cs, h1, h2.abs hn⟩⟩
def VP.tup (ps : List VP) : VP := ⟨fun v w => ∃ cs : List Value, v = .tuple cs.toArray ∧ All2 ps cs w, true, fun _ _ _ ⟨cs, h1, h2⟩ e => ⟨cs, h1, h2.st e⟩, fun _ v _ ⟨cs, h1, _⟩ k n e => (by rw [h1] at e; cases e), false, fun h => (by cases h), ps.all (·.ab), fun hn _ _ _ ⟨cs, h1, h2⟩ => ⟨cs, h1, h2.abs hn⟩⟩

/-! ### What is said of a frame -/
def ptr (g : Nat) : Value := .pointer (some ⟨g, 0, none⟩)
/-- from offset off of block g on lie cells of which ps is said -/
def Cells (w : World) (g off : Nat) (ps : List VP) : Prop := ∀ j x, ps[j]? = some x → ∃ u, w.cell? ⟨g, off + j, none⟩ = some u ∧ x.p u w
inductive Fact where
  | slot (k : Nat) (x : VP)
  | fp (d k off : Nat)
  | box (k : Nat) (T : TypeId) (ps : List VP)
  | arr (k : Nat) (T : TypeId) (n : Nat) (ps : List VP)
  | own (k : Nat) (T : TypeId) (n : Nat)
  | rows (k : Nat) (n : Nat) (ps : List VP)
  | rp (d k off : Nat)
  | orow (k : Nat) (E : TypeId) (sz n : Nat) (ps : List VP)

def Fact.holds (w0 : World) : Fact → Act → World → Prop
  | .slot k x, a, w => ∃ v, a.tmps[k]? = some v ∧ x.p v w
  | .fp d k off, a, _ => ∃ g, a.tmps[k]? = some (ptr g) ∧ a.tmps[d]? = some (.pointer (some ⟨g, off, none⟩))
  | .box k T ps, a, w => ∃ g cs, a.tmps[k]? = some (ptr g) ∧ Row w g T cs ∧ All2 ps cs w
  | .arr k T n ps, a, w => ∃ g cs, a.tmps[k]? = some (.slice (some ⟨g, 0, none⟩) n n) ∧ Row w g T cs ∧ All2 ps cs w
  | .own k T n, a, w => ∃ g cs, a.tmps[k]? = some (ptr g) ∧ Row w g T cs ∧ cs.length = n ∧ ∀ u ∈ cs, NotInt u
  | .rows k n ps, a, w => ∃ g off c, a.tmps[k]? = some (.slice (some ⟨g, off, none⟩) n c) ∧ n ≤ c ∧ c ≤ maxLen ∧ g < w0.heap.size ∧ Cells w g off ps
  | .rp d k off, a, _ => ∃ g o n c, a.tmps[k]? = some (.slice (some ⟨g, o, none⟩) n c) ∧ a.tmps[d]? = some (.pointer (some ⟨g, o + off, none⟩))
  | .orow k E sz n ps, a, w => ∃ v xs, a.tmps[k]? = some v ∧ w.ownsRow w0.heap.size E sz v n xs ∧ All2 ps xs w
/-- the slots of which a fact speaks -/
def Fact.uses : Fact → Nat → Bool
  | .slot k _, d => k == d
  | .fp e k _, d => e == d || k == d
  | .box k _ _, d => k == d
  | .arr k _ _ _, d => k == d
  | .own k _ _, d => k == d
  | .rows k _ _, d => k == d
  | .rp e k _, d => e == d || k == d
  | .orow k _ _ _ _, d => k == d
/-- a store into slot k's box leaves this fact -/
def Fact.off : Fact → Nat → Bool
  | .box j _ _, k => !(j == k)
  | .arr .., _ => false
  | _, _ => true

theorem put_ne {a : Act} {d k : Nat} (v : Value) (h : d ≠ k) : (a.put (some d) v).tmps[k]? = a.tmps[k]? := by
  simp [Act.put, Array.getElem?_setIfInBounds_ne h]
theorem put_eq {a : Act} {d : Nat} (v : Value) (h : d < a.tmps.size) : (a.put (some d) v).tmps[d]? = some v := by
  simp [Act.put, h]
theorem put_size (a : Act) (d : Option Nat) (v : Value) : (a.put d v).tmps.size = a.tmps.size := by
  cases d <;> simp [Act.put]
theorem put_defers' (a : Act) (d : Option Nat) (v : Value) : (a.put d v).defers = a.defers := by cases d <;> rfl

theorem Cells.evol {w w' : World} {g off : Nat} {ps : List VP} (h : Cells w g off ps) (e : Evol w w') (hb : w'.heap[g]? = w.heap[g]?) : Cells w' g off ps := fun j x hx => by
  obtain ⟨u, h1, h2⟩ := h j x hx
  exact ⟨u, by rw [World.cell?_of_block (w := w) hb]; exact h1, x.st _ _ _ h2 e⟩
theorem Cells.ext {w w' : World} {g off : Nat} {ps : List VP} (h : Cells w g off ps) (e : Ext w w') : Cells w' g off ps := fun j x hx => by
  obtain ⟨u, h1, h2⟩ := h j x hx
  exact ⟨u, e.cell h1, x.st _ _ _ h2 (.of_ext e)⟩
theorem own_kept {w w' : World} {base : Nat} {e : TypeId} {size n : Nat} {v : Value} {xs : List Value} (h : w.ownsRow base e size v n xs) (x : Ext w w') : w'.ownsRow base e size v n xs :=
  h.kept (row := none) ⟨x.os, x.tape, x.output, x.size, fun k hk _ => x.block k hk⟩ (by cases v.ownBlock <;> simp)
theorem fact_put {f : Fact} {w0 : World} {a : Act} {w w' : World} {d : Nat} {v : Value} (h : f.holds w0 a w) (hd : f.uses d = false) (e : Ext w w') : f.holds w0 (a.put (some d) v) w' := by
  cases f with
  | slot k x =>
    obtain ⟨u, h1, h2⟩ := h
    simp [Fact.uses] at hd
    exact ⟨u, by rw [put_ne v (Ne.symm hd)]; exact h1, x.st _ _ _ h2 (.of_ext e)⟩
  | fp c k off =>
    obtain ⟨g, h1, h2⟩ := h
    simp [Fact.uses] at hd
    exact ⟨g, by rw [put_ne v (Ne.symm hd.2)]; exact h1, by rw [put_ne v (Ne.symm hd.1)]; exact h2⟩
  | box k T ps =>
    obtain ⟨g, cs, h1, h2, h3⟩ := h
    simp [Fact.uses] at hd
    exact ⟨g, cs, by rw [put_ne v (Ne.symm hd)]; exact h1, h2.ext e, h3.st (.of_ext e)⟩
  | arr k T n ps =>
    obtain ⟨g, cs, h1, h2, h3⟩ := h
    simp [Fact.uses] at hd
    exact ⟨g, cs, by rw [put_ne v (Ne.symm hd)]; exact h1, h2.ext e, h3.st (.of_ext e)⟩
  | own k T n =>
    obtain ⟨g, cs, h1, h2, h3, h4⟩ := h
    simp [Fact.uses] at hd
    exact ⟨g, cs, by rw [put_ne v (Ne.symm hd)]; exact h1, h2.ext e, h3, h4⟩
  | rows k n ps =>
    obtain ⟨g, off, c, h1, h2, h3, h4, h5⟩ := h
    simp [Fact.uses] at hd
    exact ⟨g, off, c, by rw [put_ne v (Ne.symm hd)]; exact h1, h2, h3, h4, h5.ext e⟩
  | rp c k off =>
    obtain ⟨g, o, n, c', h1, h2⟩ := h
    simp [Fact.uses] at hd
    exact ⟨g, o, n, c', by rw [put_ne v (Ne.symm hd.2)]; exact h1, by rw [put_ne v (Ne.symm hd.1)]; exact h2⟩
  | orow k E sz n ps =>
    obtain ⟨u, xs, h1, h2, h3⟩ := h
    simp [Fact.uses] at hd
    exact ⟨u, xs, by rw [put_ne v (Ne.symm hd)]; exact h1, own_kept h2 e, h3.st (.of_ext e)⟩
theorem fact_ext {f : Fact} {w0 : World} {a : Act} {w w' : World} (h : f.holds w0 a w) (e : Ext w w') : f.holds w0 a w' := by
  cases f with
  | slot k x => obtain ⟨u, h1, h2⟩ := h; exact ⟨u, h1, x.st _ _ _ h2 (.of_ext e)⟩
  | fp c k off => exact h
  | box k T ps => obtain ⟨g, cs, h1, h2, h3⟩ := h; exact ⟨g, cs, h1, h2.ext e, h3.st (.of_ext e)⟩
  | arr k T n ps => obtain ⟨g, cs, h1, h2, h3⟩ := h; exact ⟨g, cs, h1, h2.ext e, h3.st (.of_ext e)⟩
  | own k T n => obtain ⟨g, cs, h1, h2, h3⟩ := h; exact ⟨g, cs, h1, h2.ext e, h3⟩
  | rows k n ps => obtain ⟨g, off, c, h1, h2, h3, h4, h5⟩ := h; exact ⟨g, off, c, h1, h2, h3, h4, h5.ext e⟩
  | rp c k off => exact h
  | orow k E sz n ps => obtain ⟨u, xs, h1, h2, h3⟩ := h; exact ⟨u, xs, h1, own_kept h2 e, h3.st (.of_ext e)⟩

def Base (w0 : World) (N : Nat) (B : List Nat) (a : Act) (w : World) : Prop :=
  a.tmps.size = N ∧ a.defers = [] ∧ Ext w0 w ∧ (∀ k ∈ B, ∀ g, a.tmps[k]? = some (ptr g) → w0.heap.size ≤ g ∧ g < w.heap.size) ∧
    (∀ k ∈ B, ∀ k' ∈ B, k ≠ k' → ∀ g, a.tmps[k]? = some (ptr g) → a.tmps[k']? ≠ some (ptr g))

theorem Base.put {w0 : World} {N : Nat} {B : List Nat} {a : Act} {w w' : World} (h : Base w0 N B a w) {d : Nat} (hd : B.contains d = false) (v : Value) (e : Ext w w') : Base w0 N B (a.put (some d) v) w' := by
  obtain ⟨h1, h2, h3, h4, h5⟩ := h
  have hne : ∀ k ∈ B, d ≠ k := fun k hk e => by subst e; simp [hk] at hd
  refine ⟨by rw [put_size]; exact h1, by rw [put_defers']; exact h2, h3.trans e, fun k hk g hg => ?_, fun k hk k' hk' hkk g hg => ?_⟩
  · rw [put_ne v (hne k hk)] at hg
    have := h4 k hk g hg
    exact ⟨this.1, Nat.lt_of_lt_of_le this.2 e.size⟩
  · rw [put_ne v (hne k hk)] at hg
    rw [put_ne v (hne k' hk')]
    exact h5 k hk k' hk' hkk g hg
theorem Base.ext {w0 : World} {N : Nat} {B : List Nat} {a : Act} {w w' : World} (h : Base w0 N B a w) (e : Ext w w') : Base w0 N B a w' := by
  obtain ⟨h1, h2, h3, h4, h5⟩ := h
  exact ⟨h1, h2, h3.trans e, fun k hk g hg => ⟨(h4 k hk g hg).1, Nat.lt_of_lt_of_le (h4 k hk g hg).2 e.size⟩, h5⟩
/-- a new box -/
theorem Base.new {w0 : World} {N : Nat} {B : List Nat} {a : Act} {w : World} (h : Base w0 N B a w) {d : Nat} (hd : d < N) (o : Obj) : Base w0 N B (a.put (some d) (ptr w.heap.size)) (w.alloc o) := by
  obtain ⟨h1, h2, h3, h4, h5⟩ := h
  have hself := put_eq (a := a) (ptr w.heap.size) (d := d) (by omega)
  refine ⟨by rw [put_size]; exact h1, by rw [put_defers']; exact h2, h3.alloc o, fun k hk g hg => ?_, fun k hk k' hk' hkk g hg => ?_⟩
  · by_cases e : d = k
    · subst e
      rw [hself] at hg
      injection hg with hg
      unfold ptr at hg
      injection hg with hg
      injection hg with hg
      injection hg with hg
      subst hg
      exact ⟨h3.size, by simp⟩
    · rw [put_ne _ e] at hg
      have := h4 k hk g hg
      exact ⟨this.1, by simp; omega⟩
  · by_cases e : d = k
    · subst e
      rw [hself] at hg
      rw [put_ne _ hkk]
      intro hg'
      rw [← Option.some.inj hg] at hg'
      have := (h4 k' hk' _ hg').2
      omega
    · rw [put_ne _ e] at hg
      by_cases e' : d = k'
      · subst e'
        rw [hself]
        intro hg'
        rw [← Option.some.inj hg'] at hg
        have := (h4 k hk _ hg).2
        omega
      · rw [put_ne _ e']
        exact h5 k hk k' hk' hkk g hg
end Go.Proofs.Ytapmngmpomhjmaa

/- The logic over slots and boxes: a rule for each operation, whatever order a region takes. -/
namespace Go.Proofs.Ytapmngmpomhjmaa
open Go.RowKit

structure Cx where
  P : Program
  w0 : World
  N : Nat
  B : List Nat
  fs : List Fact
  os : List (Nat × Fact)
  rs : List (Nat × Fact)
  ms : List (Nat × Nat × Fact)

def Inv (X : Cx) (c : Nat → Bool) (a : Act) (w : World) : Prop :=
  Base X.w0 X.N X.B a w ∧ (∀ f ∈ X.fs, f.holds X.w0 a w) ∧ (∀ x ∈ X.os, c x.1 = false → x.2.holds X.w0 a w) ∧ (∀ x ∈ X.rs, c x.1 = true → x.2.holds X.w0 a w) ∧ (∀ x ∈ X.ms, c x.1 = true → c x.2.1 = false → x.2.2.holds X.w0 a w)
def upd (c : Nat → Bool) (i : Nat) : Nat → Bool := fun j => if j = i then true else c j
structure Sit (X : Cx) (i : Nat) (pre suc : List Nat) (c : Nat → Bool) (a : Act) (w : World) : Prop where
  me : c i = false
  hpre : ∀ j ∈ pre, c j = true
  hsuc : ∀ j ∈ suc, c j = false
  inv : Inv X c a w
/-- this is known when operation i comes up -/
def Av (X : Cx) (i : Nat) (pre suc : List Nat) (f : Fact) : Prop := ∀ c a w, Sit X i pre suc c a w → f.holds X.w0 a w
section
variable {X : Cx} {i : Nat} {pre suc : List Nat}
theorem av_fs (n : Nat) {f : Fact} (h : X.fs[n]? = some f) : Av X i pre suc f := fun _ _ _ s => s.inv.2.1 f (List.mem_of_getElem? h)
theorem av_rs (n : Nat) {j : Nat} {f : Fact} (h : X.rs[n]? = some (j, f)) (hj : pre.contains j = true) : Av X i pre suc f :=
  fun _ _ _ s => s.inv.2.2.2.1 _ (List.mem_of_getElem? h) (s.hpre j (by simpa using hj))
theorem av_ms (n : Nat) {j e : Nat} {f : Fact} (h : X.ms[n]? = some (j, e, f)) (hj : pre.contains j = true) (he : (e == i || suc.contains e) = true) : Av X i pre suc f :=
  fun _ _ _ s => s.inv.2.2.2.2 _ (List.mem_of_getElem? h) (s.hpre j (by simpa using hj)) (by
    simp only [Bool.or_eq_true, beq_iff_eq] at he
    rcases he with rfl | he
    · exact s.me
    · exact s.hsuc e (by simpa using he))
theorem av_os (n : Nat) {j : Nat} {f : Fact} (h : X.os[n]? = some (j, f)) (hj : (j == i || suc.contains j) = true) : Av X i pre suc f :=
  fun _ _ _ s => s.inv.2.2.1 _ (List.mem_of_getElem? h) (by
    simp only [Bool.or_eq_true, beq_iff_eq] at hj
    rcases hj with rfl | hj
    · exact s.me
    · exact s.hsuc j (by simpa using hj))

theorem av_bool {k : Nat} {b b' : Bool} (e : b = b') (h : Av X i pre suc (.slot k (VP.bool b))) : Av X i pre suc (.slot k (VP.bool b')) := e ▸ h
/-- an operand's value -/
def Ar (X : Cx) (i : Nat) (pre suc : List Nat) (x : Operand) (q : Value → World → Prop) : Prop := ∀ c a w, Sit X i pre suc c a w → q (a.eval x) w
theorem eval_tmp {a : Act} {k : Nat} {v : Value} (h : a.tmps[k]? = some v) : a.eval (.tmp k) = v := by simp [Act.eval, h]
theorem ar_tmp {k : Nat} {x : VP} (h : Av X i pre suc (.slot k x)) : Ar X i pre suc (.tmp k) x.p := fun c a w s => by
  obtain ⟨v, h1, h2⟩ := h c a w s
  rw [eval_tmp h1]; exact h2
theorem ar_const {v : Value} {q : Value → World → Prop} (h : ∀ w, q v w) : Ar X i pre suc (.const v) q := fun _ _ w _ => h w
/-- the operation does what the context says of it, when it comes up -/
def Does (X : Cx) (i : Nat) (pre suc : List Nat) (o : Oper) : Prop :=
  ∀ c a w, Sit X i pre suc c a w → ∀ Q (K : Act → World → Prop), (∀ a' w', Inv X (upd c i) a' w' → K a' w') → o.wp X.P a w K Q

def chk (X : Cx) (i : Nat) (pre suc : List Nat) (d : Nat) : Bool :=
  X.fs.all (fun f => !f.uses d) && X.os.all (fun x => x.1 == i || pre.contains x.1 || !x.2.uses d) && X.rs.all (fun x => x.1 == i || !x.2.uses d || suc.contains x.1) && X.ms.all (fun x => x.1 == i || x.2.1 == i || pre.contains x.2.1 || !x.2.2.uses d || suc.contains x.1)
def resOf (X : Cx) (i : Nat) : List (Nat × Fact) := X.rs.filter (fun x => x.1 == i) ++ (X.ms.filter (fun x => x.1 == i && !(x.2.1 == i))).map (fun x => (x.1, x.2.2))

theorem res_rs {x : Nat × Fact} (hx : x ∈ X.rs) (h : x.1 = i) : x ∈ resOf X i := by
  unfold resOf; rw [List.mem_append, List.mem_filter]; exact .inl ⟨hx, by simp [h]⟩
theorem res_ms {x : Nat × Nat × Fact} (hx : x ∈ X.ms) (h : x.1 = i) (h2 : x.2.1 ≠ i) : (x.1, x.2.2) ∈ resOf X i := by
  unfold resOf; rw [List.mem_append, List.mem_map]; exact .inr ⟨x, by rw [List.mem_filter]; exact ⟨hx, by simp [h, h2]⟩, rfl⟩
theorem not_pre {c : Nat → Bool} {a : Act} {w : World} (s : Sit X i pre suc c a w) {j : Nat} (hc : c j = false) : pre.contains j = false := by
  rw [Bool.eq_false_iff]
  intro h
  have := s.hpre j (by simpa using h)
  rw [this] at hc; cases hc
/-- the facts behind operation i: what it lays, and what it leaves -/
theorem inv_mk {c : Nat → Bool} {a a' : Act} {w w' : World} (s : Sit X i pre suc c a w) (hb : Base X.w0 X.N X.B a' w') (hr : ∀ x ∈ resOf X i, x.2.holds X.w0 a' w')
    (kf : ∀ f ∈ X.fs, f.holds X.w0 a w → f.holds X.w0 a' w') (ko : ∀ x ∈ X.os, x.1 ≠ i → pre.contains x.1 = false → x.2.holds X.w0 a w → x.2.holds X.w0 a' w')
    (kr : ∀ x ∈ X.rs, x.1 ≠ i → c x.1 = true → x.2.holds X.w0 a w → x.2.holds X.w0 a' w') (km : ∀ x ∈ X.ms, x.1 ≠ i → x.2.1 ≠ i → pre.contains x.2.1 = false → c x.1 = true → x.2.2.holds X.w0 a w → x.2.2.holds X.w0 a' w') : Inv X (upd c i) a' w' := by
  refine ⟨hb, fun f hf => kf f hf (s.inv.2.1 f hf), fun x hx hcx => ?_, fun x hx hcx => ?_, fun x hx hcx hce => ?_⟩
  · have hne : x.1 ≠ i := fun he => by simp [upd, he] at hcx
    have hcx' : c x.1 = false := by simpa [upd, hne] using hcx
    exact ko x hx hne (not_pre s hcx') (s.inv.2.2.1 x hx hcx')
  · by_cases hne : x.1 = i
    · exact hr x (res_rs hx hne)
    · have hcx' : c x.1 = true := by simpa [upd, hne] using hcx
      exact kr x hx hne hcx' (s.inv.2.2.2.1 x hx hcx')
  · have hne2 : x.2.1 ≠ i := fun he => by simp [upd, he] at hce
    have hce' : c x.2.1 = false := by simpa [upd, hne2] using hce
    by_cases hne : x.1 = i
    · exact hr (x.1, x.2.2) (res_ms hx hne hne2)
    · have hcx' : c x.1 = true := by simpa [upd, hne] using hcx
      exact km x hx hne hne2 (not_pre s hce') hcx' (s.inv.2.2.2.2 x hx hcx' hce')
theorem not_suc {c : Nat → Bool} {a : Act} {w : World} (s : Sit X i pre suc c a w) {j : Nat} (h : suc.contains j = true) (hc : c j = true) : False := by
  have := s.hsuc j (by simpa using h)
  rw [this] at hc; cases hc
theorem inv_put {c : Nat → Bool} {a : Act} {w w' : World} {d : Nat} {v : Value} (s : Sit X i pre suc c a w) (e : Ext w w')
    (hb : Base X.w0 X.N X.B (a.put (some d) v) w') (hc : chk X i pre suc d = true) (hr : ∀ x ∈ resOf X i, x.2.holds X.w0 (a.put (some d) v) w') : Inv X (upd c i) (a.put (some d) v) w' := by
  unfold chk at hc
  simp only [Bool.and_eq_true, List.all_eq_true] at hc
  obtain ⟨⟨⟨h1, h2⟩, h3⟩, h4⟩ := hc
  refine inv_mk s hb hr (fun f hf h => fact_put h (by simpa using h1 f hf) e) (fun x hx hne hp h => ?_) (fun x hx hne hcx h => ?_) (fun x hx hne hne2 hp hcx h => ?_)
  · have := h2 x hx
    simp only [Bool.or_eq_true, beq_iff_eq, hne, hp, Bool.false_eq_true, false_or] at this
    exact fact_put h (by simpa using this) e
  · have := h3 x hx
    simp only [Bool.or_eq_true, beq_iff_eq, hne, false_or] at this
    rcases this with hu | hs
    · exact fact_put h (by simpa using hu) e
    · exact (not_suc s hs hcx).elim
  · have := h4 x hx
    simp only [Bool.or_eq_true, beq_iff_eq, hne, hne2, hp, Bool.false_eq_true, false_or] at this
    rcases this with hu | hs
    · exact fact_put h (by simpa using hu) e
    · exact (not_suc s hs hcx).elim

/-- an operation that leaves a value in a slot that is no box's -/
theorem does_val {o : Oper} {d : Nat} (_hd : o.dst = some d) (hlt : (decide (d < X.N) && !X.B.contains d) = true) (hc : chk X i pre suc d = true)
    (h : ∀ c a w, Sit X i pre suc c a w → ∀ Q (K : Act → World → Prop), (∀ v w', Ext w w' → (∀ x ∈ resOf X i, x.2.holds X.w0 (a.put (some d) v) w') → K (a.put (some d) v) w') → o.wp X.P a w K Q) : Does X i pre suc o := by
  intro c a w s Q K hK
  simp only [Bool.and_eq_true, decide_eq_true_eq] at hlt
  exact h c a w s Q K fun v w' e hr => hK _ _ (inv_put s e (s.inv.1.put (by simpa using hlt.2) v e) hc hr)

theorem res_one {f : Fact} (hr : resOf X i = [(i, f)]) {a : Act} {w : World} (h : f.holds X.w0 a w) : ∀ x ∈ resOf X i, x.2.holds X.w0 a w := by
  rw [hr]; intro x hx; simp at hx; subst hx; exact h
theorem slot_put {a : Act} {w : World} {d : Nat} {v : Value} {x : VP} (hN : a.tmps.size = X.N) (hlt : (decide (d < X.N) && !X.B.contains d) = true) (h : x.p v w) : (Fact.slot d x).holds X.w0 (a.put (some d) v) w :=
  ⟨v, put_eq v (by simp only [Bool.and_eq_true, decide_eq_true_eq] at hlt; omega), h⟩

/-- an operation whose run is known: it yields a value, the world stands -/
theorem does_run {o : Oper} {d : Nat} {x : VP} (hd : o.dst = some d) (hlt : (decide (d < X.N) && !X.B.contains d) = true) (hc : chk X i pre suc d = true) (hr : resOf X i = [(i, .slot d x)])
    (h : ∀ c a w, Sit X i pre suc c a w → ∃ v, (execOp a.eval o).run X.P w = .ok (.value v) w ∧ x.p v w) : Does X i pre suc o :=
  does_val hd hlt hc fun c a w s Q K hK => by
    obtain ⟨v, h1, h2⟩ := h c a w s
    unfold Oper.wp
    rw [h1]
    show K (a.put o.dst v) w
    rw [hd]
    exact hK v w (Ext.refl w) (res_one hr (slot_put s.inv.1.1 hlt h2))

theorem does_move {o : Oper} {d : Nat} {x : VP} (y : Operand) (hop : o.op = .move y ∨ o.op = .assign y) (hd : o.dst = some d) (hlt : (decide (d < X.N) && !X.B.contains d) = true) (hc : chk X i pre suc d = true)
    (hr : resOf X i = [(i, .slot d x)]) (h : Ar X i pre suc y x.p) : Does X i pre suc o :=
  does_run hd hlt hc hr fun c a w s => ⟨a.eval y, by unfold execOp; rcases hop with e | e <;> rw [e] <;> rfl, h c a w s⟩

theorem does_pick {o : Oper} {d : Nat} {x : VP} (b : Bool) (y u v : Operand) (hop : o.op = .pick y u v) (hd : o.dst = some d) (hlt : (decide (d < X.N) && !X.B.contains d) = true) (hc : chk X i pre suc d = true)
    (hr : resOf X i = [(i, .slot d x)]) (hb : Ar X i pre suc y (VP.bool b).p) (h : Ar X i pre suc (if b then u else v) x.p) : Does X i pre suc o :=
  does_run hd hlt hc hr fun c a w s => ⟨a.eval (if b then u else v), by
    have := hb c a w s
    unfold execOp; rw [hop]
    have hb' : a.eval y = .bool b := this
    cases b <;> simp [hb', asBool], h c a w s⟩

theorem does_not {o : Oper} {d : Nat} (b : Bool) (T : TypeId) (y : Operand) (hop : o.op = .unOp .not T y) (hd : o.dst = some d) (hlt : (decide (d < X.N) && !X.B.contains d) = true) (hc : chk X i pre suc d = true)
    (hr : resOf X i = [(i, .slot d (VP.bool (!b)))]) (hb : Ar X i pre suc y (VP.bool b).p) : Does X i pre suc o :=
  does_run hd hlt hc hr fun c a w s => ⟨.bool (!b), by
    have hb' : a.eval y = .bool b := hb c a w s
    unfold execOp; rw [hop]
    simp [hb', Op.unary], rfl⟩

theorem does_extract {o : Oper} {d : Nat} {ps : List VP} {x : VP} (y : Operand) (n : Nat) (hop : o.op = .extract y n) (hd : o.dst = some d) (hlt : (decide (d < X.N) && !X.B.contains d) = true) (hc : chk X i pre suc d = true)
    (hr : resOf X i = [(i, .slot d x)]) (hb : Ar X i pre suc y (VP.tup ps).p) (hn : ps[n]? = some x) : Does X i pre suc o :=
  does_run hd hlt hc hr fun c a w s => by
    obtain ⟨cs, h1, h2⟩ := hb c a w s
    obtain ⟨v, hv, hp⟩ := h2.get hn
    exact ⟨v, by unfold execOp; rw [hop]; simp [h1, Instr.extract, hv], hp⟩

/-! ### calls -/
/-- WHAT A FUNCTION DOES: arguments of which that is said, a result of which this is said, and nothing that there was has turned -/
def Spec (P : Program) (f : FuncId) (qs : List (Value → World → Prop)) (x : VP) : Prop :=
  ∀ (vs : Array Value) (w : World), vs.size = qs.length → (∀ (j : Nat) (q : Value → World → Prop), qs[j]? = some q → ∃ v, vs[j]? = some v ∧ q v w) → Calls P f vs w fun e w' => ∃ v, e = .returned v ∧ x.p v w' ∧ Ext w w'

def Ars (X : Cx) (i : Nat) (pre suc : List Nat) : List Operand → List (Value → World → Prop) → Prop
  | [], [] => True
  | o :: os, q :: qs => Ar X i pre suc o q ∧ Ars X i pre suc os qs
  | _, _ => False
theorem Ars.len : ∀ {os : List Operand} {qs : List (Value → World → Prop)}, Ars X i pre suc os qs → os.length = qs.length
  | [], [], _ => rfl
  | _ :: _, _ :: _, h => by simp [Ars.len h.2]
  | [], _ :: _, h => h.elim
  | _ :: _, [], h => h.elim
theorem Ars.get : ∀ {os : List Operand} {qs : List (Value → World → Prop)}, Ars X i pre suc os qs → ∀ {j : Nat} {q : Value → World → Prop}, qs[j]? = some q → ∃ o, os[j]? = some o ∧ Ar X i pre suc o q
  | [], [], _, j, _, h => by simp at h
  | o :: _, _ :: _, h, 0, q, hq => by simp at hq; subst hq; exact ⟨o, rfl, h.1⟩
  | _ :: _, _ :: _, h, j + 1, q, hq => by simpa using Ars.get h.2 (by simpa using hq)
  | [], _ :: _, h, _, _, _ => h.elim
  | _ :: _, [], h, _, _, _ => h.elim

/-- function f has a text -/
def hasBody (P : Program) (f : FuncId) : Bool := match P.funcs[f]? with | some fn => fn.body.isSome && !(fn.name == "runtime.NumGoroutine") | none => false

theorem run_callv {P : Program} {f : FuncId} {o : Oper} {ags : Array Operand} {ts : Array TypeId} {a : Act} {w : World} (hop : o.op = .call { callee := .value (.func f), args := ags, argTypes := ts }) (hb : hasBody P f = true) :
    (execOp a.eval o).run P w = .ok (.enter f (ags.map a.eval)) w := by
  unfold hasBody at hb
  unfold execOp; rw [hop]
  cases hf : P.funcs[f]? with
  | none => rw [hf] at hb; cases hb
  | some fn =>
    rw [hf] at hb
    simp only [Bool.and_eq_true, Bool.not_eq_true', beq_eq_false_iff_ne, ne_eq, Option.isSome_iff_ne_none] at hb
    simp [resolve, Act.eval, Deferred.ofValue, invoke, callFunc, hf, hb.1, hb.2]

theorem does_call {o : Oper} {d : Nat} {f : FuncId} {ags : Array Operand} {ts : Array TypeId} {qs : List (Value → World → Prop)} {x : VP} (hs : Spec X.P f qs x)
    (hop : o.op = .call { callee := .value (.func f), args := ags, argTypes := ts }) (hbd : hasBody X.P f = true) (hd : o.dst = some d) (hlt : (decide (d < X.N) && !X.B.contains d) = true) (hc : chk X i pre suc d = true)
    (hr : resOf X i = [(i, .slot d x)]) (h : Ars X i pre suc ags.toList qs) : Does X i pre suc o :=
  does_val hd hlt hc fun c a w s Q K hK => by
    unfold Oper.wp
    rw [run_callv hop hbd]
    show Calls X.P f (ags.map a.eval) w _
    refine (hs (ags.map a.eval) w (by rw [Array.size_map, ← h.len]; simp) fun j q hq => ?_).mono ?_
    · obtain ⟨y, hy, har⟩ := h.get hq
      refine ⟨a.eval y, ?_, har c a w s⟩
      rw [Array.getElem?_map]
      have : ags[j]? = some y := by simpa using hy
      rw [this]; rfl
    · rintro e w' ⟨v, rfl, hp, he⟩
      show K (a.put o.dst v) w'
      rw [hd]
      exact hK v w' he (res_one hr (slot_put s.inv.1.1 hlt hp))

/-! ### boxes -/
theorem box_put {a : Act} {w : World} {d : Nat} {T : TypeId} {cs : List Value} {ps : List VP} (hlt : d < a.tmps.size) (h : All2 ps cs w) :
    (Fact.box d T ps).holds X.w0 (a.put (some d) (ptr w.heap.size)) (w.alloc (.cells cs.toArray T)) :=
  ⟨w.heap.size, cs, put_eq _ hlt, Row.new w T cs, h.st (.of_ext (Ext.new w _))⟩

theorem does_new {o : Oper} {d : Nat} {T : TypeId} {ps : List VP} (hd : o.dst = some d) (hlt : decide (d < X.N) = true) (hc : chk X i pre suc d = true) (hr : resOf X i = [(i, .box d T ps)])
    (h : ∀ c a w, Sit X i pre suc c a w → ∃ cs : List Value, (execOp a.eval o).run X.P w = .ok (.value (ptr w.heap.size)) (w.alloc (.cells cs.toArray T)) ∧ All2 ps cs w) : Does X i pre suc o := by
  intro c a w s Q K hK
  obtain ⟨cs, h1, h2⟩ := h c a w s
  have hlt' := of_decide_eq_true hlt
  unfold Oper.wp
  rw [h1]
  show K (a.put o.dst (ptr w.heap.size)) _
  rw [hd]
  exact hK _ _ (inv_put s (Ext.new w _) (s.inv.1.new hlt' _) hc (res_one hr (box_put (by rw [s.inv.1.1]; exact hlt') h2)))

theorem does_box {o : Oper} {d : Nat} {T : TypeId} {ps : List VP} (y : Operand) (hop : o.op = .box T y) (hd : o.dst = some d) (hlt : decide (d < X.N) = true) (hc : chk X i pre suc d = true) (hr : resOf X i = [(i, .box d T ps)])
    (h : Ar X i pre suc y (VP.agg ps).p) : Does X i pre suc o :=
  does_new hd hlt hc hr fun c a w s => by
    obtain ⟨cs, h1, h2⟩ := h c a w s
    refine ⟨cs, ?_, h2⟩
    unfold execOp; rw [hop]
    simp [Instr.box, newVar, newRow, h1, Value.cells, ptr]

/-- the cells of a type's zero -/
def zeroOf (P : Program) (T : TypeId) (zs : List Value) : Prop := (P.info? T).bind (fun i => i.zero.map (fun v => v.cells.toList)) = some zs
theorem does_alloc {o : Oper} {d : Nat} {T : TypeId} {zs : List Value} {ps : List VP} (hz : zeroOf X.P T zs) (hop : o.op = .alloc T) (hd : o.dst = some d) (hlt : decide (d < X.N) = true) (hc : chk X i pre suc d = true) (hr : resOf X i = [(i, .box d T ps)])
    (h : ∀ w, All2 ps zs w) : Does X i pre suc o :=
  does_new hd hlt hc hr fun c a w s => by
    refine ⟨zs, ?_, h w⟩
    unfold zeroOf at hz
    obtain ⟨ti, h1, h2⟩ := Option.bind_eq_some_iff.1 hz
    obtain ⟨v, h3, h4⟩ := Option.map_eq_some_iff.1 h2
    unfold execOp; rw [hop]
    simp [Instr.alloc, zeroValue, typeInfo, h1, h3, newVar, newRow, ptr, ← h4]

/-- field f of a struct type begins at cell off -/
def fieldAt (P : Program) (T : TypeId) (f off : Nat) : Bool :=
  match P.underlying T with
  | some (.struct fs) => match fs[f]? with
    | some fd => fd.offset == off && (match P.info? fd.type with | some i => !(i.size == 0) | none => false)
    | none => false
  | _ => false
theorem run_fieldAt {P : Program} {T : TypeId} {f off o g : Nat} (h : fieldAt P T f off = true) (w : World) : (Instr.fieldAt T (.pointer (some ⟨g, o, none⟩)) f).run P w = .ok (.pointer (some ⟨g, o + off, none⟩)) w := by
  unfold fieldAt at h
  split at h
  · rename_i fs hu
    split at h
    · rename_i fd hf
      simp only [Bool.and_eq_true, beq_iff_eq] at h
      obtain ⟨h1, h2⟩ := h
      split at h2
      · rename_i ti hi
        simp only [Bool.not_eq_true', beq_eq_false_iff_ne, ne_eq] at h2
        simp [Instr.fieldAt, run_underlying hu, hf, Instr.sureAddr, fieldPlace, sizeOf, typeInfo, hi, h2, h1, add_plain]
      · cases h2
    · cases h
  · cases h

/-- pointer operand: into slot k's box, at off -/
def Pt (X : Cx) (i : Nat) (pre suc : List Nat) (x : Operand) (k off : Nat) : Prop := ∀ c a w, Sit X i pre suc c a w → ∃ g, a.tmps[k]? = some (ptr g) ∧ a.eval x = .pointer (some ⟨g, off, none⟩)
theorem pt_box {k : Nat} {T : TypeId} {ps : List VP} (h : Av X i pre suc (.box k T ps)) : Pt X i pre suc (.tmp k) k 0 := fun c a w s => by
  obtain ⟨g, cs, h1, _⟩ := h c a w s
  exact ⟨g, h1, eval_tmp h1⟩

theorem does_field {o : Oper} {d k off off' : Nat} (T : TypeId) (y : Operand) (f fo : Nat) (hf : fieldAt X.P T f fo = true) (hop : o.op = .fieldAddr T y f) (hd : o.dst = some d) (hlt : (decide (d < X.N) && !X.B.contains d) = true) (hk : (d == k) = false) (hc : chk X i pre suc d = true)
    (hr : resOf X i = [(i, .fp d k off')]) (ho : off' = off + fo) (h : Pt X i pre suc y k off) : Does X i pre suc o :=
  does_val hd hlt hc fun c a w s Q K hK => by
    obtain ⟨g, h1, h2⟩ := h c a w s
    unfold Oper.wp execOp
    rw [hop]
    simp only [h2, Sem.run_bind, run_fieldAt hf, Result.andThen_ok, Sem.run_pure]
    show K (a.put o.dst _) w
    rw [hd, ← ho]
    refine hK _ w (Ext.refl w) (res_one hr ⟨g, ?_, put_eq _ ?_⟩)
    · rw [put_ne _ (by simpa using hk)]; exact h1
    · simp only [Bool.and_eq_true, decide_eq_true_eq] at hlt; rw [s.inv.1.1]; exact hlt.1

/-- T is a struct (array) of n cells -/
def aggTy (P : Program) (T : TypeId) (n : Nat) : Bool :=
  (match P.underlying T with | some (.struct _) => true | some (.array _ _) => true | _ => false) && (match P.info? T with | some i => i.size == n | none => false)
/-- T is a type of one cell -/
def oneTy (P : Program) (T : TypeId) : Bool :=
  (match P.underlying T with | some (.struct _) => false | some (.array _ _) => false | some _ => true | _ => false) && (match P.info? T with | some i => i.size == 1 | none => false)
theorem run_isAgg {P : Program} {T : TypeId} {n : Nat} (h : aggTy P T n = true) (w : World) : (isAgg T).run P w = .ok true w := by
  unfold aggTy at h
  simp only [Bool.and_eq_true] at h
  have h := h.1
  split at h
  · rename_i hu; simp [isAgg, run_underlying hu]
  · rename_i hu; simp [isAgg, run_underlying hu]
  · cases h
theorem run_isOne {P : Program} {T : TypeId} (h : oneTy P T = true) (w : World) : (isAgg T).run P w = .ok false w := by
  unfold oneTy at h
  simp only [Bool.and_eq_true] at h
  have h := h.1
  split at h
  · cases h
  · cases h
  · rename_i d hn1 hn2 hu
    simp only [isAgg, Sem.run_bind, run_underlying hu, Result.andThen_ok]
    cases d <;> simp_all
  · cases h
theorem run_sizeAgg {P : Program} {T : TypeId} {n : Nat} (h : aggTy P T n = true) (w : World) : (sizeOf T).run P w = .ok n w := by
  unfold aggTy at h
  simp only [Bool.and_eq_true] at h
  have h := h.2
  split at h
  · rename_i i hi; simp only [beq_iff_eq] at h; simp [sizeOf, typeInfo, hi, h]
  · cases h
theorem run_sizeOne {P : Program} {T : TypeId} (h : oneTy P T = true) (w : World) : (sizeOf T).run P w = .ok 1 w := by
  unfold oneTy at h
  simp only [Bool.and_eq_true] at h
  have h := h.2
  split at h
  · rename_i i hi; simp only [beq_iff_eq] at h; simp [sizeOf, typeInfo, hi, h]
  · cases h
theorem run_loadRow {P : Program} {T T' : TypeId} {n g off : Nat} (h : aggTy P T n = true) {w : World} {cs : List Value} (hr : Row w g T' cs) (hl : off + n ≤ cs.length) :
    (loadVar T ⟨g, off, none⟩).run P w = .ok (.agg ((cs.drop off).take n).toArray) w := by
  have hlen : ((cs.drop off).take n).length = n := by simp; omega
  have := run_loadCells_list (P := P) w ⟨g, off, none⟩ ((cs.drop off).take n) (fun j v hv => by
    rw [add_plain]
    refine hr.cell ?_
    rw [List.getElem?_take] at hv
    split at hv
    · rw [List.getElem?_drop] at hv; exact hv
    · cases hv)
  rw [hlen] at this
  simp [loadVar, run_isAgg h, run_sizeAgg h, this]
theorem run_loadCell {P : Program} {T T' : TypeId} {g off : Nat} (h : oneTy P T = true) {w : World} {cs : List Value} (hr : Row w g T' cs) {v : Value} (hv : cs[off]? = some v) :
    (loadVar T ⟨g, off, none⟩).run P w = .ok v w := by
  simp [loadVar, run_isOne h, hr.cell hv]

theorem does_loadAgg {o : Oper} {d k off : Nat} {T T' : TypeId} {n : Nat} {ps : List VP} (y : Operand) (ht : aggTy X.P T n = true) (hop : o.op = .load T y) (hd : o.dst = some d) (hlt : (decide (d < X.N) && !X.B.contains d) = true) (hc : chk X i pre suc d = true)
    (hr : resOf X i = [(i, .slot d (VP.agg ((ps.drop off).take n)))]) (hl : decide (off + n ≤ ps.length) = true) (hp : Pt X i pre suc y k off) (h : Av X i pre suc (.box k T' ps)) : Does X i pre suc o :=
  does_run hd hlt hc hr fun c a w s => by
    obtain ⟨g, h1, h2⟩ := hp c a w s
    obtain ⟨g', cs, h3, h4, h5⟩ := h c a w s
    rw [h1] at h3
    have : g = g' := by injection h3 with h3; unfold ptr at h3; injection h3 with h3; injection h3 with h3; injection h3
    subst this
    have hlen := h5.len
    have hl' := of_decide_eq_true hl
    refine ⟨_, ?_, ⟨(cs.drop off).take n, rfl, (h5.drop off).take n⟩⟩
    have hrun := run_loadRow (off := off) ht h4 (by omega)
    unfold execOp; rw [hop]
    simp [h2, Instr.loadAt, Instr.sureAddr, hrun]

theorem does_loadOne {o : Oper} {d k off : Nat} {T T' : TypeId} {ps : List VP} {x : VP} (y : Operand) (ht : oneTy X.P T = true) (hop : o.op = .load T y) (hd : o.dst = some d) (hlt : (decide (d < X.N) && !X.B.contains d) = true) (hc : chk X i pre suc d = true)
    (hr : resOf X i = [(i, .slot d x)]) (hx : ps[off]? = some x) (hp : Pt X i pre suc y k off) (h : Av X i pre suc (.box k T' ps)) : Does X i pre suc o :=
  does_run hd hlt hc hr fun c a w s => by
    obtain ⟨g, h1, h2⟩ := hp c a w s
    obtain ⟨g', cs, h3, h4, h5⟩ := h c a w s
    rw [h1] at h3
    have : g = g' := by injection h3 with h3; unfold ptr at h3; injection h3 with h3; injection h3 with h3; injection h3
    subst this
    obtain ⟨v, hv, hpv⟩ := h5.get hx
    refine ⟨v, ?_, hpv⟩
    unfold execOp; rw [hop]
    simp [h2, Instr.loadAt, Instr.sureAddr, run_loadCell ht h4 hv]

/-! ### stores -/
theorem run_storeCell {P : Program} {T T' : TypeId} {g off : Nat} (n : Nat) {w : World} {cs : List Value} (hr : Row w g T' cs) {v : Value} (hs : (sizeOf T).run P w = .ok n w) (hn : v.cells.size = n) (hl : off + n ≤ cs.length) (h1 : ∀ u ∈ v.cells.toList, u.oneCell' = true) :
    (storeVar T ⟨g, off, none⟩ v).run P w = .ok () (w.setRow g (cs.take off ++ v.cells.toList ++ cs.drop (off + n)).toArray) := by
  have h2 := run_storeCells_at (P := P) g off T' v.cells.toList 0 cs.toArray w hr (by simp; omega) h1
  simp only [Nat.add_zero, Array.length_toList, hn] at h2
  simp [storeVar, hs, hn, h2]

theorem setRow_row {w : World} {g : Nat} {T : TypeId} {cs : List Value} (hr : Row w g T cs) (ds : List Value) : Row (w.setRow g ds.toArray) g T ds := setRow_heap w g cs.toArray ds.toArray T (0, 0) hr
theorem setRow_far {w : World} {g b : Nat} (ds : Array Value) (h : b ≠ g) : (w.setRow g ds).heap[b]? = w.heap[b]? := by
  unfold World.setRow
  simp [Array.getElem?_modify, Ne.symm h]
theorem setRow_size {w : World} {g : Nat} (ds : Array Value) : (w.setRow g ds).heap.size = w.heap.size := by
  unfold World.setRow; simp
/-! ### len; comparisons -/
theorem does_len {o : Oper} {d : Nat} {k : IntKind} {l : List Nat} (T : TypeId) (y : Operand) (ht : (match X.P.underlying T with | some (.slice _) => true | _ => false) = true) (hop : o.op = .call { callee := .builtin .len, args := #[y], argTypes := #[T] }) (hd : o.dst = some d) (hlt : (decide (d < X.N) && !X.B.contains d) = true) (hc : chk X i pre suc d = true)
    (hr : resOf X i = [(i, .slot d (VP.int .i64 (l.length : Nat)))]) (h : Ar X i pre suc y (VP.nums k l).p) : Does X i pre suc o :=
  does_run hd hlt hc hr fun c a w s => by
    obtain ⟨ad, cp, h1, _⟩ := h c a w s
    split at ht
    · rename_i e hu
      refine ⟨.int .i64 (l.length : Nat), ?_, rfl⟩
      unfold execOp; rw [hop]
      simp [resolve, invoke, builtin, Builtin.len_, run_underlying hu, h1, goInt]
    · cases ht
theorem does_cmp {o : Oper} {d : Nat} {m n : Int} {b : Bool} (op : BinOp) (T T' : TypeId) (y z : Operand) (hop : o.op = .binOp op T y z T') (hd : o.dst = some d) (hlt : (decide (d < X.N) && !X.B.contains d) = true) (hc : chk X i pre suc d = true)
    (hr : resOf X i = [(i, .slot d (VP.bool b))])
    (hb : (match op with | .eql => some (m == n) | .neq => some (m != n) | .lss => some (decide (m < n)) | .leq => some (decide (m ≤ n)) | .gtr => some (decide (m > n)) | .geq => some (decide (m ≥ n)) | _ => none) = some b)
    (k : IntKind) (h1 : Ar X i pre suc y (VP.int k m).p) (h2 : Ar X i pre suc z (VP.int k n).p) : Does X i pre suc o :=
  does_run hd hlt hc hr fun c a w s => by
    have e1 : a.eval y = .int k m := h1 c a w s
    have e2 : a.eval z = .int k n := h2 c a w s
    refine ⟨.bool b, ?_, rfl⟩
    unfold execOp; rw [hop]
    cases op <;> simp at hb <;> (subst hb; simp [e1, e2, eqGuard, binOp, Op.intCmp])
theorem does_eqStr {o : Oper} {d : Nat} {u v : ByteArray} {b : Bool} (op : BinOp) (T T' : TypeId) (y z : Operand) (hop : o.op = .binOp op T y z T') (hd : o.dst = some d) (hlt : (decide (d < X.N) && !X.B.contains d) = true) (hc : chk X i pre suc d = true)
    (hr : resOf X i = [(i, .slot d (VP.bool b))])
    (hb : (match op with | .eql => some (u.toList == v.toList) | .neq => some (!(u.toList == v.toList)) | _ => none) = some b)
    (h1 : Ar X i pre suc y (VP.str u).p) (h2 : Ar X i pre suc z (VP.str v).p) : Does X i pre suc o :=
  does_run hd hlt hc hr fun c a w s => by
    have e1 : a.eval y = .string u := h1 c a w s
    have e2 : a.eval z = .string v := h2 c a w s
    refine ⟨.bool b, ?_, rfl⟩
    unfold execOp; rw [hop]
    cases op <;> first
      | (cases hb; done)
      | (have hb' := Option.some.inj hb; subst hb'; simp [e1, e2, eqGuard, binOp, Op.stringOp])
end
end Go.Proofs.Ytapmngmpomhjmaa

/- The logic over slots and boxes: structs and slices that are built. -/
namespace Go.Proofs.Ytapmngmpomhjmaa
open Go.RowKit

theorem fold_set (off : Nat) : ∀ (vs : List Value) (k : Nat) (cs : Array Value), off + k + vs.length ≤ cs.size →
    (vs.zipIdx k).foldl (fun (cs : Array Value) (x : Value × Nat) => cs.setIfInBounds (off + x.2) x.1) cs = (cs.toList.take (off + k) ++ vs ++ cs.toList.drop (off + k + vs.length)).toArray
  | [], k, cs, _ => by simp
  | v :: vs, k, cs, h => by
    simp only [List.length_cons] at h
    rw [List.zipIdx_cons, List.foldl_cons, fold_set off vs (k + 1) _ (by simp; omega)]
    simp only [Array.toList_setIfInBounds, List.length_cons]
    congr 1
    have h1 : (cs.toList.set (off + k) v).take (off + (k + 1)) = cs.toList.take (off + k) ++ [v] := by
      rw [show off + (k + 1) = off + k + 1 by omega, List.take_succ_eq_append_getElem (by simp; omega)]
      simp [List.take_set_of_le]
    have h2 : (cs.toList.set (off + k) v).drop (off + (k + 1) + vs.length) = cs.toList.drop (off + k + (vs.length + 1)) := by
      rw [List.drop_set_of_lt (by omega)]
      congr 1; omega
    rw [h1, h2]
    simp
theorem fold_set' (off : Nat) (vs : Array Value) (cs : Array Value) (h : off + vs.size ≤ cs.size) :
    vs.zipIdx.foldl (fun (cs : Array Value) (x : Value × Nat) => cs.setIfInBounds (off + x.2) x.1) cs = (cs.toList.take off ++ vs.toList ++ cs.toList.drop (off + vs.size)).toArray := by
  have := fold_set off vs.toList 0 cs (by simpa using h)
  rw [← Array.foldl_toList]
  simpa using this

def spl (ps : List VP) (off : Nat) (qs : List VP) : List VP := ps.take off ++ qs ++ ps.drop (off + qs.length)
/-- a value of n cells -/
def cellsAre (qs : List VP) (v : Value) (w : World) : Prop := v.cells.size = qs.length ∧ All2 qs v.cells.toList w

inductive Parts (X : Cx) (i : Nat) (pre suc : List Nat) (place : Nat → Option (Nat × Nat)) : List (Nat × Operand) → List VP → List VP → Prop where
  | nil (ps : List VP) : Parts X i pre suc place [] ps ps
  | cons {f : Nat} {x : Operand} {rest : List (Nat × Operand)} {ps ps' : List VP} (off : Nat) (qs : List VP) (hp : place f = some (off, qs.length)) (hl : decide (off + qs.length ≤ ps.length) = true) (hx : Ar X i pre suc x (cellsAre qs))
      (h : Parts X i pre suc place rest (spl ps off qs) ps') : Parts X i pre suc place ((f, x) :: rest) ps ps'

section
variable {X : Cx} {i : Nat} {pre suc : List Nat}
theorem parts_fill {place : Nat → Option (Nat × Nat)} {c : Nat → Bool} {a : Act} {w : World} (s : Sit X i pre suc c a w) : ∀ {parts : List (Nat × Operand)} {ps ps' : List VP}, Parts X i pre suc place parts ps ps' → ∀ (cs : List Value), All2 ps cs w →
    ∃ ds : List Value, Instr.fill place cs.toArray (parts.map fun x => (x.1, a.eval x.2)) = some ds.toArray ∧ All2 ps' ds w := by
  intro parts ps ps' h
  induction h with
  | nil ps => intro cs hc; exact ⟨cs, rfl, hc⟩
  | cons off qs hp hl hx h ih =>
    intro cs hc
    obtain ⟨h1, h2⟩ := hx c a w s
    have hl := of_decide_eq_true hl
    have hlen := hc.len
    obtain ⟨ds, e1, e2⟩ := ih (cs.take off ++ (a.eval _).cells.toList ++ cs.drop (off + qs.length)) (((hc.take off).app h2).app (hc.drop _))
    refine ⟨ds, ?_, e2⟩
    rw [List.map_cons]
    unfold Instr.fill
    simp only [hp, h1]
    rw [if_neg (by simp; omega)]
    have := fold_set' off (a.eval _).cells cs.toArray (by rw [h1]; simp; omega)
    rw [h1] at this
    rw [← e1]
    congr 1

/-- where a struct's fields lie -/
def placesOf (P : Program) (T : TypeId) (pl : Array (Nat × Nat)) : Prop :=
  ∃ fs, P.underlying T = some (.struct fs) ∧ ∀ w, (fs.mapM fun f => (do pure (f.offset, ← sizeOf f.type) : Sem (Nat × Nat))).run P w = .ok pl w

theorem does_build {o : Oper} {d : Nat} {T : TypeId} {parts : Array (Nat × Operand)} {zs : List Value} {pl : Array (Nat × Nat)} {ps : List VP} (ps0 : List VP) (hz : zeroOf X.P T zs) (hpl : placesOf X.P T pl) (hop : o.op = .build T parts) (hd : o.dst = some d) (hlt : (decide (d < X.N) && !X.B.contains d) = true) (hc : chk X i pre suc d = true)
    (hr : resOf X i = [(i, .slot d (VP.agg ps))]) (h0 : ∀ w, All2 ps0 zs w) (h : Parts X i pre suc (fun f => pl[f]?) parts.toList ps0 ps) : Does X i pre suc o :=
  does_run hd hlt hc hr fun c a w s => by
    obtain ⟨ds, e1, e2⟩ := parts_fill s h zs (h0 w)
    refine ⟨.agg ds.toArray, ?_, ⟨ds, rfl, e2⟩⟩
    obtain ⟨fs, hu, hm⟩ := hpl
    unfold zeroOf at hz
    obtain ⟨ti, h1, h2⟩ := Option.bind_eq_some_iff.1 hz
    obtain ⟨v, h3, h4⟩ := Option.map_eq_some_iff.1 h2
    have hz' : (zeroValue T).run X.P w = .ok v w := by simp [zeroValue, typeInfo, h1, h3]
    have hcs : v.cells = zs.toArray := by rw [← h4]
    unfold execOp; rw [hop]
    have hpt : (Array.map (fun x => (x.1, a.eval x.2)) parts).toList = parts.toList.map (fun x => (x.1, a.eval x.2)) := by simp
    have hb : (Instr.build T (parts.map fun x => (x.1, a.eval x.2))).run X.P w = .ok (.agg ds.toArray) w := by
      unfold Instr.build
      simp only [Sem.run_bind, hz', Result.andThen_ok, run_underlying hu, hm w, hpt, hcs, e1, Sem.run_pure]
    have hb' : (Instr.build T (parts.map fun (i, x) => (i, a.eval x))).run X.P w = .ok (.agg ds.toArray) w := hb
    simp only [Sem.run_bind, hb', Result.andThen_ok, Sem.run_pure]

theorem run_eqBool {P : Program} (w : World) (d : Nat) {T : TypeId} (hu : P.underlying T = some .bool) (u v : Bool) : (Op.equalIn (d + 1) T (.bool u) (.bool v)).run P w = .ok (u == v) w := by
  simp [Op.equalIn, run_underlying hu]
theorem run_eqlBool {P : Program} (w : World) {T : TypeId} (hu : P.underlying T = some .bool) (u v : Bool) : (binOp .eql T (.bool u) (.bool v)).run P w = .ok (.bool (u == v)) w := by
  simp only [binOp]
  simp [Op.equal, Op.maxDepth, run_eqBool w 9999 hu]
theorem run_neqBool {P : Program} (w : World) {T : TypeId} (hu : P.underlying T = some .bool) (u v : Bool) : (binOp .neq T (.bool u) (.bool v)).run P w = .ok (.bool (!(u == v))) w := by
  simp only [binOp]
  simp [Op.equal, Op.maxDepth, run_eqBool w 9999 hu]
theorem does_eqBool {o : Oper} {d : Nat} {u v b : Bool} (op : BinOp) (T T' : TypeId) (y z : Operand) (hu : X.P.underlying T = some .bool) (hop : o.op = .binOp op T y z T') (hd : o.dst = some d) (hlt : (decide (d < X.N) && !X.B.contains d) = true) (hc : chk X i pre suc d = true)
    (hr : resOf X i = [(i, .slot d (VP.bool b))]) (hb : (match op with | .eql => some (u == v) | .neq => some (!(u == v)) | _ => none) = some b)
    (h1 : Ar X i pre suc y (VP.bool u).p) (h2 : Ar X i pre suc z (VP.bool v).p) : Does X i pre suc o :=
  does_run hd hlt hc hr fun c a w s => by
    have e1 : a.eval y = .bool u := h1 c a w s
    have e2 : a.eval z = .bool v := h2 c a w s
    refine ⟨.bool b, ?_, rfl⟩
    unfold execOp; rw [hop]
    cases op <;> first
      | (cases hb; done)
      | (have hb' := Option.some.inj hb; subst hb'; simp [e1, e2, eqGuard, run_eqlBool w hu, run_neqBool w hu])
end
end Go.Proofs.Ytapmngmpomhjmaa

/- The logic over slots and boxes: regions in whatever order, and code. -/
namespace Go.Proofs.Ytapmngmpomhjmaa
open Go.RowKit

def preOf (o : Oper) : List Nat := (o.after.toList.filter (fun e => Region.binds .any e)).map (·.on)
/-- and what comes ahead of these -/
def pre2 (ops : List Oper) (o : Oper) : List Nat := preOf o ++ (preOf o).flatMap fun j => match ops[j]? with | some p => preOf p | none => []
def sucOf (ops : List Oper) (i : Nat) : List Nat := (List.range ops.length).filter fun j => match ops[j]? with | some o => (preOf o).contains i | none => false
/-- edges lead back -/
def seqB (ops : List Oper) : Bool := (List.range ops.length).all fun j => match ops[j]? with | some o => (preOf o).all (fun i => decide (i < j)) | none => true

/-- the operation runs -/
def Wants (X : Cx) (ops : List Oper) (i : Nat) (pre suc : List Nat) (o : Oper) : Prop := ∀ c a w, Sit X i pre suc c a w → Region.wanted o (yielded ops.toArray a.tmps) = true
/-- the operation is passed by -/
def Skips (X : Cx) (ops : List Oper) (i : Nat) (pre suc : List Nat) (o : Oper) : Prop := ∀ c a w, Sit X i pre suc c a w → Region.wanted o (yielded ops.toArray a.tmps) = false ∧ Inv X (upd c i) (a.put o.dst undef) w
def Rule (X : Cx) (ops : List Oper) (i : Nat) (o : Oper) : Prop :=
  (Wants X ops i (pre2 ops o) (sucOf ops i) o ∧ Does X i (pre2 ops o) (sucOf ops i) o) ∨ Skips X ops i (pre2 ops o) (sucOf ops i) o
def Rules (X : Cx) (ops : List Oper) : List Oper → Nat → Prop
  | [], _ => True
  | o :: os, i => Rule X ops i o ∧ Rules X ops os (i + 1)
theorem Rules.get {X : Cx} {ops : List Oper} : ∀ {os : List Oper} {k : Nat}, Rules X ops os k → ∀ {j : Nat} {o : Oper}, os[j]? = some o → Rule X ops (k + j) o
  | [], _, _, j, _, h => by simp at h
  | o :: _, k, h, 0, x, hx => by simp at hx; subst hx; exact h.1
  | _ :: _, k, h, j + 1, x, hx => by
    have := Rules.get h.2 (j := j) (o := x) (by simpa using hx)
    rwa [show k + 1 + j = k + (j + 1) by omega] at this

section
variable {X : Cx} {ops : List Oper}
theorem wants_plain {i : Nat} {pre suc : List Nat} {o : Oper} (h : o.guard = none) : Wants X ops i pre suc o := fun c a w _ => by simp [Region.wanted, h]
theorem yielded_of {o : Oper} {g t : Nat} (ho : ops[g]? = some o) (hd : o.dst = some t) {a : Act} {b : Bool} (h : a.tmps[t]? = some (.bool b)) : yielded ops.toArray a.tmps g = some b := by
  unfold yielded
  have : (ops.toArray)[g]? = some o := by simpa using ho
  simp [this, hd, h]
theorem wants_guard {i : Nat} {pre suc : List Nat} {o og : Oper} {g t : Nat} (b : Bool) (h : o.guard = some (g, b)) (ho : ops[g]? = some og) (hd : og.dst = some t) (hv : Av X i pre suc (.slot t (VP.bool b))) : Wants X ops i pre suc o := fun c a w s => by
  obtain ⟨v, h1, h2⟩ := hv c a w s
  have h2 : v = .bool b := h2
  subst h2
  simp [Region.wanted, h, yielded_of ho hd h1]
/-- what a slot holds whose operation was passed by -/
def VP.undef : VP := ⟨fun v _ => v = Go.undef, false, fun _ _ _ h _ => h, fun h => (by cases h), false, fun h => (by cases h), true, fun _ _ _ _ h => h⟩
theorem skips_guardU {i d : Nat} {pre suc : List Nat} {o og : Oper} {g t : Nat} (b : Bool) (h : o.guard = some (g, !b)) (ho : ops[g]? = some og) (hd : og.dst = some t) (hv : Av X i pre suc (.slot t (VP.bool b))) (hod : o.dst = some d)
    (hlt : (decide (d < X.N) && !X.B.contains d) = true) (hc : chk X i pre suc d = true) (hr : resOf X i = [(i, .slot d VP.undef)]) : Skips X ops i pre suc o := fun c a w s => by
  obtain ⟨v, h1, h2⟩ := hv c a w s
  have h2 : v = .bool b := h2
  subst h2
  refine ⟨by cases b <;> simp [Region.wanted, h, yielded_of ho hd h1], ?_⟩
  rw [hod]
  have hlt' := hlt
  simp only [Bool.and_eq_true, decide_eq_true_eq] at hlt
  exact inv_put s (Ext.refl w) (s.inv.1.put (by simpa using hlt.2) Go.undef (Ext.refl w)) hc (res_one hr (slot_put s.inv.1.1 hlt' rfl))
theorem skips_undefU {i d : Nat} {pre suc : List Nat} {o og : Oper} {g t : Nat} (b : Bool) (h : o.guard = some (g, b)) (ho : ops[g]? = some og) (hd : og.dst = some t) (hv : Av X i pre suc (.slot t VP.undef)) (hod : o.dst = some d)
    (hlt : (decide (d < X.N) && !X.B.contains d) = true) (hc : chk X i pre suc d = true) (hr : resOf X i = [(i, .slot d VP.undef)]) : Skips X ops i pre suc o := fun c a w s => by
  obtain ⟨v, h1, h2⟩ := hv c a w s
  have h2 : v = Go.undef := h2
  subst h2
  have hy : yielded ops.toArray a.tmps g = none := by
    unfold yielded
    have : (ops.toArray)[g]? = some og := by simpa using ho
    simp [this, hd, h1, Go.undef]
  refine ⟨by simp [Region.wanted, h, hy], ?_⟩
  rw [hod]
  have hlt' := hlt
  simp only [Bool.and_eq_true, decide_eq_true_eq] at hlt
  exact inv_put s (Ext.refl w) (s.inv.1.put (by simpa using hlt.2) Go.undef (Ext.refl w)) hc (res_one hr (slot_put s.inv.1.1 hlt' rfl))

theorem rule_op {Q : Exit → Act → World → Prop} {i : Nat} {o : Oper} (ho : ops[i]? = some o) (hr : Rule X ops i o) {c : Nat → Bool} {a : Act} {w : World} (s : Sit X i (pre2 ops o) (sucOf ops i) c a w) {K : Act → World → Prop} (hK : ∀ a' w', Inv X (upd c i) a' w' → K a' w') :
    wpOp X.P ops.toArray Q i K a w := by
  unfold wpOp
  have : (ops.toArray)[i]? = some o := by simpa using ho
  rw [this]
  simp only
  rcases hr with ⟨h1, h2⟩ | h
  · rw [if_pos (h1 c a w s)]
    exact .inl (h2 c a w s Q K hK)
  · obtain ⟨h1, h2⟩ := h c a w s
    rw [if_neg (by rw [h1]; exact Bool.false_ne_true)]
    exact hK _ _ h2

theorem pre_lt (hq : seqB ops = true) {i : Nat} {o : Oper} (ho : ops[i]? = some o) : ∀ j ∈ preOf o, j < i := by
  intro j hj
  unfold seqB at hq
  rw [List.all_eq_true] at hq
  have := hq i (List.mem_range.2 (List.getElem?_eq_some_iff.1 ho).1)
  rw [ho] at this
  simp only [List.all_eq_true, decide_eq_true_eq] at this
  exact this j hj
theorem mem_pre2 {o : Oper} {j : Nat} (h : j ∈ pre2 ops o) : j ∈ preOf o ∨ ∃ k p, k ∈ preOf o ∧ ops[k]? = some p ∧ j ∈ preOf p := by
  unfold pre2 at h
  rw [List.mem_append] at h
  rcases h with h | h
  · exact .inl h
  · rw [List.mem_flatMap] at h
    obtain ⟨k, hk, h⟩ := h
    cases ho : ops[k]? with
    | none => rw [ho] at h; cases h
    | some p => rw [ho] at h; exact .inr ⟨k, p, hk, ho, h⟩
theorem pre2_lt (hq : seqB ops = true) {i : Nat} {o : Oper} (ho : ops[i]? = some o) : ∀ j ∈ pre2 ops o, j < i := by
  intro j hj
  rcases mem_pre2 hj with h | ⟨k, p, h1, h2, h3⟩
  · exact pre_lt hq ho j h
  · have := pre_lt hq ho k h1
    have := pre_lt hq h2 j h3
    omega
theorem suc_spec {i j : Nat} (h : j ∈ sucOf ops i) : ∃ o, ops[j]? = some o ∧ i ∈ preOf o := by
  unfold sucOf at h
  rw [List.mem_filter] at h
  obtain ⟨h1, h2⟩ := h
  cases ho : ops[j]? with
  | none => rw [ho] at h2; cases h2
  | some o => rw [ho] at h2; exact ⟨o, rfl, by simpa using h2⟩

/-- in the order of the text -/
theorem seq_ok {Q : Exit → Act → World → Prop} (hq : seqB ops = true) (hr : Rules X ops ops 0) (fin : ∀ a w, Inv X (fun j => decide (j < ops.length)) a w → Q .normal a w) :
    ∀ (m k : Nat), k + m = ops.length → ∀ a w, Inv X (fun j => decide (j < k)) a w → wpOps X.P ops.toArray Q (List.range' k m) a w := by
  intro m
  induction m with
  | zero =>
    intro k hk a w hi
    obtain rfl : k = ops.length := by omega
    exact fin a w hi
  | succ m ih =>
    intro k hk a w hi
    have hlt : k < ops.length := by omega
    rw [List.range'_succ, wpOps_cons]
    have ho : ops[k]? = some ops[k] := List.getElem?_eq_getElem hlt
    have hrk := hr.get ho
    rw [Nat.zero_add] at hrk
    refine rule_op ho hrk ⟨by simp, fun j hj => by simpa using pre2_lt hq ho j hj, fun j hj => ?_, hi⟩ fun a' w' hi' => ih (k + 1) (by omega) a' w' ?_
    · obtain ⟨o, h1, h2⟩ := suc_spec hj
      have := pre_lt hq h1 k h2
      simp; omega
    · have : upd (fun j => decide (j < k)) k = fun j => decide (j < k + 1) := by
        funext j
        unfold upd
        by_cases e : j = k
        · subst e; simp
        · rw [if_neg e]
          show decide (j < k) = decide (j < k + 1)
          by_cases h : j < k
          · rw [decide_eq_true h, decide_eq_true (by omega)]
          · rw [decide_eq_false h, decide_eq_false (by omega)]
      rwa [this] at hi'

def cOf (listed : Array Bool) : Nat → Bool := fun i => listed.getD i false
theorem cOf_set {listed : Array Bool} {i : Nat} (h : i < listed.size) : cOf (listed.setIfInBounds i true) = upd (cOf listed) i := by
  funext j
  unfold cOf upd
  by_cases e : j = i
  · subst e; rw [if_pos rfl]; simp [h]
  · rw [if_neg e, getD_set_ne false (Ne.symm e)]
/-- how many have not come up -/
def left (listed : Array Bool) : Nat := listed.toList.countP (fun b => !b)
theorem left_set {listed : Array Bool} {i : Nat} (h : i < listed.size) (hf : listed.getD i true = false) : left (listed.setIfInBounds i true) + 1 = left listed := by
  unfold left
  have hg : listed.toList[i] = false := by simpa [h] using hf
  rw [Array.toList_setIfInBounds, List.countP_set (by simpa using h)]
  have : 0 < listed.toList.countP (fun b => !b) := by
    rw [List.countP_pos_iff]
    exact ⟨false, by rw [← hg]; exact List.getElem_mem _, rfl⟩
  rw [hg]
  simp only [Bool.not_false, if_true, Bool.not_true, Bool.false_eq_true, if_false]
  omega
theorem ready_lt {listed : Array Bool} (_hs : listed.size = ops.length) {i : Nat} (h : listed.getD i true = false) : i < listed.size := by
  by_cases hh : i < listed.size
  · exact hh
  · simp [hh] at h
/-- where nothing may come up all has come up -/
theorem all_up (hq : seqB ops = true) {listed : Array Bool} (hs : listed.size = ops.length) (h : Region.ready .any ops.toArray listed = []) : ∀ i, i < ops.length → cOf listed i = true := by
  intro i
  induction i using Nat.strongRecOn with
  | ind i ih =>
    intro hi
    cases hc : cOf listed i with
    | true => rfl
    | false =>
      exfalso
      have hl : listed.getD i true = false := by
        unfold cOf at hc
        have : i < listed.size := by omega
        simpa [this] using hc
      have : i ∈ Region.ready .any ops.toArray listed := by
        rw [mem_ready]
        refine ⟨hl, ops[i], by simp [hi], fun e he hb => ?_⟩
        have hj : e.on ∈ preOf ops[i] := by
          unfold preOf
          rw [List.mem_map]
          exact ⟨e, by rw [List.mem_filter]; exact ⟨by simpa using he, hb⟩, rfl⟩
        have hlt := pre_lt hq (List.getElem?_eq_getElem hi) _ hj
        exact ih _ hlt (by omega)
      rw [h] at this
      cases this
theorem any_ok {Q : Exit → Act → World → Prop} (hq : seqB ops = true) (hr : Rules X ops ops 0) (fin : ∀ a w c, (∀ i, i < ops.length → c i = true) → Inv X c a w → Q .normal a w) :
    ∀ (fuel : Nat) (listed : Array Bool), listed.size = ops.length → (∀ i o, ops[i]? = some o → cOf listed i = true → ∀ j ∈ preOf o, cOf listed j = true) → left listed ≤ fuel → ∀ a w, Inv X (cOf listed) a w → wpAny X.P .any ops.toArray Q fuel listed a w := by
  intro fuel
  induction fuel with
  | zero =>
    intro listed hs hcl hle a w hi
    have hall : ∀ i, i < ops.length → cOf listed i = true := by
      intro i hlt
      cases hc : cOf listed i with
      | true => rfl
      | false =>
        exfalso
        have h2 : i < listed.size := by omega
        have : 0 < left listed := by
          unfold left
          rw [List.countP_pos_iff]
          exact ⟨false, by unfold cOf at hc; rw [← hc]; simp [h2], rfl⟩
        omega
    refine ⟨?_, fin a w _ hall hi⟩
    apply List.eq_nil_iff_forall_not_mem.2
    intro i hm
    rw [mem_ready] at hm
    have h2 := ready_lt (ops := ops) hs hm.1
    have := hall i (by omega)
    unfold cOf at this
    have h1 := hm.1
    simp [h2] at h1 this
    rw [h1] at this; cases this
  | succ fuel ih =>
    intro listed hs hcl hle a w hi
    refine ⟨fun hn => fin a w _ (all_up hq hs hn) hi, fun i hm => ?_⟩
    rw [mem_ready] at hm
    obtain ⟨h1, o, h2, h3⟩ := hm
    have ho : ops[i]? = some o := by simpa using h2
    have hlt := ready_lt (ops := ops) hs h1
    have hrk := hr.get ho
    rw [Nat.zero_add] at hrk
    have hme : cOf listed i = false := by unfold cOf; simpa [hlt] using h1
    have hpre : ∀ j ∈ preOf o, cOf listed j = true := by
      intro j hj
      unfold preOf at hj
      rw [List.mem_map] at hj
      obtain ⟨e, he, rfl⟩ := hj
      rw [List.mem_filter] at he
      exact h3 e (by simpa using he.1) he.2
    refine rule_op ho hrk ⟨hme, fun j hj => by
      rcases mem_pre2 hj with h | ⟨k, p, h1, h2, h3⟩
      · exact hpre j h
      · exact hcl k p h2 (hpre k h1) j h3, fun j hj => ?_, hi⟩ fun a' w' hi' => ih _ (by simp [hs]) ?_ ?_ a' w' (by rw [cOf_set hlt]; exact hi')
    · obtain ⟨oj, h4, h5⟩ := suc_spec hj
      cases hc : cOf listed j with
      | false => rfl
      | true =>
        have := hcl j oj h4 hc i h5
        rw [hme] at this; cases this
    · intro k ok hk hck j hj
      rw [cOf_set hlt] at hck ⊢
      unfold upd at hck ⊢
      by_cases e : j = i
      · rw [if_pos e]
      · rw [if_neg e]
        by_cases ek : k = i
        · subst ek
          rw [ho] at hk
          injection hk with hk
          subst hk
          exact hpre j hj
        · rw [if_neg ek] at hck
          exact hcl k ok hk hck j hj
    · have := left_set hlt h1
      omega

/-- what is known behind a region -/
def After (X : Cx) (a : Act) (w : World) : Prop := Base X.w0 X.N X.B a w ∧ (∀ f ∈ X.fs, f.holds X.w0 a w) ∧ (∀ x ∈ X.rs, x.2.holds X.w0 a w)
theorem region_ok {Q : Exit → Act → World → Prop} {id : Nat} {draw : Bool} (hm : X.P.follows .mixedOrders = true) (hq : (seqB ops && X.rs.all (fun x => decide (x.1 < ops.length))) = true) (hr : Rules X ops ops 0) {a : Act} {w : World}
    (hb : Base X.w0 X.N X.B a w) (hf : ∀ f ∈ X.fs, f.holds X.w0 a w) (ho : ∀ x ∈ X.os, x.2.holds X.w0 a w) (fin : ∀ a w, After X a w → Q .normal a w) : (Code.region id ops.toArray draw).wp X.P Q a w := by
  simp only [Bool.and_eq_true] at hq
  obtain ⟨hq, hrs⟩ := hq
  rw [List.all_eq_true] at hrs
  cases draw with
  | false =>
    refine wp_region ?_
    have := seq_ok (Q := Q) hq hr (fun a w hi => fin a w ⟨hi.1, hi.2.1, fun x hx => hi.2.2.2.1 x hx (by simpa using hrs x hx)⟩) ops.length 0 (by omega) a w ⟨hb, hf, fun x hx _ => ho x hx, fun x hx hc => by simp at hc, fun x hx hc => by simp at hc⟩
    rw [List.range_eq_range']
    simpa using this
  | true =>
    refine wp_region_any hm ?_
    have h0 : cOf (Array.replicate ops.toArray.size false) = fun _ => false := by
      funext i
      unfold cOf
      by_cases h : i < ops.length <;> simp [h]
    refine any_ok (Q := Q) hq hr (fun a w c hc hi => fin a w ⟨hi.1, hi.2.1, fun x hx => hi.2.2.2.1 x hx (hc _ (by simpa using hrs x hx))⟩) ops.toArray.size _ (by simp) (fun i o _ hc => by rw [h0] at hc; cases hc) (by
      unfold left
      exact Nat.le_trans List.countP_le_length (by simp)) a _ ?_
    rw [h0]
    have e : Ext w { w with drawn := w.drawn + 1 } := (Ext.refl w).drew
    exact ⟨hb.ext e, fun f hx => fact_ext (hf f hx) e, fun x hx _ => fact_ext (ho x hx) e, fun x hx hc => (by cases hc), fun x hx hc => (by cases hc)⟩
end
end Go.Proofs.Ytapmngmpomhjmaa

/- The logic over slots and boxes: code, functions. -/
namespace Go.Proofs.Ytapmngmpomhjmaa
open Go.RowKit

structure Fr where
  P : Program
  w0 : World
  N : Nat
  B : List Nat
/-- these facts stand -/
def Fs (F : Fr) (fs : List Fact) (a : Act) (w : World) : Prop := Base F.w0 F.N F.B a w ∧ ∀ f ∈ fs, f.holds F.w0 a w
def T (F : Fr) (fs : List Fact) (c : Code) (Q : Exit → Act → World → Prop) : Prop := ∀ a w, Fs F fs a w → c.wp F.P Q a w
def Nx (F : Fr) (fs : List Fact) (Q : Exit → Act → World → Prop) : Prop := ∀ a w, Fs F fs a w → Q .normal a w
def Rt (F : Fr) (fs : List Fact) (Q : Exit → Act → World → Prop) : Prop := ∀ a w, Fs F fs a w → Q .ret a w
def Ex (F : Fr) (fs : List Fact) (id : Nat) (Q : Exit → Act → World → Prop) : Prop := ∀ a w, Fs F fs a w → Q (.exit id) a w

section
variable {F : Fr} {fs : List Fact} {Q : Exit → Act → World → Prop}
theorem fs_sub {fs' : List Fact} {a : Act} {w : World} (idx : List Nat) (h : idx.map (fun n => fs[n]?) = fs'.map some) (hf : Fs F fs a w) : Fs F fs' a w := by
  refine ⟨hf.1, fun f hm => ?_⟩
  have : some f ∈ idx.map (fun n => fs[n]?) := by rw [h]; exact List.mem_map.2 ⟨f, hm, rfl⟩
  obtain ⟨n, _, hn⟩ := List.mem_map.1 this
  exact hf.2 f (List.mem_of_getElem? hn)
theorem t_seq {x y : Code} (h : T F fs x (Exit.then (fun a w => y.wp F.P Q a w) Q)) : T F fs (.seq x y) Q := fun a w hf => wp_seq (h a w hf)
theorem nx_then {y : Code} (h : T F fs y Q) : Nx F fs (Exit.then (fun a w => y.wp F.P Q a w) Q) := h
theorem rt_then {K : Act → World → Prop} (h : Rt F fs Q) : Rt F fs (Exit.then K Q) := h
theorem ex_then {K : Act → World → Prop} {id : Nat} (h : Ex F fs id Q) : Ex F fs id (Exit.then K Q) := h
theorem t_skip (h : Nx F fs Q) : T F fs .skip Q := fun a w hf => wp_skip (h a w hf)
theorem t_ret (h : Rt F fs Q) : T F fs .ret Q := fun a w hf => wp_ret (h a w hf)
theorem t_exit {id : Nat} (h : Ex F fs id Q) : T F fs (.exit id) Q := fun a w hf => wp_exit (h a w hf)
theorem t_block {id : Nat} {c : Code} (h : T F fs c (Exit.inBlock id Q)) : T F fs (.block id c) Q := fun a w hf => wp_block (h a w hf)
theorem nx_block {id : Nat} (h : Nx F fs Q) : Nx F fs (Exit.inBlock id Q) := h
theorem rt_block {id : Nat} (h : Rt F fs Q) : Rt F fs (Exit.inBlock id Q) := h
theorem ex_block {id : Nat} (h : Nx F fs Q) : Ex F fs id (Exit.inBlock id Q) := fun a w hf => by
  show (if id = id then Q .normal a w else Q (.exit id) a w)
  rw [if_pos rfl]; exact h a w hf
theorem t_cond (n : Nat) {k : Nat} (b : Bool) {x y : Code} (hs : fs[n]? = some (.slot k (VP.bool b))) (h : T F fs (if b then x else y) Q) : T F fs (.cond (.tmp k) x y) Q := fun a w hf => by
  obtain ⟨v, h1, h2⟩ := hf.2 _ (List.mem_of_getElem? hs)
  have h2 : v = .bool b := h2
  subst h2
  exact wp_cond (eval_tmp h1) (h a w hf)
theorem t_cond_t (n : Nat) {k : Nat} {x y : Code} (hs : fs[n]? = some (.slot k (VP.bool true))) (h : T F fs x Q) : T F fs (.cond (.tmp k) x y) Q := t_cond n true hs h
theorem t_cond_f (n : Nat) {k : Nat} {x y : Code} (hs : fs[n]? = some (.slot k (VP.bool false))) (h : T F fs y Q) : T F fs (.cond (.tmp k) x y) Q := t_cond n false hs h

theorem t_cond_te (n : Nat) {k : Nat} {b : Bool} {x y : Code} (hs : fs[n]? = some (.slot k (VP.bool b))) (e : b = true) (h : T F fs x Q) : T F fs (.cond (.tmp k) x y) Q := by subst e; exact t_cond n true hs h
theorem t_cond_fe (n : Nat) {k : Nat} {b : Bool} {x y : Code} (hs : fs[n]? = some (.slot k (VP.bool b))) (e : b = false) (h : T F fs y Q) : T F fs (.cond (.tmp k) x y) Q := by subst e; exact t_cond n false hs h

/-- a region: fs: what stands all through; os: what stands until operation i; rs: what operation i lays -/
theorem t_region {id : Nat} {draw : Bool} {ops : List Oper} (fs1 : List Fact) (os rs : List (Nat × Fact)) (ms : List (Nat × Nat × Fact)) (i1 i2 : List Nat) (h1 : i1.map (fun n => fs[n]?) = fs1.map some) (h2 : i2.map (fun n => fs[n]?) = os.map (fun x => some x.2))
    (hm : F.P.follows .mixedOrders = true) (hq : (seqB ops && rs.all (fun x => decide (x.1 < ops.length))) = true)
    (hr : Rules ⟨F.P, F.w0, F.N, F.B, fs1, os, rs, ms⟩ ops ops 0) (hn : Nx F (fs1 ++ rs.map (·.2)) Q) : T F fs (.region id ops.toArray draw) Q := fun a w hf => by
  have hx := (fs_sub i1 h1 hf).2
  have ho : ∀ x ∈ os, x.2.holds F.w0 a w := by
    intro x hxm
    have : some x.2 ∈ i2.map (fun n => fs[n]?) := by rw [h2]; exact List.mem_map.2 ⟨x, hxm, rfl⟩
    obtain ⟨n, _, hn⟩ := List.mem_map.1 this
    exact hf.2 _ (List.mem_of_getElem? hn)
  refine region_ok (X := ⟨F.P, F.w0, F.N, F.B, fs1, os, rs, ms⟩) hm hq hr hf.1 hx ho fun a' w' ha => hn a' w' ⟨ha.1, fun f hfm => ?_⟩
  rw [List.mem_append] at hfm
  rcases hfm with hfm | hfm
  · exact ha.2.1 f hfm
  · obtain ⟨x, hxm, rfl⟩ := List.mem_map.1 hfm
    exact ha.2.2 x hxm

/-- a loop: what stands at a round's head, with a number that each round lowers -/
theorem t_loop {σ : Type} (I : σ → List Fact) (μ : σ → Nat) (s0 : σ) {body : Code} (idx : List Nat) (h0 : idx.map (fun n => fs[n]?) = (I s0).map some)
    (h : ∀ s, T F (I s) body (Exit.then (fun a w => ∃ s', μ s' < μ s ∧ Fs F (I s') a w) Q)) : T F fs (.loop body) Q := fun a w hf => by
  refine wp_loop_ghost (fun n a w => ∃ s, μ s = n ∧ Fs F (I s) a w) (μ s0) ⟨s0, rfl, fs_sub idx h0 hf⟩ fun n a w ⟨s, hs, hfs⟩ => ?_
  refine Code.wp_mono (fun e a' w' hq => ?_) (h s a w hfs)
  cases e with
  | normal => obtain ⟨s', h1, h2⟩ := hq; exact ⟨μ s', by omega, s', rfl, h2⟩
  | exit id => exact hq
  | goto l => exact hq
  | ret => exact hq
  | panic ch => exact hq
  | outgrown => exact hq
theorem nx_round {σ : Type} {I : σ → List Fact} {μ : σ → Nat} {s : σ} (s' : σ) (hm : μ s' < μ s) (idx : List Nat) (h : idx.map (fun n => fs[n]?) = (I s').map some) : Nx F fs (Exit.then (fun a w => ∃ s', μ s' < μ s ∧ Fs F (I s') a w) Q) :=
  fun _ _ hf => ⟨s', hm, fs_sub idx h hf⟩

/-! ### the end of a function -/
def resSem (tmps : Array Value) : ResultVar → Sem Value
  | .tmp t => pure (tmps.getD t undef)
  | .cell a t => do loadVar t (← asAddr (tmps.getD a undef))
def post (w0 : World) (x : VP) (e : Ending) (w' : World) : Prop := ∃ v, e = .returned v ∧ x.p v w' ∧ Ext w0 w'
end

/-! ### a function -/
def paramFacts : List VP → Nat → List Fact
  | [], _ => []
  | x :: xs, k => .slot k x :: paramFacts xs (k + 1)
theorem paramFacts_mem : ∀ {xs : List VP} {k : Nat} {f : Fact}, f ∈ paramFacts xs k → ∃ j x, xs[j]? = some x ∧ f = .slot (k + j) x
  | x :: xs, k, f, h => by
    simp only [paramFacts, List.mem_cons] at h
    rcases h with rfl | h
    · exact ⟨0, x, rfl, rfl⟩
    · obtain ⟨j, y, h1, h2⟩ := paramFacts_mem h
      exact ⟨j + 1, y, by simpa using h1, by rw [h2]; congr 1; omega⟩
theorem spec_of {P : Program} {f : FuncId} {fn : Func} {c : Code} {xs : List VP} {x : VP} (N : Nat) (B : List Nat) (hf : P.funcs[f]? = some fn) (hc : fn.body = some c) (hN : fn.ntmps = N) (hB : (B.all (fun k => decide (xs.length ≤ k)) && decide (xs.length ≤ N)) = true)
    (h : ∀ w0, T ⟨P, w0, N, B⟩ (paramFacts xs 0) c (bodyPost P fn (post w0 x))) : Spec P f (xs.map (·.p)) x := by
  intro vs w hs hv
  rw [List.length_map] at hs
  simp only [Bool.and_eq_true, decide_eq_true_eq, List.all_eq_true] at hB
  refine calls_of_wp hf hc (h w _ w ⟨⟨?_, rfl, Ext.refl w, ?_, ?_⟩, ?_⟩)
  · simp; omega
  · intro k hk g hg
    have := hB.1 k hk
    rw [Array.getElem?_append_right (by omega)] at hg
    have hu := Array.mem_of_getElem? hg
    rw [Array.mem_replicate] at hu
    have := hu.2
    unfold ptr undef at this
    cases this
  · intro k hk k' hk' _ g hg
    have := hB.1 k hk
    rw [Array.getElem?_append_right (by omega)] at hg
    have hu := Array.mem_of_getElem? hg
    rw [Array.mem_replicate] at hu
    have := hu.2
    unfold ptr undef at this
    cases this
  · intro fa hfa
    obtain ⟨j, y, h1, rfl⟩ := paramFacts_mem hfa
    obtain ⟨v, h2, h3⟩ := hv j y.p (by rw [List.getElem?_map, h1]; rfl)
    rw [Nat.zero_add]
    refine ⟨v, ?_, h3⟩
    have hj := (Array.getElem?_eq_some_iff.1 h2).1
    show (vs ++ _)[j]? = some v
    rw [Array.getElem?_append_left hj]; exact h2
end Go.Proofs.Ytapmngmpomhjmaa

/- The logic over slots and boxes: rows that came in. -/
namespace Go.Proofs.Ytapmngmpomhjmaa
open Go.RowKit

/-- a slice of n elements whose cells are known -/
def isRows (n : Nat) (ps : List VP) (v : Value) (w : World) : Prop := ∃ g off c, v = .slice (some ⟨g, off, none⟩) n c ∧ n ≤ c ∧ c ≤ maxLen ∧ g < w.heap.size ∧ Cells w g off ps
section
variable {X : Cx} {i : Nat} {pre suc : List Nat}
theorem Cells.sub {w : World} {g off : Nat} {ps : List VP} (h : Cells w g off ps) (o m : Nat) : Cells w g (off + o) ((ps.drop o).take m) := fun j x hx => by
  rw [List.getElem?_take] at hx
  split at hx
  · rw [List.getElem?_drop] at hx
    rw [Nat.add_assoc]; exact h _ x hx
  · cases hx
theorem does_mulInt {o : Oper} {d : Nat} {m n : Int} (T T' : TypeId) (y z : Operand) (hop : o.op = .binOp .mul T y z T') (hd : o.dst = some d) (hlt : (decide (d < X.N) && !X.B.contains d) = true) (hc : chk X i pre suc d = true)
    (hr : resOf X i = [(i, .slot d (VP.int .i64 (m * n)))]) (hb : -9223372036854775808 ≤ m * n ∧ m * n < 9223372036854775808)
    (h1 : Ar X i pre suc y (VP.int .i64 m).p) (h2 : Ar X i pre suc z (VP.int .i64 n).p) : Does X i pre suc o :=
  does_run hd hlt hc hr fun c a w s => by
    have e1 : a.eval y = .int .i64 m := h1 c a w s
    have e2 : a.eval z = .int .i64 n := h2 c a w s
    refine ⟨.int .i64 (m * n), ?_, rfl⟩
    have hw : IntKind.i64.wrap (m * n) = m * n := IntWalk.i64_in _ (by omega)
    unfold execOp; rw [hop]
    simp [e1, e2, eqGuard, binOp, Op.intArith, hw]
/-- a sum of ints that stays an int -/
theorem does_addInt {o : Oper} {d : Nat} {m n : Int} (T T' : TypeId) (y z : Operand) (hop : o.op = .binOp .add T y z T') (hd : o.dst = some d) (hlt : (decide (d < X.N) && !X.B.contains d) = true) (hc : chk X i pre suc d = true)
    (hr : resOf X i = [(i, .slot d (VP.int .i64 (m + n)))]) (hb : -9223372036854775808 ≤ m + n ∧ m + n < 9223372036854775808)
    (h1 : Ar X i pre suc y (VP.int .i64 m).p) (h2 : Ar X i pre suc z (VP.int .i64 n).p) : Does X i pre suc o :=
  does_run hd hlt hc hr fun c a w s => by
    have e1 : a.eval y = .int .i64 m := h1 c a w s
    have e2 : a.eval z = .int .i64 n := h2 c a w s
    refine ⟨.int .i64 (m + n), ?_, rfl⟩
    have hw : IntKind.i64.wrap (m + n) = m + n := IntWalk.i64_in _ (by omega)
    unfold execOp; rw [hop]
    simp [e1, e2, eqGuard, binOp, Op.intArith, hw]
end

/-! ### parameters of any kind -/
inductive PK where
  | val (x : VP)
  | rows (n : Nat) (ps : List VP)
def PK.q : PK → Value → World → Prop
  | .val x => x.p
  | .rows n ps => isRows n ps
def PK.fact (k : Nat) : PK → Fact
  | .val x => .slot k x
  | .rows n ps => .rows k n ps
end Go.Proofs.Ytapmngmpomhjmaa

/- The logic over slots and boxes: function values, elements of rows of numbers, differences. -/
namespace Go.Proofs.Ytapmngmpomhjmaa
open Go.RowKit

/-- a function without captured values -/
def VP.fn (f : FuncId) : VP := ⟨fun v _ => v = .func (.func f) #[] #[], true, fun _ _ _ h _ => h, fun _ v _ h k n e => (by rw [h] at e; cases e), true, fun _ v _ h => (by rw [h]; rfl), true, fun _ _ _ _ h => h⟩
section
variable {X : Cx} {i : Nat} {pre suc : List Nat}
theorem does_subInt {o : Oper} {d : Nat} {m n : Int} (T T' : TypeId) (y z : Operand) (hop : o.op = .binOp .sub T y z T') (hd : o.dst = some d) (hlt : (decide (d < X.N) && !X.B.contains d) = true) (hc : chk X i pre suc d = true)
    (hr : resOf X i = [(i, .slot d (VP.int .i64 (m - n)))]) (hb : -9223372036854775808 ≤ m - n ∧ m - n < 9223372036854775808)
    (h1 : Ar X i pre suc y (VP.int .i64 m).p) (h2 : Ar X i pre suc z (VP.int .i64 n).p) : Does X i pre suc o :=
  does_run hd hlt hc hr fun c a w s => by
    have e1 : a.eval y = .int .i64 m := h1 c a w s
    have e2 : a.eval z = .int .i64 n := h2 c a w s
    refine ⟨.int .i64 (m - n), ?_, rfl⟩
    have hw : IntKind.i64.wrap (m - n) = m - n := IntWalk.i64_in _ (by omega)
    unfold execOp; rw [hop]
    simp [e1, e2, eqGuard, binOp, Op.intArith, hw]
end
end Go.Proofs.Ytapmngmpomhjmaa

/- The logic over slots and boxes: rows of the call's own, append. -/
namespace Go.Proofs.Ytapmngmpomhjmaa
open Go.RowKit

/-- an append leaves this fact, if the row's elements are of type E -/
def Fact.apo (f : Fact) (E : TypeId) : Bool := match f with
  | .slot _ x => x.ab
  | .fp .. => true
  | .rp .. => true
  | .box _ T ps => !(T == E) && ps.all (·.ab)
  | .own _ T _ => !(T == E)
  | .arr .. => false
  | .rows _ _ ps => ps.all (·.ab)
  | .orow _ E' _ _ ps => !(E' == E) && ps.all (·.ab)
theorem fact_grown {f : Fact} {w0 : World} {a : Act} {w w' : World} {v : Value} {E : TypeId} {sz n : Nat} {xs : List Value} (h : f.holds w0 a w) (ho : w.ownsRow w0.heap.size E sz v n xs) (hg : w.grownBy w' v.ownBlock) (ha : f.apo E = true) : f.holds w0 a w' := by
  have hE : ∀ k, v.ownBlock = some k → ∃ cur, w.heap[k]? = some (.cells cur E (0, 0)) := by
    intro k hk
    rcases ho.2 with ⟨rfl, _⟩ | ⟨g, cap, cur, rfl, _, hgg, _⟩
    · simp [Value.ownBlock] at hk
    · simp [Value.ownBlock] at hk; subst hk; exact ⟨cur, hgg⟩
  have far : ∀ {b : Nat} {o : Obj}, w.heap[b]? = some o → (∀ cur, o ≠ .cells cur E (0, 0)) → w'.heap[b]? = some o := by
    intro b o hb hno
    rw [hg.block b (Array.getElem?_eq_some_iff.1 hb).1 (fun e => by
      obtain ⟨cur, hc⟩ := hE b e.symm
      rw [hb] at hc
      exact hno cur (Option.some.inj hc))]
    exact hb
  cases f with
  | slot k x => obtain ⟨u, h1, h2⟩ := h; exact ⟨u, h1, x.hab ha _ _ _ h2⟩
  | fp c k off => exact h
  | rp c k off => exact h
  | box k T ps =>
    obtain ⟨g, cs, h1, h2, h3⟩ := h
    simp only [Fact.apo, Bool.and_eq_true, Bool.not_eq_true', beq_eq_false_iff_ne, ne_eq] at ha
    exact ⟨g, cs, h1, far h2 (fun cur e => ha.1 (by injection e)), h3.abs ha.2⟩
  | own k T m =>
    obtain ⟨g, cs, h1, h2, h3⟩ := h
    simp only [Fact.apo, Bool.not_eq_true', beq_eq_false_iff_ne, ne_eq] at ha
    exact ⟨g, cs, h1, far h2 (fun cur e => ha (by injection e)), h3⟩
  | arr k T m ps => simp [Fact.apo] at ha
  | rows k m ps =>
    obtain ⟨g, off, c, h1, h2, h3, h4, h5⟩ := h
    have hb : w'.heap[g]? = w.heap[g]? ∨ ps = [] := by
      by_cases hp : ps = []
      · exact .inr hp
      · left
        obtain ⟨x, r, rfl⟩ := List.exists_cons_of_ne_nil hp
        obtain ⟨u, hu, _⟩ := h5 0 x rfl
        refine hg.block g (World.block_lt_of_cell? w _ hu) fun e => ?_
        have := (ho.lt g e.symm).1
        omega
    refine ⟨g, off, c, h1, h2, h3, h4, fun j x hx => ?_⟩
    rcases hb with hb | hb
    · obtain ⟨u, hu, hp⟩ := h5 j x hx
      exact ⟨u, by rw [World.cell?_of_block (w := w) hb]; exact hu, x.hab (List.all_eq_true.1 ha x (List.mem_of_getElem? hx)) _ _ _ hp⟩
    · subst hb; simp at hx
  | orow k E' s m ps =>
    obtain ⟨u, ys, h1, h2, h3⟩ := h
    simp only [Fact.apo, Bool.and_eq_true, Bool.not_eq_true', beq_eq_false_iff_ne, ne_eq] at ha
    refine ⟨u, ys, h1, ⟨h2.1, ?_⟩, h3.abs ha.2⟩
    rcases h2.2 with hn | ⟨g', cap, cur, hu, hb, hgg, rest⟩
    · exact .inl hn
    · exact .inr ⟨g', cap, cur, hu, hb, far hgg (fun cur' e => ha.1 (by injection e)), rest⟩

def okA (d : Nat) (E : TypeId) (f : Fact) : Bool := f.apo E && !f.uses d
def chkA (X : Cx) (i : Nat) (pre suc : List Nat) (d : Nat) (E : TypeId) : Bool :=
  X.fs.all (okA d E) && X.os.all (fun x => x.1 == i || pre.contains x.1 || okA d E x.2) && X.rs.all (fun x => x.1 == i || okA d E x.2 || suc.contains x.1) && X.ms.all (fun x => x.1 == i || x.2.1 == i || pre.contains x.2.1 || okA d E x.2.2 || suc.contains x.1)
/-- nothing: a nil slice -/
def VP.nilS : VP := ⟨fun v _ => v = .slice none 0 0, true, fun _ _ _ h _ => h, fun _ v _ h k n e => (by rw [h] at e; cases e), true, fun _ v _ h => (by rw [h]; rfl), true, fun _ _ _ _ h => h⟩
section
variable {X : Cx} {i : Nat} {pre suc : List Nat}
/-- append of the elements of a slice built here -/
theorem does_append {o : Oper} {d k e n m : Nat} {T E : TypeId} {z : Value} {size bytes : Nat} {ps qs rr : List VP} (he : Elem X.P T E z size bytes) (y u : Operand) (hy : y = .tmp k) (hu : u = .tmp e)
    (hop : o.op = .call { callee := .builtin .append, args := #[y, u], argTypes := #[T, T] }) (hd : o.dst = some d) (hlt : (decide (d < X.N) && !X.B.contains d) = true) (hc : chkA X i pre suc d E = true)
    (hr : resOf X i = [(i, .orow d E size (n + m) rr)]) (hrr : ps ++ qs = rr) (hq : (decide (qs.length = m * size) && qs.all (·.one) && qs.all (·.ab) && decide (0 < m)) = true) (hps : ps.all (·.ab) = true) (hb : n + m ≤ 100000000000 ∧ bytes ≤ 1000)
    (h1 : Av X i pre suc (.orow k E size n ps)) (h2 : Av X i pre suc (.arr e E m qs)) : Does X i pre suc o := by
  intro c a w s Q K hK
  obtain ⟨v, xs, e1, e2, e3⟩ := h1 c a w s
  obtain ⟨g, cs, e4, e5, e6⟩ := h2 c a w s
  simp only [Bool.and_eq_true, decide_eq_true_eq] at hq hlt
  obtain ⟨⟨⟨q1, q2⟩, q3⟩, q4⟩ := hq
  subst hy hu
  obtain ⟨ht, ti, hi, hz, hsz, hby, hzs, hpos⟩ := he
  have hbig : (n + m) * bytes ≤ 140737488355328 := Nat.le_trans (Nat.mul_le_mul hb.1 hb.2) (by omega)
  refine wp_append_own w (.tmp k) (.tmp e) T hop X.w0.heap.size E ti z size bytes ht hi hz hsz hby hzs hpos v n xs (eval_tmp e1) e2 ⟨g, 0, none⟩ m m cs (eval_tmp e4) (by rw [e6.len, q1]) (fun j x hx => by rw [add_plain, Nat.zero_add]; exact e5.cell hx) (e6.ones q2) (by unfold maxLen; omega) hbig s.inv.1.2.2.1.size ?_
  intro v' w' h3 h4 _
  rw [hd]
  unfold chkA at hc
  simp only [Bool.and_eq_true, List.all_eq_true] at hc
  obtain ⟨⟨⟨c1, c2⟩, c3⟩, c4⟩ := hc
  have hd' : X.B.contains d = false := by simpa using hlt.2
  have hne : ∀ k ∈ X.B, d ≠ k := fun k hk e => by subst e; simp [hk] at hd'
  obtain ⟨b1, b2, b3, b4, b5⟩ := s.inv.1
  have hext : Ext X.w0 w' := b3.grown h4 (fun k hk => (e2.lt k hk).1)
  have hbase : Base X.w0 X.N X.B (a.put (some d) v') w' := by
    refine ⟨by rw [put_size]; exact b1, by rw [put_defers']; exact b2, hext, fun k hk g hg => ?_, fun k hk k' hk' hkk g hg => ?_⟩
    · rw [put_ne _ (hne k hk)] at hg
      have := b4 k hk g hg
      exact ⟨this.1, Nat.lt_of_lt_of_le this.2 h4.size⟩
    · rw [put_ne _ (hne k hk)] at hg
      rw [put_ne _ (hne k' hk')]
      exact b5 k hk k' hk' hkk g hg
  have keep : ∀ f : Fact, f.holds X.w0 a w → okA d E f = true → f.holds X.w0 (a.put (some d) v') w' := by
    intro f hf hk
    unfold okA at hk
    simp only [Bool.and_eq_true] at hk
    exact fact_put (fact_grown hf e2 h4 hk.1) (by simpa using hk.2) (Ext.refl w')
  refine hK _ _ (inv_mk s hbase ?_ (fun f hf h => keep f h (c1 f hf)) (fun x hx hne hp h => ?_) (fun x hx hne hcx h => ?_) (fun x hx hne hne2 hp hcx h => ?_))
  · intro x hx
    rw [hr, List.mem_singleton] at hx
    subst hx
    refine ⟨v', xs ++ cs, put_eq _ (by rw [b1]; exact hlt.1), h3, ?_⟩
    rw [← hrr]
    exact (e3.abs hps).app (e6.abs q3)
  · have := c2 x hx
    simp only [Bool.or_eq_true, beq_iff_eq, hne, hp, Bool.false_eq_true, false_or] at this
    exact keep _ h this
  · have := c3 x hx
    simp only [Bool.or_eq_true, beq_iff_eq, hne, false_or] at this
    rcases this with hu | hs
    · exact keep _ h hu
    · exact (not_suc s hs hcx).elim
  · have := c4 x hx
    simp only [Bool.or_eq_true, beq_iff_eq, hne, hne2, hp, Bool.false_eq_true, false_or] at this
    rcases this with hu | hs
    · exact keep _ h hu
    · exact (not_suc s hs hcx).elim
/-- a byte of a text -/
theorem does_indexStr {o : Oper} {d m n : Nat} {s : ByteArray} {T : TypeId} (y z : Operand) (hu : X.P.underlying T = some .string) (hop : o.op = .index T y z) (hd : o.dst = some d) (hlt : (decide (d < X.N) && !X.B.contains d) = true) (hc : chk X i pre suc d = true)
    (hr : resOf X i = [(i, .slot d (VP.int .u8 (n : Nat)))]) (hm : ∃ h : m < s.size, s[m].toNat = n) (h1 : Ar X i pre suc y (VP.str s).p) (h2 : Ar X i pre suc z (VP.int .i64 (m : Nat)).p) : Does X i pre suc o :=
  does_run hd hlt hc hr fun c a w st => by
    have e1 : a.eval y = .string s := h1 c a w st
    have e2 : a.eval z = .int .i64 (m : Nat) := h2 c a w st
    obtain ⟨hlt', hn⟩ := hm
    refine ⟨.int .u8 (n : Nat), ?_, rfl⟩
    unfold execOp; rw [hop]
    have : (Instr.index T (.string s) (.int .i64 (m : Nat))).run X.P w = .ok (.int .u8 (n : Nat)) w := by
      unfold Instr.index
      simp [asIntOf, run_underlying hu, hlt', hn]
    simp only [e1, e2, Sem.run_bind, this, Result.andThen_ok, Sem.run_pure]
/-- a number as one of another kind, where it fits -/
theorem does_conv {o : Oper} {d : Nat} {n : Int} {k k' : IntKind} {T T' : TypeId} (y : Operand) (hu : X.P.underlying T = some (.int k)) (hu' : X.P.underlying T' = some (.int k')) (hop : o.op = .convert T T' y) (hd : o.dst = some d) (hlt : (decide (d < X.N) && !X.B.contains d) = true) (hc : chk X i pre suc d = true)
    (hr : resOf X i = [(i, .slot d (VP.int k' n))]) (hw : k'.wrap n = n) (h1 : Ar X i pre suc y (VP.int k n).p) : Does X i pre suc o :=
  does_run hd hlt hc hr fun c a w s => by
    have e1 : a.eval y = .int k n := h1 c a w s
    refine ⟨.int k' n, ?_, rfl⟩
    unfold execOp; rw [hop]
    simp [e1, convert, run_underlying hu, run_underlying hu', Conv.intToInt, hw]
theorem does_lenStr {o : Oper} {d : Nat} {s : ByteArray} (T : TypeId) (y : Operand) (hu : X.P.underlying T = some .string) (hop : o.op = .call { callee := .builtin .len, args := #[y], argTypes := #[T] }) (hd : o.dst = some d) (hlt : (decide (d < X.N) && !X.B.contains d) = true) (hc : chk X i pre suc d = true)
    (hr : resOf X i = [(i, .slot d (VP.int .i64 (s.size : Nat)))]) (h : Ar X i pre suc y (VP.str s).p) : Does X i pre suc o :=
  does_run hd hlt hc hr fun c a w st => by
    have e1 : a.eval y = .string s := h c a w st
    refine ⟨.int .i64 (s.size : Nat), ?_, rfl⟩
    unfold execOp; rw [hop]
    simp [resolve, invoke, builtin, Builtin.len_, run_underlying hu, e1, goInt]
theorem ar_int_eq {x : Operand} {k : IntKind} {m n : Int} (e : m = n) (h : Ar X i pre suc x (VP.int k m).p) : Ar X i pre suc x (VP.int k n).p := e ▸ h
theorem does_subE {o : Oper} {d : Nat} {m n x : Int} (hx : m - n = x) (T T' : TypeId) (y z : Operand) (hop : o.op = .binOp .sub T y z T') (hd : o.dst = some d) (hlt : (decide (d < X.N) && !X.B.contains d) = true) (hc : chk X i pre suc d = true)
    (hr : resOf X i = [(i, .slot d (VP.int .i64 x))]) (hb : -9223372036854775808 ≤ x ∧ x < 9223372036854775808)
    (h1 : Ar X i pre suc y (VP.int .i64 m).p) (h2 : Ar X i pre suc z (VP.int .i64 n).p) : Does X i pre suc o := by
  subst hx; exact does_subInt T T' y z hop hd hlt hc hr hb h1 h2
theorem does_addE {o : Oper} {d : Nat} {m n x : Int} (hx : m + n = x) (T T' : TypeId) (y z : Operand) (hop : o.op = .binOp .add T y z T') (hd : o.dst = some d) (hlt : (decide (d < X.N) && !X.B.contains d) = true) (hc : chk X i pre suc d = true)
    (hr : resOf X i = [(i, .slot d (VP.int .i64 x))]) (hb : -9223372036854775808 ≤ x ∧ x < 9223372036854775808)
    (h1 : Ar X i pre suc y (VP.int .i64 m).p) (h2 : Ar X i pre suc z (VP.int .i64 n).p) : Does X i pre suc o := by
  subst hx; exact does_addInt T T' y z hop hd hlt hc hr hb h1 h2
end
end Go.Proofs.Ytapmngmpomhjmaa

/- The logic over objects: what is said of values, of blocks that are a frame's own, of frames. No program stands in this text. -/
namespace Go.Proofs.Ytapmngmpomhjmaa
open Go.RowKit
namespace O
abbrev Foot := Nat → Prop

/-! ### Worlds that turn -/
def NoU (v : Value) : Prop := ∀ n, v ≠ .int .u32 n
/-- no cell of this block is a number of 32 bits without a sign -/
def Tame (w : World) (b : Nat) : Prop := ∀ cs T fz, w.heap[b]? = some (.cells cs T fz) → ∀ u ∈ cs.toList, NoU u
/-- a world goes on: of what there was these blocks alone have turned, and they were tame -/
structure Turn (S : Foot) (w w' : World) : Prop where
  os : w'.os = w.os
  tape : w'.tape = w.tape
  output : w'.output = w.output
  size : w.heap.size ≤ w'.heap.size
  block : ∀ b, b < w.heap.size → ¬ S b → w'.heap[b]? = w.heap[b]?
  calm : ∀ b, b < w.heap.size → w'.heap[b]? = w.heap[b]? ∨ Tame w b
theorem Turn.of_ext {S : Foot} {w w' : World} (e : Ext w w') : Turn S w w' := ⟨e.os, e.tape, e.output, e.size, fun b hb _ => e.block b hb, fun b hb => .inl (e.block b hb)⟩
theorem Turn.to_ext {S : Foot} {w w' : World} (e : Turn S w w') (h : ∀ b, ¬ S b) : Ext w w' := ⟨e.os, e.tape, e.output, e.size, fun b hb => e.block b hb (h b)⟩
theorem Turn.refl (S : Foot) (w : World) : Turn S w w := .of_ext (Ext.refl w)
theorem Turn.trans {S S' : Foot} {a b c : World} (h : Turn S a b) (k : Turn S' b c) (hs : ∀ x, x < a.heap.size → S' x → S x) : Turn S a c :=
  ⟨k.os.trans h.os, k.tape.trans h.tape, k.output.trans h.output, Nat.le_trans h.size k.size,
   fun x hx hn => (k.block x (Nat.lt_of_lt_of_le hx h.size) fun h' => hn (hs x hx h')).trans (h.block x hx hn),
   fun x hx => by
    rcases h.calm x hx with e1 | t
    · rcases k.calm x (Nat.lt_of_lt_of_le hx h.size) with e2 | t
      · exact .inl (e2.trans e1)
      · exact .inr fun cs T fz e => t cs T fz (e1.trans e)
    · exact .inr t⟩
theorem Turn.mono {S S' : Foot} {a b : World} (h : Turn S a b) (hs : ∀ x, x < a.heap.size → S x → S' x) : Turn S' a b :=
  ⟨h.os, h.tape, h.output, h.size, fun x hx hn => h.block x hx fun h' => hn (hs x hx h'), h.calm⟩
/-- these blocks stand -/
def Still (Z : Foot) (w w' : World) : Prop := ∀ b, Z b → w'.heap[b]? = w.heap[b]?
/-- what a world that goes on leaves of what hangs on no block: that rows of numbers of 32 bits stand -/
def Calm (w w' : World) : Prop := w.heap.size ≤ w'.heap.size ∧ ∀ b, b < w.heap.size → w'.heap[b]? = w.heap[b]? ∨ Tame w b
theorem Turn.toCalm {S : Foot} {w w' : World} (h : Turn S w w') : Calm w w' := ⟨h.size, h.calm⟩
theorem Calm.of_ext {w w' : World} (e : Ext w w') : Calm w w' := ⟨e.size, fun b hb => .inl (e.block b hb)⟩
/-! ### What is said of a value that needs no block of its own; Z: blocks that never turn again -/
structure VP where
  p : Foot → Value → World → Prop
  nu : Bool
  hnu : nu = true → ∀ Z v w, p Z v w → NoU v
  one : Bool
  hone : one = true → ∀ Z v w, p Z v w → v.oneCell' = true
  hst : ∀ Z Z' v w w', p Z v w → (∀ b, Z b → Z' b) → Still Z w w' → Calm w w' → p Z' v w'
/-- what is said of a value and of blocks that are its own -/
structure HA where
  p : Foot → Value → World → Foot → Prop
  nu : Bool
  hnu : nu = true → ∀ Z v w S, p Z v w S → NoU v
  one : Bool
  hone : one = true → ∀ Z v w S, p Z v w S → v.oneCell' = true
  hst : ∀ Z Z' v w w' S, p Z v w S → (∀ b, Z b → Z' b) → Still Z w w' → Still S w w' → Calm w w' → p Z' v w' S
def HA.of (x : VP) : HA := ⟨fun Z v w S => x.p Z v w ∧ ∀ b, ¬ S b, x.nu, fun h Z v w _ hp => x.hnu h Z v w hp.1, x.one, fun h Z v w _ hp => x.hone h Z v w hp.1,
  fun Z Z' v w w' _ hp hz h1 _ h3 => ⟨x.hst Z Z' v w w' hp.1 hz h1 h3, hp.2⟩⟩

def All2 (Z : Foot) : List VP → List Value → World → Prop
  | [], [], _ => True
  | x :: xs, v :: vs, w => x.p Z v w ∧ All2 Z xs vs w
  | _, _, _ => False
def AllS (Z : Foot) : List HA → List Value → World → Foot → Prop
  | [], [], _, S => ∀ b, ¬ S b
  | R :: Rs, v :: vs, w, S => ∃ S1 S2 : Foot, (∀ b, S b ↔ S1 b ∨ S2 b) ∧ (∀ b, S1 b → ¬ S2 b) ∧ R.p Z v w S1 ∧ AllS Z Rs vs w S2
  | _, _, _, _ => False
section
variable {Z : Foot}
theorem All2.len : ∀ {ps : List VP} {vs : List Value} {w : World}, All2 Z ps vs w → vs.length = ps.length
  | [], [], _, _ => rfl
  | _ :: _, _ :: _, _, h => by simp [All2.len h.2]
  | [], _ :: _, _, h => h.elim
  | _ :: _, [], _, h => h.elim
theorem All2.get : ∀ {ps : List VP} {vs : List Value} {w : World}, All2 Z ps vs w → ∀ {i : Nat} {x : VP}, ps[i]? = some x → ∃ v, vs[i]? = some v ∧ x.p Z v w
  | [], [], _, _, i, _, h => by simp at h
  | y :: _, v :: _, _, h, 0, x, hx => by simp at hx; subst hx; exact ⟨v, rfl, h.1⟩
  | _ :: _, _ :: _, _, h, i + 1, x, hx => by simpa using All2.get h.2 (by simpa using hx)
  | [], _ :: _, _, h, _, _, _ => h.elim
  | _ :: _, [], _, h, _, _, _ => h.elim
theorem All2.app : ∀ {ps qs : List VP} {us vs : List Value} {w : World}, All2 Z ps us w → All2 Z qs vs w → All2 Z (ps ++ qs) (us ++ vs) w
  | [], _, [], _, _, _, k => k
  | _ :: _, _, _ :: _, _, _, h, k => ⟨h.1, All2.app h.2 k⟩
  | [], _, _ :: _, _, _, h, _ => h.elim
  | _ :: _, _, [], _, _, h, _ => h.elim
theorem All2.take : ∀ {ps : List VP} {vs : List Value} {w : World}, All2 Z ps vs w → ∀ n, All2 Z (ps.take n) (vs.take n) w
  | [], [], _, _, n => by simp [All2]
  | _ :: _, _ :: _, _, _, 0 => trivial
  | _ :: _, _ :: _, _, h, n + 1 => ⟨h.1, All2.take h.2 n⟩
  | [], _ :: _, _, h, _ => h.elim
  | _ :: _, [], _, h, _ => h.elim
theorem All2.drop : ∀ {ps : List VP} {vs : List Value} {w : World}, All2 Z ps vs w → ∀ n, All2 Z (ps.drop n) (vs.drop n) w
  | [], [], _, _, n => by simp [All2]
  | _ :: _, _ :: _, _, h, 0 => h
  | _ :: _, _ :: _, _, h, n + 1 => All2.drop h.2 n
  | [], _ :: _, _, h, _ => h.elim
  | _ :: _, [], _, h, _ => h.elim
theorem All2.of_get {ps : List VP} {vs : List Value} {w : World} (hl : vs.length = ps.length) (h : ∀ (i : Nat) (x : VP) (v : Value), ps[i]? = some x → vs[i]? = some v → x.p Z v w) : All2 Z ps vs w := by
  induction ps generalizing vs with
  | nil => cases vs with
    | nil => trivial
    | cons v vs => simp at hl
  | cons x xs ih => cases vs with
    | nil => simp at hl
    | cons v vs => exact ⟨h 0 x v rfl rfl, ih (by simpa using hl) fun i y u hy hu => h (i + 1) y u (by simpa using hy) (by simpa using hu)⟩
theorem All2.ones {ps : List VP} {vs : List Value} {w : World} (h : All2 Z ps vs w) (hn : ps.all (·.one) = true) : ∀ u ∈ vs, u.oneCell' = true := by
  intro u hu
  obtain ⟨i, hi, rfl⟩ := List.mem_iff_getElem.1 hu
  have hl := h.len
  obtain ⟨v, hv, hp⟩ := h.get (i := i) (x := ps[i]'(by omega)) (List.getElem?_eq_getElem _)
  rw [List.getElem?_eq_getElem hi] at hv
  injection hv with hv
  subst hv
  exact (ps[i]'(by omega)).hone (List.all_eq_true.1 hn _ (List.getElem_mem _)) _ _ _ hp
theorem All2.st {Z' : Foot} {w w' : World} (hz : ∀ b, Z b → Z' b) (h1 : Still Z w w') (h2 : Calm w w') : ∀ {ps : List VP} {vs : List Value}, All2 Z ps vs w → All2 Z' ps vs w'
  | [], [], _ => trivial
  | x :: _, v :: _, h => ⟨x.hst Z Z' v w w' h.1 hz h1 h2, All2.st hz h1 h2 h.2⟩
  | [], _ :: _, h => h.elim
  | _ :: _, [], h => h.elim
theorem AllS.len : ∀ {ps : List HA} {vs : List Value} {w : World} {S : Foot}, AllS Z ps vs w S → vs.length = ps.length
  | [], [], _, _, _ => rfl
  | _ :: _, _ :: _, _, _, ⟨_, _, _, _, _, h⟩ => by simp [AllS.len h]
  | [], _ :: _, _, _, h => h.elim
  | _ :: _, [], _, _, h => h.elim
theorem AllS.st {Z' : Foot} {w w' : World} (hz : ∀ b, Z b → Z' b) (h1 : Still Z w w') (h2 : Calm w w') : ∀ {ps : List HA} {vs : List Value} {S : Foot}, AllS Z ps vs w S → Still S w w' → AllS Z' ps vs w' S
  | [], [], _, h, _ => h
  | x :: _, v :: _, S, ⟨S1, S2, e, d, h, hr⟩, hs => ⟨S1, S2, e, d, x.hst Z Z' v w w' S1 h hz h1 (fun b hb => hs b ((e b).2 (.inl hb))) h2, AllS.st hz h1 h2 hr fun b hb => hs b ((e b).2 (.inr hb))⟩
  | [], _ :: _, _, h, _ => h.elim
  | _ :: _, [], _, h, _ => h.elim
theorem AllS.of_all2 : ∀ {ps : List VP} {vs : List Value} {w : World} {S : Foot}, (∀ b, ¬ S b) → All2 Z ps vs w → AllS Z (ps.map HA.of) vs w S
  | [], [], _, _, hs, _ => hs
  | _ :: _, _ :: _, _, S, hs, h => ⟨S, S, fun b => by simp, fun b hb => (hs b hb).elim, ⟨h.1, hs⟩, AllS.of_all2 hs h.2⟩
  | [], _ :: _, _, _, _, h => h.elim
  | _ :: _, [], _, _, _, h => h.elim
theorem AllS.all2 : ∀ {ps : List VP} {vs : List Value} {w : World} {S : Foot}, AllS Z (ps.map HA.of) vs w S → All2 Z ps vs w ∧ ∀ b, ¬ S b
  | [], [], _, _, h => ⟨trivial, h⟩
  | _ :: _, _ :: _, _, _, ⟨S1, S2, e, _, h, hr⟩ => ⟨⟨h.1, (AllS.all2 hr).1⟩, fun b hb => by
    rcases (e b).1 hb with h' | h'
    · exact h.2 b h'
    · exact (AllS.all2 hr).2 b h'⟩
  | [], _ :: _, _, _, h => h.elim
  | _ :: _, [], _, _, h => h.elim
theorem AllS.app : ∀ {ps qs : List HA} {us vs : List Value} {w : World} {S T : Foot}, AllS Z ps us w S → AllS Z qs vs w T → (∀ b, S b → ¬ T b) → AllS Z (ps ++ qs) (us ++ vs) w (fun b => S b ∨ T b)
  | [], qs, [], vs, w, S, T, h, k, _ => by
    have : (fun b => S b ∨ T b) = T := funext fun b => propext ⟨fun x => x.elim (fun x => (h b x).elim) id, .inr⟩
    rw [this]; exact k
  | _ :: _, _, _ :: _, _, _, S, T, ⟨S1, S2, e, d, h, hr⟩, k, hd => ⟨S1, fun b => S2 b ∨ T b, fun b => by show (S b ∨ T b) ↔ (S1 b ∨ S2 b ∨ T b); rw [e b, or_assoc] , fun b h1 h2 => by
      rcases h2 with h2 | h2
      · exact d b h1 h2
      · exact hd b ((e b).2 (.inl h1)) h2, h, AllS.app hr k fun b hb => hd b ((e b).2 (.inr hb))⟩
  | [], _, _ :: _, _, _, _, _, h, _, _ => h.elim
  | _ :: _, _, [], _, _, _, _, h, _, _ => h.elim
theorem AllS.unapp : ∀ {ps qs : List HA} {vs : List Value} {w : World} {S : Foot}, AllS Z (ps ++ qs) vs w S → ∃ S1 S2 : Foot, (∀ b, S b ↔ S1 b ∨ S2 b) ∧ (∀ b, S1 b → ¬ S2 b) ∧ AllS Z ps (vs.take ps.length) w S1 ∧ AllS Z qs (vs.drop ps.length) w S2
  | [], _, _, _, S, h => ⟨fun _ => False, S, fun b => by simp, fun _ h => h.elim, fun b hb => hb, h⟩
  | _ :: ps, qs, v :: vs, w, S, ⟨S1, S2, e, d, h, hr⟩ => by
    obtain ⟨T1, T2, e', d', h1, h2⟩ := AllS.unapp (ps := ps) (qs := qs) hr
    refine ⟨fun b => S1 b ∨ T1 b, T2, fun b => ?_, fun b hb => ?_, ⟨S1, T1, fun b => Iff.rfl, fun b hb hb' => d b hb ((e' b).2 (.inl hb')), h, h1⟩, h2⟩
    · rw [e b, e' b, or_assoc]
    · rcases hb with hb | hb
      · exact fun h' => d b hb ((e' b).2 (.inr h'))
      · exact d' b hb
  | _ :: _, _, [], _, _, h => h.elim
theorem AllS.ones {ps : List HA} {vs : List Value} {w : World} {S : Foot} (h : AllS Z ps vs w S) (hn : ps.all (·.one) = true) : ∀ u ∈ vs, u.oneCell' = true := by
  induction ps generalizing vs S with
  | nil => cases vs with
    | nil => intro u hu; cases hu
    | cons v vs => exact h.elim
  | cons x xs ih => cases vs with
    | nil => exact h.elim
    | cons v vs =>
      obtain ⟨S1, S2, _, _, h1, h2⟩ := h
      simp only [List.all_cons, Bool.and_eq_true] at hn
      intro u hu
      rcases List.mem_cons.1 hu with rfl | hu
      · exact x.hone hn.1 _ _ _ _ h1
      · exact ih h2 hn.2 u hu
theorem AllS.nus {ps : List HA} {vs : List Value} {w : World} {S : Foot} (h : AllS Z ps vs w S) (hn : ps.all (·.nu) = true) : ∀ u ∈ vs, NoU u := by
  induction ps generalizing vs S with
  | nil => cases vs with
    | nil => intro u hu; cases hu
    | cons v vs => exact h.elim
  | cons x xs ih => cases vs with
    | nil => exact h.elim
    | cons v vs =>
      obtain ⟨S1, S2, _, _, h1, h2⟩ := h
      simp only [List.all_cons, Bool.and_eq_true] at hn
      intro u hu
      rcases List.mem_cons.1 hu with rfl | hu
      · exact x.hnu hn.1 _ _ _ _ h1
      · exact ih h2 hn.2 u hu
/-- one of them apart from the others -/
theorem AllS.pick {ps : List HA} {vs : List Value} {w : World} {S : Foot} (h : AllS Z ps vs w S) {i : Nat} {R : HA} (hi : ps[i]? = some R) :
    ∃ (v : Value) (S1 S2 : Foot), vs[i]? = some v ∧ (∀ b, S b ↔ S1 b ∨ S2 b) ∧ (∀ b, S1 b → ¬ S2 b) ∧ R.p Z v w S1 ∧ (∀ (R' : HA) (S1' : Foot) (v' : Value), R'.p Z v' w S1' → (∀ b, S1' b → ¬ S2 b) → AllS Z (ps.set i R') (vs.set i v') w (fun b => S1' b ∨ S2 b)) := by
  induction ps generalizing vs S i with
  | nil => simp at hi
  | cons x xs ih => cases vs with
    | nil => exact h.elim
    | cons v vs =>
      obtain ⟨S1, S2, e, d, h1, h2⟩ := h
      cases i with
      | zero =>
        simp at hi; subst hi
        exact ⟨v, S1, S2, rfl, e, d, h1, fun R' S1' v' hp hd => ⟨S1', S2, fun b => Iff.rfl, hd, hp, h2⟩⟩
      | succ i =>
        obtain ⟨u, T1, T2, g1, g2, g3, g4, g5⟩ := ih h2 (i := i) (by simpa using hi)
        refine ⟨u, T1, fun b => S1 b ∨ T2 b, by simpa using g1, fun b => ?_, fun b hb => ?_, g4, fun R' S1' v' hp hd => ?_⟩
        · rw [e b, g2 b]; constructor <;> (intro h; rcases h with h | h | h <;> simp_all)
        · rintro (h' | h')
          · exact d b h' ((g2 b).2 (.inl hb))
          · exact g3 b hb h'
        · refine ⟨S1, fun b => S1' b ∨ T2 b, fun b => ?_, fun b hb hb' => ?_, h1, g5 R' S1' v' hp fun b hb hb' => hd b hb (.inr hb')⟩
          · constructor <;> (intro h; rcases h with h | h | h <;> simp_all)
          · rcases hb' with hb' | hb'
            · exact hd b hb' (.inl hb)
            · exact d b hb ((g2 b).2 (.inr hb'))
theorem AllS.vp {ps : List HA} {vs : List Value} {w : World} {S : Foot} (h : AllS Z ps vs w S) {i : Nat} {x : VP} (hi : ps[i]? = some (HA.of x)) : ∃ v, vs[i]? = some v ∧ x.p Z v w := by
  obtain ⟨v, _, _, h1, _, _, h2, _⟩ := h.pick hi
  exact ⟨v, h1, h2.1⟩
end

/-! ### Values -/
def VP.free (p : Value → Prop) (nu : Bool) (hnu : nu = true → ∀ v, p v → NoU v) (one : Bool) (hone : one = true → ∀ v, p v → v.oneCell' = true) : VP :=
  ⟨fun _ v _ => p v, nu, fun h _ v _ => hnu h v, one, fun h _ v _ => hone h v, fun _ _ _ _ _ h _ _ _ => h⟩
def VP.any : VP := .free (fun _ => True) false (fun h => (by cases h)) false (fun h => (by cases h))
def VP.bool (b : Bool) : VP := .free (fun v => v = .bool b) true (fun _ v h n e => (by rw [h] at e; cases e)) true (fun _ v h => (by rw [h]; rfl))
def VP.int (k : IntKind) (n : Int) : VP := .free (fun v => v = .int k n) (!(k == .u32)) (fun h v hv m e => (by rw [hv] at e; injection e with e; subst e; simp at h)) true (fun _ v h => (by rw [h]; rfl))
def VP.str (s : ByteArray) : VP := .free (fun v => v = .string s) true (fun _ v h n e => (by rw [h] at e; cases e)) true (fun _ v h => (by rw [h]; rfl))
def VP.undef : VP := .free (fun v => v = Go.undef) false (fun h => (by cases h)) false (fun h => (by cases h))
def VP.fn (f : FuncId) : VP := .free (fun v => v = .func (.func f) #[] #[]) true (fun _ v h n e => (by rw [h] at e; cases e)) true (fun _ v h => (by rw [h]; rfl))
/-- a closure -/
def VP.clo (f : FuncId) (cs : List Value) : VP := .free (fun v => v = .func (.func f) #[] cs.toArray) true (fun _ v h n e => (by rw [h] at e; cases e)) true (fun _ v h => (by rw [h]; rfl))
/-- this very value, of which these two are known -/
def VP.eq (v : Value) (nu one : Bool) : VP := .free (fun u => u = v ∧ (nu = true → NoU v) ∧ (one = true → v.oneCell' = true)) nu (fun h u hu => (by rw [hu.1]; exact hu.2.1 h)) one (fun h u hu => (by rw [hu.1]; exact hu.2.2 h))
def VP.nilP : VP := .free (fun v => v = .pointer none) true (fun _ v h n e => (by rw [h] at e; cases e)) true (fun _ v h => (by rw [h]; rfl))
def VP.nilS : VP := .free (fun v => v = .slice none 0 0) true (fun _ v h n e => (by rw [h] at e; cases e)) true (fun _ v h => (by rw [h]; rfl))
def VP.agg (ps : List VP) : VP := ⟨fun Z v w => ∃ cs : List Value, v = .agg cs.toArray ∧ All2 Z ps cs w, true, fun _ _ v _ ⟨cs, h1, _⟩ n e => (by rw [h1] at e; cases e), false, fun h => (by cases h), fun _ _ _ _ _ ⟨cs, h1, h2⟩ hz hs hc => ⟨cs, h1, h2.st hz hs hc⟩⟩
def VP.tup (ps : List VP) : VP := ⟨fun Z v w => ∃ cs : List Value, v = .tuple cs.toArray ∧ All2 Z ps cs w, true, fun _ _ v _ ⟨cs, h1, _⟩ n e => (by rw [h1] at e; cases e), false, fun h => (by cases h), fun _ _ _ _ _ ⟨cs, h1, h2⟩ hz hs hc => ⟨cs, h1, h2.st hz hs hc⟩⟩
/-- from offset off of block g on lie cells of which ps is said -/
def Cells (Z : Foot) (w : World) (g off : Nat) (ps : List VP) : Prop := ∀ j x, ps[j]? = some x → ∃ u, w.cell? ⟨g, off + j, none⟩ = some u ∧ x.p Z u w
/-- a slice of n elements that never turns -/
def isRo (n : Nat) (ps : List VP) (Z : Foot) (v : Value) (w : World) : Prop := ∃ a c, v = .slice a n c ∧ n ≤ c ∧ c ≤ maxLen ∧ (ps = [] ∨ ∃ g off, a = some ⟨g, off, none⟩ ∧ Z g ∧ Cells Z w g off ps)
def VP.ro (n : Nat) (ps : List VP) : VP := ⟨isRo n ps, true, fun _ _ v _ ⟨a, c, h1, _⟩ m e => (by rw [h1] at e; cases e), true, fun _ _ v _ ⟨a, c, h1, _⟩ => (by rw [h1]; rfl),
  fun Z Z' v w w' ⟨a, c, h1, h2, h3, h4⟩ hz hs hc => ⟨a, c, h1, h2, h3, h4.imp id fun ⟨g, off, e, hg, h5⟩ => ⟨g, off, e, hz g hg, fun j x hx => by
    obtain ⟨u, h6, h7⟩ := h5 j x hx
    exact ⟨u, by rw [World.cell?_of_block (w := w) (hs g hg)]; exact h6, x.hst _ _ _ _ _ h7 hz hs hc⟩⟩⟩⟩
def HA.agg (ps : List HA) : HA := ⟨fun Z v w S => ∃ cs : List Value, v = .agg cs.toArray ∧ AllS Z ps cs w S, true, fun _ _ v _ _ ⟨cs, h1, _⟩ n e => (by rw [h1] at e; cases e), false, fun h => (by cases h), fun _ _ _ _ _ _ ⟨cs, h1, h2⟩ hz hs h3 hc => ⟨cs, h1, h2.st hz hs hc h3⟩⟩
def HA.tup (ps : List HA) : HA := ⟨fun Z v w S => ∃ cs : List Value, v = .tuple cs.toArray ∧ AllS Z ps cs w S, true, fun _ _ v _ _ ⟨cs, h1, _⟩ n e => (by rw [h1] at e; cases e), false, fun h => (by cases h), fun _ _ _ _ _ _ ⟨cs, h1, h2⟩ hz hs h3 hc => ⟨cs, h1, h2.st hz hs hc h3⟩⟩
/-- a block of cells: v points to it -/
def HA.cells (T : TypeId) (ps : List HA) : HA := ⟨fun Z v w S => ∃ g cs S', v = ptr g ∧ Row w g T cs ∧ AllS Z ps cs w S' ∧ (∀ b, S b ↔ b = g ∨ S' b) ∧ ¬ S' g ∧ ∀ u ∈ cs, NoU u, true, fun _ _ v _ _ ⟨g, cs, _, h1, _⟩ n e => (by rw [h1] at e; cases e), true, fun _ _ v _ _ ⟨g, cs, _, h1, _⟩ => (by rw [h1]; rfl),
  fun Z Z' v w w' S ⟨g, cs, S', h1, h2, h3, h4, h5, h6⟩ hz hs hS hc => ⟨g, cs, S', h1, (hS g ((h4 g).2 (.inl rfl))).trans h2, h3.st hz hs hc (fun b hb => hS b ((h4 b).2 (.inr hb))), h4, h5, h6⟩⟩
/-- a row of n elements that grows: v is the slice of it -/
def HA.row (E : TypeId) (sz n : Nat) (ps : List HA) : HA := ⟨fun Z v w S => ps.length = n * sz ∧ ((v = .slice none 0 0 ∧ n = 0 ∧ ∀ b, ¬ S b) ∨
    ∃ g cap cur S', v = .slice (some ⟨g, 0, none⟩) n cap ∧ w.heap[g]? = some (.cells cur E (0, 0)) ∧ n ≤ cap ∧ cap ≤ maxLen ∧ cur.size = cap * sz ∧ AllS Z ps (cur.toList.take (n * sz)) w S' ∧ (∀ b, S b ↔ b = g ∨ S' b) ∧ ¬ S' g ∧ ∀ u ∈ cur.toList, NoU u),
  true, fun _ _ v _ _ ⟨_, h⟩ m e => (by rcases h with ⟨h, _⟩ | ⟨_, _, _, _, h, _⟩ <;> (rw [h] at e; cases e)), true, fun _ _ v _ _ ⟨_, h⟩ => (by rcases h with ⟨h, _⟩ | ⟨_, _, _, _, h, _⟩ <;> (rw [h]; rfl)),
  fun Z Z' v w w' S ⟨h0, h⟩ hz hs hS hc => ⟨h0, h.imp id fun ⟨g, cap, cur, S', h1, h2, h3, h4, h5, h6, h7, h8⟩ => ⟨g, cap, cur, S', h1, (hS g ((h7 g).2 (.inl rfl))).trans h2, h3, h4, h5, h6.st hz hs hc (fun b hb => hS b ((h7 b).2 (.inr hb))), h7, h8⟩⟩⟩
def HA.ex {α : Type} (nu one : Bool) (F : α → HA) : HA := ⟨fun Z v w S => ∃ a, (F a).p Z v w S ∧ (nu = true → (F a).nu = true) ∧ (one = true → (F a).one = true), nu, fun h Z v w S ⟨a, h1, h2, _⟩ => (F a).hnu (h2 h) Z v w S h1, one, fun h Z v w S ⟨a, h1, _, h3⟩ => (F a).hone (h3 h) Z v w S h1,
  fun Z Z' v w w' S ⟨a, h1, h2⟩ hz hs hS hc => ⟨a, (F a).hst Z Z' v w w' S h1 hz hs hS hc, h2⟩⟩
def HA.pure (φ : Prop) (R : HA) : HA := ⟨fun Z v w S => φ ∧ R.p Z v w S, R.nu, fun h Z v w S h1 => R.hnu h Z v w S h1.2, R.one, fun h Z v w S h1 => R.hone h Z v w S h1.2, fun Z Z' v w w' S h hz hs hS hc => ⟨h.1, R.hst Z Z' v w w' S h.2 hz hs hS hc⟩⟩
/-! ### Facts of a frame -/
inductive Ref where
  | val (v : Value)
  | tmp (k : Nat)
def Ref.den (a : Act) : Ref → Value → Prop
  | .val v, u => u = v
  | .tmp k, u => a.tmps[k]? = some u
theorem Ref.den_fun {a : Act} {r : Ref} {u v : Value} (h : r.den a u) (k : r.den a v) : u = v := by
  cases r with
  | val _ => exact Eq.trans h (Eq.symm k)
  | tmp _ => exact Option.some.inj (Eq.trans (Eq.symm h) k)
/-- a place in memory: off cells behind where a pointer, or a slice, begins -/
inductive Loc where
  | blk (r : Ref) (off : Nat)
  | row (r : Ref) (off : Nat)
def Loc.at (a : Act) : Loc → Nat → Nat → Prop
  | .blk r off, g, o => ∃ b, r.den a (.pointer (some ⟨g, b, none⟩)) ∧ o = b + off
  | .row r off, g, o => ∃ b n c, r.den a (.slice (some ⟨g, b, none⟩) n c) ∧ o = b + off
def Loc.ref : Loc → Ref
  | .blk r _ => r
  | .row r _ => r
def Loc.add : Loc → Nat → Loc
  | .blk r off, n => .blk r (off + n)
  | .row r off, n => .row r (off + n)
theorem Loc.add_at {a : Act} {l : Loc} {g o n : Nat} (h : l.at a g o) : (l.add n).at a g (o + n) := by
  cases l with
  | blk r off => obtain ⟨b, h1, h2⟩ := h; exact ⟨b, h1, by omega⟩
  | row r off => obtain ⟨b, m, c, h1, h2⟩ := h; exact ⟨b, m, c, h1, by omega⟩
inductive Fact where
  | is (r : Ref) (x : VP)
  | own (id : Nat) (r : Ref) (R : HA)
  | bor (r : Ref) (R : HA)
  | pt (d : Nat) (l : Loc)
  | eq (d : Nat) (r : Ref)
  | sub (d : Nat) (r : Ref) (off n : Nat)
abbrev Fact.slot (k : Nat) (x : VP) : Fact := .is (.tmp k) x

structure Fr where
  P : Program
  w0 : World
  S0 : Foot
  Z0 : Foot
  Bf : Foot
  N : Nat
structure FrOk (F : Fr) : Prop where
  s : ∀ b, F.S0 b → b < F.w0.heap.size ∧ ¬ F.Z0 b ∧ ¬ F.Bf b
  z : ∀ b, F.Z0 b → b < F.w0.heap.size
  b : ∀ b, F.Bf b → b < F.w0.heap.size
structure Gho where
  σ : Nat → Foot
  Z : Foot
def Fact.holds (F : Fr) (γ : Gho) : Fact → Act → World → Prop
  | .is r x, a, w => ∃ v, r.den a v ∧ x.p γ.Z v w
  | .own id r R, a, w => ∃ v, r.den a v ∧ R.p γ.Z v w (γ.σ id)
  | .bor r R, a, w => ∃ v S, r.den a v ∧ (∀ b, S b → F.Bf b) ∧ R.p γ.Z v w S
  | .pt d l, a, _ => ∃ g o, l.at a g o ∧ a.tmps[d]? = some (.pointer (some ⟨g, o, none⟩))
  | .eq d r, a, _ => ∃ v, r.den a v ∧ a.tmps[d]? = some v
  | .sub d r off n, a, _ => ∃ A c, a.tmps[d]? = some (.slice A n c) ∧ n ≤ c ∧ (0 < n → ∃ g b n0 c0, r.den a (.slice (some ⟨g, b, none⟩) n0 c0) ∧ A = some ⟨g, b + off, none⟩)
def Ref.uses : Ref → Nat → Bool
  | .val _, _ => false
  | .tmp k, d => k == d
def Fact.uses : Fact → Nat → Bool
  | .is r _, d => r.uses d
  | .own _ r _, d => r.uses d
  | .bor r _, d => r.uses d
  | .pt e l, d => e == d || l.ref.uses d
  | .eq e r, d => e == d || r.uses d
  | .sub e r _ _, d => e == d || r.uses d
/-- not what is said of these blocks -/
def Fact.off : Fact → List Nat → Bool
  | .own id _ _, l => !l.contains id
  | _, _ => true
def Fact.isOwn : Fact → Bool
  | .own .. => true
  | _ => false
structure Good (F : Fr) (V : Fact → Prop) (γ : Gho) (a : Act) (w : World) : Prop where
  ok : FrOk F
  sz : a.tmps.size = F.N
  df : a.defers = []
  turn : Turn F.S0 F.w0 w
  zmono : ∀ b, F.Z0 b → γ.Z b
  zof : ∀ b, γ.Z b → b < w.heap.size ∧ (F.Z0 b ∨ F.S0 b ∨ F.w0.heap.size ≤ b)
  hold : ∀ f, V f → f.holds F γ a w
  sep : ∀ k r R k' r' R', V (.own k r R) → V (.own k' r' R') → k ≠ k' → ∀ b, γ.σ k b → ¬ γ.σ k' b
  bnd : ∀ k r R, V (.own k r R) → ∀ b, γ.σ k b → b < w.heap.size ∧ (F.w0.heap.size ≤ b ∨ F.S0 b) ∧ ¬ γ.Z b
theorem Ref.den_put {a : Act} {r : Ref} {u v : Value} {d : Nat} (h : r.den a u) (hd : r.uses d = false) : r.den (a.put (some d) v) u := by
  cases r with
  | val _ => exact h
  | tmp k =>
    simp only [Ref.uses, beq_eq_false_iff_ne, ne_eq] at hd
    show (a.put (some d) v).tmps[k]? = some u
    rw [put_ne v (Ne.symm hd)]; exact h
theorem Loc.at_put {a : Act} {l : Loc} {g o : Nat} {v : Value} {d : Nat} (h : l.at a g o) (hd : l.ref.uses d = false) : l.at (a.put (some d) v) g o := by
  cases l with
  | blk r off => obtain ⟨b, h1, h2⟩ := h; exact ⟨b, Ref.den_put h1 hd, h2⟩
  | row r off => obtain ⟨b, n, c, h1, h2⟩ := h; exact ⟨b, n, c, Ref.den_put h1 hd, h2⟩
theorem fact_put {F : Fr} {γ : Gho} {f : Fact} {a : Act} {w : World} {d : Nat} {v : Value} (h : f.holds F γ a w) (hd : f.uses d = false) : f.holds F γ (a.put (some d) v) w := by
  cases f with
  | is r x => obtain ⟨u, h1, h2⟩ := h; exact ⟨u, Ref.den_put h1 hd, h2⟩
  | own id r R => obtain ⟨u, h1, h2⟩ := h; exact ⟨u, Ref.den_put h1 hd, h2⟩
  | bor r R => obtain ⟨u, S, h1, h2⟩ := h; exact ⟨u, S, Ref.den_put h1 hd, h2⟩
  | pt e l =>
    obtain ⟨g, o, h1, h2⟩ := h
    simp only [Fact.uses, Bool.or_eq_false_iff, beq_eq_false_iff_ne, ne_eq] at hd
    exact ⟨g, o, Loc.at_put h1 hd.2, by rw [put_ne v (Ne.symm hd.1)]; exact h2⟩
  | eq e r =>
    obtain ⟨u, h1, h2⟩ := h
    simp only [Fact.uses, Bool.or_eq_false_iff, beq_eq_false_iff_ne, ne_eq] at hd
    exact ⟨u, Ref.den_put h1 hd.2, by rw [put_ne v (Ne.symm hd.1)]; exact h2⟩
  | sub e r off n =>
    obtain ⟨A, cp, h1, h0, h2⟩ := h
    simp only [Fact.uses, Bool.or_eq_false_iff, beq_eq_false_iff_ne, ne_eq] at hd
    exact ⟨A, cp, by rw [put_ne v (Ne.symm hd.1)]; exact h1, h0, fun hn => by obtain ⟨g, b, n0, c0, h3, h4⟩ := h2 hn; exact ⟨g, b, n0, c0, Ref.den_put h3 hd.2, h4⟩⟩
/-- a fact stands where its blocks have not turned -/
theorem fact_turn {F : Fr} {γ γ' : Gho} {f : Fact} {a : Act} {w w' : World} (h : f.holds F γ a w) (hz : ∀ b, γ.Z b → γ'.Z b) (hs : Still γ.Z w w') (hc : Calm w w') (hb : Still F.Bf w w')
    (ho : ∀ k r R, f = .own k r R → γ'.σ k = γ.σ k ∧ Still (γ.σ k) w w') : f.holds F γ' a w' := by
  cases f with
  | is r x => obtain ⟨v, h1, h2⟩ := h; exact ⟨v, h1, x.hst _ _ _ _ _ h2 hz hs hc⟩
  | own id r R =>
    obtain ⟨v, h1, h2⟩ := h
    obtain ⟨e1, e2⟩ := ho id r R rfl
    exact ⟨v, h1, by rw [e1]; exact R.hst _ _ _ _ _ _ h2 hz hs e2 hc⟩
  | bor r R => obtain ⟨v, S, h1, h2, h3⟩ := h; exact ⟨v, S, h1, h2, R.hst _ _ _ _ _ _ h3 hz hs (fun b hb' => hb b (h2 b hb')) hc⟩
  | pt d l => exact h
  | eq d r => exact h
  | sub d r off n => exact h

structure Cx extends Fr where
  fs : List Fact
  os : List (Nat × Fact)
  rs : List (Nat × Fact)
  ms : List (Nat × Nat × Fact)
def Has (X : Cx) (c : Nat → Bool) (f : Fact) : Prop := f ∈ X.fs ∨ (∃ j, (j, f) ∈ X.os ∧ c j = false) ∨ (∃ j, (j, f) ∈ X.rs ∧ c j = true) ∨ (∃ j e, (j, e, f) ∈ X.ms ∧ c j = true ∧ c e = false)
def Inv (X : Cx) (c : Nat → Bool) (a : Act) (w : World) : Prop := ∃ γ, Good X.toFr (Has X c) γ a w
structure Sit (X : Cx) (i : Nat) (pre suc : List Nat) (c : Nat → Bool) (γ : Gho) (a : Act) (w : World) : Prop where
  me : c i = false
  hpre : ∀ j ∈ pre, c j = true
  hsuc : ∀ j ∈ suc, c j = false
  g : Good X.toFr (Has X c) γ a w
/-- this stands when operation i comes up -/
def Av (X : Cx) (i : Nat) (pre suc : List Nat) (f : Fact) : Prop := ∀ c γ a w, Sit X i pre suc c γ a w → Has X c f
def chkG (X : Cx) (i : Nat) (pre suc : List Nat) (ok : Fact → Bool) : Bool :=
  X.fs.all ok && X.os.all (fun x => x.1 == i || pre.contains x.1 || ok x.2) && X.rs.all (fun x => x.1 == i || ok x.2 || suc.contains x.1) && X.ms.all (fun x => x.1 == i || x.2.1 == i || pre.contains x.2.1 || ok x.2.2 || suc.contains x.1)
def chk (X : Cx) (i : Nat) (pre suc : List Nat) (d : Nat) : Bool := chkG X i pre suc (fun f => !f.uses d)
def okM (d : Option Nat) (ids : List Nat) (f : Fact) : Bool := d.all (fun d => !f.uses d) && f.off ids
def chkM (X : Cx) (i : Nat) (pre suc : List Nat) (d : Option Nat) (ids : List Nat) : Bool := chkG X i pre suc (okM d ids)
def resOf (X : Cx) (i : Nat) : List Fact := (X.rs.filter (fun x => x.1 == i)).map (·.2) ++ (X.ms.filter (fun x => x.1 == i && !(x.2.1 == i))).map (fun x => x.2.2)
def Does (X : Cx) (i : Nat) (pre suc : List Nat) (o : Oper) : Prop :=
  ∀ c γ a w, Sit X i pre suc c γ a w → ∀ Q (K : Act → World → Prop), (∀ γ' a' w', Good X.toFr (Has X (upd c i)) γ' a' w' → K a' w') → o.wp X.P a w K Q

section
variable {X : Cx} {i : Nat} {pre suc : List Nat}
theorem Av.h {f : Fact} (h : Av X i pre suc f) {c : Nat → Bool} {γ : Gho} {a : Act} {w : World} (s : Sit X i pre suc c γ a w) : f.holds X.toFr γ a w := s.g.hold f (h c γ a w s)
theorem av_fs (n : Nat) {f : Fact} (h : X.fs[n]? = some f) : Av X i pre suc f := fun _ _ _ _ _ => .inl (List.mem_of_getElem? h)
theorem av_rs (n j : Nat) {f : Fact} (h : X.rs[n]? = some (j, f)) (hj : pre.contains j = true) : Av X i pre suc f :=
  fun _ _ _ _ s => .inr (.inr (.inl ⟨j, List.mem_of_getElem? h, s.hpre j (by simpa using hj)⟩))
theorem av_ms (n j e : Nat) {f : Fact} (h : X.ms[n]? = some (j, e, f)) (hj : pre.contains j = true) (he : (e == i || suc.contains e) = true) : Av X i pre suc f :=
  fun _ _ _ _ s => .inr (.inr (.inr ⟨j, e, List.mem_of_getElem? h, s.hpre j (by simpa using hj), by
    simp only [Bool.or_eq_true, beq_iff_eq] at he
    rcases he with rfl | he
    · exact s.me
    · exact s.hsuc e (by simpa using he)⟩))
theorem av_os (n j : Nat) {f : Fact} (h : X.os[n]? = some (j, f)) (hj : (j == i || suc.contains j) = true) : Av X i pre suc f :=
  fun _ _ _ _ s => .inr (.inl ⟨j, List.mem_of_getElem? h, by
    simp only [Bool.or_eq_true, beq_iff_eq] at hj
    rcases hj with rfl | hj
    · exact s.me
    · exact s.hsuc j (by simpa using hj)⟩)
theorem keep_or_new {c : Nat → Bool} {γ : Gho} {a : Act} {w : World} (s : Sit X i pre suc c γ a w) {ok : Fact → Bool} (hc : chkG X i pre suc ok = true) {f : Fact} (h : Has X (upd c i) f) : f ∈ resOf X i ∨ (Has X c f ∧ ok f = true) := by
  unfold chkG at hc
  simp only [Bool.and_eq_true, List.all_eq_true] at hc
  obtain ⟨⟨⟨h1, h2⟩, h3⟩, h4⟩ := hc
  have npre : ∀ j, c j = false → pre.contains j = false := fun j hj => by
    rw [Bool.eq_false_iff]; intro hp
    have := s.hpre j (by simpa using hp)
    rw [hj] at this; cases this
  have nsuc : ∀ j, c j = true → suc.contains j = false := fun j hj => by
    rw [Bool.eq_false_iff]; intro hp
    have := s.hsuc j (by simpa using hp)
    rw [hj] at this; cases this
  rcases h with h | ⟨j, h, hj⟩ | ⟨j, h, hj⟩ | ⟨j, e, h, hj, he⟩
  · exact .inr ⟨.inl h, h1 f h⟩
  · have hne : j ≠ i := fun e => by simp [upd, e] at hj
    have hj' : c j = false := by simpa [upd, hne] using hj
    have := h2 _ h
    simp only [Bool.or_eq_true, beq_iff_eq, hne, npre j hj', Bool.false_eq_true, false_or] at this
    exact .inr ⟨.inr (.inl ⟨j, h, hj'⟩), this⟩
  · by_cases hne : j = i
    · subst hne
      left; unfold resOf; rw [List.mem_append, List.mem_map]; exact .inl ⟨(j, f), by rw [List.mem_filter]; exact ⟨h, by simp⟩, rfl⟩
    · have hj' : c j = true := by simpa [upd, hne] using hj
      have := h3 _ h
      simp only [Bool.or_eq_true, beq_iff_eq, hne, nsuc j hj', Bool.false_eq_true, false_or, or_false] at this
      exact .inr ⟨.inr (.inr (.inl ⟨j, h, hj'⟩)), this⟩
  · have hne2 : e ≠ i := fun e' => by simp [upd, e'] at he
    have he' : c e = false := by simpa [upd, hne2] using he
    by_cases hne : j = i
    · subst hne
      left; unfold resOf; rw [List.mem_append, List.mem_map, List.mem_map]; exact .inr ⟨(j, e, f), by rw [List.mem_filter]; exact ⟨h, by simp [hne2]⟩, rfl⟩
    · have hj' : c j = true := by simpa [upd, hne] using hj
      have := h4 _ h
      simp only [Bool.or_eq_true, beq_iff_eq, hne, hne2, npre e he', nsuc j hj', Bool.false_eq_true, false_or, or_false] at this
      exact .inr ⟨.inr (.inr (.inr ⟨j, e, h, hj', he'⟩)), this⟩
/-- the step of an operation that uses up some blocks, and lays some facts -/
theorem good_step {c : Nat → Bool} {γ γ' : Gho} {a a' : Act} {w w' : World} (s : Sit X i pre suc c γ a w) {d : Option Nat} {ids : List Nat} (hc : chkM X i pre suc d ids = true) (E : Foot)
    (hE : ∀ b, E b → ∃ k ∈ ids, γ.σ k b ∧ ∃ r R, Has X c (.own k r R))
    (sz : a'.tmps.size = X.N) (df : a'.defers = []) (t : Turn E w w') (ha : ∀ f : Fact, d.all (fun d => !f.uses d) = true → ∀ w, f.holds X.toFr γ a w → f.holds X.toFr γ a' w)
    (hZ : ∀ b, γ.Z b → γ'.Z b) (hZ' : ∀ b, γ'.Z b → γ.Z b ∨ ((E b ∨ w.heap.size ≤ b) ∧ b < w'.heap.size))
    (hid : ∀ k, k ∉ ids → γ'.σ k = γ.σ k)
    (hl : ∀ f ∈ resOf X i, f.holds X.toFr γ' a' w')
    (hnew : ∀ k r R, .own k r R ∈ resOf X i → ∀ b, γ'.σ k b → (E b ∨ w.heap.size ≤ b) ∧ b < w'.heap.size ∧ ¬ γ'.Z b)
    (hsep : ∀ k r R k' r' R', .own k r R ∈ resOf X i → .own k' r' R' ∈ resOf X i → k ≠ k' → ∀ b, γ'.σ k b → ¬ γ'.σ k' b) :
    Good X.toFr (Has X (upd c i)) γ' a' w' := by
  have hEb : ∀ b, E b → b < w.heap.size ∧ (X.w0.heap.size ≤ b ∨ X.S0 b) ∧ ¬ γ.Z b := fun b hb => by
    obtain ⟨k, _, h1, r, R, h2⟩ := hE b hb
    exact s.g.bnd k r R h2 b h1
  have split : ∀ f, Has X (upd c i) f → f ∈ resOf X i ∨ (Has X c f ∧ okM d ids f = true) := fun f hf => keep_or_new s hc hf
  have off : ∀ k r R, okM d ids (.own k r R) = true → k ∉ ids := fun k r R h => by
    simp only [okM, Fact.off, Bool.and_eq_true, Bool.not_eq_true'] at h
    simpa using h.2
  have hold : ∀ k r R, Has X c (.own k r R) → k ∉ ids → ∀ b, γ.σ k b → ¬ E b ∧ b < w.heap.size := fun k r R h hk b hb => by
    refine ⟨fun he => ?_, (s.g.bnd k r R h b hb).1⟩
    obtain ⟨k', hk', h1, r', R', h2⟩ := hE b he
    exact s.g.sep k r R k' r' R' h h2 (fun e => hk (e ▸ hk')) b hb h1
  refine ⟨s.g.ok, sz, df, s.g.turn.trans t fun x hx he => ?_, fun b hb => hZ b (s.g.zmono b hb), fun b hb => ?_, fun f hf => ?_, fun k r R k' r' R' h h' hne b hb => ?_, fun k r R h b hb => ?_⟩
  · rcases (hEb x he).2.1 with h | h
    · omega
    · exact h
  · rcases hZ' b hb with h | ⟨h, hlt⟩
    · exact ⟨Nat.lt_of_lt_of_le (s.g.zof b h).1 t.size, (s.g.zof b h).2⟩
    · refine ⟨hlt, ?_⟩
      rcases h with h | h
      · rcases (hEb b h).2.1 with h | h
        · exact .inr (.inr h)
        · exact .inr (.inl h)
      · exact .inr (.inr (Nat.le_trans s.g.turn.size h))
  · rcases split f hf with h | ⟨h1, h2⟩
    · exact hl f h
    · have h2' := h2
      simp only [okM, Bool.and_eq_true] at h2
      have hbf : Still X.Bf w w' := fun b hb => t.block b (Nat.lt_of_lt_of_le (s.g.ok.b b hb) s.g.turn.size) fun he => by
        rcases (hEb b he).2.1 with h | h
        · have := s.g.ok.b b hb
          have h : X.w0.heap.size ≤ b := h
          have this : b < X.w0.heap.size := this
          omega
        · exact (s.g.ok.s b h).2.2 hb
      have hzs : Still γ.Z w w' := fun b hb => t.block b (s.g.zof b hb).1 fun he => (hEb b he).2.2 hb
      have h3 := fact_turn (γ' := γ') (s.g.hold f h1) hZ hzs t.toCalm hbf fun k r R e => by
        subst e
        have hk := off k r R h2'
        refine ⟨hid k hk, fun b hb => ?_⟩
        have := hold k r R h1 hk b hb
        exact t.block b this.2 this.1
      cases f with
      | is r x =>
        obtain ⟨v, g1, g2⟩ := h3
        obtain ⟨v', g3, g4⟩ := ha (.is (r) VP.any) h2.1 w' ⟨v, g1, trivial⟩
        obtain ⟨v0, g5, _⟩ := s.g.hold _ h1
        have := Ref.den_fun g1 g5
        subst this
        refine ⟨v, ?_, g2⟩
        obtain ⟨v2, g6, g7⟩ := ha (.is r (.eq v false false)) h2.1 w' ⟨v, g1, rfl, fun h => (by cases h), fun h => (by cases h)⟩
        have g7 : v2 = v := g7.1
        subst g7; exact g6
      | own id r R =>
        obtain ⟨v, g1, g2⟩ := h3
        obtain ⟨v2, g6, g7⟩ := ha (.is r (.eq v false false)) h2.1 w' ⟨v, g1, rfl, fun h => (by cases h), fun h => (by cases h)⟩
        have g7 : v2 = v := g7.1
        subst g7; exact ⟨_, g6, g2⟩
      | bor r R =>
        obtain ⟨v, S, g1, g2, g3⟩ := h3
        obtain ⟨v2, g6, g7⟩ := ha (.is r (.eq v false false)) h2.1 w' ⟨v, g1, rfl, fun h => (by cases h), fun h => (by cases h)⟩
        have g7 : v2 = v := g7.1
        subst g7; exact ⟨_, S, g6, g2, g3⟩
      | pt d' l => exact ha (.pt d' l) h2.1 w' h3
      | eq d' r => exact ha (.eq d' r) h2.1 w' h3
      | sub d' r off n => exact ha (.sub d' r off n) h2.1 w' h3
  · rcases split _ h with h1 | ⟨h1, h2⟩ <;> rcases split _ h' with h1' | ⟨h1', h2'⟩
    · exact hsep k r R k' r' R' h1 h1' hne b hb
    · intro hb'
      have hk' := off _ _ _ h2'
      rw [hid k' hk'] at hb'
      have := hold k' r' R' h1' hk' b hb'
      rcases (hnew k r R h1 b hb).1 with h | h
      · exact this.1 h
      · omega
    · intro hb'
      have hk := off _ _ _ h2
      rw [hid k hk] at hb
      have := hold k r R h1 hk b hb
      rcases (hnew k' r' R' h1' b hb').1 with h | h
      · exact this.1 h
      · omega
    · rw [hid k (off _ _ _ h2)] at hb
      rw [hid k' (off _ _ _ h2')]
      exact s.g.sep k r R k' r' R' h1 h1' hne b hb
  · rcases split _ h with h1 | ⟨h1, h2⟩
    · obtain ⟨h3, h4, h5⟩ := hnew k r R h1 b hb
      refine ⟨h4, ?_, h5⟩
      rcases h3 with h | h
      · exact (hEb b h).2.1
      · exact .inl (Nat.le_trans s.g.turn.size h)
    · have hk := off _ _ _ h2
      rw [hid k hk] at hb
      have h3 := s.g.bnd k r R h1 b hb
      have h4 := hold k r R h1 hk b hb
      refine ⟨Nat.lt_of_lt_of_le h3.1 t.size, h3.2.1, fun hz => ?_⟩
      rcases hZ' b hz with h | ⟨h | h, _⟩
      · exact h3.2.2 h
      · exact h4.1 h
      · omega
end
end O
end Go.Proofs.Ytapmngmpomhjmaa

/- The logic over objects: operations that turn nothing. -/
namespace Go.Proofs.Ytapmngmpomhjmaa
open Go.RowKit
namespace O
section
variable {X : Cx} {i : Nat} {pre suc : List Nat}
/-- an operation that turns nothing, and leaves a value in a slot -/
theorem does_val {o : Oper} {d : Nat} {f0 : Fact} (_hd : o.dst = some d) (_hlt : decide (d < X.N) = true) (hc : chk X i pre suc d = true) (hr : resOf X i = [f0]) (hno : f0.isOwn = false)
    (h : ∀ c γ a w, Sit X i pre suc c γ a w → ∀ Q (K : Act → World → Prop), (∀ v w', Ext w w' → f0.holds X.toFr γ (a.put (some d) v) w' → K (a.put (some d) v) w') → o.wp X.P a w K Q) : Does X i pre suc o := by
  intro c γ a w s Q K hK
  refine h c γ a w s Q K fun v w' e hl => hK γ _ _ (good_step (γ' := γ) (d := some d) (ids := []) s ?_ (fun _ => False) (fun _ h => h.elim) (by rw [put_size]; exact s.g.sz) (by rw [put_defers']; exact s.g.df) (.of_ext e) (fun f hf w h => fact_put h (by simpa using hf)) (fun _ h => h) (fun _ h => .inl h) (fun _ _ => rfl) (fun f hf => ?_) (fun k r R hf => ?_) (fun k r R k' r' R' hf => ?_))
  · have : okM (some d) [] = fun f : Fact => !f.uses d := funext fun f => by cases f <;> simp [okM, Fact.off]
    unfold chkM; rw [this]; exact hc
  · rw [hr, List.mem_singleton] at hf; subst hf; exact hl
  · rw [hr, List.mem_singleton] at hf; rw [← hf] at hno; cases hno
  · rw [hr, List.mem_singleton] at hf; rw [← hf] at hno; cases hno
theorem slot_put {F : Fr} {γ : Gho} {a : Act} {w : World} {d : Nat} {v : Value} {x : VP} (hN : a.tmps.size = F.N) (hlt : decide (d < F.N) = true) (h : x.p γ.Z v w) : (Fact.slot d x).holds F γ (a.put (some d) v) w :=
  ⟨v, put_eq v (by simp only [decide_eq_true_eq] at hlt; omega), h⟩
theorem does_run {o : Oper} {d : Nat} {x : VP} (hd : o.dst = some d) (hlt : decide (d < X.N) = true) (hc : chk X i pre suc d = true) (hr : resOf X i = [.slot d x])
    (h : ∀ c γ a w, Sit X i pre suc c γ a w → ∃ v, (execOp a.eval o).run X.P w = .ok (.value v) w ∧ x.p γ.Z v w) : Does X i pre suc o :=
  does_val hd hlt hc hr rfl fun c γ a w s Q K hK => by
    obtain ⟨v, h1, h2⟩ := h c γ a w s
    unfold Oper.wp
    rw [h1]
    show K (a.put o.dst v) w
    rw [hd]
    exact hK v w (Ext.refl w) (slot_put s.g.sz hlt h2)
/-- an operand's value -/
def Ar (X : Cx) (i : Nat) (pre suc : List Nat) (x : Operand) (q : Foot → Value → World → Prop) : Prop := ∀ c γ a w, Sit X i pre suc c γ a w → q γ.Z (a.eval x) w
theorem ar_tmp {k : Nat} {x : VP} (h : Av X i pre suc (.slot k x)) : Ar X i pre suc (.tmp k) x.p := fun c γ a w s => by
  obtain ⟨v, h1, h2⟩ := h.h s
  rw [eval_tmp h1]; exact h2
theorem ar_const {v : Value} {q : Foot → Value → World → Prop} (h : ∀ Z w, q Z v w) : Ar X i pre suc (.const v) q := fun _ γ _ w _ => h γ.Z w
theorem does_move {o : Oper} {d : Nat} {x : VP} (y : Operand) (hop : o.op = .move y ∨ o.op = .assign y) (hd : o.dst = some d) (hlt : decide (d < X.N) = true) (hc : chk X i pre suc d = true)
    (hr : resOf X i = [.slot d x]) (h : Ar X i pre suc y x.p) : Does X i pre suc o :=
  does_run hd hlt hc hr fun c γ a w s => ⟨a.eval y, by unfold execOp; rcases hop with e | e <;> rw [e] <;> rfl, h c γ a w s⟩
theorem does_pick {o : Oper} {d : Nat} {x : VP} (b : Bool) (y u v : Operand) (hop : o.op = .pick y u v) (hd : o.dst = some d) (hlt : decide (d < X.N) = true) (hc : chk X i pre suc d = true)
    (hr : resOf X i = [.slot d x]) (hb : Ar X i pre suc y (VP.bool b).p) (h : Ar X i pre suc (if b then u else v) x.p) : Does X i pre suc o :=
  does_run hd hlt hc hr fun c γ a w s => ⟨a.eval (if b then u else v), by
    have := hb c γ a w s
    unfold execOp; rw [hop]
    have hb' : a.eval y = .bool b := this
    cases b <;> simp [hb', asBool], h c γ a w s⟩
theorem does_not {o : Oper} {d : Nat} (b : Bool) (T : TypeId) (y : Operand) (hop : o.op = .unOp .not T y) (hd : o.dst = some d) (hlt : decide (d < X.N) = true) (hc : chk X i pre suc d = true)
    (hr : resOf X i = [.slot d (VP.bool (!b))]) (hb : Ar X i pre suc y (VP.bool b).p) : Does X i pre suc o :=
  does_run hd hlt hc hr fun c γ a w s => ⟨.bool (!b), by
    have hb' : a.eval y = .bool b := hb c γ a w s
    unfold execOp; rw [hop]
    simp [hb', Op.unary], rfl⟩
theorem does_extract {o : Oper} {d : Nat} {ps : List VP} {x : VP} (y : Operand) (n : Nat) (hop : o.op = .extract y n) (hd : o.dst = some d) (hlt : decide (d < X.N) = true) (hc : chk X i pre suc d = true)
    (hr : resOf X i = [.slot d x]) (hb : Ar X i pre suc y (VP.tup ps).p) (hn : ps[n]? = some x) : Does X i pre suc o :=
  does_run hd hlt hc hr fun c γ a w s => by
    obtain ⟨cs, h1, h2⟩ := hb c γ a w s
    obtain ⟨v, hv, hp⟩ := h2.get hn
    exact ⟨v, by unfold execOp; rw [hop]; simp [h1, Instr.extract, hv], hp⟩
theorem does_cmp {o : Oper} {d : Nat} {m n : Int} {b : Bool} (op : BinOp) (T T' : TypeId) (y z : Operand) (hop : o.op = .binOp op T y z T') (hd : o.dst = some d) (hlt : decide (d < X.N) = true) (hc : chk X i pre suc d = true)
    (hr : resOf X i = [.slot d (VP.bool b)])
    (hb : (match op with | .eql => some (m == n) | .neq => some (m != n) | .lss => some (decide (m < n)) | .leq => some (decide (m ≤ n)) | .gtr => some (decide (m > n)) | .geq => some (decide (m ≥ n)) | _ => none) = some b)
    (k : IntKind) (h1 : Ar X i pre suc y (VP.int k m).p) (h2 : Ar X i pre suc z (VP.int k n).p) : Does X i pre suc o :=
  does_run hd hlt hc hr fun c γ a w s => by
    have e1 : a.eval y = .int k m := h1 c γ a w s
    have e2 : a.eval z = .int k n := h2 c γ a w s
    refine ⟨.bool b, ?_, rfl⟩
    unfold execOp; rw [hop]
    cases op <;> simp at hb <;> (subst hb; simp [e1, e2, eqGuard, binOp, Op.intCmp])
theorem does_eqStr {o : Oper} {d : Nat} {u v : ByteArray} {b : Bool} (op : BinOp) (T T' : TypeId) (y z : Operand) (hop : o.op = .binOp op T y z T') (hd : o.dst = some d) (hlt : decide (d < X.N) = true) (hc : chk X i pre suc d = true)
    (hr : resOf X i = [.slot d (VP.bool b)])
    (hb : (match op with | .eql => some (u.toList == v.toList) | .neq => some (!(u.toList == v.toList)) | _ => none) = some b)
    (h1 : Ar X i pre suc y (VP.str u).p) (h2 : Ar X i pre suc z (VP.str v).p) : Does X i pre suc o :=
  does_run hd hlt hc hr fun c γ a w s => by
    have e1 : a.eval y = .string u := h1 c γ a w s
    have e2 : a.eval z = .string v := h2 c γ a w s
    refine ⟨.bool b, ?_, rfl⟩
    unfold execOp; rw [hop]
    cases op <;> first
      | (cases hb; done)
      | (have hb' := Option.some.inj hb; subst hb'; simp [e1, e2, eqGuard, binOp, Op.stringOp])
theorem av_bool {k : Nat} {b b' : Bool} (e : b = b') (h : Av X i pre suc (.slot k (VP.bool b))) : Av X i pre suc (.slot k (VP.bool b')) := e ▸ h
theorem does_eqBool {o : Oper} {d : Nat} {u v b : Bool} (op : BinOp) (T T' : TypeId) (y z : Operand) (hu : X.P.underlying T = some .bool) (hop : o.op = .binOp op T y z T') (hd : o.dst = some d) (hlt : decide (d < X.N) = true) (hc : chk X i pre suc d = true)
    (hr : resOf X i = [.slot d (VP.bool b)]) (hb : (match op with | .eql => some (u == v) | .neq => some (!(u == v)) | _ => none) = some b)
    (h1 : Ar X i pre suc y (VP.bool u).p) (h2 : Ar X i pre suc z (VP.bool v).p) : Does X i pre suc o :=
  does_run hd hlt hc hr fun c γ a w s => by
    have e1 : a.eval y = .bool u := h1 c γ a w s
    have e2 : a.eval z = .bool v := h2 c γ a w s
    refine ⟨.bool b, ?_, rfl⟩
    unfold execOp; rw [hop]
    cases op <;> first
      | (cases hb; done)
      | (have hb' := Option.some.inj hb; subst hb'; simp [e1, e2, eqGuard, run_eqlBool w hu, run_neqBool w hu])
theorem does_mulInt {o : Oper} {d : Nat} {m n : Int} (T T' : TypeId) (y z : Operand) (hop : o.op = .binOp .mul T y z T') (hd : o.dst = some d) (hlt : decide (d < X.N) = true) (hc : chk X i pre suc d = true)
    (hr : resOf X i = [.slot d (VP.int .i64 (m * n))]) (hb : -9223372036854775808 ≤ m * n ∧ m * n < 9223372036854775808)
    (h1 : Ar X i pre suc y (VP.int .i64 m).p) (h2 : Ar X i pre suc z (VP.int .i64 n).p) : Does X i pre suc o :=
  does_run hd hlt hc hr fun c γ a w s => by
    have e1 : a.eval y = .int .i64 m := h1 c γ a w s
    have e2 : a.eval z = .int .i64 n := h2 c γ a w s
    refine ⟨.int .i64 (m * n), ?_, rfl⟩
    have hw : IntKind.i64.wrap (m * n) = m * n := IntWalk.i64_in _ (by omega)
    unfold execOp; rw [hop]
    simp [e1, e2, eqGuard, binOp, Op.intArith, hw]
theorem does_addInt {o : Oper} {d : Nat} {m n : Int} (T T' : TypeId) (y z : Operand) (hop : o.op = .binOp .add T y z T') (hd : o.dst = some d) (hlt : decide (d < X.N) = true) (hc : chk X i pre suc d = true)
    (hr : resOf X i = [.slot d (VP.int .i64 (m + n))]) (hb : -9223372036854775808 ≤ m + n ∧ m + n < 9223372036854775808)
    (h1 : Ar X i pre suc y (VP.int .i64 m).p) (h2 : Ar X i pre suc z (VP.int .i64 n).p) : Does X i pre suc o :=
  does_run hd hlt hc hr fun c γ a w s => by
    have e1 : a.eval y = .int .i64 m := h1 c γ a w s
    have e2 : a.eval z = .int .i64 n := h2 c γ a w s
    refine ⟨.int .i64 (m + n), ?_, rfl⟩
    have hw : IntKind.i64.wrap (m + n) = m + n := IntWalk.i64_in _ (by omega)
    unfold execOp; rw [hop]
    simp [e1, e2, eqGuard, binOp, Op.intArith, hw]
theorem does_subInt {o : Oper} {d : Nat} {m n : Int} (T T' : TypeId) (y z : Operand) (hop : o.op = .binOp .sub T y z T') (hd : o.dst = some d) (hlt : decide (d < X.N) = true) (hc : chk X i pre suc d = true)
    (hr : resOf X i = [.slot d (VP.int .i64 (m - n))]) (hb : -9223372036854775808 ≤ m - n ∧ m - n < 9223372036854775808)
    (h1 : Ar X i pre suc y (VP.int .i64 m).p) (h2 : Ar X i pre suc z (VP.int .i64 n).p) : Does X i pre suc o :=
  does_run hd hlt hc hr fun c γ a w s => by
    have e1 : a.eval y = .int .i64 m := h1 c γ a w s
    have e2 : a.eval z = .int .i64 n := h2 c γ a w s
    refine ⟨.int .i64 (m - n), ?_, rfl⟩
    have hw : IntKind.i64.wrap (m - n) = m - n := IntWalk.i64_in _ (by omega)
    unfold execOp; rw [hop]
    simp [e1, e2, eqGuard, binOp, Op.intArith, hw]
theorem does_indexStr {o : Oper} {d m n : Nat} {s : ByteArray} {T : TypeId} (y z : Operand) (hu : X.P.underlying T = some .string) (hop : o.op = .index T y z) (hd : o.dst = some d) (hlt : decide (d < X.N) = true) (hc : chk X i pre suc d = true)
    (hr : resOf X i = [.slot d (VP.int .u8 (n : Nat))]) (hm : ∃ h : m < s.size, s[m].toNat = n) (h1 : Ar X i pre suc y (VP.str s).p) (h2 : Ar X i pre suc z (VP.int .i64 (m : Nat)).p) : Does X i pre suc o :=
  does_run hd hlt hc hr fun c γ a w st => by
    have e1 : a.eval y = .string s := h1 c γ a w st
    have e2 : a.eval z = .int .i64 (m : Nat) := h2 c γ a w st
    obtain ⟨hlt', hn⟩ := hm
    refine ⟨.int .u8 (n : Nat), ?_, rfl⟩
    unfold execOp; rw [hop]
    have : (Instr.index T (.string s) (.int .i64 (m : Nat))).run X.P w = .ok (.int .u8 (n : Nat)) w := by
      unfold Instr.index
      simp [asIntOf, run_underlying hu, hlt', hn]
    simp only [e1, e2, Sem.run_bind, this, Result.andThen_ok, Sem.run_pure]
theorem does_conv {o : Oper} {d : Nat} {n : Int} {k k' : IntKind} {T T' : TypeId} (y : Operand) (hu : X.P.underlying T = some (.int k)) (hu' : X.P.underlying T' = some (.int k')) (hop : o.op = .convert T T' y) (hd : o.dst = some d) (hlt : decide (d < X.N) = true) (hc : chk X i pre suc d = true)
    (hr : resOf X i = [.slot d (VP.int k' n)]) (hw : k'.wrap n = n) (h1 : Ar X i pre suc y (VP.int k n).p) : Does X i pre suc o :=
  does_run hd hlt hc hr fun c γ a w s => by
    have e1 : a.eval y = .int k n := h1 c γ a w s
    refine ⟨.int k' n, ?_, rfl⟩
    unfold execOp; rw [hop]
    simp [e1, convert, run_underlying hu, run_underlying hu', Conv.intToInt, hw]
theorem does_lenStr {o : Oper} {d : Nat} {s : ByteArray} (T : TypeId) (y : Operand) (hu : X.P.underlying T = some .string) (hop : o.op = .call { callee := .builtin .len, args := #[y], argTypes := #[T] }) (hd : o.dst = some d) (hlt : decide (d < X.N) = true) (hc : chk X i pre suc d = true)
    (hr : resOf X i = [.slot d (VP.int .i64 (s.size : Nat))]) (h : Ar X i pre suc y (VP.str s).p) : Does X i pre suc o :=
  does_run hd hlt hc hr fun c γ a w st => by
    have e1 : a.eval y = .string s := h c γ a w st
    refine ⟨.int .i64 (s.size : Nat), ?_, rfl⟩
    unfold execOp; rw [hop]
    simp [resolve, invoke, builtin, Builtin.len_, run_underlying hu, e1, goInt]
theorem ar_int_eq {x : Operand} {k : IntKind} {m n : Int} (e : m = n) (h : Ar X i pre suc x (VP.int k m).p) : Ar X i pre suc x (VP.int k n).p := e ▸ h
theorem does_subE {o : Oper} {d : Nat} {m n x : Int} (hx : m - n = x) (T T' : TypeId) (y z : Operand) (hop : o.op = .binOp .sub T y z T') (hd : o.dst = some d) (hlt : decide (d < X.N) = true) (hc : chk X i pre suc d = true)
    (hr : resOf X i = [.slot d (VP.int .i64 x)]) (hb : -9223372036854775808 ≤ x ∧ x < 9223372036854775808)
    (h1 : Ar X i pre suc y (VP.int .i64 m).p) (h2 : Ar X i pre suc z (VP.int .i64 n).p) : Does X i pre suc o := by
  subst hx; exact does_subInt T T' y z hop hd hlt hc hr hb h1 h2
theorem does_addE {o : Oper} {d : Nat} {m n x : Int} (hx : m + n = x) (T T' : TypeId) (y z : Operand) (hop : o.op = .binOp .add T y z T') (hd : o.dst = some d) (hlt : decide (d < X.N) = true) (hc : chk X i pre suc d = true)
    (hr : resOf X i = [.slot d (VP.int .i64 x)]) (hb : -9223372036854775808 ≤ x ∧ x < 9223372036854775808)
    (h1 : Ar X i pre suc y (VP.int .i64 m).p) (h2 : Ar X i pre suc z (VP.int .i64 n).p) : Does X i pre suc o := by
  subst hx; exact does_addInt T T' y z hop hd hlt hc hr hb h1 h2
/-- an operation on two integers -/
theorem does_bin {o : Oper} {d : Nat} {k k' k2 : IntKind} {m n r : Int} (op : BinOp) (T T' : TypeId) (y z : Operand) (hop : o.op = .binOp op T y z T') (hd : o.dst = some d) (hlt : decide (d < X.N) = true) (hc : chk X i pre suc d = true)
    (hr : resOf X i = [.slot d (VP.int k2 r)]) (hne : (match op with | .eql | .neq => false | _ => true) = true) (hb : ∀ w, (binOp op T (.int k m) (.int k' n)).run X.P w = .ok (.int k2 r) w)
    (h1 : Ar X i pre suc y (VP.int k m).p) (h2 : Ar X i pre suc z (VP.int k' n).p) : Does X i pre suc o :=
  does_run hd hlt hc hr fun c γ a w s => by
    have e1 : a.eval y = .int k m := h1 c γ a w s
    have e2 : a.eval z = .int k' n := h2 c γ a w s
    refine ⟨.int k2 r, ?_, rfl⟩
    unfold execOp; rw [hop]
    have hg : (eqGuard op T y z (.int k m) (.int k' n)).run X.P w = .ok () w := by
      unfold eqGuard
      cases op <;> simp at hne ⊢
    simp only [e1, e2, Sem.run_bind, hg, Result.andThen_ok, hb w, Sem.run_pure]
theorem does_nilCheck {o : Oper} {d : Nat} {x : VP} (y : Operand) (hop : o.op = .nilCheck y) (hd : o.dst = some d) (hlt : decide (d < X.N) = true) (hc : chk X i pre suc d = true)
    (hr : resOf X i = [.slot d x]) (hn : Ar X i pre suc y (fun _ v _ => ∃ g o, v = .pointer (some ⟨g, o, none⟩))) (h : Ar X i pre suc y x.p) : Does X i pre suc o :=
  does_run hd hlt hc hr fun c γ a w s => by
    obtain ⟨g, o', e⟩ := hn c γ a w s
    refine ⟨a.eval y, ?_, h c γ a w s⟩
    unfold execOp; rw [hop]
    simp [e]
/-- a pointer, this one -/
def VP.ptr (v : Value) : VP := .free (fun u => u = v ∧ ∃ g o, v = .pointer (some ⟨g, o, none⟩)) true (fun _ u hu n e => (by obtain ⟨h1, g, o, h2⟩ := hu; rw [h1, h2] at e; cases e)) true (fun _ u hu => (by obtain ⟨h1, g, o, h2⟩ := hu; rw [h1, h2]; rfl))
theorem does_nil {o : Oper} {d : Nat} {v : Value} (y : Operand) (hop : o.op = .nilCheck y) (hd : o.dst = some d) (hlt : decide (d < X.N) = true) (hc : chk X i pre suc d = true)
    (hr : resOf X i = [.slot d (VP.ptr v)]) (h : Ar X i pre suc y (VP.ptr v).p) : Does X i pre suc o :=
  does_nilCheck y hop hd hlt hc hr (fun c γ a w s => by obtain ⟨h1, g, o, h2⟩ := h c γ a w s; exact ⟨g, o, h1.trans h2⟩) h
end
end O
end Go.Proofs.Ytapmngmpomhjmaa

/- The logic over objects: places in memory, what is read there, boxes, what is written. -/
namespace Go.Proofs.Ytapmngmpomhjmaa
open Go.RowKit
namespace O
theorem AllS.subS {Z : Foot} {ps : List HA} {vs : List Value} {w : World} {S S' : Foot} (h : AllS Z ps vs w S) (e : ∀ b, S b ↔ S' b) : AllS Z ps vs w S' := by
  have : S = S' := funext fun b => propext (e b)
  exact this ▸ h
/-- some are taken out, others laid in their place -/
theorem AllS.splice {Z : Foot} {ps qs : List HA} {vs us : List Value} {w : World} {S T : Foot} (h : AllS Z ps vs w S) (off n : Nat) (hl : off + n ≤ ps.length) (k : AllS Z qs us w T) (hd : ∀ b, S b → ¬ T b) :
    ∃ S' : Foot, (∀ b, S' b → S b) ∧ AllS Z (ps.take off ++ qs ++ ps.drop (off + n)) (vs.take off ++ us ++ vs.drop (off + n)) w (fun b => S' b ∨ T b) := by
  have hlen := h.len
  have e1 : ps = ps.take off ++ ((ps.drop off).take n ++ ps.drop (off + n)) := by
    rw [← List.drop_drop, List.take_append_drop, List.take_append_drop]
  rw [e1] at h
  obtain ⟨S1, S2, g1, g2, g3, g4⟩ := AllS.unapp h
  obtain ⟨S3, S4, g5, g6, _, g8⟩ := AllS.unapp g4
  rw [show (ps.take off).length = off from by rw [List.length_take]; omega] at g3 g8
  rw [show ((ps.drop off).take n).length = n from by rw [List.length_take, List.length_drop]; omega, List.drop_drop] at g8
  refine ⟨fun b => S1 b ∨ S4 b, fun b hb => ?_, ?_⟩
  · rcases hb with hb | hb
    · exact (g1 b).2 (.inl hb)
    · exact (g1 b).2 (.inr ((g5 b).2 (.inr hb)))
  · have h1 := AllS.app g3 k fun b hb => hd b ((g1 b).2 (.inl hb))
    have h2 := AllS.app h1 g8 fun b hb hb' => by
      rcases hb with hb | hb
      · exact g2 b hb ((g5 b).2 (.inr hb'))
      · exact hd b ((g1 b).2 (.inr ((g5 b).2 (.inr hb')))) hb
    refine h2.subS fun b => ?_
    constructor
    · rintro ((h | h) | h)
      · exact .inl (.inl h)
      · exact .inr h
      · exact .inl (.inr h)
    · rintro ((h | h) | h)
      · exact .inl (.inl h)
      · exact .inr h
      · exact .inl (.inr h)
section
variable {X : Cx} {i : Nat} {pre suc : List Nat}
/-! ### places -/
def Pt (X : Cx) (i : Nat) (pre suc : List Nat) (x : Operand) (l : Loc) : Prop := ∀ c γ a w, Sit X i pre suc c γ a w → ∃ g o, l.at a g o ∧ a.eval x = .pointer (some ⟨g, o, none⟩)
theorem pt_pt {d : Nat} {l : Loc} (h : Av X i pre suc (.pt d l)) : Pt X i pre suc (.tmp d) l := fun c γ a w s => by
  obtain ⟨g, o, h1, h2⟩ := h.h s
  exact ⟨g, o, h1, eval_tmp h2⟩
theorem pt_ptr {y : Operand} {v : Value} (h : Ar X i pre suc y (VP.ptr v).p) : Pt X i pre suc y (.blk (.val v) 0) := fun c γ a w s => by
  obtain ⟨h1, g, o, h2⟩ := h c γ a w s
  exact ⟨g, o, ⟨o, Eq.symm h2, rfl⟩, h1.trans h2⟩
theorem pt_box {k id : Nat} {T : TypeId} {Rs : List HA} (h : Av X i pre suc (.own id (.tmp k) (HA.cells T Rs))) : Pt X i pre suc (.tmp k) (.blk (.tmp k) 0) := fun c γ a w s => by
  obtain ⟨v, h1, g, cs, S', rfl, _⟩ := h.h s
  exact ⟨g, 0, ⟨0, h1, rfl⟩, eval_tmp h1⟩
theorem does_field {o : Oper} {d : Nat} {l : Loc} (T : TypeId) (y : Operand) (f fo : Nat) (hf : fieldAt X.P T f fo = true) (hop : o.op = .fieldAddr T y f) (hd : o.dst = some d) (hlt : decide (d < X.N) = true) (hk : l.ref.uses d = false) (hc : chk X i pre suc d = true)
    (hr : resOf X i = [.pt d (l.add fo)]) (h : Pt X i pre suc y l) : Does X i pre suc o :=
  does_val hd hlt hc hr rfl fun c γ a w s Q K hK => by
    obtain ⟨g, o', h1, h2⟩ := h c γ a w s
    unfold Oper.wp execOp
    rw [hop]
    simp only [h2, Sem.run_bind, run_fieldAt hf, Result.andThen_ok, Sem.run_pure]
    show K (a.put o.dst _) w
    rw [hd]
    refine hK _ w (Ext.refl w) ⟨g, o' + fo, Loc.add_at (Loc.at_put h1 hk), put_eq _ ?_⟩
    simp only [decide_eq_true_eq] at hlt; rw [s.g.sz]; exact hlt
/-! ### what is read -/
def Rds (X : Cx) (i : Nat) (pre suc : List Nat) (l : Loc) (ps : List VP) : Prop := ∀ c γ a w, Sit X i pre suc c γ a w → ∀ g o, l.at a g o → Cells γ.Z w g o ps
theorem cells_of_alls {Z : Foot} {w : World} {g off : Nat} {T : TypeId} {cs : List Value} {Rs : List HA} {S : Foot} (hr : Row w g T cs) (h : AllS Z Rs cs w S) {ps : List VP} (hq : ∀ j x, ps[j]? = some x → Rs[off + j]? = some (HA.of x)) : Cells Z w g off ps := fun j x hx => by
  obtain ⟨u, h1, h2⟩ := h.vp (hq j x hx)
  exact ⟨u, hr.cell h1, h2⟩
theorem hq_one {Rs : List HA} {off : Nat} {x : VP} (h : Rs[off]? = some (HA.of x)) : ∀ j y, [x][j]? = some y → Rs[off + j]? = some (HA.of y) := fun j y hy => by
  cases j with
  | zero => simp at hy; subst hy; exact h
  | succ j => simp at hy
theorem hq_many {Rs : List HA} {off n : Nat} {ps : List VP} (h : (Rs.drop off).take n = ps.map HA.of) : ∀ j y, ps[j]? = some y → Rs[off + j]? = some (HA.of y) := fun j y hy => by
  have h1 : ((Rs.drop off).take n)[j]? = some (HA.of y) := by rw [h, List.getElem?_map, hy]; rfl
  rw [List.getElem?_take] at h1
  split at h1
  · rwa [List.getElem?_drop] at h1
  · cases h1
theorem rds_box {id off : Nat} {r : Ref} {T : TypeId} {Rs : List HA} {ps : List VP} (h : Av X i pre suc (.own id r (HA.cells T Rs))) (hq : ∀ j x, ps[j]? = some x → Rs[off + j]? = some (HA.of x)) : Rds X i pre suc (.blk r off) ps := fun c γ a w s g o ha => by
  obtain ⟨v, h1, g', cs, S', rfl, h2, h3, _⟩ := h.h s
  obtain ⟨b, h4, h5⟩ := ha
  have := Ref.den_fun h1 h4
  injection this with this; injection this with this; injection this with e1 e2
  subst e1 e2 h5
  rw [Nat.zero_add]
  exact cells_of_alls h2 h3 hq
theorem rds_bbox {off : Nat} {r : Ref} {T : TypeId} {Rs : List HA} {ps : List VP} (h : Av X i pre suc (.bor r (HA.cells T Rs))) (hq : ∀ j x, ps[j]? = some x → Rs[off + j]? = some (HA.of x)) : Rds X i pre suc (.blk r off) ps := fun c γ a w s g o ha => by
  obtain ⟨v, S, h1, _, g', cs, S', rfl, h2, h3, _⟩ := h.h s
  obtain ⟨b, h4, h5⟩ := ha
  have := Ref.den_fun h1 h4
  injection this with this; injection this with this; injection this with e1 e2
  subst e1 e2 h5
  rw [Nat.zero_add]
  exact cells_of_alls h2 h3 hq
theorem row_cells {Z : Foot} {w : World} {E : TypeId} {sz n : Nat} {Rs : List HA} {v : Value} {S : Foot} (h : (HA.row E sz n Rs).p Z v w S) {g b n' c' : Nat} (hv : v = .slice (some ⟨g, b, none⟩) n' c') {off : Nat} {ps : List VP} (hq : ∀ j x, ps[j]? = some x → Rs[off + j]? = some (HA.of x)) : Cells Z w g (b + off) ps := by
  obtain ⟨h0, ⟨h1, _⟩ | ⟨g', cap, cur, S', h1, h2, _, _, h5, h6, _⟩⟩ := h
  · rw [h1] at hv; cases hv
  · rw [h1] at hv
    injection hv with hv _ _
    injection hv with hv
    injection hv with e1 e2
    subst e1 e2
    intro j x hx
    obtain ⟨u, h7, h8⟩ := h6.vp (hq j x hx)
    refine ⟨u, ?_, h8⟩
    rw [List.getElem?_take] at h7
    split at h7
    · rw [cell_of_row w g' _ cur E (0, 0) h2, Nat.zero_add]
      simpa using h7
    · cases h7
theorem rds_row {id off : Nat} {r : Ref} {E : TypeId} {sz n : Nat} {Rs : List HA} {ps : List VP} (h : Av X i pre suc (.own id r (HA.row E sz n Rs))) (hq : ∀ j x, ps[j]? = some x → Rs[off + j]? = some (HA.of x)) : Rds X i pre suc (.row r off) ps := fun c γ a w s g o ha => by
  obtain ⟨v, h1, h2⟩ := h.h s
  obtain ⟨b, n', c', h4, rfl⟩ := ha
  exact row_cells h2 (Ref.den_fun h1 h4) hq
theorem rds_brow {off : Nat} {r : Ref} {E : TypeId} {sz n : Nat} {Rs : List HA} {ps : List VP} (h : Av X i pre suc (.bor r (HA.row E sz n Rs))) (hq : ∀ j x, ps[j]? = some x → Rs[off + j]? = some (HA.of x)) : Rds X i pre suc (.row r off) ps := fun c γ a w s g o ha => by
  obtain ⟨v, S, h1, _, h2⟩ := h.h s
  obtain ⟨b, n', c', h4, rfl⟩ := ha
  exact row_cells h2 (Ref.den_fun h1 h4) hq
theorem rds_ro {off n : Nat} {r : Ref} {qs ps : List VP} (h : Av X i pre suc (.is r (VP.ro n qs))) (hq : ∀ j x, ps[j]? = some x → qs[off + j]? = some x) : Rds X i pre suc (.row r off) ps := fun c γ a w s g o ha => by
  obtain ⟨v, h1, ad, cp, h2, _, _, h3⟩ := h.h s
  obtain ⟨b, n', c', h4, rfl⟩ := ha
  have := Ref.den_fun h1 h4
  rw [h2] at this
  injection this with e1 _ _
  subst e1
  intro j x hx
  rcases h3 with h3 | ⟨g', o', h5, _, h6⟩
  · have := hq j x hx
    rw [h3] at this; simp at this
  · injection h5 with h5
    injection h5 with e1 e2
    subst e1 e2
    rw [Nat.add_assoc]
    exact h6 _ _ (hq j x hx)
theorem cells_one {Z : Foot} {w : World} {g off : Nat} {x : VP} (h : Cells Z w g off [x]) : ∃ u, w.cell? ⟨g, off, none⟩ = some u ∧ x.p Z u w := h 0 x rfl
theorem cells_all2' {Z : Foot} {w : World} {g off : Nat} {ps : List VP} (h : Cells Z w g off ps) : ∃ cs : List Value, All2 Z ps cs w ∧ ∀ j u, cs[j]? = some u → w.cell? ⟨g, off + j, none⟩ = some u := by
  refine ⟨(List.range ps.length).map fun j => (w.cell? ⟨g, off + j, none⟩).getD undef, All2.of_get (by simp) fun i x v hx hv => ?_, fun j u hu => ?_⟩
  · obtain ⟨u, h1, h2⟩ := h i x hx
    rw [List.getElem?_map, Option.map_eq_some_iff] at hv
    obtain ⟨k, hk, rfl⟩ := hv
    have hk := List.getElem?_range (List.getElem?_eq_some_iff.1 hx).1 ▸ hk
    injection hk with hk
    subst hk
    rw [h1]; exact h2
  · rw [List.getElem?_map, Option.map_eq_some_iff] at hu
    obtain ⟨k, hk, rfl⟩ := hu
    have hj : j < ps.length := by simpa using (List.getElem?_eq_some_iff.1 hk).1
    rw [List.getElem?_range hj] at hk
    injection hk with hk
    subst hk
    obtain ⟨u, h1, _⟩ := h j _ (List.getElem?_eq_getElem hj)
    rw [h1]; rfl
theorem does_loadOne {o : Oper} {d : Nat} {l : Loc} {T : TypeId} {x : VP} (y : Operand) (ht : oneTy X.P T = true) (hop : o.op = .load T y) (hd : o.dst = some d) (hlt : decide (d < X.N) = true) (hc : chk X i pre suc d = true)
    (hr : resOf X i = [.slot d x]) (hp : Pt X i pre suc y l) (h : Rds X i pre suc l [x]) : Does X i pre suc o :=
  does_run hd hlt hc hr fun c γ a w s => by
    obtain ⟨g, o', h1, h2⟩ := hp c γ a w s
    obtain ⟨u, h3, h4⟩ := cells_one (h c γ a w s g o' h1)
    refine ⟨u, ?_, h4⟩
    unfold execOp; rw [hop]
    simp [h2, Instr.loadAt, Instr.sureAddr, loadVar, run_isOne ht, h3]
theorem does_loadAgg {o : Oper} {d : Nat} {l : Loc} {T : TypeId} {ps : List VP} (y : Operand) (ht : aggTy X.P T ps.length = true) (hop : o.op = .load T y) (hd : o.dst = some d) (hlt : decide (d < X.N) = true) (hc : chk X i pre suc d = true)
    (hr : resOf X i = [.slot d (VP.agg ps)]) (hp : Pt X i pre suc y l) (h : Rds X i pre suc l ps) : Does X i pre suc o :=
  does_run hd hlt hc hr fun c γ a w s => by
    obtain ⟨g, o', h1, h2⟩ := hp c γ a w s
    obtain ⟨cs, h3, h4⟩ := cells_all2' (h c γ a w s g o' h1)
    have hcl := h3.len
    have := run_loadCells_list (P := X.P) w ⟨g, o', none⟩ cs (fun j v hv => by rw [add_plain]; exact h4 j v hv)
    rw [hcl] at this
    refine ⟨.agg cs.toArray, ?_, cs, rfl, h3⟩
    unfold execOp; rw [hop]
    simp [h2, Instr.loadAt, Instr.sureAddr, loadVar, run_isAgg ht, run_sizeAgg ht, this]
/-! ### operands whose blocks move -/
/-- the operand is a value of these cells; what is theirs is of fact id's blocks -/
def Cv (X : Cx) (i : Nat) (pre suc : List Nat) (y : Operand) (Rs : List HA) (id : Option Nat) : Prop := ∀ c γ a w, Sit X i pre suc c γ a w → ∃ S, AllS γ.Z Rs (a.eval y).cells.toList w S ∧ ∀ b, S b → ∃ k ∈ id, γ.σ k b ∧ ∃ r R, Has X c (.own k r R)
/-- the operand has this value -/
def Mv (X : Cx) (i : Nat) (pre suc : List Nat) (y : Operand) (R : HA) (id : Option Nat) : Prop := ∀ c γ a w, Sit X i pre suc c γ a w → ∃ S, R.p γ.Z (a.eval y) w S ∧ ∀ b, S b → ∃ k ∈ id, γ.σ k b ∧ ∃ r R, Has X c (.own k r R)
theorem cells_of_one {v : Value} (h : v.oneCell' = true) : v.cells.toList = [v] := by cases v <;> first | rfl | (simp [Value.oneCell'] at h)
theorem mv_vp {y : Operand} {x : VP} (h : Ar X i pre suc y x.p) : Mv X i pre suc y (HA.of x) none := fun c γ a w s => ⟨fun _ => False, ⟨h c γ a w s, fun _ h => h⟩, fun _ h => h.elim⟩
theorem mv_own {k id : Nat} {R : HA} (h : Av X i pre suc (.own id (.tmp k) R)) : Mv X i pre suc (.tmp k) R (some id) := fun c γ a w s => by
  obtain ⟨v, h1, h2⟩ := h.h s
  rw [eval_tmp h1]
  exact ⟨γ.σ id, h2, fun b hb => ⟨id, rfl, hb, _, _, h c γ a w s⟩⟩
theorem mv_ownv {y : Operand} {id : Nat} {v : Value} {nu one : Bool} {R : HA} (h : Av X i pre suc (.own id (.val v) R)) (hy : Ar X i pre suc y (VP.eq v nu one).p) : Mv X i pre suc y R (some id) := fun c γ a w s => by
  obtain ⟨u, h1, h2⟩ := h.h s
  have h1 : u = v := h1
  subst h1
  have h3 : a.eval y = u := (hy c γ a w s).1
  rw [h3]
  exact ⟨γ.σ id, h2, fun b hb => ⟨id, rfl, hb, _, _, h c γ a w s⟩⟩
theorem cv_one {y : Operand} {R : HA} {id : Option Nat} (h1 : R.one = true) (h : Mv X i pre suc y R id) : Cv X i pre suc y [R] id := fun c γ a w s => by
  obtain ⟨S, h2, h3⟩ := h c γ a w s
  rw [cells_of_one (R.hone h1 _ _ _ _ h2)]
  exact ⟨S, ⟨S, fun _ => False, fun b => by simp, fun _ _ h => h, h2, fun _ h => h⟩, h3⟩
theorem cv_oagg {y : Operand} {Rs : List HA} {id : Option Nat} (h : Mv X i pre suc y (HA.agg Rs) id) : Cv X i pre suc y Rs id := fun c γ a w s => by
  obtain ⟨S, ⟨cs, h2, h4⟩, h3⟩ := h c γ a w s
  rw [h2]
  exact ⟨S, by simpa [Value.cells] using h4, h3⟩
theorem cv_agg {y : Operand} {ps : List VP} (h : Ar X i pre suc y (VP.agg ps).p) : Cv X i pre suc y (ps.map HA.of) none := fun c γ a w s => by
  obtain ⟨cs, h2, h4⟩ := h c γ a w s
  rw [h2]
  exact ⟨fun _ => False, AllS.of_all2 (fun _ h => h) (by simpa [Value.cells] using h4), fun _ h => h.elim⟩
/-- the ghost of a frame when fact id has new blocks -/
def Gho.set (γ : Gho) (id : Nat) (S : Foot) : Gho := ⟨fun k => if k = id then S else γ.σ k, γ.Z⟩
theorem Gho.set_eq (γ : Gho) (id : Nat) (S : Foot) : (γ.set id S).σ id = S := if_pos rfl
theorem Gho.set_ne (γ : Gho) {id k : Nat} (S : Foot) (h : k ≠ id) : (γ.set id S).σ k = γ.σ k := if_neg h
/-- an operation that turns what is fact id's, or is new, and what it takes up (ido), and leaves one fact that has blocks -/
theorem step_own {c : Nat → Bool} {γ : Gho} {a a' : Act} {w w' : World} (s : Sit X i pre suc c γ a w) {d : Option Nat} {id : Nat} {ids : List Nat} {r : Ref} {R : HA} (hc : chkM X i pre suc d (id :: ids) = true)
    (hr : resOf X i = [.own id r R]) (E S : Foot) (hE : ∀ b, E b → ∃ k ∈ id :: ids, γ.σ k b ∧ ∃ r R, Has X c (.own k r R))
    (sz : a'.tmps.size = X.N) (df : a'.defers = []) (t : Turn E w w') (ha : ∀ f : Fact, d.all (fun d => !f.uses d) = true → ∀ w, f.holds X.toFr γ a w → f.holds X.toFr γ a' w)
    {v : Value} (hv : r.den a' v) (hR : R.p γ.Z v w' S) (hS : ∀ b, S b → (E b ∨ w.heap.size ≤ b) ∧ b < w'.heap.size) : Good X.toFr (Has X (upd c i)) (γ.set id S) a' w' := by
  have hEz : ∀ b, E b → ¬ γ.Z b := fun b hb => by
    obtain ⟨k, _, h1, r', R', h2⟩ := hE b hb
    exact (s.g.bnd k r' R' h2 b h1).2.2
  have hnone : ∀ {f : Fact}, f ∈ resOf X i → f = .own id r R := fun hf => by rw [hr, List.mem_singleton] at hf; exact hf
  have ha' : ∀ f : Fact, d.all (fun d => !f.uses d) = true → ∀ w, f.holds X.toFr γ a w → f.holds X.toFr γ a' w := ha
  refine good_step (γ := γ) (γ' := γ.set id S) s hc E hE sz df t ha (fun _ h => h) (fun _ h => .inl h) (fun k hk => Gho.set_ne γ S fun e => hk (by rw [e]; exact List.mem_cons_self ..)) (fun f hf => ?_) (fun k r' R' hf b hb => ?_) (fun k r' R' k' r'' R'' h1 h2 hne => ?_)
  · rw [hnone hf]
    exact ⟨v, hv, by rw [Gho.set_eq]; exact hR⟩
  · have e := hnone hf
    injection e with e1 e2 e3
    subst e1
    rw [Gho.set_eq] at hb
    refine ⟨(hS b hb).1, (hS b hb).2, fun hz => ?_⟩
    rcases (hS b hb).1 with h | h
    · exact hEz b h hz
    · have := (s.g.zof b hz).1; omega
  · have e1 := hnone h1
    have e2 := hnone h2
    injection e1 with e1
    injection e2 with e2
    exact absurd (e1.trans e2.symm) hne
theorem ha_put (d : Nat) (a : Act) (v : Value) (F : Fr) (γ : Gho) : ∀ f : Fact, (some d).all (fun d => !f.uses d) = true → ∀ w, f.holds F γ a w → f.holds F γ (a.put (some d) v) w :=
  fun f hf _ h => fact_put h (by simpa using hf)
theorem turn_new {E : Foot} (w : World) (ob : Obj) : Turn E w (w.alloc ob) := .of_ext (Ext.new w ob)
theorem does_made {o : Oper} {d id : Nat} {R : HA} {ido : Option Nat} (hd : o.dst = some d) (hlt : decide (d < X.N) = true) (hc : chkM X i pre suc (some d) (id :: ido.toList) = true) (hr : resOf X i = [.own id (.tmp d) R])
    (h : ∀ c γ a w, Sit X i pre suc c γ a w → ∃ (v : Value) (ob : Obj) (S : Foot), (execOp a.eval o).run X.P w = .ok (.value v) (w.alloc ob) ∧ R.p γ.Z v (w.alloc ob) (fun b => b = w.heap.size ∨ S b) ∧ ∀ b, S b → ∃ k ∈ ido, γ.σ k b ∧ ∃ r R, Has X c (.own k r R)) : Does X i pre suc o := by
  intro c γ a w s Q K hK
  obtain ⟨v, ob, S, h1, h2, h3⟩ := h c γ a w s
  have hlt' := of_decide_eq_true hlt
  unfold Oper.wp
  rw [h1]
  show K (a.put o.dst v) _
  rw [hd]
  have e : Ext w (w.alloc ob) := Ext.new w ob
  have h3' : ∀ b, S b → ∃ k ∈ id :: ido.toList, γ.σ k b ∧ ∃ r R, Has X c (.own k r R) := fun b hb => by
    obtain ⟨k, hk, h4⟩ := h3 b hb
    exact ⟨k, List.mem_cons_of_mem _ (by simpa [Option.mem_toList] using hk), h4⟩
  refine hK _ _ _ (step_own s hc hr S _ h3' (by rw [put_size]; exact s.g.sz) (by rw [put_defers']; exact s.g.df) (turn_new w ob) (ha_put d a v _ γ) (put_eq v (by rw [s.g.sz]; exact hlt')) h2 fun b hb => ?_)
  rcases hb with rfl | hb
  · exact ⟨.inr (Nat.le_refl _), by simp⟩
  · obtain ⟨k, _, h4, r, R', h5⟩ := h3 b hb
    exact ⟨.inl hb, Nat.lt_of_lt_of_le (s.g.bnd k r R' h5 b h4).1 e.size⟩
theorem box_mk {Z : Foot} {w : World} {T : TypeId} {Rs : List HA} {cs : List Value} {S : Foot} (h : AllS Z Rs cs w S) (hn : Rs.all (·.nu) = true) (hz : ∀ b, Z b → b < w.heap.size) (hS : ∀ b, S b → b < w.heap.size) : (HA.cells T Rs).p Z (ptr w.heap.size) (w.alloc (.cells cs.toArray T)) (fun b => b = w.heap.size ∨ S b) := by
  have e := Ext.new w (.cells cs.toArray T)
  refine ⟨w.heap.size, cs, S, rfl, Row.new w T cs, h.st (fun _ h => h) (fun b hb => e.block b (hz b hb)) (.of_ext e) (fun b hb => e.block b (hS b hb)), fun b => Iff.rfl, fun hb => Nat.lt_irrefl _ (hS _ hb), h.nus hn⟩
theorem does_box {o : Oper} {d id : Nat} {T : TypeId} {Rs : List HA} {ido : Option Nat} (y : Operand) (hop : o.op = .box T y) (hd : o.dst = some d) (hlt : decide (d < X.N) = true) (hc : chkM X i pre suc (some d) (id :: ido.toList) = true) (hr : resOf X i = [.own id (.tmp d) (HA.cells T Rs)])
    (hn : Rs.all (·.nu) = true) (h : Cv X i pre suc y Rs ido) : Does X i pre suc o :=
  does_made hd hlt hc hr fun c γ a w s => by
    obtain ⟨S, h1, h2⟩ := h c γ a w s
    refine ⟨ptr w.heap.size, .cells (a.eval y).cells T, S, ?_, ?_, h2⟩
    · unfold execOp; rw [hop]
      simp [Instr.box, newVar, newRow, ptr]
    · have := box_mk (T := T) h1 hn (fun b hb => (s.g.zof b hb).1) fun b hb => by
        obtain ⟨k, _, h4, r, R', h5⟩ := h2 b hb
        exact (s.g.bnd k r R' h5 b h4).1
      simpa using this
theorem does_alloc {o : Oper} {d id : Nat} {T : TypeId} {zs : List Value} {ps : List VP} (hz : zeroOf X.P T zs) (hop : o.op = .alloc T) (hd : o.dst = some d) (hlt : decide (d < X.N) = true) (hc : chkM X i pre suc (some d) [id] = true) (hr : resOf X i = [.own id (.tmp d) (HA.cells T (ps.map HA.of))])
    (hn : ps.all (·.nu) = true) (h : ∀ Z w, All2 Z ps zs w) : Does X i pre suc o :=
  does_made (ido := none) hd hlt hc hr fun c γ a w s => by
    unfold zeroOf at hz
    obtain ⟨ti, h1, h2⟩ := Option.bind_eq_some_iff.1 hz
    obtain ⟨v, h3, h4⟩ := Option.map_eq_some_iff.1 h2
    refine ⟨ptr w.heap.size, .cells zs.toArray T, fun _ => False, ?_, ?_, fun _ h => h.elim⟩
    · unfold execOp; rw [hop]
      simp [Instr.alloc, zeroValue, typeInfo, h1, h3, newVar, newRow, ptr, ← h4]
    · exact box_mk (AllS.of_all2 (fun _ h => h) (h γ.Z w)) (by rw [List.all_map]; exact hn) (fun b hb => (s.g.zof b hb).1) fun _ h => h.elim
/-! ### stores -/
theorem setRow_turn {w : World} {g : Nat} {T : TypeId} {cs : List Value} (hr : Row w g T cs) (hn : ∀ u ∈ cs, NoU u) (ds : List Value) {E : Foot} (hE : E g) : Turn E w (w.setRow g ds.toArray) :=
  ⟨rfl, rfl, rfl, by rw [setRow_size]; exact Nat.le_refl _, fun b _ hb => setRow_far _ fun e => hb (e ▸ hE), fun b _ => by
    by_cases e : b = g
    · subst e
      refine .inr fun cs' T'' fz he u hu => ?_
      unfold Row at hr
      rw [hr] at he
      injection he with he
      injection he with he
      subst he
      exact hn u (by simpa using hu)
    · exact .inl (setRow_far _ e)⟩
theorem does_store {o : Oper} {id off : Nat} {r : Ref} {T T' : TypeId} {Rs Qs Rs' : List HA} {ido : Option Nat} (y z : Operand) (hsz : ∀ w, (sizeOf T).run X.P w = .ok Qs.length w) (hop : o.op = .store T y z) (hd : o.dst = none) (hc : chkM X i pre suc none (id :: ido.toList) = true)
    (hr : resOf X i = [.own id r (HA.cells T' Rs')]) (hrs : Rs' = Rs.take off ++ Qs ++ Rs.drop (off + Qs.length)) (hl : (decide (off + Qs.length ≤ Rs.length) && Qs.all (·.one) && Qs.all (·.nu) && !(ido == some id)) = true) (hp : Pt X i pre suc y (.blk r off))
    (h : Av X i pre suc (.own id r (HA.cells T' Rs))) (hz : Cv X i pre suc z Qs ido) : Does X i pre suc o := by
  subst hrs
  intro c γ a w s Q K hK
  obtain ⟨g, o', ⟨b0, h1, h1'⟩, h2⟩ := hp c γ a w s
  have hHas := h c γ a w s
  obtain ⟨v0, h3, g', cs, S', rfl, h4, h5, h6, h7, h8⟩ := h.h s
  have := Ref.den_fun h3 h1
  injection this with this; injection this with this; injection this with e1 e2
  subst e1 e2 h1'
  rw [Nat.zero_add] at h2
  simp only [Bool.and_eq_true, decide_eq_true_eq] at hl
  obtain ⟨⟨⟨l1, l2⟩, l3⟩, l4⟩ := hl
  obtain ⟨S, k1, k2⟩ := hz c γ a w s
  have hlen := h5.len
  have hvn := k1.len
  have hrun := run_storeCell (P := X.P) (T := T) (off := off) Qs.length h4 (hsz w) (by simpa using hvn) (by omega) (k1.ones l2)
  unfold Oper.wp execOp
  rw [hop]
  simp only [h2, Instr.storeAt, Instr.sureAddr, Sem.run_bind, Sem.run_pure, Result.andThen_ok, hrun]
  show K (a.put o.dst undef) _
  rw [hd]
  show K a _
  have hdis : ∀ b, γ.σ id b → ¬ S b := fun b hb hb' => by
    obtain ⟨k, hk, e1, r', R', e2⟩ := k2 b hb'
    refine s.g.sep id r _ k r' R' hHas e2 (fun e => ?_) b hb e1
    have hk : ido = some k := by simpa using hk
    rw [hk, ← e] at l4; simp at l4
  obtain ⟨S2, m1, m2⟩ := h5.splice off Qs.length l1 k1 fun b hb => hdis b ((h6 b).2 (.inr hb))
  have hE : ∀ b, (γ.σ id b ∨ S b) → ∃ k ∈ id :: ido.toList, γ.σ k b ∧ ∃ r R, Has X c (.own k r R) := fun b hb => by
    rcases hb with hb | hb
    · exact ⟨id, List.mem_cons_self .., hb, _, _, hHas⟩
    · obtain ⟨k, hk, e⟩ := k2 b hb
      exact ⟨k, List.mem_cons_of_mem _ (by simpa [Option.mem_toList] using hk), e⟩
  have hEb : ∀ b, (γ.σ id b ∨ S b) → b < w.heap.size ∧ ¬ γ.Z b := fun b hb => by
    obtain ⟨k, _, e1, r', R', e2⟩ := hE b hb
    have := s.g.bnd k r' R' e2 b e1
    exact ⟨this.1, this.2.2⟩
  have hg : γ.σ id g' := (h6 g').2 (.inl rfl)
  have t := setRow_turn (E := fun b => b = g') h4 h8 (cs.take off ++ (a.eval z).cells.toList ++ cs.drop (off + Qs.length)) rfl
  have nog : ∀ b, S2 b ∨ S b → b ≠ g' := fun b hb e => by
    subst e
    rcases hb with hb | hb
    · exact h7 (m1 _ hb)
    · exact hdis _ hg hb
  refine hK _ _ _ (step_own s hc hr (fun b => γ.σ id b ∨ S b) (fun b => b = g' ∨ (S2 b ∨ S b)) hE s.g.sz s.g.df (t.mono fun b _ e => .inl (by rw [e]; exact hg)) (fun f _ w h => h) h3 ⟨g', _, fun b => S2 b ∨ S b, rfl, setRow_row h4 _, m2.st (fun _ h => h) (fun b hb => t.block b (s.g.zof b hb).1 fun e => (hEb _ (.inl hg)).2 (e ▸ hb)) t.toCalm (fun b hb => ?_), fun b => Iff.rfl, fun e => nog _ e rfl, fun u hu => ?_⟩ fun b hb => ?_)
  · refine t.block b (hEb b ?_).1 (nog b hb)
    rcases hb with hb | hb
    · exact .inl ((h6 b).2 (.inr (m1 b hb)))
    · exact .inr hb
  · rw [List.mem_append, List.mem_append] at hu
    rcases hu with (hu | hu) | hu
    · exact h8 u (List.mem_of_mem_take hu)
    · exact k1.nus l3 u hu
    · exact h8 u (List.mem_of_mem_drop hu)
  · have : γ.σ id b ∨ S b := by
      rcases hb with rfl | hb | hb
      · exact .inl hg
      · exact .inl ((h6 b).2 (.inr (m1 b hb)))
      · exact .inr hb
    exact ⟨.inl this, by rw [setRow_size]; exact (hEb b this).1⟩
end
end O
end Go.Proofs.Ytapmngmpomhjmaa

/- Regions in whatever order, whatever is said of frame and world. -/
namespace Go.Proofs.Ytapmngmpomhjmaa
open Go.RowKit
/-- tables of what comes ahead and of what comes behind -/
abbrev Tab2 := List (List Nat)
def Tab2.at (t : Tab2) (i : Nat) : List Nat := (t[i]?).getD []
/-- the tables are true: each that comes ahead does so at once or ahead of one that does -/
def tabB (ops : List Oper) (tp ts : Tab2) : Bool :=
  ((List.range ops.length).all fun i => match ops[i]? with
    | some o => (tp.at i).all fun j => (preOf o).contains j || (preOf o).any fun k => (tp.at k).contains j
    | none => true) &&
  (List.range ops.length).all fun i => (ts.at i).all fun j => decide (j < ops.length) && (tp.at j).contains i
structure TabOk (ops : List Oper) (tp ts : Tab2) : Prop where
  p : ∀ i o, ops[i]? = some o → ∀ j ∈ tp.at i, j ∈ preOf o ∨ ∃ k ∈ preOf o, j ∈ tp.at k
  s : ∀ i, i < ops.length → ∀ j ∈ ts.at i, j < ops.length ∧ i ∈ tp.at j
theorem tabB_ok {ops : List Oper} {tp ts : Tab2} (h : tabB ops tp ts = true) : TabOk ops tp ts := by
  unfold tabB at h
  rw [Bool.and_eq_true, List.all_eq_true, List.all_eq_true] at h
  refine ⟨fun i o ho j hj => ?_, fun i hi j hj => ?_⟩
  · have := h.1 i (List.mem_range.2 (List.getElem?_eq_some_iff.1 ho).1)
    rw [ho] at this
    have := List.all_eq_true.1 this j hj
    rw [Bool.or_eq_true] at this
    rcases this with h1 | h1
    · exact .inl (by simpa using h1)
    · rw [List.any_eq_true] at h1
      obtain ⟨k, h2, h3⟩ := h1
      exact .inr ⟨k, h2, by simpa using h3⟩
  · have := List.all_eq_true.1 (h.2 i (List.mem_range.2 hi)) j hj
    rw [Bool.and_eq_true] at this
    exact ⟨of_decide_eq_true this.1, by simpa using this.2⟩
theorem TabOk.lt {ops : List Oper} {tp ts : Tab2} (t : TabOk ops tp ts) (hq : seqB ops = true) : ∀ (i : Nat) (o : Oper), ops[i]? = some o → ∀ j ∈ tp.at i, j < i := by
  intro i
  induction i using Nat.strongRecOn with
  | ind i ih =>
    intro o ho j hj
    rcases t.p i o ho j hj with h | ⟨k, h1, h2⟩
    · exact pre_lt hq ho j h
    · have hk := pre_lt hq ho k h1
      have hl := (List.getElem?_eq_some_iff.1 ho).1
      have := ih k hk ops[k] (List.getElem?_eq_getElem (by omega)) j h2
      omega
theorem TabOk.up {ops : List Oper} {tp ts : Tab2} (t : TabOk ops tp ts) (hq : seqB ops = true) {c : Nat → Bool} (hcl : ∀ i o, ops[i]? = some o → c i = true → ∀ j ∈ preOf o, c j = true) : ∀ (i : Nat) (o : Oper), ops[i]? = some o → (∀ j ∈ preOf o, c j = true) → ∀ j ∈ tp.at i, c j = true := by
  intro i
  induction i using Nat.strongRecOn with
  | ind i ih =>
    intro o ho hc j hj
    rcases t.p i o ho j hj with h | ⟨k, h1, h2⟩
    · exact hc j h
    · have hk := pre_lt hq ho k h1
      have hl := (List.getElem?_eq_some_iff.1 ho).1
      have e : ops[k]? = some ops[k] := List.getElem?_eq_getElem (by omega)
      exact ih k hk ops[k] e (hcl k _ e (hc k h1)) j h2
structure GSit (I : (Nat → Bool) → Act → World → Prop) (i : Nat) (pre suc : List Nat) (c : Nat → Bool) (a : Act) (w : World) : Prop where
  me : c i = false
  hpre : ∀ j ∈ pre, c j = true
  hsuc : ∀ j ∈ suc, c j = false
  inv : I c a w
def GRule (P : Program) (I : (Nat → Bool) → Act → World → Prop) (ops : List Oper) (tp ts : Tab2) (i : Nat) (o : Oper) : Prop :=
  (∀ c a w, GSit I i (tp.at i) (ts.at i) c a w → Region.wanted o (yielded ops.toArray a.tmps) = true ∧ ∀ Q (K : Act → World → Prop), (∀ a' w', I (upd c i) a' w' → K a' w') → o.wp P a w K Q) ∨
  (∀ c a w, GSit I i (tp.at i) (ts.at i) c a w → Region.wanted o (yielded ops.toArray a.tmps) = false ∧ I (upd c i) (a.put o.dst undef) w)
def GRules (P : Program) (I : (Nat → Bool) → Act → World → Prop) (ops : List Oper) (tp ts : Tab2) : List Oper → Nat → Prop
  | [], _ => True
  | o :: os, i => GRule P I ops tp ts i o ∧ GRules P I ops tp ts os (i + 1)
theorem GRules.get {P : Program} {I : (Nat → Bool) → Act → World → Prop} {ops : List Oper} {tp ts : Tab2} : ∀ {os : List Oper} {k : Nat}, GRules P I ops tp ts os k → ∀ {j : Nat} {o : Oper}, os[j]? = some o → GRule P I ops tp ts (k + j) o
  | [], _, _, j, _, h => by simp at h
  | o :: _, k, h, 0, x, hx => by simp at hx; subst hx; exact h.1
  | _ :: _, k, h, j + 1, x, hx => by
    have := GRules.get h.2 (j := j) (o := x) (by simpa using hx)
    rwa [show k + 1 + j = k + (j + 1) by omega] at this
section
variable {P : Program} {I : (Nat → Bool) → Act → World → Prop} {ops : List Oper} {tp ts : Tab2}
theorem g_rule_op {Q : Exit → Act → World → Prop} {i : Nat} {o : Oper} (ho : ops[i]? = some o) (hr : GRule P I ops tp ts i o) {c : Nat → Bool} {a : Act} {w : World} (s : GSit I i (tp.at i) (ts.at i) c a w) {K : Act → World → Prop} (hK : ∀ a' w', I (upd c i) a' w' → K a' w') :
    wpOp P ops.toArray Q i K a w := by
  unfold wpOp
  have : (ops.toArray)[i]? = some o := by simpa using ho
  rw [this]
  simp only
  rcases hr with h | h
  · obtain ⟨h1, h2⟩ := h c a w s
    rw [if_pos h1]
    exact .inl (h2 Q K hK)
  · obtain ⟨h1, h2⟩ := h c a w s
    rw [if_neg (by rw [h1]; exact Bool.false_ne_true)]
    exact hK _ _ h2
/-- in the order of the text -/
theorem g_seq_ok {Q : Exit → Act → World → Prop} (hq : seqB ops = true) (ht : TabOk ops tp ts) (hr : GRules P I ops tp ts ops 0) (fin : ∀ a w, I (fun j => decide (j < ops.length)) a w → Q .normal a w) :
    ∀ (m k : Nat), k + m = ops.length → ∀ a w, I (fun j => decide (j < k)) a w → wpOps P ops.toArray Q (List.range' k m) a w := by
  intro m
  induction m with
  | zero =>
    intro k hk a w hi
    obtain rfl : k = ops.length := by omega
    exact fin a w hi
  | succ m ih =>
    intro k hk a w hi
    have hlt : k < ops.length := by omega
    rw [List.range'_succ, wpOps_cons]
    have ho : ops[k]? = some ops[k] := List.getElem?_eq_getElem hlt
    have hrk := hr.get ho
    rw [Nat.zero_add] at hrk
    refine g_rule_op ho hrk ⟨by simp, fun j hj => by simpa using ht.lt hq k _ ho j hj, fun j hj => ?_, hi⟩ fun a' w' hi' => ih (k + 1) (by omega) a' w' ?_
    · obtain ⟨h1, h2⟩ := ht.s k hlt j hj
      have := ht.lt hq j _ (List.getElem?_eq_getElem h1) k h2
      simp; omega
    · have : upd (fun j => decide (j < k)) k = fun j => decide (j < k + 1) := by
        funext j
        unfold upd
        by_cases e : j = k
        · subst e; simp
        · rw [if_neg e]
          show decide (j < k) = decide (j < k + 1)
          by_cases h : j < k
          · rw [decide_eq_true h, decide_eq_true (by omega)]
          · rw [decide_eq_false h, decide_eq_false (by omega)]
      rwa [this] at hi'

theorem g_any_ok {Q : Exit → Act → World → Prop} (hq : seqB ops = true) (ht : TabOk ops tp ts) (hr : GRules P I ops tp ts ops 0) (fin : ∀ a w c, (∀ i, i < ops.length → c i = true) → I c a w → Q .normal a w) :
    ∀ (fuel : Nat) (listed : Array Bool), listed.size = ops.length → (∀ i o, ops[i]? = some o → cOf listed i = true → ∀ j ∈ preOf o, cOf listed j = true) → left listed ≤ fuel → ∀ a w, I (cOf listed) a w → wpAny P .any ops.toArray Q fuel listed a w := by
  intro fuel
  induction fuel with
  | zero =>
    intro listed hs hcl hle a w hi
    have hall : ∀ i, i < ops.length → cOf listed i = true := by
      intro i hlt
      cases hc : cOf listed i with
      | true => rfl
      | false =>
        exfalso
        have h2 : i < listed.size := by omega
        have : 0 < left listed := by
          unfold left
          rw [List.countP_pos_iff]
          exact ⟨false, by unfold cOf at hc; rw [← hc]; simp [h2], rfl⟩
        omega
    refine ⟨?_, fin a w _ hall hi⟩
    apply List.eq_nil_iff_forall_not_mem.2
    intro i hm
    rw [mem_ready] at hm
    have h2 := ready_lt (ops := ops) hs hm.1
    have := hall i (by omega)
    unfold cOf at this
    have h1 := hm.1
    simp [h2] at h1 this
    rw [h1] at this; cases this
  | succ fuel ih =>
    intro listed hs hcl hle a w hi
    refine ⟨fun hn => fin a w _ (all_up hq hs hn) hi, fun i hm => ?_⟩
    rw [mem_ready] at hm
    obtain ⟨h1, o, h2, h3⟩ := hm
    have ho : ops[i]? = some o := by simpa using h2
    have hlt := ready_lt (ops := ops) hs h1
    have hrk := hr.get ho
    rw [Nat.zero_add] at hrk
    have hme : cOf listed i = false := by unfold cOf; simpa [hlt] using h1
    have hpre : ∀ j ∈ preOf o, cOf listed j = true := by
      intro j hj
      unfold preOf at hj
      rw [List.mem_map] at hj
      obtain ⟨e, he, rfl⟩ := hj
      rw [List.mem_filter] at he
      exact h3 e (by simpa using he.1) he.2
    refine g_rule_op ho hrk ⟨hme, ht.up hq hcl i o ho hpre, fun j hj => ?_, hi⟩ fun a' w' hi' => ih _ (by simp [hs]) ?_ ?_ a' w' (by rw [cOf_set hlt]; exact hi')
    · obtain ⟨h4, h5⟩ := ht.s i (by omega) j hj
      cases hc : cOf listed j with
      | false => rfl
      | true =>
        have e := List.getElem?_eq_getElem (l := ops) h4
        have := ht.up hq hcl j _ e (hcl j _ e hc) i h5
        rw [hme] at this; cases this
    · intro k ok hk hck j hj
      rw [cOf_set hlt] at hck ⊢
      unfold upd at hck ⊢
      by_cases e : j = i
      · rw [if_pos e]
      · rw [if_neg e]
        by_cases ek : k = i
        · subst ek
          rw [ho] at hk
          injection hk with hk
          subst hk
          exact hpre j hj
        · rw [if_neg ek] at hck
          exact hcl k ok hk hck j hj
    · have := left_set hlt h1
      omega


theorem g_region_ok {Q : Exit → Act → World → Prop} {id : Nat} {draw : Bool} (hm : P.follows .mixedOrders = true) (hq : seqB ops = true) (ht : TabOk ops tp ts) (hr : GRules P I ops tp ts ops 0) {a : Act} {w : World}
    (h0 : I (fun _ => false) a w) (hd : I (fun _ => false) a w → I (fun _ => false) a { w with drawn := w.drawn + 1 }) (fin : ∀ a w c, (∀ i, i < ops.length → c i = true) → I c a w → Q .normal a w) : (Code.region id ops.toArray draw).wp P Q a w := by
  cases draw with
  | false =>
    refine wp_region ?_
    have := g_seq_ok (Q := Q) hq ht hr (fun a w hi => fin a w _ (fun i h => by simpa using h) hi) ops.length 0 (by omega) a w (by
      rw [show (fun j => decide (j < 0)) = fun _ : Nat => false from funext fun j => by simp]; exact h0)
    rw [List.range_eq_range']
    simpa using this
  | true =>
    refine wp_region_any hm ?_
    have h1 : cOf (Array.replicate ops.toArray.size false) = fun _ => false := by
      funext i
      unfold cOf
      by_cases h : i < ops.length <;> simp [h]
    refine g_any_ok (Q := Q) hq ht hr fin ops.toArray.size _ (by simp) (fun i o _ hc => by rw [h1] at hc; cases hc) (by
      unfold left
      exact Nat.le_trans List.countP_le_length (by simp)) a _ ?_
    rw [h1]
    exact hd h0
end
end Go.Proofs.Ytapmngmpomhjmaa

/- The logic over objects: regions, code. -/
namespace Go.Proofs.Ytapmngmpomhjmaa
open Go.RowKit
namespace O
def Wants (X : Cx) (ops : List Oper) (i : Nat) (pre suc : List Nat) (o : Oper) : Prop := ∀ c γ a w, Sit X i pre suc c γ a w → Region.wanted o (yielded ops.toArray a.tmps) = true
def Skips (X : Cx) (ops : List Oper) (i : Nat) (pre suc : List Nat) (o : Oper) : Prop := ∀ c γ a w, Sit X i pre suc c γ a w → Region.wanted o (yielded ops.toArray a.tmps) = false ∧ Good X.toFr (Has X (upd c i)) γ (a.put o.dst undef) w
def Rule (X : Cx) (ops : List Oper) (tp ts : Tab2) (i : Nat) (o : Oper) : Prop :=
  (Wants X ops i (tp.at i) (ts.at i) o ∧ Does X i (tp.at i) (ts.at i) o) ∨ Skips X ops i (tp.at i) (ts.at i) o
def Rules (X : Cx) (ops : List Oper) (tp ts : Tab2) : List Oper → Nat → Prop
  | [], _ => True
  | o :: os, i => Rule X ops tp ts i o ∧ Rules X ops tp ts os (i + 1)
theorem Rule.g {X : Cx} {ops : List Oper} {tp ts : Tab2} {i : Nat} {o : Oper} (h : Rule X ops tp ts i o) : GRule X.P (Inv X) ops tp ts i o := by
  rcases h with ⟨h1, h2⟩ | h
  · refine .inl fun c a w s => ?_
    obtain ⟨γ, hg⟩ := s.inv
    exact ⟨h1 c γ a w ⟨s.me, s.hpre, s.hsuc, hg⟩, fun Q K hK => h2 c γ a w ⟨s.me, s.hpre, s.hsuc, hg⟩ Q K fun γ' a' w' g' => hK a' w' ⟨γ', g'⟩⟩
  · refine .inr fun c a w s => ?_
    obtain ⟨γ, hg⟩ := s.inv
    obtain ⟨e1, e2⟩ := h c γ a w ⟨s.me, s.hpre, s.hsuc, hg⟩
    exact ⟨e1, γ, e2⟩
theorem Rules.g {X : Cx} {ops : List Oper} {tp ts : Tab2} : ∀ {os : List Oper} {k : Nat}, Rules X ops tp ts os k → GRules X.P (Inv X) ops tp ts os k
  | [], _, _ => trivial
  | _ :: _, _, h => ⟨h.1.g, h.2.g⟩
section
variable {X : Cx} {ops : List Oper}
theorem wants_plain {i : Nat} {pre suc : List Nat} {o : Oper} (h : o.guard = none) : Wants X ops i pre suc o := fun c γ a w _ => by simp [Region.wanted, h]
theorem skip_good {i d : Nat} {pre suc : List Nat} {c : Nat → Bool} {γ : Gho} {a : Act} {w : World} (s : Sit X i pre suc c γ a w) (hlt : decide (d < X.N) = true) (hc : chk X i pre suc d = true) (hr : resOf X i = [.slot d VP.undef]) : Good X.toFr (Has X (upd c i)) γ (a.put (some d) undef) w := by
  refine good_step (γ' := γ) (d := some d) (ids := []) s ?_ (fun _ => False) (fun _ h => h.elim) (by rw [put_size]; exact s.g.sz) (by rw [put_defers']; exact s.g.df) (.refl _ _) (ha_put d a _ _ γ) (fun _ h => h) (fun _ h => .inl h) (fun _ _ => rfl) (fun f hf => ?_) (fun k r R hf => ?_) (fun k r R k' r' R' hf => ?_)
  · have : okM (some d) [] = fun f : Fact => !f.uses d := funext fun f => by cases f <;> simp [okM, Fact.off]
    unfold chkM; rw [this]; exact hc
  · rw [hr, List.mem_singleton] at hf; subst hf; exact slot_put (x := VP.undef) s.g.sz hlt rfl
  · rw [hr, List.mem_singleton] at hf; cases hf
  · rw [hr, List.mem_singleton] at hf; cases hf
theorem wants_guard {i : Nat} {pre suc : List Nat} {o og : Oper} {g t : Nat} (b : Bool) (h : o.guard = some (g, b)) (ho : ops[g]? = some og) (hd : og.dst = some t) (hv : Av X i pre suc (.slot t (VP.bool b))) : Wants X ops i pre suc o := fun c γ a w s => by
  obtain ⟨v, h1, h2⟩ := hv.h s
  have h2 : v = .bool b := h2
  subst h2
  simp [Region.wanted, h, yielded_of ho hd h1]
theorem skips_guardU {i d : Nat} {pre suc : List Nat} {o og : Oper} {g t : Nat} (b : Bool) (h : o.guard = some (g, !b)) (ho : ops[g]? = some og) (hd : og.dst = some t) (hv : Av X i pre suc (.slot t (VP.bool b))) (hod : o.dst = some d)
    (hlt : decide (d < X.N) = true) (hc : chk X i pre suc d = true) (hr : resOf X i = [.slot d VP.undef]) : Skips X ops i pre suc o := fun c γ a w s => by
  obtain ⟨v, h1, h2⟩ := hv.h s
  have h2 : v = .bool b := h2
  subst h2
  refine ⟨by cases b <;> simp [Region.wanted, h, yielded_of ho hd h1], ?_⟩
  rw [hod]
  exact skip_good s hlt hc hr
theorem skips_undefU {i d : Nat} {pre suc : List Nat} {o og : Oper} {g t : Nat} (b : Bool) (h : o.guard = some (g, b)) (ho : ops[g]? = some og) (hd : og.dst = some t) (hv : Av X i pre suc (.slot t VP.undef)) (hod : o.dst = some d)
    (hlt : decide (d < X.N) = true) (hc : chk X i pre suc d = true) (hr : resOf X i = [.slot d VP.undef]) : Skips X ops i pre suc o := fun c γ a w s => by
  obtain ⟨v, h1, h2⟩ := hv.h s
  have h2 : v = Go.undef := h2
  subst h2
  have hy : yielded ops.toArray a.tmps g = none := by
    unfold yielded
    have : (ops.toArray)[g]? = some og := by simpa using ho
    have h1 : a.tmps[t]? = some (.tuple #[]) := h1
    simp [this, hd, h1]
  refine ⟨by simp [Region.wanted, h, hy], ?_⟩
  rw [hod]
  exact skip_good s hlt hc hr
end

/-- these facts stand -/
def Fs (F : Fr) (fs : List Fact) (a : Act) (w : World) : Prop := ∃ γ, Good F (· ∈ fs) γ a w
theorem Good.sub {F : Fr} {V V' : Fact → Prop} {γ : Gho} {a : Act} {w : World} (g : Good F V γ a w) (h : ∀ f, V' f → V f) : Good F V' γ a w :=
  ⟨g.ok, g.sz, g.df, g.turn, g.zmono, g.zof, fun f hf => g.hold f (h f hf), fun k r R k' r' R' h1 h2 => g.sep k r R k' r' R' (h _ h1) (h _ h2), fun k r R h1 => g.bnd k r R (h _ h1)⟩
theorem Good.ext {F : Fr} {V : Fact → Prop} {γ : Gho} {a : Act} {w w' : World} (g : Good F V γ a w) (e : Ext w w') : Good F V γ a w' :=
  ⟨g.ok, g.sz, g.df, g.turn.trans (S' := fun _ => False) (.of_ext e) (fun _ _ h => h.elim), g.zmono, fun b hb => ⟨Nat.lt_of_lt_of_le (g.zof b hb).1 e.size, (g.zof b hb).2⟩,
   fun f hf => fact_turn (g.hold f hf) (fun _ h => h) (fun b hb => e.block b (g.zof b hb).1) (.of_ext e) (fun b hb => e.block b (Nat.lt_of_lt_of_le (g.ok.b b hb) g.turn.size)) fun k r R he => ⟨rfl, fun b hb => e.block b (g.bnd k r R (he ▸ hf) b hb).1⟩,
   g.sep, fun k r R h b hb => ⟨Nat.lt_of_lt_of_le (g.bnd k r R h b hb).1 e.size, (g.bnd k r R h b hb).2⟩⟩
/-- where these facts stand, this holds -/
def Sat (F : Fr) (fs : List Fact) (K : Act → World → Prop) : Prop := ∀ a w, Fs F fs a w → K a w
abbrev T (F : Fr) (fs : List Fact) (c : Code) (Q : Exit → Act → World → Prop) : Prop := Sat F fs (fun a w => c.wp F.P Q a w)
abbrev Nx (F : Fr) (fs : List Fact) (Q : Exit → Act → World → Prop) : Prop := Sat F fs (Q .normal)
abbrev Rt (F : Fr) (fs : List Fact) (Q : Exit → Act → World → Prop) : Prop := Sat F fs (Q .ret)
abbrev Ex (F : Fr) (fs : List Fact) (id : Nat) (Q : Exit → Act → World → Prop) : Prop := Sat F fs (Q (.exit id))
section
variable {F : Fr} {fs : List Fact} {Q : Exit → Act → World → Prop}
theorem fs_sub {fs' : List Fact} {a : Act} {w : World} (idx : List Nat) (h : idx.map (fun n => fs[n]?) = fs'.map some) (hf : Fs F fs a w) : Fs F fs' a w := by
  obtain ⟨γ, g⟩ := hf
  refine ⟨γ, g.sub fun f hm => ?_⟩
  have : some f ∈ idx.map (fun n => fs[n]?) := by rw [h]; exact List.mem_map.2 ⟨f, hm, rfl⟩
  obtain ⟨n, _, hn⟩ := List.mem_map.1 this
  exact List.mem_of_getElem? hn
theorem t_seq {x y : Code} (h : T F fs x (Exit.then (fun a w => y.wp F.P Q a w) Q)) : T F fs (.seq x y) Q := fun a w hf => wp_seq (h a w hf)
theorem nx_then {y : Code} (h : T F fs y Q) : Nx F fs (Exit.then (fun a w => y.wp F.P Q a w) Q) := h
theorem rt_then {K : Act → World → Prop} (h : Rt F fs Q) : Rt F fs (Exit.then K Q) := h
theorem ex_then {K : Act → World → Prop} {id : Nat} (h : Ex F fs id Q) : Ex F fs id (Exit.then K Q) := h
theorem t_skip (h : Nx F fs Q) : T F fs .skip Q := fun a w hf => wp_skip (h a w hf)
theorem t_ret (h : Rt F fs Q) : T F fs .ret Q := fun a w hf => wp_ret (h a w hf)
theorem t_exit {id : Nat} (h : Ex F fs id Q) : T F fs (.exit id) Q := fun a w hf => wp_exit (h a w hf)
theorem t_block {id : Nat} {c : Code} (h : T F fs c (Exit.inBlock id Q)) : T F fs (.block id c) Q := fun a w hf => wp_block (h a w hf)
theorem nx_block {id : Nat} (h : Nx F fs Q) : Nx F fs (Exit.inBlock id Q) := h
theorem rt_block {id : Nat} (h : Rt F fs Q) : Rt F fs (Exit.inBlock id Q) := h
theorem ex_block {id : Nat} (h : Nx F fs Q) : Ex F fs id (Exit.inBlock id Q) := fun a w hf => by
  show (if id = id then Q .normal a w else Q (.exit id) a w)
  rw [if_pos rfl]; exact h a w hf
theorem t_cond (n : Nat) {k : Nat} (b : Bool) {x y : Code} (hs : fs[n]? = some (.slot k (VP.bool b))) (h : T F fs (if b then x else y) Q) : T F fs (.cond (.tmp k) x y) Q := fun a w hf => by
  obtain ⟨γ, g⟩ := hf
  obtain ⟨v, h1, h2⟩ := g.hold _ (List.mem_of_getElem? hs)
  have h2 : v = .bool b := h2
  subst h2
  exact wp_cond (eval_tmp h1) (h a w ⟨γ, g⟩)
theorem t_cond_t (n : Nat) {k : Nat} {x y : Code} (hs : fs[n]? = some (.slot k (VP.bool true))) (h : T F fs x Q) : T F fs (.cond (.tmp k) x y) Q := t_cond n true hs h
theorem t_cond_f (n : Nat) {k : Nat} {x y : Code} (hs : fs[n]? = some (.slot k (VP.bool false))) (h : T F fs y Q) : T F fs (.cond (.tmp k) x y) Q := t_cond n false hs h
theorem t_cond_te (n : Nat) {k : Nat} {b : Bool} {x y : Code} (hs : fs[n]? = some (.slot k (VP.bool b))) (e : b = true) (h : T F fs x Q) : T F fs (.cond (.tmp k) x y) Q := by subst e; exact t_cond n true hs h
theorem t_cond_fe (n : Nat) {k : Nat} {b : Bool} {x y : Code} (hs : fs[n]? = some (.slot k (VP.bool b))) (e : b = false) (h : T F fs y Q) : T F fs (.cond (.tmp k) x y) Q := by subst e; exact t_cond n false hs h
theorem t_region {id : Nat} {draw : Bool} {ops : List Oper} (fs1 : List Fact) (os rs : List (Nat × Fact)) (ms : List (Nat × Nat × Fact)) (i1 i2 : List Nat) (tp ts : Tab2) (h1 : i1.map (fun n => fs[n]?) = fs1.map some) (h2 : i2.map (fun n => fs[n]?) = os.map (fun x => some x.2))
    (hm : F.P.follows .mixedOrders = true) (hq : ((seqB ops && tabB ops tp ts) && rs.all (fun x => decide (x.1 < ops.length))) = true)
    (hr : Rules ⟨F, fs1, os, rs, ms⟩ ops tp ts ops 0) (hn : Nx F (fs1 ++ rs.map (·.2)) Q) : T F fs (.region id ops.toArray draw) Q := fun a w hf => by
  obtain ⟨γ, g⟩ := hf
  rw [Bool.and_eq_true, Bool.and_eq_true] at hq
  obtain ⟨⟨hq1, hq2⟩, hq⟩ := hq
  simp only [List.all_eq_true, decide_eq_true_eq] at hq
  refine g_region_ok (I := Inv ⟨F, fs1, os, rs, ms⟩) hm hq1 (tabB_ok hq2) hr.g ⟨γ, g.sub fun f hh => ?_⟩ (fun ⟨γ, g⟩ => ⟨γ, g.ext (Ext.refl w).drew⟩) fun a w c hc ⟨γ, g⟩ => hn a w ⟨γ, g.sub fun f hm => ?_⟩
  · rcases hh with h | ⟨j, h, _⟩ | ⟨j, h, hj⟩ | ⟨j, e, h, hj, _⟩
    · have : some f ∈ i1.map (fun n => fs[n]?) := by rw [h1]; exact List.mem_map.2 ⟨f, h, rfl⟩
      obtain ⟨n, _, hn⟩ := List.mem_map.1 this
      exact List.mem_of_getElem? hn
    · have : some f ∈ i2.map (fun n => fs[n]?) := by rw [h2]; exact List.mem_map.2 ⟨_, h, rfl⟩
      obtain ⟨n, _, hn⟩ := List.mem_map.1 this
      exact List.mem_of_getElem? hn
    · cases hj
    · cases hj
  · rw [List.mem_append] at hm
    rcases hm with hm | hm
    · exact .inl hm
    · obtain ⟨x, hx, rfl⟩ := List.mem_map.1 hm
      exact .inr (.inr (.inl ⟨x.1, hx, hc _ (hq x hx)⟩))
theorem t_loop {τ : Type} (I : τ → List Fact) (μ : τ → Nat) (s0 : τ) {body : Code} (idx : List Nat) (h0 : idx.map (fun n => fs[n]?) = (I s0).map some)
    (h : ∀ s, T F (I s) body (Exit.then (fun a w => ∃ s', μ s' < μ s ∧ Fs F (I s') a w) Q)) : T F fs (.loop body) Q := fun a w hf => by
  refine wp_loop_ghost (fun n a w => ∃ s, μ s = n ∧ Fs F (I s) a w) (μ s0) ⟨s0, rfl, fs_sub idx h0 hf⟩ fun n a w ⟨s, hs, hfs⟩ => ?_
  refine Code.wp_mono (fun e a' w' hq => ?_) (h s a w hfs)
  cases e with
  | normal => obtain ⟨s', h1, h2⟩ := hq; exact ⟨μ s', by omega, s', rfl, h2⟩
  | exit id => exact hq
  | goto l => exact hq
  | ret => exact hq
  | panic ch => exact hq
  | outgrown => exact hq
theorem nx_round {τ : Type} {I : τ → List Fact} {μ : τ → Nat} {s : τ} (s' : τ) (hm : μ s' < μ s) (idx : List Nat) (h : idx.map (fun n => fs[n]?) = (I s').map some) : Nx F fs (Exit.then (fun a w => ∃ s', μ s' < μ s ∧ Fs F (I s') a w) Q) :=
  fun _ _ hf => ⟨s', hm, fs_sub idx h hf⟩
end
end O
end Go.Proofs.Ytapmngmpomhjmaa
