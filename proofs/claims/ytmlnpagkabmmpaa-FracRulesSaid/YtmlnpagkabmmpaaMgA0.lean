/- Part of the proof that a law returns true for all that comes in, and that what came in reads as it did. No condition. -/
import Derived.WalkKit
import Derived.WalkSpells
import Derived.WalkLawsBesides
import Derived.ProofKit
import Derived.OpenShut
import Derived.Lib.Hide
import Derived.RowKit
import Derived.Test.YtmlnpagkabmmpaaRows
import Derived.RangeFuncBox
import Derived.RangeFuncWrites
import Derived.RangeFuncCalls
import Derived.RangeFuncLeaves
import Derived.Shelf.Abstract
import Derived.OwnWalkIn
import Derived.TacticsInMore
import Derived.LoopNIn
import Derived.LoopIn
import Derived.Shelf.RegionOpen
import Derived.Deep.RegionWith
import Derived.Deep.QuietTactic
import Derived.BigQuiet
import Derived.Deep.RegionHeld3
import Derived.Deep.LoopGhost
/- Words of my own for memory that is read, for arguments of any type, and the frame that all laws share. No program stands in this text. -/
namespace Go.Proofs.Ytmlnpagkabmmpaa
open Go.ChangeShapes Go.WideShapes Go.ChangeAt Go.RowKit

/-! ### Worlds that have grown: nothing that there was has turned -/

/-- what there was in w is in w' as it was -/
abbrev Ext (w w' : World) : Prop := Below w.heap.size w w'

theorem Ext.refl (w : World) : Ext w w := Below.refl _ _
theorem Ext.trans {a b c : World} (h : Ext a b) (k : Ext b c) : Ext a c := Below.trans h (k.mono h.size)
theorem Ext.alloc {a b : World} (h : Ext a b) (o : Obj) : Ext a (b.alloc o) := Below.alloc h h.size o
theorem Ext.new (w : World) (o : Obj) : Ext w (w.alloc o) := (Ext.refl w).alloc o
theorem Ext.drew {a b : World} (h : Ext a b) : Ext a b.drew := Below.drew h
theorem Ext.drewN {a b : World} (h : Ext a b) (n : Nat) : Ext a (b.drewN n) := ⟨h.os, h.tape, h.output, h.size, h.block⟩
theorem Ext.set {a b : World} (h : Ext a b) {p : Addr} (hp : a.heap.size ≤ p.block) (u : Value) : Ext a (b.setCell p u) := Below.setCell h hp u
theorem Ext.grown {a b c : World} {row : Option Nat} (h : Ext a b) (hg : b.grownBy c row) (hr : ∀ k, row = some k → a.heap.size ≤ k) : Ext a c := Below.grown h hg h.size hr
theorem Ext.cell {a b : World} (h : Ext a b) {p : Addr} {v : Value} (hc : a.cell? p = some v) : b.cell? p = some v :=
  (Below.cell h (World.block_lt_of_cell? a p hc)).trans hc
theorem Ext.obj {a b : World} (h : Ext a b) {k : Nat} {o : Obj} (hc : a.heap[k]? = some o) : b.heap[k]? = some o :=
  (h.block k (Array.getElem?_eq_some_iff.1 hc).1).trans hc

/-! ### A row of cells that is read -/

/-- from the address a on lie the cells xs -/
def Rd (w : World) (a : Option Addr) (xs : List Value) : Prop :=
  xs = [] ∨ ∃ b off, a = some ⟨b, off, none⟩ ∧ ∀ j u, xs[j]? = some u → w.cell? ⟨b, off + j, none⟩ = some u

theorem Rd.nil (w : World) (a : Option Addr) : Rd w a [] := .inl rfl
theorem Rd.get {w : World} {a : Option Addr} {xs : List Value} (h : Rd w a xs) {j : Nat} {u : Value} (hu : xs[j]? = some u) :
    ∃ b off, a = some ⟨b, off, none⟩ ∧ w.cell? ⟨b, off + j, none⟩ = some u := by
  rcases h with rfl | ⟨b, off, e, hc⟩
  · simp at hu
  · exact ⟨b, off, e, hc j u hu⟩
theorem Rd.all {w : World} {a : Option Addr} {xs : List Value} (h : Rd w a xs) (hn : 0 < xs.length) :
    ∃ b off, a = some ⟨b, off, none⟩ ∧ b < w.heap.size ∧ ∀ j u, xs[j]? = some u → w.cell? ⟨b, off + j, none⟩ = some u := by
  rcases h with rfl | ⟨b, off, e, hc⟩
  · simp at hn
  · exact ⟨b, off, e, World.block_lt_of_cell? w ⟨b, off + 0, none⟩ (hc 0 _ (List.getElem?_eq_getElem hn)), hc⟩
theorem Rd.ext {w w' : World} {a : Option Addr} {xs : List Value} (h : Rd w a xs) (e : Ext w w') : Rd w' a xs := by
  rcases h with rfl | ⟨b, off, ea, hc⟩
  · exact .inl rfl
  · exact .inr ⟨b, off, ea, fun j u hu => e.cell (hc j u hu)⟩
theorem Rd.alloc {w : World} {a : Option Addr} {xs : List Value} (h : Rd w a xs) (o : Obj) : Rd (w.alloc o) a xs := h.ext (Ext.new w o)
theorem Rd.drew {w : World} {a : Option Addr} {xs : List Value} (h : Rd w a xs) : Rd w.drew a xs := h
theorem Rd.drewN {w : World} {a : Option Addr} {xs : List Value} (h : Rd w a xs) (n : Nat) : Rd (w.drewN n) a xs := h
/-- a row that ends in another world with the same cells -/
theorem Rd.keep {w w' : World} {a : Option Addr} {xs : List Value} (h : Rd w a xs) (k : ∀ b off, a = some ⟨b, off, none⟩ → b < w.heap.size → w'.heap[b]? = w.heap[b]?) : Rd w' a xs := by
  rcases h with rfl | ⟨b, off, ea, hc⟩
  · exact .inl rfl
  · refine .inr ⟨b, off, ea, fun j u hu => ?_⟩
    have hx := hc j u hu
    have hb := World.block_lt_of_cell? w _ hx
    rw [World.cell?_of_block (w := w) (k b off ea hb)]; exact hx
theorem Rd.take {w : World} {a : Option Addr} {xs : List Value} (h : Rd w a xs) (n : Nat) : Rd w a (xs.take n) := by
  rcases h with rfl | ⟨b, off, ea, hc⟩
  · simp [Rd]
  · refine .inr ⟨b, off, ea, fun j u hu => hc j u ?_⟩
    rw [List.getElem?_take] at hu
    split at hu
    · exact hu
    · cases hu
theorem Rd.drop {w : World} {b off : Nat} {xs : List Value} (h : Rd w (some ⟨b, off, none⟩) xs) (n : Nat) : Rd w (some ⟨b, off + n, none⟩) (xs.drop n) := by
  rcases h with rfl | ⟨b', off', ea, hc⟩
  · simp [Rd]
  · injection ea with ea
    injection ea with e1 e2
    subst e1 e2
    refine .inr ⟨b, off + n, rfl, fun j u hu => ?_⟩
    rw [List.getElem?_drop] at hu
    rw [Nat.add_assoc]
    exact hc _ _ hu

theorem Rd.own {w : World} {base : Nat} {e : TypeId} {size n : Nat} {a : Option Addr} {c : Nat} {xs : List Value} (h : w.ownsRow base e size (.slice a n c) n xs) : Rd w a xs := by
  obtain ⟨h1, h2⟩ := h
  rcases h2 with ⟨hv, hn⟩ | ⟨g, cap, cur, hv, hg, hh, hnc, hcm, hcs, htake⟩
  · subst hn; left; exact List.eq_nil_of_length_eq_zero (by simpa using h1)
  · injection hv with hv
    subst hv
    refine .inr ⟨g, 0, rfl, fun j u hu => ?_⟩
    rw [cell_of_row w g (0 + j) cur e (0, 0) hh, Nat.zero_add]
    rw [← htake, List.getElem?_take] at hu
    split at hu
    · simpa using hu
    · cases hu

/-! ### What an argument of some type is: typed values -/

/-- cs are the cells of a value of type t; what it leads to lies in w -/
def Typed (P : Program) (w : World) : Nat → TypeId → List Value → Prop
  | 0, _, _ => False
  | n + 1, t, cs => match P.underlying t with
    | some .bool => ∃ b, cs = [.bool b]
    | some (.int k) => ∃ x, cs = [.int k x] ∧ (Lit.int k x).wf = true
    | some (.float k) => ∃ x, cs = [.float k x] ∧ (Lit.float k x).wf = true
    | some .string => ∃ s : ByteArray, cs = [.string s] ∧ s.size ≤ maxLen
    | some (.slice e) => ∃ a cap, ∃ xs : List (List Value), cs = [.slice a xs.length cap] ∧ xs.length ≤ cap ∧ cap ≤ maxLen ∧ (∀ x ∈ xs, x.length = P.cellsOf e ∧ Typed P w n e x) ∧ Rd w a xs.flatten
    | some (.struct fs) => cs.length = P.cellsOf t ∧ ∀ f ∈ fs.toList, Typed P w n f.type ((cs.drop f.offset).take (P.cellsOf f.type))
    | _ => True

section
variable {H : Type} {enc : TypeId × Value → H} {P : Program} {w : World} {base : Nat} {spare : Nat → Bool} {held : Bool}

theorem flatten_get {s : Nat} {xs : List (List Value)} (h : ∀ x ∈ xs, x.length = s) : ∀ {j : Nat} {u : Value}, xs.flatten[j]? = some u → ∃ x, xs[j / s]? = some x ∧ x[j % s]? = some u := by
  induction xs with
  | nil => intro j u hu; simp at hu
  | cons y ys ih =>
    intro j u hu
    have hy := h y (by simp)
    rw [List.flatten_cons] at hu
    by_cases hj : j < s
    · rw [List.getElem?_append_left (by omega)] at hu
      exact ⟨y, by rw [Nat.div_eq_of_lt hj]; rfl, by rw [Nat.mod_eq_of_lt hj]; exact hu⟩
    · rw [List.getElem?_append_right (by omega), hy] at hu
      obtain ⟨x, hx, hu⟩ := ih (fun x hx => h x (by simp [hx])) hu
      have hs : 0 < s := by
        rcases Nat.eq_zero_or_pos s with h0 | h0
        · subst h0
          have := (List.getElem?_eq_some_iff.1 hu).1
          have hx' := h x (by have := List.mem_of_getElem? hx; simp [this])
          omega
        · exact h0
      refine ⟨x, ?_, ?_⟩
      · rw [Nat.div_eq_sub_div hs (by omega)]; simpa using hx
      · rw [Nat.mod_eq_sub_mod (by omega)]; exact hu

theorem add_add (a : Addr) (i j : Nat) : (a.add i).add j = a.add (i + j) := by
  unfold Addr.add
  by_cases hi : i = 0 <;> by_cases hj : j = 0 <;> simp [hi, hj, Nat.add_assoc]
theorem add_plain (b off i : Nat) : (⟨b, off, none⟩ : Addr).add i = ⟨b, off + i, none⟩ := by
  unfold Addr.add
  by_cases hi : i = 0 <;> simp [hi]

theorem typed_of_trod : ∀ (fuel : Nat) (t : TypeId) (cs : List Value) (x : DataW H × List MemPlace), DataW.trod enc P w base spare held fuel t cs = some x → Typed P w fuel t cs := by
  intro fuel
  induction fuel with
  | zero => intro t cs x h; simp [DataW.trod] at h
  | succ n ih =>
    intro t cs x h
    unfold Typed
    cases hu : P.underlying t with
    | none => trivial
    | some d =>
      cases d <;> simp only [] <;> try trivial
      case bool => obtain ⟨b, h1, _⟩ := DataW.trod_bool hu h; exact ⟨b, h1⟩
      case int k => obtain ⟨b, h1, _, h2⟩ := DataW.trod_int hu h; exact ⟨b, h1, h2⟩
      case float k =>
        unfold DataW.trod at h
        rw [hu] at h
        split at h <;> simp_all
      case string => obtain ⟨b, h1, _, h2⟩ := DataW.trod_string hu h; exact ⟨b, h1, h2⟩
      case slice e =>
        rcases DataW.trod_slice hu h with ⟨rfl, _⟩ | ⟨a, len, cap, elems, rest, m, hm, rfl, _, _, hl, hc, hel, he, _⟩
        · exact ⟨none, 0, [], rfl, Nat.le_refl _, by simp [maxLen], by simp, Rd.nil _ _⟩
        · obtain rfl : n = m := by omega
          have hcs : ∀ i, i < len → ∃ c, w.cells? base (a.add (i * P.cellsOf e)) (P.cellsOf e) = some c ∧ Typed P w n e c := by
            intro i hi
            have h1 := he i hi
            rw [List.getElem?_eq_getElem (by omega), Option.bind_eq_some_iff] at h1
            obtain ⟨c, h2, h3⟩ := h1
            exact ⟨c, h2, ih e c _ h3⟩
          let pick : Nat → List Value := fun i => (w.cells? base (a.add (i * P.cellsOf e)) (P.cellsOf e)).getD []
          have hp : ∀ i, i < len → w.cells? base (a.add (i * P.cellsOf e)) (P.cellsOf e) = some (pick i) ∧ Typed P w n e (pick i) := by
            intro i hi
            obtain ⟨c, h2, h3⟩ := hcs i hi
            have : pick i = c := by show (w.cells? base _ _).getD [] = c; rw [h2]; rfl
            rw [this]; exact ⟨h2, h3⟩
          refine ⟨some a, cap, (List.range len).map pick, by simp, by simpa using hl, hc, ?_, ?_⟩
          · intro y hy
            simp only [List.mem_map, List.mem_range] at hy
            obtain ⟨i, hi, rfl⟩ := hy
            obtain ⟨h2, h3⟩ := hp i hi
            exact ⟨(World.cells?_some h2).2.1, h3⟩
          · have hlen : ∀ y ∈ (List.range len).map pick, y.length = P.cellsOf e := by
              intro y hy
              simp only [List.mem_map, List.mem_range] at hy
              obtain ⟨i, hi, rfl⟩ := hy
              exact (World.cells?_some (hp i hi).1).2.1
            have hget : ∀ j u, ((List.range len).map pick).flatten[j]? = some u → w.cell? (a.add j) = some u := by
              intro j u hu
              obtain ⟨y, hy, hu⟩ := flatten_get hlen hu
              rw [List.getElem?_map, Option.map_eq_some_iff] at hy
              obtain ⟨i, hi, rfl⟩ := hy
              obtain ⟨hi1, hi2⟩ := List.getElem?_eq_some_iff.1 hi
              simp only [List.length_range] at hi1
              simp only [List.getElem_range] at hi2
              subst hi2
              obtain ⟨_, hsz, hcell⟩ := World.cells?_some (hp _ hi1).1
              have hlt := (List.getElem?_eq_some_iff.1 hu).1
              have h4 := hcell (j % P.cellsOf e) (by omega)
              rw [add_add, hu] at h4
              have hj : j / P.cellsOf e * P.cellsOf e + j % P.cellsOf e = j := by rw [Nat.mul_comm]; exact Nat.div_add_mod j _
              rw [hj] at h4
              exact h4
            rcases hz : ((List.range len).map pick).flatten with _ | ⟨z, zs⟩
            · exact .inl rfl
            · right
              have h0 := hget 0 z (by rw [hz]; rfl)
              have hspot : a.spot = none := by
                cases hs : a.spot with
                | none => rfl
                | some _ =>
                  unfold World.cell? at h0
                  rw [show a.add 0 = a from rfl] at h0
                  rw [hs] at h0
                  split at h0 <;> simp at h0
              obtain ⟨b, off, sp⟩ := a
              simp only at hspot
              subst hspot
              refine ⟨b, off, rfl, fun j u hu => ?_⟩
              rw [← hz] at hu
              rw [← add_plain]
              exact hget j u hu
      case struct fs =>
        obtain ⟨xs, m, hm, _, hlen, hsz, hf⟩ := DataW.trod_struct hu h
        obtain rfl : n = m := by omega
        refine ⟨hlen, fun f hmem => ?_⟩
        obtain ⟨i, hi, rfl⟩ := List.mem_iff_getElem.1 hmem
        have h1 := hf i fs[i] (Array.getElem?_eq_getElem (by simpa using hi))
        rw [List.getElem?_eq_getElem (by rw [hsz]; simpa using hi)] at h1
        exact ih _ _ _ h1
end

/-- v is a value of type t that came in, as w has it -/
def Arg (P : Program) (w : World) (t : TypeId) (v : Value) : Prop :=
  ∃ n cs, Typed P w n t cs ∧ v = (match P.underlying t with | some (.struct _) => .agg cs.toArray | _ => cs.headD undef)

/-- the types that are served -/
def Served (P : Program) (t : TypeId) : Prop :=
  match P.underlying t with
  | some .bool | some (.int _) | some (.float _) | some .string | some (.slice _) | some (.struct _) => True
  | _ => False

section
variable {H : Type} {enc : TypeId × Value → H} {P : Program} {w : World} {base : Nat} {spare : Nat → Bool} {held : Bool}

theorem arg_of {t : TypeId} {v : Value} {d : DataW H} {ps : List MemPlace} {r : Reach} {b0 : Nat} (hs : Served P t) (hok : Value.okWide P w r b0 t v) (h : DataW.Trod enc P w base spare held t v d ps) : Arg P w t v := by
  obtain ⟨n, hn⟩ := h
  refine ⟨n, v.cells.toList, typed_of_trod n t _ _ hn, ?_⟩
  unfold Served at hs
  cases hu : P.underlying t with
  | none => rw [hu] at hs; exact hs.elim
  | some u =>
    rw [hu] at hs
    cases u <;> simp only at hs ⊢
    case bool => obtain ⟨b, rfl⟩ := okWide_bool hu hok; rfl
    case int k => obtain ⟨b, rfl⟩ := okWide_int hu hok; rfl
    case float k => obtain ⟨b, rfl⟩ := okWide_float hu hok; rfl
    case string => obtain ⟨b, rfl⟩ := okWide_string hu hok; rfl
    case slice e => obtain ⟨a, l, c, rfl⟩ := okWide_slice hu hok; rfl
    case struct fs => obtain ⟨cs, rfl, _⟩ := okWide_struct hu hok; simp [Value.cells]

theorem below_trodAll {W W' : World} (hl : laidOutB P = true) (hb : Below W.heap.size W W') : ∀ {ts : List TypeId} {vs : List Value} {ds : List (DataW H)} {p : List MemPlace},
    (∀ t ∈ ts, P.readableRec t = true ∧ t < P.types.size) → DataW.TrodAll enc P W 0 (fun _ => true) true ts vs ds p → DataW.TrodAll enc P W' 0 (fun b => decide (b < W.heap.size)) true ts vs ds p
  | [], _, _, _, _, h => by
    obtain ⟨rfl, rfl, rfl⟩ := trodAll_nil h
    rfl
  | t :: ts, _, _, _, hr, h => by
    obtain ⟨v, vs1, d, ds1, a, b, rfl, rfl, rfl, h1, h2⟩ := trodAll_cons h
    have hlt : ∀ x ∈ a, x.block < W.heap.size := by obtain ⟨m, hm⟩ := h1; exact DataW.trod_lt m _ _ _ hm
    exact ⟨a, b, Below.trod hl (hr t (by simp)).1 (hr t (by simp)).2 h1 hb hlt, below_trodAll hl hb (fun u hu => hr u (by simp [hu])) h2, rfl⟩

theorem trodAll_len : ∀ {ts : List TypeId} {vs : List Value} {ds : List (DataW H)} {p : List MemPlace}, DataW.TrodAll enc P w base spare held ts vs ds p → vs.length = ts.length ∧ ds.length = ts.length
  | [], _, _, _, h => by obtain ⟨rfl, rfl, rfl⟩ := trodAll_nil h; exact ⟨rfl, rfl⟩
  | t :: ts, _, _, _, h => by
    obtain ⟨v, vs1, d, ds1, a, b, rfl, rfl, rfl, h1, h2⟩ := trodAll_cons h
    obtain ⟨e1, e2⟩ := trodAll_len h2
    simp [e1, e2]

theorem trodAll_at : ∀ {ts : List TypeId} {vs : List Value} {ds : List (DataW H)} {p : List MemPlace}, DataW.TrodAll enc P w base spare held ts vs ds p → ∀ (j : Nat) (t : TypeId) (v : Value), ts[j]? = some t → vs[j]? = some v → ∃ d q, DataW.Trod enc P w base spare held t v d q
  | [], _, _, _, _, j, t, v, ht, _ => by simp at ht
  | t :: ts, _, _, _, h, j, t', v', ht, hv => by
    obtain ⟨v, vs1, d, ds1, a, b, rfl, rfl, rfl, h1, h2⟩ := trodAll_cons h
    cases j with
    | zero => simp at ht hv; subst ht hv; exact ⟨_, _, h1⟩
    | succ j => simp at ht hv; exact trodAll_at h2 j t' v' ht hv

theorem Typed.int {k : IntKind} {n : Nat} {t : TypeId} {cs : List Value} (ht : P.underlying t = some (.int k)) (h : Typed P w n t cs) : ∃ x, cs = [.int k x] ∧ (Lit.int k x).wf = true := by
  cases n with
  | zero => exact h.elim
  | succ n => unfold Typed at h; rw [ht] at h; exact h
theorem Typed.bool {n : Nat} {t : TypeId} {cs : List Value} (ht : P.underlying t = some .bool) (h : Typed P w n t cs) : ∃ b, cs = [.bool b] := by
  cases n with
  | zero => exact h.elim
  | succ n => unfold Typed at h; rw [ht] at h; exact h
theorem Typed.float {k : FloatKind} {n : Nat} {t : TypeId} {cs : List Value} (ht : P.underlying t = some (.float k)) (h : Typed P w n t cs) : ∃ x, cs = [.float k x] ∧ (Lit.float k x).wf = true := by
  cases n with
  | zero => exact h.elim
  | succ n => unfold Typed at h; rw [ht] at h; exact h
theorem Typed.string {n : Nat} {t : TypeId} {cs : List Value} (ht : P.underlying t = some .string) (h : Typed P w n t cs) : ∃ s : ByteArray, cs = [.string s] ∧ s.size ≤ maxLen := by
  cases n with
  | zero => exact h.elim
  | succ n => unfold Typed at h; rw [ht] at h; exact h
theorem Typed.slice {e : TypeId} {n : Nat} {t : TypeId} {cs : List Value} (ht : P.underlying t = some (.slice e)) (h : Typed P w n t cs) :
    ∃ a cap, ∃ xs : List (List Value), ∃ m, cs = [.slice a xs.length cap] ∧ xs.length ≤ cap ∧ cap ≤ maxLen ∧ (∀ x ∈ xs, x.length = P.cellsOf e ∧ Typed P w m e x) ∧ Rd w a xs.flatten := by
  cases n with
  | zero => exact h.elim
  | succ n =>
    unfold Typed at h; rw [ht] at h
    obtain ⟨a, cap, xs, h1, h2, h3, h4, h5⟩ := h
    exact ⟨a, cap, xs, n, h1, h2, h3, h4, h5⟩
theorem Typed.struct {fs : Array Field} {n : Nat} {t : TypeId} {cs : List Value} (ht : P.underlying t = some (.struct fs)) (h : Typed P w n t cs) :
    ∃ m, cs.length = P.cellsOf t ∧ ∀ f ∈ fs.toList, Typed P w m f.type ((cs.drop f.offset).take (P.cellsOf f.type)) := by
  cases n with
  | zero => exact h.elim
  | succ n => unfold Typed at h; rw [ht] at h; exact ⟨n, h⟩

theorem Arg.int {k : IntKind} {t : TypeId} {v : Value} (ht : P.underlying t = some (.int k)) (h : Arg P w t v) : ∃ x, v = .int k x ∧ (Lit.int k x).wf = true := by
  obtain ⟨n, cs, h1, rfl⟩ := h
  obtain ⟨x, rfl, hx⟩ := h1.int ht
  exact ⟨x, by rw [ht]; rfl, hx⟩
theorem Arg.string {t : TypeId} {v : Value} (ht : P.underlying t = some .string) (h : Arg P w t v) : ∃ x : ByteArray, v = .string x ∧ x.size ≤ maxLen := by
  obtain ⟨n, cs, h1, rfl⟩ := h
  obtain ⟨x, rfl, hx⟩ := h1.string ht
  exact ⟨x, by rw [ht]; rfl, hx⟩
theorem Arg.slice {e : TypeId} {t : TypeId} {v : Value} (ht : P.underlying t = some (.slice e)) (h : Arg P w t v) :
    ∃ a cap, ∃ xs : List (List Value), ∃ m, v = .slice a xs.length cap ∧ xs.length ≤ cap ∧ cap ≤ maxLen ∧ (∀ x ∈ xs, x.length = P.cellsOf e ∧ Typed P w m e x) ∧ Rd w a xs.flatten := by
  obtain ⟨n, cs, h1, rfl⟩ := h
  obtain ⟨a, cap, xs, m, rfl, h2⟩ := h1.slice ht
  exact ⟨a, cap, xs, m, by rw [ht]; rfl, h2⟩
theorem Arg.struct {fs : Array Field} {t : TypeId} {v : Value} (ht : P.underlying t = some (.struct fs)) (h : Arg P w t v) :
    ∃ (cs : List Value) (m : Nat), v = .agg cs.toArray ∧ cs.length = P.cellsOf t ∧ ∀ f ∈ fs.toList, Typed P w m f.type ((cs.drop f.offset).take (P.cellsOf f.type)) := by
  obtain ⟨n, cs, h1, rfl⟩ := h
  obtain ⟨m, h2, h3⟩ := h1.struct ht
  exact ⟨cs, m, by rw [ht], h2, h3⟩

/-- THE FRAME OF ALL LAWS: the walk that ends in true and turns nothing that there was. -/
theorem law_lifted {C : Checked} {f : FuncId} {fn : Func} {s : ChangeSpec} {os : Os} (T : TypeId)
    (own : ownKnob C.prog.godebug = none) (started : os.Started) (hinit : C.prog.inits.idxOf? f = none) (hfn : C.prog.funcs[f]? = some fn) (hl : laidOutB C.prog = true)
    (hr : ∀ t ∈ fn.params.toList, C.prog.readableRec t = true ∧ t < C.prog.types.size) (hsv : ∀ t ∈ fn.params.toList, Served C.prog t)
    (hres : fn.resultTypes = #[T]) (hT : C.prog.underlying T = some .bool) (hvars : s.vars = [])
    (hs : ∀ ds : List (DataW H), ds.length = fn.params.size → s.fn H ds = { results := [.lit (.bool true)], args := ds })
    (witness : ∃ (w : World) (tape : Tape) (i : Input), w.os = os ∧ (w.forCall tape i).Shaped C.prog ∧ i.vars = [] ∧ Input.okWide C.prog (w.forCall tape i) .any w.heap.size f i ∧
      s.pre6 enc C.prog fn [] false (w.forCall tape i).memory i.args ∧ ({} : Assume).holds C.prog (lone (Frame.enter C.prog f i.args .normal) [] (w.forCall tape i)))
    (walk : ∀ (W : World) (args : Array Value), args.size = fn.params.size → (∀ (j : Nat) (t : TypeId) (v : Value), fn.params[j]? = some t → args[j]? = some v → Arg C.prog W t v) →
      Calls C.prog f args W fun e W' => e = .returned (.bool true) ∧ Ext W W') :
    ReturnsInHanded {} C os f .any (s.pre6 enc C.prog fn [] false) (s.post enc C.prog fn false true false false) := by
  refine returnsInHanded_of_change (C := C) own started hinit hfn witness ?_
  intro W b0 args ds gs before hval hW _ _
  have hW' := hW
  obtain ⟨p, q, hA, hV, rfl, _, _⟩ := hW
  rw [hvars] at hV
  obtain ⟨rfl, rfl⟩ := trodVars_none hV
  obtain ⟨e1, e2⟩ := trodAll_len hA
  have hsz : args.size = fn.params.size := by simpa using e1
  refine (walk W args hsz fun j t v ht hv => ?_).mono fun e W' ⟨he, hb⟩ => ?_
  · obtain ⟨d, q, hd⟩ := trodAll_at hA j t v (by simpa using ht) (by simpa using hv)
    exact arg_of (hsv t (by have := Array.mem_of_getElem? ht; simpa using this)) (hval j t v ht hv) hd
  · subst he
    have hfn' : s.fn H (ds ++ []) = { results := [.lit (.bool true)], args := ds } := by rw [List.append_nil]; exact hs ds (by simpa using e2)
    refine ⟨_, rfl, ds, [], _, [], p, [], hW', ?_, ?_, ?_, ?_, fun h => by cases h⟩
    · rw [hfn', hres]
      exact trodAll_mk1 (shut_bool hT true)
    · rw [hfn']
      exact below_trodAll hl hb hr hA
    · rw [hfn', hvars]; rfl
    · exact hb.frame _
end

/-! ### append of one element onto a row of the call's own -/

/-- T is the type of slices whose elements are of type E: size cells each, bytes wide, z their zero -/
def Elem (P : Program) (T E : TypeId) (z : Value) (size bytes : Nat) : Prop :=
  P.underlying T = some (.slice E) ∧ ∃ i, P.info? E = some i ∧ i.zero = some z ∧ i.size = size ∧ i.bytes = bytes ∧ z.cells.size = size ∧ 0 < size
theorem Elem.mk {P : Program} {T E : TypeId} {z : Value} {size bytes : Nat} (h1 : P.underlying T = some (.slice E)) (h2 : (P.info? E).map (fun i => (i.zero, i.size, i.bytes)) = some (some z, size, bytes)) (h3 : z.cells.size = size) (h4 : 0 < size) : Elem P T E z size bytes := by
  obtain ⟨i, a, b, c, d⟩ := info_parts h2
  exact ⟨h1, i, a, b, c, d, h3, h4⟩

theorem cells_new (w : World) (cs : Array Value) (E : TypeId) : ∀ j u, cs.toList[j]? = some u → (w.alloc (.cells cs E)).cell? ((⟨w.heap.size, 0, none⟩ : Addr).add j) = some u := by
  intro j u hu
  rw [add_plain, cell_of_row _ w.heap.size (0 + j) cs E (0, 0) (heap_alloc_new w _), Nat.zero_add]
  simpa using hu

theorem append_elem {P : Program} {T E : TypeId} {z : Value} {size bytes : Nat} (he : Elem P T E z size bytes) {W w : World} {v : Value} {n : Nat} {xs : List Value}
    (own : w.ownsRow W.heap.size E size v n xs) (ext : Ext W w) (hn : n + 1 ≤ maxLen) (hb : (n + 1) * bytes ≤ 140737488355328)
    {cs : Array Value} (hcs : cs.size = size) (h1 : ∀ u ∈ cs.toList, u.oneCell' = true)
    {ops : Array Oper} {rest : List Oper} {o : Oper} {a : Act} {Q : Exit → Act → World → Prop} (hgd : o.guard = none) (s x : Operand)
    (ho : o.op = .call { callee := .builtin .append, args := #[s, x], argTypes := #[T, T] }) (hs : a.eval s = v) (hx : a.eval x = .slice (some ⟨w.heap.size, 0, none⟩) 1 1)
    (h : ∀ v' w', w'.ownsRow W.heap.size E size v' (n + 1) (xs ++ cs.toList) → Ext W w' → (w.alloc (.cells cs E)).grownBy w' v.ownBlock → wpList P ops Q rest (a.put o.dst v') w') : wpList P ops Q (o :: rest) a (w.alloc (.cells cs E)) := by
  obtain ⟨ht, i, hi, hz, hsz, hby, hzs, hpos⟩ := he
  refine wpList_append_own _ hgd s x T ho W.heap.size E i z size bytes ht hi hz hsz hby hzs hpos v n xs hs (own.alloc _) ⟨w.heap.size, 0, none⟩ 1 1 cs.toList hx (by simpa using hcs) (cells_new w cs E) h1 hn hb (by have := ext.size; simp; omega) ?_
  intro v' w' own' hg _
  exact h v' w' own' ((ext.alloc _).grown hg (fun k hk => (own.lt k hk).1)) hg

theorem own_form {w : World} {base : Nat} {e : TypeId} {size n : Nat} {v : Value} {xs : List Value} (h : w.ownsRow base e size v n xs) :
    ∃ a cap, v = .slice a n cap ∧ n ≤ cap ∧ cap ≤ maxLen ∧ Rd w a xs := by
  have h' := h
  obtain ⟨h1, h2⟩ := h
  rcases h2 with ⟨rfl, rfl⟩ | ⟨g, cap, cur, rfl, hg, hh, hnc, hcm, hcs, htake⟩
  · exact ⟨none, 0, rfl, Nat.le_refl _, by simp [maxLen], Rd.own h'⟩
  · exact ⟨_, cap, rfl, hnc, hcm, Rd.own h'⟩

/-! ### a block that is known whole -/

/-- block g is just the cells xs of element type E, none frozen -/
def Row (w : World) (g : Nat) (E : TypeId) (xs : List Value) : Prop := w.heap[g]? = some (.cells xs.toArray E (0, 0))
section
variable {w w' : World} {g : Nat} {E : TypeId} {xs : List Value}
theorem Row.lt (h : Row w g E xs) : g < w.heap.size := (Array.getElem?_eq_some_iff.1 h).1
theorem Row.new (w : World) (E : TypeId) (xs : List Value) : Row (w.alloc (.cells xs.toArray E)) w.heap.size E xs := heap_alloc_new w _
theorem Row.cell (h : Row w g E xs) {i : Nat} {u : Value} (hu : xs[i]? = some u) : w.cell? ⟨g, i, none⟩ = some u := by
  rw [cell_of_row w g i _ E (0, 0) h]; simpa using hu
theorem Row.frozen (h : Row w g E xs) (i : Nat) : w.frozen? ⟨g, i, none⟩ = false := by
  unfold Row at h; simp [World.frozen?, h]
theorem Row.set (h : Row w g E xs) (i : Nat) (u : Value) : Row (w.setCell ⟨g, i, none⟩ u) g E (xs.set i u) := by
  unfold Row at h ⊢
  simp [World.setCell, Array.getElem?_modify, h]
theorem Row.far (h : Row w g E xs) {p : Addr} (hp : g ≠ p.block) (u : Value) : Row (w.setCell p u) g E xs := (Below.heap_setCell w p u g hp).trans h
theorem Row.alloc (h : Row w g E xs) (o : Obj) : Row (w.alloc o) g E xs := (Below.heap_alloc w o g h.lt).trans h
theorem Row.drew (h : Row w g E xs) : Row w.drew g E xs := h
theorem Row.ext (h : Row w g E xs) (e : Ext w w') : Row w' g E xs := (e.block g h.lt).trans h
theorem Row.grown {row : Option Nat} (h : Row w g E xs) (hb : w.grownBy w' row) (hg : some g ≠ row) : Row w' g E xs := (hb.block g h.lt hg).trans h
theorem Row.rd (h : Row w g E xs) : Rd w (some ⟨g, 0, none⟩) xs :=
  .inr ⟨g, 0, rfl, fun j u hu => by rw [Nat.zero_add]; exact h.cell hu⟩
theorem Row.own (h : Row w g E xs) {base : Nat} (hb : base ≤ g) (hm : xs.length ≤ maxLen) : w.ownsRow base E 1 (.slice (some ⟨g, 0, none⟩) xs.length xs.length) xs.length xs :=
  ⟨by simp, .inr ⟨g, xs.length, xs.toArray, rfl, hb, h, Nat.le_refl _, hm, by simp, by simp⟩⟩
end

/-- make([]T, n), elements of one cell: the world written out -/
theorem make_one {P : Program} {T E : TypeId} {z : Value} {bytes : Nat} (he : Elem P T E z 1 bytes) (hz1 : z.cells = #[z]) {w : World} {n : Nat}
    {ops : Array Oper} {rest : List Oper} {o : Oper} {a : Act} {Q : Exit → Act → World → Prop} (hg : o.guard = none) (l c : Operand) (hop : o.op = Op.makeSlice T l c)
    {kl kc : IntKind} {L C : Int} (hl : a.eval l = .int kl L) (hc : a.eval c = .int kc C) (hL : L = (n : Int)) (hC : C = (n : Int)) (hb : bytes * n ≤ 281474976710656) (hm : n ≤ maxLen)
    (h : ∀ w1, Row w1 w.heap.size E (List.replicate n z) → Ext w w1 → wpList P ops Q rest (a.put o.dst (.slice (some ⟨w.heap.size, 0, none⟩) n n)) w1) : wpList P ops Q (o :: rest) a w := by
  obtain ⟨ht, i, hi, hz, hsz, hby, _, _⟩ := he
  refine wpList_plain hg fun K hK => ?_
  have h63 : (n : Int) ≤ 9223372036854775807 := by have := hm; simp [maxLen] at this; omega
  have hb' : (i.bytes : Int) * (n : Int) ≤ 281474976710656 := by
    have h : ((i.bytes * n : Nat) : Int) ≤ 281474976710656 := by rw [hby]; omega
    rwa [Int.natCast_mul] at h
  have hr := run_make (P := P) w T E i z ht hi hz kl kc n n (by omega) (by omega) hb' h63
  simp only [Int.toNat_natCast, hsz, Nat.mul_one] at hr
  have hmc : madeCells z.cells n = (List.replicate n z).toArray := by
    rw [hz1]; apply Array.toList_inj.1; rw [toList_madeCells_one]
  rw [hmc] at hr
  subst hL hC
  unfold Oper.wp
  have h' := h _ (Row.new w E _) (Ext.new w _)
  simp [execOp, hop, hl, hc, hr, Result.andThen]
  exact hK _ _ (by simpa using h')

/-! ### append of a row that is read (nil, empty or not) onto a row of the call's own -/

theorem run_append_noth {P : Program} (w : World) (base : Nat) (t ty e : TypeId) (i : TypeInfo) (size : Nat) (ht : P.underlying t = some (.slice e)) (hi : P.info? e = some i)
    (v : Value) (n : Nat) (xs : List Value) (own : w.ownsRow base e size v n xs) (c : Nat) : (Builtin.append_ #[t, t] ty #[v, .slice none 0 c]).run P w = .ok v w := by
  rcases own.2 with ⟨rfl, rfl⟩ | ⟨g, cap, cur, rfl, _, _, hnc, _⟩
  · simp [Builtin.append_, run_underlying ht, sizeOf, typeInfo, hi, Builtin.lenOf, Builtin.firstCells]
  · simp [Builtin.append_, run_underlying ht, sizeOf, typeInfo, hi, Builtin.lenOf, Builtin.firstCells, hnc, storeCells]

theorem append_row {P : Program} {T E : TypeId} {z : Value} {size bytes : Nat} (he : Elem P T E z size bytes) {W w : World} {v : Value} {n : Nat} {xs : List Value}
    (own : w.ownsRow W.heap.size E size v n xs) (ext : Ext W w) {A : Option Addr} {m c : Nat} {ys : List Value} (hl : ys.length = m * size) (hr : Rd w A ys)
    (hn : n + m ≤ maxLen) (hb : (n + m) * bytes ≤ 140737488355328) (h1 : ∀ u ∈ ys, u.oneCell' = true)
    {ops : Array Oper} {rest : List Oper} {o : Oper} {a : Act} {Q : Exit → Act → World → Prop} (hgd : o.guard = none) (s x : Operand)
    (ho : o.op = .call { callee := .builtin .append, args := #[s, x], argTypes := #[T, T] }) (hs : a.eval s = v) (hx : a.eval x = .slice A m c)
    (h : ∀ v' w', w'.ownsRow W.heap.size E size v' (n + m) (xs ++ ys) → Ext W w' → w.grownBy w' v.ownBlock → wpList P ops Q rest (a.put o.dst v') w') : wpList P ops Q (o :: rest) a w := by
  obtain ⟨ht, i, hi, hz, hsz, hby, hzs, hpos⟩ := he
  have hcells : ∀ ad, A = some ad → ∀ j u, ys[j]? = some u → w.cell? (ad.add j) = some u := by
    intro ad hA j u hu
    obtain ⟨b, off, e, hc⟩ := hr.get hu
    rw [hA] at e
    injection e with e
    subst e
    rw [add_plain]; exact hc
  rcases A with _ | ad
  · have hy : ys = [] := by
      rcases hr with h0 | ⟨b, off, e, _⟩
      · exact h0
      · cases e
    subst hy
    have hm : m = 0 := by
      rcases Nat.eq_zero_or_pos m with h0 | h0
      · exact h0
      · have := Nat.mul_pos h0 hpos; simp at hl; omega
    subst hm
    refine wpList_plain hgd fun K hK => ?_
    have hrun := run_append_noth (P := P) w W.heap.size T o.type E i size ht hi v n xs own c
    unfold Oper.wp
    simp [execOp, ho, resolve, invoke, builtin, hs, hx, hrun, Result.andThen]
    exact hK _ _ (h v w (by simpa using own) ext (World.grownBy.refl w _))
  · refine wpList_append_own _ hgd s x T ho W.heap.size E i z size bytes ht hi hz hsz hby hzs hpos v n xs hs own ad m c ys hx hl (hcells ad rfl) h1 hn hb ext.size ?_
    intro v' w' own' hg _
    exact h v' w' own' (ext.grown hg (fun k hk => (own.lt k hk).1)) hg

/-- a slice value that lies in a block from base on, or is nil -/
def From (base : Nat) (a : Option Addr) : Prop := ∀ ad, a = some ad → base ≤ ad.block
theorem From.none (base : Nat) : From base .none := fun _ h => by cases h
theorem From.mono {b c : Nat} {a : Option Addr} (h : From b a) (hc : c ≤ b) : From c a := fun ad e => Nat.le_trans hc (h ad e)
theorem own_from {w : World} {base : Nat} {e : TypeId} {size n c : Nat} {a : Option Addr} {xs : List Value} (h : w.ownsRow base e size (.slice a n c) n xs) : From base a := by
  intro ad ha
  subst ha
  exact (h.lt ad.block rfl).1
/-- the result is a slice of n elements with the cells xs, in new memory; nothing that there was has turned -/
def GotC (W : World) (n : Nat) (xs : List Value) (e : Ending) (w' : World) : Prop :=
  ∃ a cap, e = .returned (.slice a n cap) ∧ n ≤ cap ∧ cap ≤ maxLen ∧ Rd w' a xs ∧ Ext W w' ∧ From W.heap.size a
end Go.Proofs.Ytmlnpagkabmmpaa

/- Plain facts on numbers and their digits to some base. No program stands in this text. -/
namespace Go.Proofs.Ytmlnpagkabmmpaa

/-- the digits of n to the base B, the least one first, no nought at the end; with fuel -/
def dgF (B : Nat) : Nat → Nat → List Nat
  | 0, _ => []
  | f + 1, n => if n = 0 then [] else n % B :: dgF B f (n / B)
def dg (B n : Nat) : List Nat := dgF B n n
/-- the number of digits -/
def val (B : Nat) : List Nat → Nat
  | [] => 0
  | d :: l => d + B * val B l
/-- the i lowest digits of k -/
def fixd (B i k : Nat) : List Nat := (List.range i).map fun j => k / B ^ j % B

theorem dgF_fuel {B : Nat} (hB : 1 < B) : ∀ (f g n : Nat), n ≤ f → n ≤ g → dgF B f n = dgF B g n := by
  intro f
  induction f with
  | zero => intro g n h _; obtain rfl : n = 0 := by omega
            cases g <;> simp [dgF]
  | succ f ih =>
    intro g n h1 h2
    by_cases hn : n = 0
    · subst hn; cases g <;> simp [dgF]
    · cases g with
      | zero => omega
      | succ g =>
        have hd : n / B < n := Nat.div_lt_self (by omega) hB
        simp only [dgF, if_neg hn]
        rw [ih g (n / B) (by omega) (by omega)]
theorem dg_zero (B : Nat) : dg B 0 = [] := rfl
theorem dg_pos {B : Nat} (hB : 1 < B) {n : Nat} (hn : 0 < n) : dg B n = n % B :: dg B (n / B) := by
  unfold dg
  obtain ⟨m, rfl⟩ : ∃ m, n = m + 1 := ⟨n - 1, by omega⟩
  have hd : (m + 1) / B < m + 1 := Nat.div_lt_self (by omega) hB
  conv => lhs; unfold dgF
  rw [if_neg (by omega), dgF_fuel hB m ((m + 1) / B) ((m + 1) / B) (by omega) (Nat.le_refl _)]

theorem dg_get {B : Nat} (hB : 1 < B) : ∀ (i n : Nat), (dg B n)[i]? = if B ^ i ≤ n then some (n / B ^ i % B) else none := by
  intro i
  induction i with
  | zero =>
    intro n
    rcases Nat.eq_zero_or_pos n with rfl | hn
    · simp [dg_zero]
    · rw [dg_pos hB hn]; simp; omega
  | succ i ih =>
    intro n
    rcases Nat.eq_zero_or_pos n with rfl | hn
    · have : 0 < B ^ (i + 1) := Nat.pow_pos (by omega)
      simp [dg_zero]; omega
    · rw [dg_pos hB hn, List.getElem?_cons_succ, ih (n / B)]
      have e : B ^ i ≤ n / B ↔ B ^ (i + 1) ≤ n := by rw [Nat.le_div_iff_mul_le (by omega), Nat.pow_succ]
      simp only [e]
      rw [Nat.div_div_eq_div_mul, Nat.pow_succ, Nat.mul_comm B]

theorem dg_len_lt {B : Nat} (hB : 1 < B) (i n : Nat) : i < (dg B n).length ↔ B ^ i ≤ n := by
  have h := dg_get hB i n
  constructor
  · intro hl
    rw [List.getElem?_eq_getElem hl] at h
    split at h
    · assumption
    · cases h
  · intro hl
    rw [if_pos hl] at h
    exact (List.getElem?_eq_some_iff.1 h).1
theorem dg_len_le {B : Nat} (hB : 1 < B) (i n : Nat) : (dg B n).length ≤ i ↔ n < B ^ i := by
  have := dg_len_lt hB i n; omega
theorem lt_pow_len {B : Nat} (hB : 1 < B) (n : Nat) : n < B ^ (dg B n).length := (dg_len_le hB _ n).1 (Nat.le_refl _)
theorem dg_at {B : Nat} (hB : 1 < B) {i n : Nat} (h : i < (dg B n).length) : (dg B n)[i] = n / B ^ i % B := by
  have := dg_get hB i n
  rw [List.getElem?_eq_getElem h, if_pos ((dg_len_lt hB i n).1 h)] at this
  exact Option.some.inj this
theorem dg_lt {B : Nat} (hB : 1 < B) {n d : Nat} (h : d ∈ dg B n) : d < B := by
  obtain ⟨i, hi, rfl⟩ := List.mem_iff_getElem.1 h
  rw [dg_at hB hi]; exact Nat.mod_lt _ (by omega)

theorem val_dg {B : Nat} (hB : 1 < B) : ∀ (n : Nat), val B (dg B n) = n := by
  intro n
  induction n using Nat.strongRecOn with
  | _ n ih =>
    rcases Nat.eq_zero_or_pos n with rfl | hn
    · rfl
    · rw [dg_pos hB hn]
      have hd : n / B < n := Nat.div_lt_self (by omega) hB
      simp only [val]
      rw [ih _ hd]
      exact Nat.mod_add_div n B
theorem dg_inj {B : Nat} (hB : 1 < B) {n m : Nat} (h : dg B n = dg B m) : n = m := by rw [← val_dg hB n, h, val_dg hB m]
theorem dg_nil {B : Nat} (hB : 1 < B) (n : Nat) : dg B n = [] ↔ n = 0 := by
  constructor
  · intro h; have := val_dg hB n; rw [h] at this; exact this.symm
  · rintro rfl; rfl
theorem dg_len0 {B : Nat} (hB : 1 < B) (n : Nat) : (dg B n).length = 0 ↔ n = 0 := by rw [List.length_eq_zero_iff]; exact dg_nil hB n

/-! ### lists of digits that may end in noughts -/

theorem val_append (B : Nat) (a b : List Nat) : val B (a ++ b) = val B a + B ^ a.length * val B b := by
  induction a with
  | nil => simp [val]
  | cons d a ih => simp only [List.cons_append, val, ih, List.length_cons, Nat.pow_succ, Nat.mul_add]; rw [Nat.mul_comm (B ^ a.length) B, Nat.mul_assoc]; omega
theorem val_lt {B : Nat} (_hB : 1 < B) {l : List Nat} (h : ∀ d ∈ l, d < B) : val B l < B ^ l.length := by
  induction l with
  | nil => simp [val]
  | cons d l ih =>
    have h1 := h d (by simp)
    have h2 := ih fun x hx => h x (by simp [hx])
    simp only [val, List.length_cons, Nat.pow_succ]
    have : B * (val B l + 1) ≤ B * B ^ l.length := Nat.mul_le_mul_left _ h2
    rw [Nat.mul_comm (B ^ l.length) B]; rw [Nat.mul_add] at this; omega
theorem val_zero {B : Nat} (l : List Nat) (h : ∀ d ∈ l, d = 0) : val B l = 0 := by
  induction l with
  | nil => rfl
  | cons d l ih => simp only [val]; rw [h d (by simp), ih fun x hx => h x (by simp [hx])]; simp
/-- a list with digits below B whose last one is not nought is what its number has -/
theorem dg_val {B : Nat} (hB : 1 < B) : ∀ (l : List Nat), (∀ d ∈ l, d < B) → (∀ h : l ≠ [], l.getLast h ≠ 0) → dg B (val B l) = l := by
  intro l
  induction l with
  | nil => intro _ _; rfl
  | cons d l ih =>
    intro h1 h2
    have hd := h1 d (by simp)
    have ih' := ih (fun x hx => h1 x (by simp [hx])) (fun hne => by have := h2 (by simp); rwa [List.getLast_cons hne] at this)
    have hpos : 0 < val B (d :: l) := by
      simp only [val]
      cases l with
      | nil => have := h2 (by simp); simp at this; omega
      | cons e l =>
        have : 0 < val B (e :: l) := by
          rcases Nat.eq_zero_or_pos (val B (e :: l)) with h0 | h0
          · rw [h0] at ih'; simp [dg_zero] at ih'
          · exact h0
        have := Nat.mul_pos (show 0 < B by omega) this
        omega
    rw [dg_pos hB hpos]
    simp only [val]
    rw [Nat.add_mul_mod_self_left, Nat.mod_eq_of_lt hd, Nat.add_mul_div_left _ _ (by omega), Nat.div_eq_of_lt hd, Nat.zero_add, ih']

/-- the list without noughts at its end: its number's digits -/
theorem dg_strip {B : Nat} (hB : 1 < B) (l : List Nat) (hl : ∀ d ∈ l, d < B) (n : Nat) (hn : n ≤ l.length) (hz : ∀ i, n ≤ i → l[i]?.getD 0 = 0) (hlast : n = 0 ∨ l[n - 1]?.getD 0 ≠ 0) : l.take n = dg B (val B l) := by
  have e : val B l = val B (l.take n) := by
    conv => lhs; rw [← List.take_append_drop n l]
    rw [val_append]
    have : val B (l.drop n) = 0 := val_zero _ fun d hd => by
      obtain ⟨i, hi, rfl⟩ := List.mem_iff_getElem.1 hd
      have := hz (n + i) (by omega)
      simp only [List.length_drop] at hi
      rw [List.getElem?_eq_getElem (by omega)] at this
      simpa using this
    rw [this]; simp
  rw [e]
  refine (dg_val hB _ (fun d hd => hl d (List.mem_of_mem_take hd)) ?_).symm
  intro hne
  have hn0 : n ≠ 0 := by rintro rfl; simp at hne
  rw [List.getLast_eq_getElem]
  rcases hlast with h | h
  · omega
  · rw [List.getElem?_eq_getElem (by omega)] at h
    simp only [Option.getD_some] at h
    simp only [List.length_take, List.getElem_take, show min n l.length = n by omega]
    exact h

/-! ### the i lowest digits -/

theorem fixd_zero (B k : Nat) : fixd B 0 k = [] := rfl
theorem fixd_succ (B i k : Nat) : fixd B (i + 1) k = fixd B i k ++ [k / B ^ i % B] := by simp [fixd, List.range_succ]
theorem fixd_len (B i k : Nat) : (fixd B i k).length = i := by simp [fixd]
theorem fixd_lt {B : Nat} (hB : 1 < B) {i k d : Nat} (h : d ∈ fixd B i k) : d < B := by
  simp only [fixd, List.mem_map] at h
  obtain ⟨j, _, rfl⟩ := h
  exact Nat.mod_lt _ (by omega)
theorem mod_pow_succ' {B : Nat} (k i : Nat) : k % B ^ (i + 1) = k % B ^ i + B ^ i * (k / B ^ i % B) := by
  rw [Nat.pow_succ, Nat.mod_mul]
theorem fixd_val {B : Nat} : ∀ (i k : Nat), val B (fixd B i k) = k % B ^ i := by
  intro i
  induction i with
  | zero => intro k; simp [fixd, val, Nat.mod_one]
  | succ i ih => intro k; rw [fixd_succ, val_append, ih, fixd_len, mod_pow_succ']; simp [val]
theorem fixd_get {B i k j : Nat} (h : j < i) : (fixd B i k)[j]? = some (k / B ^ j % B) := by simp [fixd, h]
/-- as many digits as there are: all -/
theorem fixd_dg {B : Nat} (hB : 1 < B) {i k : Nat} (h : k < B ^ i) (h' : i = 0 ∨ B ^ (i - 1) ≤ k) : fixd B i k = dg B k := by
  have hl : (dg B k).length = i := by
    have h1 := (dg_len_le hB i k).2 h
    rcases h' with rfl | h'
    · omega
    · have := (dg_len_lt hB (i - 1) k).2 h'
      omega
  apply List.ext_getElem?
  intro j
  by_cases hj : j < i
  · rw [fixd_get hj, dg_get hB, if_pos]
    exact (dg_len_lt hB j k).1 (by omega)
  · rw [List.getElem?_eq_none (by rw [fixd_len]; omega), List.getElem?_eq_none (by omega)]
theorem fixd_congr {B i a b : Nat} (h : a % B ^ i = b % B ^ i) : fixd B i a = fixd B i b := by
  apply List.ext_getElem?
  intro j
  by_cases hj : j < i
  · rw [fixd_get hj, fixd_get hj]
    have hd : B ^ (j + 1) ∣ B ^ i := Nat.pow_dvd_pow _ hj
    have e : ∀ x : Nat, x / B ^ j % B = x % B ^ (j + 1) / B ^ j := fun x => by
      rw [Nat.pow_succ]
      exact (Nat.mod_mul_right_div_self x (B ^ j) B).symm
    rw [e, e, ← Nat.mod_mod_of_dvd a hd, ← Nat.mod_mod_of_dvd b hd, h]
  · rw [List.getElem?_eq_none (by rw [fixd_len]; omega), List.getElem?_eq_none (by rw [fixd_len]; omega)]
/-- i digits below B: what their number has -/
theorem fixd_of_val {B : Nat} (hB : 1 < B) : ∀ (l : List Nat), (∀ d ∈ l, d < B) → fixd B l.length (val B l) = l := by
  intro l
  induction l with
  | nil => intro _; rfl
  | cons d l ih =>
    intro h
    have hd := h d (by simp)
    have ih' := ih fun x hx => h x (by simp [hx])
    apply List.ext_getElem?
    intro j
    by_cases hj : j < (d :: l).length
    · rw [fixd_get hj]
      cases j with
      | zero => simp [val, Nat.mod_eq_of_lt hd]
      | succ j =>
        rw [List.getElem?_cons_succ]
        conv => rhs; rw [← ih']
        rw [fixd_get (by simpa using hj)]
        simp only [val]
        rw [Nat.pow_succ, Nat.mul_comm (B ^ j) B, ← Nat.div_div_eq_div_mul, Nat.add_mul_div_left _ _ (by omega), Nat.div_eq_of_lt hd, Nat.zero_add]
    · rw [List.getElem?_eq_none (by rw [fixd_len]; omega), List.getElem?_eq_none (by omega)]

/-! ### sums -/

/-- the carry behind i digits -/
def carry (B n m i : Nat) : Nat := (n % B ^ i + m % B ^ i) / B ^ i
theorem carry_zero (B n m : Nat) : carry B n m 0 = 0 := by simp [carry, Nat.mod_one]
theorem carry_lt {B : Nat} (hB : 1 < B) (n m i : Nat) : carry B n m i ≤ 1 := by
  have hp : 0 < B ^ i := Nat.pow_pos (by omega)
  have h1 := Nat.mod_lt n hp
  have h2 := Nat.mod_lt m hp
  have : carry B n m i < 2 := by unfold carry; rw [Nat.div_lt_iff_lt_mul hp]; omega
  omega
theorem carry_succ {B : Nat} (hB : 1 < B) (n m i : Nat) : carry B n m (i + 1) = (carry B n m i + n / B ^ i % B + m / B ^ i % B) / B := by
  have hp : 0 < B ^ i := Nat.pow_pos (by omega)
  unfold carry
  rw [mod_pow_succ', mod_pow_succ', Nat.pow_succ, ← Nat.div_div_eq_div_mul]
  congr 1
  rw [show n % B ^ i + B ^ i * (n / B ^ i % B) + (m % B ^ i + B ^ i * (m / B ^ i % B)) = (n % B ^ i + m % B ^ i) + B ^ i * (n / B ^ i % B + m / B ^ i % B) by rw [Nat.mul_add]; omega, Nat.add_mul_div_left _ _ hp, Nat.add_assoc]
theorem add_digit {B : Nat} (hB : 1 < B) (n m i : Nat) : (n + m) / B ^ i % B = (carry B n m i + n / B ^ i % B + m / B ^ i % B) % B := by
  have hp : 0 < B ^ i := Nat.pow_pos (by omega)
  have e : (n + m) / B ^ i = carry B n m i + n / B ^ i + m / B ^ i := by
    unfold carry
    have h1 := Nat.mod_add_div n (B ^ i)
    have h2 := Nat.mod_add_div m (B ^ i)
    generalize n % B ^ i = r at *
    generalize m % B ^ i = s at *
    rw [show n + m = (r + s) + B ^ i * (n / B ^ i + m / B ^ i) by rw [Nat.mul_add]; omega, Nat.add_mul_div_left _ _ hp]
    omega
  rw [e, Nat.add_mod, Nat.add_mod (carry B n m i) (n / B ^ i), Nat.add_mod (carry B n m i + n / B ^ i % B), Nat.add_mod (carry B n m i) (n / B ^ i % B)]
  simp only [Nat.mod_mod]
theorem carry_end {B : Nat} (n m i : Nat) (hn : n < B ^ i) (hm : m < B ^ i) : carry B n m i = 0 ↔ n + m < B ^ i := by
  have hp : 0 < B ^ i := by omega
  unfold carry
  rw [Nat.mod_eq_of_lt hn, Nat.mod_eq_of_lt hm, Nat.div_eq_zero_iff]
  omega

/-! ### differences -/

def borrow (B n m i : Nat) : Nat := if n % B ^ i < m % B ^ i then 1 else 0
theorem borrow_zero (B n m : Nat) : borrow B n m 0 = 0 := by simp [borrow, Nat.mod_one]
theorem borrow_le (B n m i : Nat) : borrow B n m i ≤ 1 := by unfold borrow; split <;> omega
theorem sub_parts1 (r s p M k : Nat) (_h1 : r < s) (h2 : s < p) : (r + p * (M + 1 + k)) - (s + p * M) = (r + p - s) + p * k := by
  rw [Nat.mul_add, Nat.mul_add, Nat.mul_one]; omega
theorem sub_parts2 (r s p M k : Nat) (h1 : s ≤ r) : (r + p * (M + k)) - (s + p * M) = (r - s) + p * k := by
  rw [Nat.mul_add]; omega
theorem lt_parts1 (r s p x k : Nat) (h2 : r < p) : r + p * x < s + p * (x + 1 + k) := by
  rw [Nat.mul_add, Nat.mul_add, Nat.mul_one]; omega
theorem lt_parts2 (r s p x k : Nat) (h2 : s < p) : ¬ r + p * (x + 1 + k) < s + p * x := by
  rw [Nat.mul_add, Nat.mul_add, Nat.mul_one]; omega
theorem sub_digit {B : Nat} (hB : 1 < B) (n m i : Nat) (h : m ≤ n) :
    ((n - m) / B ^ i % B : Nat) = (n / B ^ i % B + B - m / B ^ i % B - borrow B n m i) % B ∧
    borrow B n m (i + 1) = (if n / B ^ i % B < m / B ^ i % B + borrow B n m i then 1 else 0) := by
  have hp : 0 < B ^ i := Nat.pow_pos (by omega)
  have hmod := mod_pow_succ' (B := B) n i
  have hmod' := mod_pow_succ' (B := B) m i
  have h1 := Nat.mod_add_div n (B ^ i)
  have h2 := Nat.mod_add_div m (B ^ i)
  have l1 := Nat.mod_lt n hp
  have l2 := Nat.mod_lt m hp
  have d1 := Nat.mod_lt (n / B ^ i) (show B > 0 by omega)
  have d2 := Nat.mod_lt (m / B ^ i) (show B > 0 by omega)
  have hle : m / B ^ i ≤ n / B ^ i := Nat.div_le_div_right h
  have q1 := Nat.mod_add_div (n / B ^ i) B
  have q2 := Nat.mod_add_div (m / B ^ i) B
  constructor
  · have e : (n - m) / B ^ i = n / B ^ i - m / B ^ i - borrow B n m i := by
      unfold borrow
      split
      · rename_i hb
        have hlt : m / B ^ i < n / B ^ i := by
          rcases Nat.lt_or_ge (m / B ^ i) (n / B ^ i) with h' | h'
          · exact h'
          · have he : n / B ^ i = m / B ^ i := by omega
            rw [he] at h1; omega
        obtain ⟨k, hk⟩ : ∃ k, n / B ^ i = m / B ^ i + 1 + k := ⟨n / B ^ i - m / B ^ i - 1, by omega⟩
        rw [hk] at h1
        have : n - m = (n % B ^ i + B ^ i - m % B ^ i) + B ^ i * k := by
          have := sub_parts1 (n % B ^ i) (m % B ^ i) (B ^ i) (m / B ^ i) k hb l2
          rw [h1, h2] at this; exact this
        rw [this, Nat.add_mul_div_left _ _ hp, Nat.div_eq_of_lt (by omega), hk]; omega
      · rename_i hb
        obtain ⟨k, hk⟩ : ∃ k, n / B ^ i = m / B ^ i + k := ⟨n / B ^ i - m / B ^ i, by omega⟩
        rw [hk] at h1
        have : n - m = (n % B ^ i - m % B ^ i) + B ^ i * k := by
          have := sub_parts2 (n % B ^ i) (m % B ^ i) (B ^ i) (m / B ^ i) k (by omega)
          rw [h1, h2] at this; exact this
        rw [this, Nat.add_mul_div_left _ _ hp, Nat.div_eq_of_lt (by have := Nat.sub_le (n % B ^ i) (m % B ^ i); exact Nat.lt_of_le_of_lt this l1), hk]; omega
    rw [e]
    have hb := borrow_le B n m i
    have hb' : m / B ^ i + borrow B n m i ≤ n / B ^ i := by
      unfold borrow
      split
      · rename_i hb2
        rcases Nat.lt_or_ge (m / B ^ i) (n / B ^ i) with h' | h'
        · omega
        · have he : n / B ^ i = m / B ^ i := by omega
          rw [he] at h1; omega
      · omega
    generalize n / B ^ i = N at *
    generalize m / B ^ i = M at *
    generalize borrow B n m i = b at *
    have hq : M / B ≤ N / B := Nat.div_le_div_right hle
    obtain ⟨k, hk⟩ : ∃ k, N / B = M / B + k := ⟨N / B - M / B, by omega⟩
    have hp2 := sub_parts2 (N % B) (M % B) B (M / B) k
    rw [← hk, q1, q2] at hp2
    by_cases hc : M % B + b ≤ N % B
    · rw [show N - M - b = (N % B - M % B - b) + B * k by have := hp2 (by omega); omega, Nat.add_mul_mod_self_left, show N % B + B - M % B - b = (N % B - M % B - b) + B by omega, Nat.add_mod_right]
    · by_cases hs : N % B < M % B
      · have hk1 : 1 ≤ k := by
          rcases Nat.eq_zero_or_pos k with h0 | h0
          · subst h0; rw [Nat.add_zero] at hk; rw [hk] at q1; omega
          · exact h0
        obtain ⟨k', rfl⟩ : ∃ k', k = k' + 1 := ⟨k - 1, by omega⟩
        have hp1 := sub_parts1 (N % B) (M % B) B (M / B) k' hs d2
        rw [show M / B + 1 + k' = N / B by omega, q1, q2] at hp1
        rw [show N - M - b = (N % B + B - M % B - b) + B * k' by omega, Nat.add_mul_mod_self_left]
      · have he : N % B = M % B := by omega
        have hb1 : b = 1 := by omega
        have hk1 : 1 ≤ k := by
          rcases Nat.eq_zero_or_pos k with h0 | h0
          · subst h0; rw [Nat.add_zero] at hk; rw [hk] at q1; omega
          · exact h0
        obtain ⟨k', rfl⟩ : ∃ k', k = k' + 1 := ⟨k - 1, by omega⟩
        have := hp2 (by omega)
        rw [Nat.mul_add, Nat.mul_one] at this
        rw [show N - M - b = (N % B + B - M % B - b) + B * k' by omega, Nat.add_mul_mod_self_left]
  · show (if _ then _ else _) = _
    rw [hmod, hmod']
    have hb : borrow B n m i = if n % B ^ i < m % B ^ i then 1 else 0 := rfl
    rw [hb]
    generalize n % B ^ i = r at *
    generalize m % B ^ i = s at *
    generalize n / B ^ i % B = x at *
    generalize m / B ^ i % B = y at *
    generalize B ^ i = p at *
    rcases Nat.lt_trichotomy x y with hx | hx | hx
    · obtain ⟨k, rfl⟩ : ∃ k, y = x + 1 + k := ⟨y - x - 1, by omega⟩
      rw [if_pos (lt_parts1 r s p x k l1), if_pos (by omega)]
    · subst hx
      by_cases hrs : r < s
      · rw [if_pos (by omega), if_pos hrs, if_pos (by omega)]
      · rw [if_neg (by omega), if_neg hrs, if_neg (by omega)]
    · obtain ⟨k, rfl⟩ : ∃ k, x = y + 1 + k := ⟨x - y - 1, by omega⟩
      rw [if_neg (lt_parts2 r s p y k l2), if_neg (by split <;> omega)]

/-- how many of the first n there are without the noughts at their end -/
def stripN (l : List Nat) : Nat → Nat
  | 0 => 0
  | n + 1 => if l[n]?.getD 0 = 0 then stripN l n else n + 1
theorem stripN_le (l : List Nat) : ∀ n, stripN l n ≤ n
  | 0 => Nat.le_refl _
  | n + 1 => by unfold stripN; have := stripN_le l n; split <;> omega
theorem stripN_zero (l : List Nat) : ∀ n i, stripN l n ≤ i → i < n → l[i]?.getD 0 = 0
  | 0, i, _, h => by omega
  | n + 1, i, h1, h2 => by
    unfold stripN at h1
    split at h1
    · rename_i h
      by_cases hi : i = n
      · subst hi; exact h
      · exact stripN_zero l n i h1 (by omega)
    · omega
theorem stripN_last (l : List Nat) : ∀ n, stripN l n = 0 ∨ l[stripN l n - 1]?.getD 0 ≠ 0
  | 0 => .inl rfl
  | n + 1 => by
    unfold stripN
    split
    · exact stripN_last l n
    · rename_i h; right; simpa using h
/-- the list without the noughts at its end -/
def strip (l : List Nat) : List Nat := l.take (stripN l l.length)
theorem strip_dg {B : Nat} (hB : 1 < B) (l : List Nat) (h : ∀ d ∈ l, d < B) : strip l = dg B (val B l) :=
  dg_strip hB l h _ (stripN_le l _) (fun i hi => by
    by_cases hl : i < l.length
    · exact stripN_zero l _ i hi hl
    · rw [List.getElem?_eq_none (by omega)]; rfl) (stripN_last l _)
theorem strip_len (l : List Nat) : (strip l).length = stripN l l.length := by
  have := stripN_le l l.length
  simp [strip]; omega
theorem stripN_dg {B : Nat} (hB : 1 < B) (n : Nat) : stripN (dg B n) (dg B n).length = (dg B n).length := by
  rw [← strip_len, strip_dg hB _ (fun d hd => dg_lt hB hd), val_dg hB]

def sgn (n : Int) : Int := if n < 0 then -1 else if n = 0 then 0 else 1

theorem digit_0 {B n k : Nat} (h : n < B ^ k) : n / B ^ k % B = 0 := by rw [Nat.div_eq_of_lt h]; rfl
/-- a round of the sum -/
theorem add_round {B : Nat} (hB : 1 < B) (n m k : Nat) : carry B n m (k + 1) = (carry B n m k + n / B ^ k % B + m / B ^ k % B) / B ∧
    fixd B (k + 1) (n + m) = fixd B k (n + m) ++ [(carry B n m k + n / B ^ k % B + m / B ^ k % B) % B] :=
  ⟨carry_succ hB n m k, by rw [fixd_succ, add_digit hB]⟩
theorem add_more {B : Nat} (hB : 1 < B) (n m k : Nat) (h : B ^ k ≤ n ∨ B ^ k ≤ m ∨ 0 < carry B n m k) : B ^ k ≤ n + m := by
  have hp : 0 < B ^ k := Nat.pow_pos (by omega)
  rcases h with h | h | h
  · omega
  · omega
  · have h1 := Nat.mod_le n (B ^ k)
    have h2 := Nat.mod_le m (B ^ k)
    rcases Nat.lt_or_ge (n % B ^ k + m % B ^ k) (B ^ k) with h3 | h3
    · unfold carry at h; rw [Nat.div_eq_of_lt h3] at h; omega
    · omega
theorem add_done {B : Nat} (hB : 1 < B) (n m k : Nat) (h1 : n < B ^ k) (h2 : m < B ^ k) (h3 : carry B n m k = 0) (hp : k = 0 ∨ B ^ (k - 1) ≤ n + m) : fixd B k (n + m) = dg B (n + m) :=
  fixd_dg hB ((carry_end n m k h1 h2).1 h3) hp
theorem add_bound {B : Nat} (hB : 1 < B) (n m k : Nat) (ha : (dg B n).length ≤ k) (hb : (dg B m).length ≤ k) (hc : 0 < carry B n m k) : k ≤ (dg B n).length + (dg B m).length := by
  rcases Nat.lt_or_ge ((dg B n).length + (dg B m).length) k with h | h
  · exfalso
    obtain ⟨j, rfl⟩ : ∃ j, k = j + 1 := ⟨k - 1, by omega⟩
    have h1 := (dg_len_le hB j n).1 (by omega)
    have h2 := (dg_len_le hB j m).1 (by omega)
    have h4 : B ^ j * 2 ≤ B ^ (j + 1) := by rw [Nat.pow_succ]; exact Nat.mul_le_mul_left _ hB
    generalize hq : B ^ (j + 1) = q at h4
    have hcz := (carry_end n m (j + 1) (by rw [hq]; omega) (by rw [hq]; omega)).2 (by rw [hq]; omega)
    omega
  · exact h
/-- a round of the difference -/
theorem sub_round {B : Nat} (hB : 1 < B) (n m k : Nat) (h : m ≤ n) : borrow B n m (k + 1) = (if n / B ^ k % B < m / B ^ k % B + borrow B n m k then 1 else 0) ∧
    fixd B (k + 1) (n - m) = fixd B k (n - m) ++ [(n / B ^ k % B + B - m / B ^ k % B - borrow B n m k) % B] :=
  ⟨(sub_digit hB n m k h).2, by rw [fixd_succ, (sub_digit hB n m k h).1]⟩
theorem strip_fixd {B : Nat} (hB : 1 < B) (i k : Nat) (h : k < B ^ i) : strip (fixd B i k) = dg B k := by
  rw [strip_dg hB _ (fun d hd => fixd_lt hB hd), fixd_val, Nat.mod_eq_of_lt h]

/-! ### products -/

theorem val_set {B : Nat} : ∀ (l : List Nat) (p d : Nat) (h : p < l.length), val B (l.set p d) + l[p] * B ^ p = val B l + d * B ^ p := by
  intro l
  induction l with
  | nil => intro p d h; simp at h
  | cons e l ih =>
    intro p d h
    cases p with
    | zero => simp [val]; omega
    | succ p =>
      have hp : p < l.length := by simpa using h
      have := ih p d hp
      simp only [List.set_cons_succ, val, List.getElem_cons_succ, Nat.pow_succ]
      have e1 : l[p] * (B ^ p * B) = B * (l[p] * B ^ p) := by rw [← Nat.mul_assoc, Nat.mul_comm]
      have e2 : d * (B ^ p * B) = B * (d * B ^ p) := by rw [← Nat.mul_assoc, Nat.mul_comm]
      rw [e1, e2, Nat.add_assoc, ← Nat.mul_add, this, Nat.mul_add]
      omega
theorem val_replicate (B n : Nat) : val B (List.replicate n 0) = 0 := val_zero _ fun _d hd => (List.mem_replicate.1 hd).2
/-- a step within the product with one digit -/
theorem mul_round {B : Nat} (n m x k j c : Nat) (out : List Nat) (hp : k + j < out.length)
    (h : val B out + c * B ^ (k + j) = (n % B ^ k) * m + B ^ k * (x * (m % B ^ j))) :
    val B (out.set (k + j) ((c + out[k + j] + x * (m / B ^ j % B)) % B)) + (c + out[k + j] + x * (m / B ^ j % B)) / B * B ^ (k + (j + 1)) = (n % B ^ k) * m + B ^ k * (x * (m % B ^ (j + 1))) := by
  have hs := val_set (B := B) out (k + j) ((c + out[k + j] + x * (m / B ^ j % B)) % B) hp
  have hd := Nat.mod_add_div (c + out[k + j] + x * (m / B ^ j % B)) B
  rw [mod_pow_succ']
  generalize m / B ^ j % B = y at *
  generalize out[k + j] = o at *
  generalize hq : (c + o + x * y) % B = r at *
  generalize (c + o + x * y) / B = q at *
  have e1 : q * B ^ (k + (j + 1)) = (B * q) * B ^ (k + j) := by rw [← Nat.add_assoc, Nat.pow_succ, Nat.mul_comm (B ^ (k + j)) B, ← Nat.mul_assoc, Nat.mul_comm q B]
  have e2 : B ^ k * (x * (m % B ^ j + B ^ j * y)) = B ^ k * (x * (m % B ^ j)) + (x * y) * B ^ (k + j) := by
    rw [Nat.mul_add, Nat.mul_add, Nat.pow_add]
    congr 1
    rw [Nat.mul_left_comm x, ← Nat.mul_assoc, Nat.mul_comm]
  rw [e1, e2]
  have e3 : r * B ^ (k + j) + B * q * B ^ (k + j) = c * B ^ (k + j) + o * B ^ (k + j) + x * y * B ^ (k + j) := by rw [← Nat.add_mul, hd, Nat.add_mul, Nat.add_mul]
  generalize B ^ (k + j) = P at *
  omega
theorem mul_inside {B : Nat} (hB : 1 < B) (n m k j c na : Nat) (out : List Nat) (hk : k < na) (hna : na = (dg B n).length) (hl : out.length = na + (dg B m).length)
    (h : val B out + c * B ^ (k + j) = (n % B ^ k) * m + B ^ k * (n / B ^ k % B * (m % B ^ j))) (hc : j < (dg B m).length ∨ 0 < c) : k + j < out.length := by
  rcases hc with hc | hc
  · omega
  · have h1 : B ^ (k + j) ≤ c * B ^ (k + j) := Nat.le_mul_of_pos_left _ hc
    have h2 : (n % B ^ k) * m + B ^ k * (n / B ^ k % B * (m % B ^ j)) ≤ (n % B ^ (k + 1)) * m := by
      rw [mod_pow_succ', Nat.add_mul]
      apply Nat.add_le_add_left
      rw [← Nat.mul_assoc]
      exact Nat.mul_le_mul_left _ (Nat.mod_le _ _)
    have hp : 0 < B ^ (k + 1) := Nat.pow_pos (by omega)
    have h3 : (n % B ^ (k + 1)) * m < B ^ (k + 1) * B ^ (dg B m).length := by
      have := Nat.mod_lt n hp
      exact Nat.mul_lt_mul'' this (lt_pow_len hB m)
    rw [← Nat.pow_add] at h3
    have h4 : B ^ (k + j) < B ^ (k + 1 + (dg B m).length) := by omega
    have := (Nat.pow_lt_pow_iff_right hB).1 h4
    omega
theorem mul_row {B : Nat} (n m k j : Nat) (out : List Nat) (hj : m < B ^ j)
    (h : val B out + 0 * B ^ (k + j) = (n % B ^ k) * m + B ^ k * (n / B ^ k % B * (m % B ^ j))) : val B out = (n % B ^ (k + 1)) * m := by
  rw [Nat.zero_mul, Nat.add_zero, Nat.mod_eq_of_lt hj] at h
  rw [h, mod_pow_succ', Nat.add_mul, Nat.mul_assoc]
theorem mul_carry {B : Nat} (c o x y : Nat) (hc : c < B) (ho : o < B) (hx : x < B) (hy : y < B) : (c + o + x * y) / B < B ∧ x * y ≤ (B - 1) * (B - 1) := by
  have h1 : x * y ≤ (B - 1) * (B - 1) := Nat.mul_le_mul (by omega) (by omega)
  refine ⟨?_, h1⟩
  rw [Nat.div_lt_iff_lt_mul (by omega)]
  obtain ⟨b, rfl⟩ : ∃ b, B = b + 1 := ⟨B - 1, by omega⟩
  have : (b + 1) * (b + 1) = b * b + 2 * b + 1 := by rw [Nat.add_mul, Nat.mul_add]; omega
  simp only [Nat.add_sub_cancel] at h1
  omega
theorem set_lt {B : Nat} {l : List Nat} (h : ∀ d ∈ l, d < B) (p d : Nat) (hd : d < B) : ∀ x ∈ l.set p d, x < B := fun x hx => by
  rcases List.mem_or_eq_of_mem_set hx with h' | h'
  · exact h x h'
  · omega

/-! ### how two stand -/
def cmpN (n m : Nat) : Int := if n < m then -1 else if n = m then 0 else 1
theorem cmpN_len {B : Nat} (hB : 1 < B) (n m : Nat) (h : (dg B n).length ≠ (dg B m).length) : cmpN n m = sgn ((dg B n).length - (dg B m).length) := by
  rcases Nat.lt_or_ge (dg B n).length (dg B m).length with hl | hl
  · have h1 := lt_pow_len hB n
    have h2 := (dg_len_lt hB (dg B n).length m).1 hl
    unfold cmpN sgn
    rw [if_pos (by omega), if_pos (by omega)]
  · have h1 := lt_pow_len hB m
    have h2 := (dg_len_lt hB (dg B m).length n).1 (by omega)
    unfold cmpN sgn
    rw [if_neg (by omega), if_neg (by omega), if_neg (by omega), if_neg (by omega)]
theorem val_top {B : Nat} (_hB : 1 < B) : ∀ (a b : List Nat) (k : Nat), a.length = b.length → k < a.length → (∀ d ∈ a, d < B) → (∀ d ∈ b, d < B) → (∀ i, k < i → a[i]?.getD 0 = b[i]?.getD 0) → a[k]?.getD 0 < b[k]?.getD 0 → val B a < val B b := by
  intro a
  induction a with
  | nil => intro b k _ h; simp at h
  | cons x a ih =>
    intro b k hl hk ha hb he hlt
    cases b with
    | nil => simp at hl
    | cons y b =>
      simp only [val]
      have hx := ha x (by simp)
      have hy := hb y (by simp)
      cases k with
      | zero =>
        have hab : a = b := by
          apply List.ext_getElem?
          intro i
          have := he (i + 1) (by omega)
          simp only [List.getElem?_cons_succ] at this
          by_cases hi : i < a.length
          · have hi' : i < b.length := by simp at hl; omega
            rw [List.getElem?_eq_getElem hi, List.getElem?_eq_getElem hi'] at this ⊢
            simpa using this
          · rw [List.getElem?_eq_none (by omega), List.getElem?_eq_none (by simp at hl; omega)]
        subst hab
        simp at hlt
        omega
      | succ k =>
        have := ih b k (by simpa using hl) (by simpa using hk) (fun d hd => ha d (by simp [hd])) (fun d hd => hb d (by simp [hd])) (fun i hi => by have := he (i + 1) (by omega); simpa using this) (by simpa using hlt)
        have h2 : B * (val B a + 1) ≤ B * val B b := Nat.mul_le_mul_left _ this
        rw [Nat.mul_add] at h2; omega
theorem cmpN_top {B : Nat} (hB : 1 < B) (n m k : Nat) (hl : (dg B n).length = (dg B m).length) (hk : k < (dg B n).length) (he : ∀ i, k < i → i < (dg B n).length → (dg B n)[i]?.getD 0 = (dg B m)[i]?.getD 0)
    (hne : (dg B n)[k]?.getD 0 ≠ (dg B m)[k]?.getD 0) : cmpN n m = sgn (((dg B n)[k]?.getD 0 : Nat) - ((dg B m)[k]?.getD 0 : Nat) : Int) := by
  have he' : ∀ i, k < i → (dg B n)[i]?.getD 0 = (dg B m)[i]?.getD 0 := fun i hi => by
    by_cases h : i < (dg B n).length
    · exact he i hi h
    · rw [List.getElem?_eq_none (by omega), List.getElem?_eq_none (by omega)]
  have la : ∀ d ∈ dg B n, d < B := fun d hd => dg_lt hB hd
  have lb : ∀ d ∈ dg B m, d < B := fun d hd => dg_lt hB hd
  rcases Nat.lt_or_ge ((dg B n)[k]?.getD 0) ((dg B m)[k]?.getD 0) with h | h
  · have := val_top hB _ _ k hl hk la lb he' h
    rw [val_dg hB, val_dg hB] at this
    unfold cmpN sgn; rw [if_pos this, if_pos (by omega)]
  · have := val_top hB _ _ k hl.symm (by omega) lb la (fun i hi => (he' i hi).symm) (by omega)
    rw [val_dg hB, val_dg hB] at this
    unfold cmpN sgn; rw [if_neg (by omega), if_neg (by omega), if_neg (by omega), if_neg (by omega)]
theorem cmpN_eq {B : Nat} (hB : 1 < B) (n m : Nat) (hl : (dg B n).length = (dg B m).length) (he : ∀ i, i < (dg B n).length → (dg B n)[i]?.getD 0 = (dg B m)[i]?.getD 0) : cmpN n m = 0 := by
  have : dg B n = dg B m := by
    apply List.ext_getElem?
    intro i
    by_cases hi : i < (dg B n).length
    · have := he i hi
      rw [List.getElem?_eq_getElem hi, List.getElem?_eq_getElem (by omega)] at this ⊢
      simpa using this
    · rw [List.getElem?_eq_none (by omega), List.getElem?_eq_none (by omega)]
  have := dg_inj hB this
  unfold cmpN; rw [if_neg (by omega), if_pos this]
theorem dg_one {B : Nat} (hB : 1 < B) {t : Nat} (h0 : 0 < t) (h : t < B) : dg B t = [t] := by
  rw [dg_pos hB h0, Nat.mod_eq_of_lt h, Nat.div_eq_of_lt h]; rfl
theorem dg_len_mul {B : Nat} (hB : 1 < B) (n m : Nat) : (dg B (n * m)).length ≤ (dg B n).length + (dg B m).length := by
  rw [dg_len_le hB, Nat.pow_add]
  have h1 := lt_pow_len hB n
  have h2 := lt_pow_len hB m
  exact Nat.mul_lt_mul'' h1 h2
theorem dg_len_mono {B : Nat} (hB : 1 < B) {n m : Nat} (h : n ≤ m) : (dg B n).length ≤ (dg B m).length := by
  rw [dg_len_le hB]; exact Nat.lt_of_le_of_lt h (lt_pow_len hB m)
theorem dg_len_add {B : Nat} (hB : 1 < B) (n m : Nat) : (dg B (n + m)).length ≤ (dg B n).length + (dg B m).length + 1 := by
  rw [dg_len_le hB, Nat.pow_succ, Nat.pow_add]
  have h1 := lt_pow_len hB n
  have h2 := lt_pow_len hB m
  have p1 : 0 < B ^ (dg B n).length := Nat.pow_pos (by omega)
  have p2 : 0 < B ^ (dg B m).length := Nat.pow_pos (by omega)
  generalize B ^ (dg B n).length = x at *
  generalize B ^ (dg B m).length = y at *
  have h3 : x + y ≤ x * y * 2 := by
    have a1 : x ≤ x * y := Nat.le_mul_of_pos_right _ p2
    have a2 : y ≤ x * y := Nat.le_mul_of_pos_left _ p1
    omega
  have h4 : x * y * 2 ≤ x * y * B := Nat.mul_le_mul_left _ hB
  omega
theorem dg_len_small {B : Nat} (hB : 1 < B) {t : Nat} (h : t < B) : (dg B t).length ≤ 1 := by rw [dg_len_le hB]; simpa using h
theorem cmpN_le (n m : Nat) : (cmpN n m ≤ 0) ↔ n ≤ m := by unfold cmpN; (repeat' split) <;> omega
theorem cmpN_lt (n m : Nat) : (cmpN n m < 0) ↔ n < m := by unfold cmpN; (repeat' split) <;> omega
theorem cmpN_ge (n m : Nat) : (0 ≤ cmpN n m) ↔ m ≤ n := by unfold cmpN; (repeat' split) <;> omega
/-- a number between: the quotient -/
theorem quot_of {n m q : Nat} (h1 : q * m ≤ n) (h2 : n < (q + 1) * m) : q = n / m := by
  have hm : 0 < m := by
    rcases Nat.eq_zero_or_pos m with h | h
    · subst h; simp at h2
    · exact h
  have a1 := (Nat.le_div_iff_mul_le hm).2 h1
  have a2 := (Nat.div_lt_iff_lt_mul hm).2 h2
  omega

/-! ### quotients, digit by digit -/

def dvStep (B n m : Nat) (s : List Nat × Nat) (i : Nat) : List Nat × Nat :=
  if n / B ^ i % B + B * s.2 < m then (s.1, n / B ^ i % B + B * s.2) else (s.1.set i ((n / B ^ i % B + B * s.2) / m), (n / B ^ i % B + B * s.2) % m)
def dvS (B n m L : Nat) (pre : List Nat) : List Nat × Nat := pre.foldl (dvStep B n m) (List.replicate L 0, 0)
theorem dvS_nil (B n m L : Nat) : dvS B n m L [] = (List.replicate L 0, 0) := rfl
theorem dvS_snoc (B n m L : Nat) (pre : List Nat) (i : Nat) : dvS B n m L (pre ++ [i]) = dvStep B n m (dvS B n m L pre) i := by simp [dvS]
theorem dvStep_len (B n m : Nat) (s : List Nat × Nat) (i : Nat) : (dvStep B n m s i).1.length = s.1.length := by unfold dvStep; split <;> simp
theorem dvStep_lt {m : Nat} (hm : 0 < m) (B n : Nat) (s : List Nat × Nat) (i : Nat) : (dvStep B n m s i).2 < m := by
  unfold dvStep; split
  · assumption
  · exact Nat.mod_lt _ hm
theorem dvS_len (B n m L : Nat) : ∀ pre : List Nat, (dvS B n m L pre).1.length = L := by
  intro pre
  unfold dvS
  suffices h : ∀ s : List Nat × Nat, s.1.length = L → (pre.foldl (dvStep B n m) s).1.length = L from h _ (by simp)
  induction pre with
  | nil => intro s h; exact h
  | cons i pre ih => intro s h; exact ih _ (by rw [dvStep_len]; exact h)
theorem dvS_lt {m : Nat} (hm : 0 < m) (B n L : Nat) : ∀ pre : List Nat, (dvS B n m L pre).2 < m := by
  intro pre
  unfold dvS
  suffices h : ∀ s : List Nat × Nat, s.2 < m → (pre.foldl (dvStep B n m) s).2 < m from h _ hm
  induction pre with
  | nil => intro s h; exact h
  | cons i pre ih => intro s h; exact ih _ (dvStep_lt hm B n s i)

/-- the quotient's digits from place L - k on -/
def dvQ (B n m L k : Nat) : List Nat := (List.range L).map fun j => if L - k ≤ j then n / m / B ^ j % B else 0
theorem dv_digit {B : Nat} (hB : 1 < B) (N m : Nat) (hm : 0 < m) : N % m = (N % B + B * (N / B % m)) % m ∧ N / m % B = (N % B + B * (N / B % m)) / m ∧ (N % B + B * (N / B % m)) / m < B := by
  have h1 := Nat.mod_add_div N B
  have h2 := Nat.mod_add_div (N / B) m
  have e : N = (N % B + B * (N / B % m)) + m * (B * (N / B / m)) := by
    conv => lhs; rw [← h1, ← h2]
    rw [Nat.mul_add, Nat.mul_left_comm B m]; omega
  have hlt : (N % B + B * (N / B % m)) / m < B := by
    rw [Nat.div_lt_iff_lt_mul hm]
    have a1 := Nat.mod_lt N (show 0 < B by omega)
    have a2 := Nat.mod_lt (N / B) hm
    have a3 : B * (N / B % m + 1) ≤ B * m := Nat.mul_le_mul_left _ a2
    rw [Nat.mul_add] at a3
    omega
  generalize hT : N % B + B * (N / B % m) = T at *
  generalize N / B / m = q at *
  refine ⟨?_, ?_, hlt⟩
  · rw [e, Nat.add_mul_mod_self_left]
  · rw [e, Nat.add_mul_div_left _ _ hm, Nat.add_mul_mod_self_left, Nat.mod_eq_of_lt hlt]
theorem dvS_down {B : Nat} (hB : 1 < B) (n m L : Nat) (hm : 0 < m) (hn : n < B ^ L) : ∀ k, k ≤ L → dvS B n m L ((List.range k).map fun j => L - 1 - j) = (dvQ B n m L k, n / B ^ (L - k) % m) := by
  intro k
  induction k with
  | zero =>
    intro _
    simp only [List.range_zero, List.map_nil, dvS_nil, Nat.sub_zero, Prod.mk.injEq]
    refine ⟨?_, by rw [Nat.div_eq_of_lt hn]; simp⟩
    apply List.ext_getElem
    · simp [dvQ]
    · intro i h1 h2
      simp [dvQ] at h2 ⊢
      omega
  | succ k ih =>
    intro hk
    rw [List.range_succ, List.map_append, List.map_cons, List.map_nil, dvS_snoc, ih (by omega)]
    obtain ⟨i, hi⟩ : ∃ i, i = L - 1 - k := ⟨_, rfl⟩
    have h1 : L - k = i + 1 := by omega
    have h2 : L - (k + 1) = i := by omega
    rw [← hi, h1, h2]
    have hd := dv_digit hB (n / B ^ i) m hm
    have e1 : n / B ^ i / B = n / B ^ (i + 1) := by rw [Nat.div_div_eq_div_mul, Nat.pow_succ]
    have e2 : n / B ^ i / m = n / m / B ^ i := by rw [Nat.div_div_eq_div_mul, Nat.div_div_eq_div_mul, Nat.mul_comm]
    rw [e1, e2] at hd
    obtain ⟨a1, a2, a3⟩ := hd
    unfold dvStep
    simp only []
    generalize hT : n / B ^ i % B + B * (n / B ^ (i + 1) % m) = T at *
    have hq : ∀ v, v = n / m / B ^ i % B → (dvQ B n m L k).set i v = dvQ B n m L (k + 1) := by
      intro v hv
      apply List.ext_getElem
      · simp [dvQ]
      · intro j j1 j2
        simp only [dvQ, List.getElem_set, List.getElem_map, List.getElem_range]
        split
        · rename_i hij; subst hij; rw [if_pos (by omega)]; exact hv
        · rw [h1, h2]
          by_cases hj : i + 1 ≤ j
          · rw [if_pos hj, if_pos (by omega)]
          · rw [if_neg hj, if_neg (by omega)]
    split
    · rename_i hlt
      rw [Nat.div_eq_of_lt hlt] at a2
      rw [a1, Nat.mod_eq_of_lt hlt]
      congr 1
      rw [← hq 0 a2.symm]
      apply List.ext_getElem
      · simp
      · intro j j1 j2
        rw [List.getElem_set]
        split
        · rename_i hij; subst hij
          simp only [dvQ, List.getElem_map, List.getElem_range]
          rw [if_neg (by omega)]
        · rfl
    · rw [hq _ a2.symm, a1]
theorem dvQ_all (B n m L : Nat) : dvQ B n m L L = fixd B L (n / m) := by simp [dvQ, fixd]
end Go.Proofs.Ytmlnpagkabmmpaa

/- What the functions of whole on rows of digits compute. -/
namespace Go.Proofs.Ytmlnpagkabmmpaa
open Go.RowKit

/-- numbers of a kind as cells -/
def ks (k : IntKind) (l : List Nat) : List Value := l.map fun d : Nat => .int k (d : Int)
theorem ks_len (k : IntKind) (l : List Nat) : (ks k l).length = l.length := by simp [ks]
theorem ks_get {k : IntKind} {l : List Nat} {i : Nat} (h : i < l.length) : (ks k l)[i]? = some (.int k (l[i] : Int)) := by simp [ks, h]
theorem ks_append (k : IntKind) (a b : List Nat) : ks k (a ++ b) = ks k a ++ ks k b := by simp [ks]
theorem ks_take (k : IntKind) (a : List Nat) (n : Nat) : (ks k a).take n = ks k (a.take n) := by simp [ks]
theorem Rd.num {w : World} {a : Option Addr} {k : IntKind} {l : List Nat} (h : Rd w a (ks k l)) {i : Nat} (hi : i < l.length) :
    ∃ b off, a = some ⟨b, off, none⟩ ∧ w.cell? ⟨b, off + i, none⟩ = some (.int k (l[i] : Int)) := h.get (ks_get hi)

theorem ret_int {k : IntKind} {a b : Int} (h : a = b) : Ending.returned (.int k a) = .returned (.int k b) := by rw [h]
theorem ret_slice {a : Option Addr} {n m n' m' : Nat} (h : n = n') (h' : m = m') : Ending.returned (.slice a n m) = .returned (.slice a n' m') := by rw [h, h']
def BB : Nat := 1000000000
theorem BB_eq : BB = 1000000000 := rfl
theorem BB_gt : 1 < BB := by decide

theorem elemU32 : Elem Try.prog 132 133 (.int .u32 0) 1 4 := Elem.mk Try.underlying132 (by kernel_rfl) rfl (by decide)

theorem sgn_walk (n : Int) (w : World) (h1 : -9223372036854775808 ≤ n) (h2 : n ≤ 9223372036854775807) :
    Calls Try.prog 158 #[.int .i64 n] w fun e w' => e = .returned (.int .i64 (sgn n)) ∧ w = w' := by
  have H : Hid (sgn n = if n < -1 then -1 else if 1 < n then 1 else n) := by
    unfold Hid sgn
    (repeat' split) <;> omega
  go_enter Try.func158, Try.ntmps158
  go_wp2
  all_goals
    go_ret
    refine ⟨ret_int ?_, rfl⟩
    have h := H.out
    rw [h]
    (repeat' split) <;> omega

set_option maxRecDepth 100000 in
set_option maxHeartbeats 400000 in
theorem trim_walk (a : Option Addr) (cap : Nat) (l : List Nat) (ln : Nat) (w : World) (hln : l.length = ln) (hc : ln ≤ cap) (hm : cap ≤ maxLen) (hr : Rd w a (ks .u32 l)) :
    Calls Try.prog 160 #[.slice a ln cap] w fun e w' => e = .returned (.slice a (stripN l l.length) (stripN l l.length)) ∧ w = w' := by
  subst hln
  unfold maxLen at hm
  go_enter Try.func160, Try.ntmps160
  go_wp2
  go_loop [3] (fun i => ∃ k : Nat, k ≤ l.length ∧ i = .int .i64 k ∧ stripN l l.length = stripN l k) (fun i => (intOf i).toNat)
  case atStart => exact ⟨l.length, Nat.le_refl _, rfl, rfl⟩
  case round =>
    obtain ⟨k, hk, rfl, hs⟩ := hrel
    have HS := Lib.hid hs
    clear hs
    cases k with
    | zero =>
      go_wp2
      go_ret
      exact ⟨ret_slice HS.out.symm HS.out.symm, rfl⟩
    | succ k =>
      obtain ⟨b, off, rfl, hcell⟩ := hr.num (i := k) (by omega)
      have HK : Hid (stripN l (k + 1) = if l[k] = 0 then stripN l k else k + 1) := by
        show stripN l (k + 1) = _
        conv => lhs; unfold stripN
        rw [List.getElem?_eq_getElem (by omega)]; rfl
      by_cases hz : l[k] = 0
      · rw [hz] at hcell
        rw [if_pos hz] at HK
        go_wp2
        go_round
        case rel => exact ⟨k, by omega, by go_num, by rw [HS.out, HK.out]⟩
        case measure => simp [intOf]
      · have hz' : (((l[k] : Nat) : Int) == 0) = false := by simp; omega
        rw [if_neg hz] at HK
        go_wp2
        go_ret
        exact ⟨ret_slice (by rw [HS.out, HK.out]) (by rw [HS.out, HK.out]), rfl⟩

/-- the result is a slice that reads as the numbers l, and nothing that there was has turned -/
def Got (W : World) (k : IntKind) (l : List Nat) (e : Ending) (w' : World) : Prop :=
  ∃ a cap, e = .returned (.slice a l.length cap) ∧ l.length ≤ cap ∧ cap ≤ maxLen ∧ Rd w' a (ks k l) ∧ Ext W w' ∧ From W.heap.size a

/-- what a call that makes a row of numbers leaves -/
def Made (W : World) (E : TypeId) (k : IntKind) (l : List Nat) (e : Ending) (w' : World) : Prop :=
  ∃ v, e = .returned v ∧ w'.ownsRow W.heap.size E 1 v l.length (ks k l) ∧ Ext W w'

theorem Made.got {W : World} {E : TypeId} {k : IntKind} {l : List Nat} {e : Ending} {w' : World} (h : Made W E k l e w') : Got W k l e w' := by
  obtain ⟨v, rfl, own, ext⟩ := h
  obtain ⟨a, cap, rfl, h1, h2, h3⟩ := own_form own
  exact ⟨a, cap, rfl, h1, h2, h3, ext, own_from own⟩

theorem fdig (n i : Nat) (h : i < (dg BB n).length) : (dg BB n)[i] = n / BB ^ i % BB := dg_at BB_gt h

set_option maxRecDepth 100000 in
set_option maxHeartbeats 1000000 in
theorem add_walk (a b : Option Addr) (ca cb n m : Nat) (w : World) (hla : (dg BB n).length ≤ 1000000) (hlb : (dg BB m).length ≤ 1000000) (ha : Rd w a (ks .u32 (dg BB n))) (hb : Rd w b (ks .u32 (dg BB m))) :
    Calls Try.prog 108 #[.slice a (dg BB n).length ca, .slice b (dg BB m).length cb] w (Made w 133 .u32 (dg BB (n + m))) := by
  have LA : ∀ i, i < (dg BB n).length ↔ BB ^ i ≤ n := fun i => dg_len_lt BB_gt i n
  have LB : ∀ i, i < (dg BB m).length ↔ BB ^ i ≤ m := fun i => dg_len_lt BB_gt i m
  generalize hna : (dg BB n).length = na at *
  generalize hnb : (dg BB m).length = nb at *
  have HNA := Lib.hid hna
  have HNB := Lib.hid hnb
  have HLA := Lib.hid LA
  have HLB := Lib.hid LB
  clear hna hnb LA LB
  go_enter Try.func108, Try.ntmps108
  go_wp2
  go_loopw [4, 5, 6] (fun out c i wr => ∃ k : Nat, k ≤ na + nb + 1 ∧ i = .int .i64 k ∧ c = .int .u32 (carry BB n m k) ∧ wr.ownsRow w.heap.size 133 1 out k (ks .u32 (fixd BB k (n + m))) ∧ Ext w wr ∧ Hid (k = 0 ∨ BB ^ (k - 1) ≤ n + m))
    (fun _ _ i _ => na + nb + 2 - (intOf i).toNat)
  case atStart => exact ⟨0, by omega, rfl, by simp [carry_zero], World.ownsRow_nil _ _ _ _, Ext.refl _, .inl rfl⟩
  case round =>
    obtain ⟨k, hk, rfl, rfl, hown, hext, HP⟩ := hrel
    have HR := Lib.hid (add_round BB_gt n m k)
    have HM := Lib.hid (add_more BB_gt n m k)
    have HD := Lib.hid (add_done BB_gt n m k)
    have HBD := Lib.hid (add_bound BB_gt n m k)
    rw [HNA.out, HNB.out] at HBD
    have hc1 := carry_lt BB_gt n m k
    have hc0 : carry BB n m k = 0 ∨ carry BB n m k = 1 := by omega
    have HN : Hid (¬ k < na → n / BB ^ k % BB = 0) := fun h => digit_0 (by have := not_congr (HLA.out k); omega)
    have HM2 : Hid (¬ k < nb → m / BB ^ k % BB = 0) := fun h => digit_0 (by have := not_congr (HLB.out k); omega)
    have hxa : k < na → ∃ ba oa, a = some ⟨ba, oa, none⟩ ∧ wr.cell? ⟨ba, oa + k, none⟩ = some (.int .u32 ((n / BB ^ k % BB : Nat) : Int)) := fun h => by
      obtain ⟨ba, oa, e, hca⟩ := (ha.ext hext).num (i := k) (by rw [HNA.out]; exact h)
      rw [fdig] at hca
      exact ⟨ba, oa, e, hca⟩
    have hxb : k < nb → ∃ bb ob, b = some ⟨bb, ob, none⟩ ∧ wr.cell? ⟨bb, ob + k, none⟩ = some (.int .u32 ((m / BB ^ k % BB : Nat) : Int)) := fun h => by
      obtain ⟨ba, oa, e, hca⟩ := (hb.ext hext).num (i := k) (by rw [HNB.out]; exact h)
      rw [fdig] at hca
      exact ⟨ba, oa, e, hca⟩
    have d1 : n / BB ^ k % BB < 1000000000 := Nat.mod_lt _ (by decide)
    have d2 : m / BB ^ k % BB < 1000000000 := Nat.mod_lt _ (by decide)
    have HA2 := (HLA.out k)
    have HB2 := (HLB.out k)
    generalize n / BB ^ k % BB = x at *
    generalize m / BB ^ k % BB = y at *
    generalize hcc : carry BB n m k = c at *
    have HCC := Lib.hid hcc
    have HA3 := Lib.hid HA2
    have HB3 := Lib.hid HB2
    clear hcc hc0 HA2 HB2
    have close : ∀ (v' : Value) (w1 : World) (t : Nat), (k < na ∨ k < nb ∨ 0 < c) → t = c + x + y → w1.ownsRow w.heap.size 133 1 v' (k + 1) (ks .u32 (fixd BB k (n + m)) ++ [.int .u32 ((t % 1000000000 : Nat) : Int)]) → Ext w w1 →
        ∃ k' : Nat, k' ≤ na + nb + 1 ∧ Value.int .i64 ((k : Int) + 1) = .int .i64 k' ∧ Value.int .u32 ((t / 1000000000 : Nat) : Int) = .int .u32 (carry BB n m k') ∧ w1.ownsRow w.heap.size 133 1 v' k' (ks .u32 (fixd BB k' (n + m))) ∧ Ext w w1 ∧ Hid (k' = 0 ∨ BB ^ (k' - 1) ≤ n + m) := by
      intro v' w1 t ht e own1 ext1
      have hr := HR.out
      refine ⟨k + 1, ?_, by go_num, ?_, ?_, ext1, .inr ?_⟩
      · rcases ht with h | h | h
        · omega
        · omega
        · by_cases h1 : k < na
          · omega
          · by_cases h2 : k < nb
            · omega
            · have := HBD.out (by omega) (by omega) h; omega
      · rw [hr.1, e]; rfl
      · rw [hr.2, ks_append, e.symm]; exact own1
      · have := HM.out (by have := HA3.out; have := HB3.out; omega)
        simpa using this
    have Hclose := Lib.hid close
    clear close
    by_cases h1 : k < na <;> by_cases h2 : k < nb
    · obtain ⟨ba, oa, rfl, hca⟩ := hxa h1
      obtain ⟨bb, ob, rfl, hcb⟩ := hxb h2
      clear hxa hxb
      go_wp2_with (at_builtin; refine append_elem elemU32 hown hext (by unfold maxLen; omega) (by omega) rfl (by simp [Value.oneCell']) rfl _ _ rfl rfl rfl ?_; intro v' w1 own1 ext1 _)
      go_roundw
      case rel => exact Hclose.out _ _ (c + x + y) (.inl h1) rfl own1 ext1
      case measure => simp [intOf]; omega
    · obtain ⟨ba, oa, rfl, hca⟩ := hxa h1
      have hy := HM2.out h2
      clear hxa hxb
      subst hy
      go_wp2_with (at_builtin; refine append_elem elemU32 hown hext (by unfold maxLen; omega) (by omega) rfl (by simp [Value.oneCell']) rfl _ _ rfl rfl rfl ?_; intro v' w1 own1 ext1 _)
      go_roundw
      case rel => exact Hclose.out _ _ (c + x) (.inl h1) rfl own1 ext1
      case measure => simp [intOf]; omega
    · obtain ⟨bb, ob, rfl, hcb⟩ := hxb h2
      have hy := HN.out h1
      clear hxa hxb
      subst hy
      go_wp2_with (at_builtin; refine append_elem elemU32 hown hext (by unfold maxLen; omega) (by omega) rfl (by simp [Value.oneCell']) rfl _ _ rfl rfl rfl ?_; intro v' w1 own1 ext1 _)
      go_roundw
      case rel => exact Hclose.out _ _ (c + y) (.inr (.inl h2)) (by omega) own1 ext1
      case measure => simp [intOf]; omega
    · have hx := HN.out h1
      have hy := HM2.out h2
      clear hxa hxb
      subst hx hy
      by_cases h3 : 0 < c
      · go_wp2_with (at_builtin; refine append_elem elemU32 hown hext (by unfold maxLen; omega) (by omega) rfl (by simp [Value.oneCell']) rfl _ _ rfl rfl rfl ?_; intro v' w1 own1 ext1 _)
        go_roundw
        case rel => exact Hclose.out _ _ c (.inr (.inr h3)) (by omega) own1 ext1
        case measure => simp [intOf]; omega
      · go_wp2
        go_ret
        have hk0 : fixd BB k (n + m) = dg BB (n + m) := HD.out (by have := HA3.out; omega) (by have := HB3.out; omega) (by omega) HP
        rw [hk0] at hown
        have hl : k = (dg BB (n + m)).length := by rw [← hk0, fixd_len]
        rw [hl] at hown
        exact ⟨_, rfl, hown, hext⟩

set_option maxRecDepth 100000 in
set_option maxHeartbeats 1000000 in
theorem sub_walk (a b : Option Addr) (ca cb n m : Nat) (w : World) (hnm : m ≤ n) (hla : (dg BB n).length ≤ 1000000) (_hlb : (dg BB m).length ≤ 1000000) (ha : Rd w a (ks .u32 (dg BB n))) (hb : Rd w b (ks .u32 (dg BB m))) :
    Calls Try.prog 110 #[.slice a (dg BB n).length ca, .slice b (dg BB m).length cb] w (Got w .u32 (dg BB (n - m))) := by
  have LB : ∀ i, i < (dg BB m).length ↔ BB ^ i ≤ m := fun i => dg_len_lt BB_gt i m
  have HE : Hid (strip (fixd BB (dg BB n).length (n - m)) = dg BB (n - m)) := strip_fixd BB_gt _ _ (by have := lt_pow_len BB_gt n; omega)
  generalize hna : (dg BB n).length = na at *
  generalize hnb : (dg BB m).length = nb at *
  have HNA := Lib.hid hna
  have HNB := Lib.hid hnb
  have HLB := Lib.hid LB
  clear hna hnb LB
  go_enter Try.func110, Try.ntmps110
  go_wp2
  go_loopw [4, 5, 11] (fun out c i wr => ∃ k : Nat, k ≤ na ∧ i = .int .i64 k ∧ c = .int .i64 (borrow BB n m k) ∧ wr.ownsRow w.heap.size 133 1 out k (ks .u32 (fixd BB k (n - m))) ∧ Ext w wr)
    (fun _ _ i _ => na - (intOf i).toNat)
  case atStart => exact ⟨0, by omega, rfl, by simp [borrow_zero], World.ownsRow_nil _ _ _ _, Ext.refl _⟩
  case round =>
    obtain ⟨k, hk, rfl, rfl, hown, hext⟩ := hrel
    by_cases h1 : k < na
    · have HR := Lib.hid (sub_round BB_gt n m k hnm)
      have hc1 := borrow_le BB n m k
      obtain ⟨ba, oa, rfl, hca⟩ := (ha.ext hext).num (i := k) (by rw [HNA.out]; exact h1)
      rw [fdig] at hca
      have HN : Hid (¬ k < nb → m / BB ^ k % BB = 0) := fun h => digit_0 (by have := not_congr (HLB.out k); omega)
      have hxb : k < nb → ∃ bb ob, b = some ⟨bb, ob, none⟩ ∧ wr.cell? ⟨bb, ob + k, none⟩ = some (.int .u32 ((m / BB ^ k % BB : Nat) : Int)) := fun h => by
        obtain ⟨ba, oa, e, hca⟩ := (hb.ext hext).num (i := k) (by rw [HNB.out]; exact h)
        rw [fdig] at hca
        exact ⟨ba, oa, e, hca⟩
      have d1 : n / BB ^ k % BB < 1000000000 := Nat.mod_lt _ (by decide)
      have d2 : m / BB ^ k % BB < 1000000000 := Nat.mod_lt _ (by decide)
      generalize n / BB ^ k % BB = x at *
      generalize m / BB ^ k % BB = y at *
      generalize borrow BB n m k = c at *
      have close : ∀ (v' : Value) (w1 : World) (t : Int) (c' : Int), (x < y + c → t = x - c - y + 1000000000 ∧ c' = 1) → (¬ x < y + c → t = x - c - y ∧ c' = 0) → w1.ownsRow w.heap.size 133 1 v' (k + 1) (ks .u32 (fixd BB k (n - m)) ++ [.int .u32 t]) → Ext w w1 →
          ∃ k' : Nat, k' ≤ na ∧ Value.int .i64 ((k : Int) + 1) = .int .i64 k' ∧ Value.int .i64 c' = .int .i64 (borrow BB n m k') ∧ w1.ownsRow w.heap.size 133 1 v' k' (ks .u32 (fixd BB k' (n - m))) ∧ Ext w w1 := by
        intro v' w1 t c' e1 e2 own1 ext1
        have hr := HR.out
        refine ⟨k + 1, h1, by go_num, ?_, ?_, ext1⟩
        · rw [hr.1]
          by_cases hlt : x < y + c
          · rw [if_pos hlt, (e1 hlt).2]; rfl
          · rw [if_neg hlt, (e2 hlt).2]; rfl
        · rw [hr.2, ks_append]
          have : (((x + BB - y - c) % BB : Nat) : Int) = t := by
            rw [BB_eq]
            by_cases hlt : x < y + c
            · rw [(e1 hlt).1, Nat.mod_eq_of_lt (by omega)]; omega
            · rw [(e2 hlt).1, show x + 1000000000 - y - c = (x - y - c) + 1000000000 by omega, Nat.add_mod_right, Nat.mod_eq_of_lt (by omega)]; omega
          rw [show ks .u32 [(x + BB - y - c) % BB] = [.int .u32 t] by simp only [ks, List.map_cons, List.map_nil, this]]
          exact own1
      have Hclose := Lib.hid close
      clear close HR
      by_cases h2 : k < nb
      · obtain ⟨bb, ob, rfl, hcb⟩ := hxb h2
        clear hxb
        by_cases hlt : x < y + c
        all_goals
          go_wp2_with (at_builtin; refine append_elem elemU32 hown hext (by unfold maxLen; omega) (by omega) rfl (by simp [Value.oneCell']) rfl _ _ rfl rfl rfl ?_; intro v' w1 own1 ext1 _)
          go_roundw
          case rel => exact Hclose.out _ _ _ _ (fun _ => ⟨by omega, by omega⟩) (fun _ => ⟨by omega, by omega⟩) own1 ext1
          case measure => simp [intOf]; omega
      · have hy := HN.out h2
        clear hxb
        subst hy
        by_cases hlt : x < 0 + c
        all_goals
          go_wp2_with (at_builtin; refine append_elem elemU32 hown hext (by unfold maxLen; omega) (by omega) rfl (by simp [Value.oneCell']) rfl _ _ rfl rfl rfl ?_; intro v' w1 own1 ext1 _)
          go_roundw
          case rel => exact Hclose.out _ _ _ _ (fun _ => ⟨by omega, by omega⟩) (fun _ => ⟨by omega, by omega⟩) own1 ext1
          case measure => simp [intOf]; omega
    · obtain rfl : k = na := by omega
      obtain ⟨a', c', rfl, f1, f2, f3⟩ := own_form hown
      go_wp2_with (go_at_call 160; refine (trim_walk _ _ (fixd BB k (n - m)) _ _ (fixd_len _ _ _) f1 f2 f3).mono ?_; rintro e w' ⟨rfl, rfl⟩)
      go_ret
      have h5 : stripN (fixd BB k (n - m)) (fixd BB k (n - m)).length = (dg BB (n - m)).length := by rw [← strip_len, HE.out]
      have h6 := f3.take (stripN (fixd BB k (n - m)) (fixd BB k (n - m)).length)
      rw [ks_take] at h6
      have h7 : (fixd BB k (n - m)).take (stripN (fixd BB k (n - m)) (fixd BB k (n - m)).length) = dg BB (n - m) := HE.out
      rw [h7] at h6
      refine ⟨a', (dg BB (n - m)).length, ret_slice h5 h5, Nat.le_refl _, ?_, h6, hext, own_from hown⟩
      have := stripN_le (fixd BB k (n - m)) (fixd BB k (n - m)).length
      rw [h5, fixd_len] at this
      omega

end Go.Proofs.Ytmlnpagkabmmpaa

/- slices.Backward over a row of uint32 at one type: the index and the digit, the last one first. -/
namespace Go.Proofs.Ytmlnpagkabmmpaa
open Go.RowKit Go.Shelf

attribute [local go_sem] Oper.semAt_some

/-- the last k indexes of n, the greatest one first -/
def down (n k : Nat) : List (Fin n) := ((List.finRange n).take k).map Fin.rev
theorem down_zero (n : Nat) : down n 0 = [] := by simp [down]
theorem down_len (n k : Nat) (h : k ≤ n) : (down n k).length = k := by simp [down]; omega
theorem down_succ (n k : Nat) (h : k < n) : down n (k + 1) = down n k ++ [⟨n - 1 - k, by omega⟩] := by
  unfold down
  rw [List.take_succ_eq_append_getElem (by simpa using h), List.map_append]
  simp only [List.getElem_finRange, List.map_cons, List.map_nil]
  congr 2
  apply Fin.ext
  simp [Fin.rev]
  omega
/-- what a round keeps: what lay below n₀, and block B -/
def KpB (n₀ B : Nat) (W W' : World) : Prop := Below n₀ W W' ∧ W'.heap[B]? = W.heap[B]?
theorem KpB.refl (n₀ B : Nat) (W : World) : KpB n₀ B W W := ⟨Below.refl _ _, rfl⟩
theorem kpB_t {n₀ B : Nat} {a b c : World} (h : KpB n₀ B a b) (k : KpB n₀ B b c) : KpB n₀ B a c := ⟨h.1.trans k.1, k.2.trans h.2⟩
theorem kpB_b {n₀ B : Nat} {w : World} (hn : n₀ ≤ w.heap.size) (hB : B < w.heap.size) (W : World) (l : Nat) (o o' : Obj) (hl : w.heap.size ≤ l) (h : W.heap[l]? = some o) (h1 : o.isCells = false) (h2 : o.isWalk = false) : KpB n₀ B W (W.putObj l o') :=
  ⟨belowK_b hn W l o o' hl h h1 h2, World.putObj_heap_other (by omega)⟩
theorem KpB.set {n₀ B : Nat} {W W' : World} (h : KpB n₀ B W W') {p : Addr} (hp : n₀ ≤ p.block) (hB : p.block ≠ B) (u : Value) : KpB n₀ B W (W'.setCell p u) :=
  ⟨h.1.setCell hp u, (Below.heap_setCell W' p u B (by omega)).trans h.2⟩
/-- the arguments of yield at an index -/
def bkEnc (l : List Nat) (i : Fin l.length) : Array Value := #[.int .i64 (i.1 : Int), .int .u32 (l[i.1] : Int)]

set_option maxRecDepth 100000 in
set_option maxHeartbeats 2000000 in
theorem backA_clo (F : Fence) (n : Nat) (h8 : F.fn 186) (hro : F.round = none) (hn : 1 ≤ n) (lp Bs cap : Nat) (a : Option Addr) (l : List Nat) (hl : l.length ≤ 1000000) (w0 : World) (hr : Rd w0 a (ks .u32 l)) (J Jx : List (Fin l.length) → World → Prop)
    (hY : ∀ pre x W, J pre W → pre.length < l.length → YieldAt F (n - 1) Try.prog lp (bkEnc l x) W fun e W' =>
      (e = .returned (.bool true) ∧ J (pre ++ [x]) W' ∧ KpB w0.heap.size Bs W W') ∨ (e = .returned (.bool false) ∧ Jx (pre ++ [x]) W'))
    (W : World) (hext : Ext w0 W) (hBs : W.cell? ⟨Bs, 0, none⟩ = some (.slice a l.length cap)) (h0 : J [] W) :
    CallsIn F n Try.prog 186 #[.func (.yield lp) #[] #[], .pointer (some ⟨Bs, 0, none⟩)] W fun e W' => (∃ v, e = .returned v) ∧
      ((∃ ys, ys = down l.length l.length ∧ J ys W') ∨ (∃ pre, (∃ k, k ≤ l.length ∧ pre = down l.length k) ∧ Jx pre W')) := by
  refine callsIn_of_wp Try.func186 rfl h8 ?_ hro
  simp only [Try.ntmps186, List.size_toArray, List.length_cons, List.length_nil, Nat.reduceAdd, Nat.reduceSub, Array.replicate_succ, Array.replicate_zero, List.push_toArray, List.append_toArray, List.nil_append, List.cons_append]
  gi_wp2
  gi_loopw [3] (fun i wr => ∃ k : Nat, k ≤ l.length ∧ i = .int .i64 ((l.length : Int) - 1 - k) ∧ J (down l.length k) wr ∧ KpB w0.heap.size Bs W wr)
    (fun i _ => (intOf i + 1).toNat)
  case atStart => exact ⟨0, Nat.zero_le _, by simp, by rw [down_zero]; exact h0, KpB.refl _ _ _⟩
  case round =>
    obtain ⟨k, hk, rfl, hJs, hnx⟩ := hrel
    have hBs' : wr.cell? ⟨Bs, 0, none⟩ = some (.slice a l.length cap) := (World.cell?_of_block (a := ⟨Bs, 0, none⟩) hnx.2).trans hBs
    by_cases hlt : k < l.length
    · obtain ⟨b, off, rfl, hc0⟩ := hr.num (i := l.length - 1 - k) (by omega)
      have hb0 : b < w0.heap.size := World.block_lt_of_cell? w0 _ hc0
      have hcx : wr.cell? ⟨b, off + (l.length - 1 - k), none⟩ = some (.int .u32 (l[l.length - 1 - k] : Int)) := (hnx.1.cell (p := ⟨b, off + (l.length - 1 - k), none⟩) hb0).trans (hext.cell hc0)
      obtain ⟨fn, tmps, assign, body, hy, hR⟩ := hY _ ⟨l.length - 1 - k, by omega⟩ wr hJs (by rw [down_len _ _ hk]; exact hlt)
      unfold bkEnc at hy
      dsimp only at hy
      have ei : ((l.length - 1 - k : Nat) : Int) = (l.length : Int) - 1 - k := by omega
      rw [ei] at hy
      have HEI := Lib.hid ei
      clear ei
      gi_wp2
      refine hR.mono ?_
      rintro e W3 (⟨rfl, hJ3, hk3⟩ | ⟨rfl, hJx3⟩)
      · gi_wp2
        go_roundw
        case rel => exact ⟨k + 1, by omega, by go_num, by rw [down_succ _ _ hlt]; exact hJ3, kpB_t hnx hk3⟩
        case measure => simp [intOf]; omega
      · gi_wp2
        refine bodyPost_ret (results_none rfl _ _ _) rfl ?_
        exact ⟨⟨_, rfl⟩, .inr ⟨_, ⟨k + 1, by omega, (down_succ _ _ hlt).symm⟩, hJx3⟩⟩
    · obtain rfl : k = l.length := by omega
      gi_wp2
      go_end0
      exact ⟨⟨_, rfl⟩, .inl ⟨_, rfl, hJs⟩⟩

set_option maxHeartbeats 1000000 in
theorem backA_in (F : Fence) (n : Nat) (h5 : F.fn 159) (hro : F.round = none) (a : Option Addr) (len cap : Nat) (w : World) :
    CallsIn F n Try.prog 159 #[.slice a len cap] w fun e w' => e = .returned (.func (.func 186) #[] #[.pointer (some ⟨w.heap.size, 0, none⟩)]) ∧ w' = w.alloc (.cells #[.slice a len cap] 132) := by
  refine callsIn_of_wp Try.func159 rfl h5 ?_ hro
  simp only [Try.ntmps159, List.size_toArray, List.length_cons, List.length_nil, Nat.reduceAdd, Nat.reduceSub, Array.replicate_succ, Array.replicate_zero, List.push_toArray, List.append_toArray, List.nil_append, List.cons_append]
  gi_wp2
  go_ret
  exact ⟨rfl, rfl⟩

theorem backA_stops (F : Fence) (n : Nat) (h8 : F.fn 186) (hro : F.round = none) (hn : 1 ≤ n) (Bs cap : Nat) (a : Option Addr) (l : List Nat) (hl : l.length ≤ 1000000) (w0 w : World) (hr : Rd w0 a (ks .u32 l)) (hext : Ext w0 w) (hlt : Bs < w.heap.size)
    (hc : w.cell? ⟨Bs, 0, none⟩ = some (.slice a l.length cap)) :
    SeqStopsK F n Try.prog 186 #[.pointer (some ⟨Bs, 0, none⟩)] (bkEnc l) (KpB w0.heap.size Bs) (fun ys => ys = down l.length l.length) (fun pre => ∃ k, k ≤ l.length ∧ pre = down l.length k) l.length w := fun lp J Jx W hW _ _ hY h0 =>
  backA_clo F n h8 hro hn lp Bs cap a l hl w0 hr J Jx hY W (hext.trans hW) ((hW.cell (p := ⟨Bs, 0, none⟩) hlt).trans hc) h0
end Go.Proofs.Ytmlnpagkabmmpaa

/- slices.Backward over a row of uint32 at one type: the index and the digit, the last one first. -/
namespace Go.Proofs.Ytmlnpagkabmmpaa
open Go.RowKit Go.Shelf

attribute [local go_sem] Oper.semAt_some

end Go.Proofs.Ytmlnpagkabmmpaa

/- The laws of Base on make and append, inside a fence; what an iterator's steps keep. -/
namespace Go.Proofs.Ytmlnpagkabmmpaa
open Go.RowKit Go.Shelf

theorem make_one_in {F : Fence} {N : Nat} {P : Program} {T E : TypeId} {z : Value} {bytes : Nat} (he : Elem P T E z 1 bytes) (hz1 : z.cells = #[z]) {w : World} {n : Nat}
    {ops : Array Oper} {rest : List Oper} {o : Oper} {a : Act} {Q : Exit → Act → World → Prop} (hg : o.guard = none) (l c : Operand) (hop : o.op = Op.makeSlice T l c)
    {kl kc : IntKind} {L C : Int} (hl : a.eval l = .int kl L) (hc : a.eval c = .int kc C) (hL : L = (n : Int)) (hC : C = (n : Int)) (hb : bytes * n ≤ 281474976710656) (hm : n ≤ maxLen)
    (h : ∀ w1, Row w1 w.heap.size E (List.replicate n z) → Ext w w1 → w1.heap.size = w.heap.size + 1 → wpListIn F N P ops Q rest (a.put o.dst (.slice (some ⟨w.heap.size, 0, none⟩) n n)) w1) : wpListIn F N P ops Q (o :: rest) a w := by
  obtain ⟨ht, i, hi, hz, hsz, hby, _, _⟩ := he
  refine wpListIn_plain hg fun K hK => ?_
  have h63 : (n : Int) ≤ 9223372036854775807 := by have := hm; simp [maxLen] at this; omega
  have hb' : (i.bytes : Int) * (n : Int) ≤ 281474976710656 := by
    have h : ((i.bytes * n : Nat) : Int) ≤ 281474976710656 := by rw [hby]; omega
    rwa [Int.natCast_mul] at h
  have hr := run_make (P := P) w T E i z ht hi hz kl kc n n (by omega) (by omega) hb' h63
  simp only [Int.toNat_natCast, hsz, Nat.mul_one] at hr
  have hmc : madeCells z.cells n = (List.replicate n z).toArray := by
    rw [hz1]; apply Array.toList_inj.1; rw [toList_madeCells_one]
  rw [hmc] at hr
  subst hL hC
  unfold Oper.wpIn
  have h' := h _ (Row.new w E _) (Ext.new w _) (by simp)
  refine ⟨?_, ?_⟩
  · simp [Oper.about, hop]
  · rw [Oper.semAt_plain F _ _ (by rw [hop]; intro c hc'; cases hc')]
    simp [execOp, hop, hl, hc, hr, Result.andThen]
    exact hK _ _ (by simpa using h')

theorem append_row_in {F : Fence} {N : Nat} {P : Program} {T E : TypeId} {z : Value} {size bytes : Nat} (he : Elem P T E z size bytes) {w : World} {base : Nat} {v : Value} {n : Nat} {xs : List Value}
    (own : w.ownsRow base E size v n xs) (hbase : base ≤ w.heap.size) {A : Option Addr} {m c : Nat} {ys : List Value} (hl : ys.length = m * size) (hr : Rd w A ys)
    (hn : n + m ≤ maxLen) (hb : (n + m) * bytes ≤ 140737488355328) (h1 : ∀ u ∈ ys, u.oneCell' = true)
    {ops : Array Oper} {rest : List Oper} {o : Oper} {a : Act} {Q : Exit → Act → World → Prop} (hgd : o.guard = none) (s x : Operand)
    (ho : o.op = .call { callee := .builtin .append, args := #[s, x], argTypes := #[T, T] }) (hs : a.eval s = v) (hx : a.eval x = .slice A m c)
    (h : ∀ v' w', w'.ownsRow base E size v' (n + m) (xs ++ ys) → w.grownBy w' v.ownBlock → wpListIn F N P ops Q rest (a.put o.dst v') w') : wpListIn F N P ops Q (o :: rest) a w := by
  obtain ⟨ht, i, hi, hz, hsz, hby, hzs, hpos⟩ := he
  have hcells : ∀ ad, A = some ad → ∀ j u, ys[j]? = some u → w.cell? (ad.add j) = some u := by
    intro ad hA j u hu
    obtain ⟨b, off, e, hc⟩ := hr.get hu
    rw [hA] at e
    injection e with e
    subst e
    rw [add_plain]; exact hc
  rcases A with _ | ad
  · have hy : ys = [] := by
      rcases hr with h0 | ⟨b, off, e, _⟩
      · exact h0
      · cases e
    subst hy
    have hm : m = 0 := by
      rcases Nat.eq_zero_or_pos m with h0 | h0
      · exact h0
      · have := Nat.mul_pos h0 hpos; simp at hl; omega
    subst hm
    refine wpListIn_plain hgd fun K hK => ?_
    have hrun := run_append_noth (P := P) w base T o.type E i size ht hi v n xs own c
    unfold Oper.wpIn
    refine ⟨?_, ?_⟩
    · simp [Oper.about, ho, resolve, Target.leads, Sem.run_pure]
    · rw [Oper.semAt_plain F _ _ (by rw [ho]; intro c hc'; cases hc')]
      simp [execOp, ho, resolve, invoke, builtin, hs, hx, hrun, Result.andThen]
      exact hK _ _ (h v w (by simpa using own) (World.grownBy.refl w _))
  · refine wpListIn_append_own _ hgd s x T ho base E i z size bytes ht hi hz hsz hby hzs hpos v n xs hs own ad m c ys hx hl (hcells ad rfl) h1 hn hb hbase ?_
    intro v' w' own' hg _
    exact h v' w' own' hg

/-- what is read stays through an iterator's step -/
theorem Rd.iter {A B : World} {row : Option Nat} {a : Option Addr} {xs : List Value} (h : Rd A a xs) (hg : A.grownBy B row) (hr : ∀ r, row = some r → ∃ o : Obj, A.heap[r]? = some o ∧ o.isCells = false) : Rd B a xs := by
  rcases h with rfl | ⟨b, off, ea, hc⟩
  · exact .inl rfl
  · exact .inr ⟨b, off, ea, fun j u hu => cell_kept (hc j u hu) hg hr⟩
theorem Row.iter {A B : World} {row : Option Nat} {g : Nat} {E : TypeId} {xs : List Value} (h : Row A g E xs) (hg : A.grownBy B row) (hr : ∀ r, row = some r → ∃ o : Obj, A.heap[r]? = some o ∧ o.isCells = false) : Row B g E xs := by
  refine (hg.block g h.lt ?_).trans h
  intro e
  obtain ⟨o, ho, hc⟩ := hr g e.symm
  unfold Row at h
  rw [ho] at h
  injection h with h
  subst h
  simp [Obj.isCells] at hc
end Go.Proofs.Ytmlnpagkabmmpaa

/- How two rows of digits stand. -/
namespace Go.Proofs.Ytmlnpagkabmmpaa
open Go.RowKit Go.Shelf

attribute [local go_sem] Oper.semAt_some

set_option maxRecDepth 100000 in
set_option maxHeartbeats 2000000 in
theorem cmp_walk (a b : Option Addr) (ca cb n m : Nat) (w : World) (hla : (dg BB n).length ≤ 1000000) (hlb : (dg BB m).length ≤ 1000000) (ha : Rd w a (ks .u32 (dg BB n))) (hb : Rd w b (ks .u32 (dg BB m))) :
    Calls Try.prog 109 #[.slice a (dg BB n).length ca, .slice b (dg BB m).length cb] w fun e w' => e = .returned (.int .i64 (cmpN n m)) ∧ Ext w w' := by
  by_cases hne : (dg BB n).length = (dg BB m).length
  · have HT := fun k h1 h2 h3 => cmpN_top BB_gt n m k hne h1 h2 h3
    have HE := cmpN_eq BB_gt n m hne
    have d1 : ∀ i (h : i < (dg BB n).length), (dg BB n)[i] < 1000000000 := fun i h => dg_lt BB_gt (List.getElem_mem h)
    have d2 : ∀ i (h : i < (dg BB m).length), (dg BB m)[i] < 1000000000 := fun i h => dg_lt BB_gt (List.getElem_mem h)
    generalize dg BB n = l at *
    generalize dg BB m = l2 at *
    generalize hcm : cmpN n m = r at *
    clear hcm
    have hne' : ((l.length : Int) != (l2.length : Int)) = false := by simp; omega
    have HNE := Lib.hid hne
    have HHT := Lib.hid HT
    have HHE := Lib.hid HE
    clear hne HT HE
    refine (callsIn_wide (n := 3)).1 ?_
    refine callsIn_of_wp_marks Try.func109 rfl trivial ?_ rfl
    simp only [Try.ntmps109, List.size_toArray, List.length_cons, List.length_nil, Nat.reduceAdd, Nat.reduceSub, Array.replicate_succ, Array.replicate_zero, List.push_toArray, List.append_toArray, List.nil_append, List.cons_append]
    gi_wp2_with (refine ⟨trivial, ?_⟩; gi_at_call 159; refine (backA_in Fence.wide 2 trivial rfl _ _ _ _).mono ?_; rintro e w' ⟨rfl, rfl⟩)
    have bY := Boxed.new w 132 (.slice b l2.length cb)
    have bR := Boxed.new (w.alloc (.cells #[.slice b l2.length cb] 132)) 3 (.int .i64 0)
    have bN := Boxed.new ((w.alloc (.cells #[.slice b l2.length cb] 132)).alloc (.cells #[.int .i64 0] 3)) 132 (.slice a l.length ca)
    simp only [World.size_alloc] at bR bN
    have hB0 : Ext w (((w.alloc (.cells #[.slice b l2.length cb] 132)).alloc (.cells #[.int .i64 0] 3)).alloc (.cells #[.slice a l.length ca] 132)) := ((Ext.new _ _).alloc _).alloc _
    refine wpIn_rangeFunc_ownG (n := 3) rfl (by omega) (gf := 186) (lb := #[.pointer (some ⟨w.heap.size + 1 + 1, 0, none⟩)]) rfl trivial (enters_of Try.func186 (by kernel_rfl) rfl)
      (backA_stops Fence.wide 2 trivial rfl (by omega) (w.heap.size + 1 + 1) ca a l hla w _ ha hB0 (by simp) bN.cell) kpB_t (kpB_b (by simp; omega) (by simp)) (Below.refl _ _) (fun _ => rfl)
      (fun pre W => ((∀ i ∈ pre, l[i.1]?.getD 0 = l2[i.1]?.getD 0) ∧ W.cell? ⟨w.heap.size, 0, none⟩ = some (.slice b l2.length cb) ∧ W.cell? ⟨w.heap.size + 1, 0, none⟩ = some (.int .i64 0) ∧ W.frozen? ⟨w.heap.size + 1, 0, none⟩ = false) ∧ Below w.heap.size w W)
      (fun c pre W => (c = .ret ∧ ∃ ini, ∃ k : Fin l.length, pre = ini ++ [k] ∧ (∀ i ∈ ini, l[i.1]?.getD 0 = l2[i.1]?.getD 0) ∧ l[k.1]?.getD 0 ≠ l2[k.1]?.getD 0 ∧ W.cell? ⟨w.heap.size + 1, 0, none⟩ = some (.int .i64 (sgn ((l[k.1]?.getD 0 : Nat) - (l2[k.1]?.getD 0 : Nat) : Int)))) ∧ Below w.heap.size w W)
      (OwnFrom.and (Own.from (fun s A B row hs hg hr => ⟨hs.1, cell_kept hs.2.1 hg hr, cell_kept hs.2.2.1 hg hr, (frozen_kept hs.2.2.1 hg hr).trans hs.2.2.2⟩) _) (ownFrom_below (Nat.le_refl _) (by simp; omega)))
      (fun c => OwnFrom.and (Own.from (fun s A B row hs hg hr => by obtain ⟨hc, ini, last, e1, e2, e3, e4⟩ := hs; exact ⟨hc, ini, last, e1, e2, e3, cell_kept e4 hg hr⟩) _) (ownFrom_below (Nat.le_refl _) (by simp; omega)))
      ⟨⟨by simp, ((bY.alloc _).alloc _).cell, (bR.alloc _).cell, (bR.alloc _).frozen⟩, hB0⟩
      (fun i => { tmps := #[.slice a l.length ca, .slice b l2.length cb, undef, .pointer (some ⟨w.heap.size, 0, none⟩), .pointer (some ⟨w.heap.size + 1, 0, none⟩), .int .i64 (i.1 : Int), .int .u32 (l[i.1] : Int), .slice a l.length ca, .int .i64 (l.length : Int), .slice b l2.length cb, .int .i64 (l2.length : Int), .bool false, undef, undef, undef, undef, undef, undef, .slice a l.length ca, .func (.func 186) #[] #[.pointer (some ⟨w.heap.size + 1 + 1, 0, none⟩)], .int .i64 (i.1 : Int), .int .u32 (l[i.1] : Int), undef, undef, undef, undef, undef, undef, undef, undef, undef, undef, undef, undef, undef, undef, undef], defers := [] }) ?assign ?body ?done ?stop
    case assign =>
      intro lp x W K hK
      dsimp only [bkEnc]
      gi_wp2
      exact hK
    case body =>
      rintro lp pre x W ⟨⟨hp, hcy, hcr, hfr⟩, hB⟩ _
      obtain ⟨k, hk⟩ := x
      obtain ⟨b0, ob, rfl, hcb⟩ := hb.num (i := k) (by rw [← HNE.out]; exact hk)
      have hb0 : b0 < w.heap.size := World.block_lt_of_cell? w _ hcb
      have hcb' : W.cell? ⟨b0, ob + k, none⟩ = some (.int .u32 (l2[k]'(by rw [← HNE.out]; exact hk) : Int)) := (hB.cell (p := ⟨b0, ob + k, none⟩) hb0).trans hcb
      have hkk : k < l2.length := by rw [← HNE.out]; exact hk
      have b1 := d1 k hk
      have b2 := d2 k hkk
      have hx1 : Hid (l[k]?.getD 0 = l[k]) := by show _ = _; rw [List.getElem?_eq_getElem hk]; rfl
      have hx2 : Hid (l2[k]?.getD 0 = l2[k]) := by show _ = _; rw [List.getElem?_eq_getElem hkk]; rfl
      generalize l[k] = x at *
      generalize l2[k] = y at *
      have hpp := Lib.hid hp
      clear hcb d1 d2 hp
      by_cases hxy : x = y
      · subst hxy
        gi_wp2
        exact ⟨KeepsFrom.refl _ _, KpB.refl _ _ _, ⟨fun i hi => (List.mem_append.1 hi).elim (hpp.out i) (fun e => by simp at e; subst e; exact hx1.out.trans hx2.out.symm), hcy, hcr, hfr⟩, hB⟩
      · have hxy' : ((x : Int) != (y : Int)) = true := by simp; omega
        gi_wp2_with fail
        refine ⟨trivial, ?_⟩
        refine (CallsIn.inRound lp (callsIn_wide.2 (sgn_walk _ _ (by omega) (by omega)))).mono ?_
        rintro e w' ⟨rfl, rfl⟩
        gi_wp2
        refine ⟨(KeepsOthers.setCell _ _ _).from _, ⟨rfl, pre, ⟨k, hk⟩, rfl, hpp.out, by rw [hx1.out, hx2.out]; exact hxy, ?_⟩, hB.setCell (p := ⟨w.heap.size + 1, 0, none⟩) (by simp) _⟩
        rw [hx1.out, hx2.out]
        exact World.cell?_setCell_same' _ _ _ (by rw [hcr]; rfl)
    case done =>
      rintro D ys W hD rfl ⟨⟨hne, hcy, hcr, hfr⟩, hB⟩ hK
      have hr0 : r = 0 := HHE.out fun i hi => hne ⟨i, hi⟩ (by
        simp only [down, List.mem_map]
        exact ⟨Fin.rev ⟨i, hi⟩, by rw [List.take_of_length_le (by simp)]; exact List.mem_finRange _, by simp⟩)
      gi_wp2
      have hK' := (KeepsOthers.setCell W ⟨w.heap.size + 1, 0, none⟩ (.int .i64 0)).same D _ hK rfl
      refine ⟨by simp, .inl ⟨_, _, rfl, run_takeDeferred hK', ?_⟩⟩
      have hc5 := cell_kept (World.cell?_setCell_same' W ⟨w.heap.size + 1, 0, none⟩ (.int .i64 0) (by rw [hcr]; rfl)) (grownBy_putObj' _ D (.deferred none)) (fun r e => by cases e; exact ⟨_, hK', rfl⟩)
      refine ⟨.int .i64 0, ?_, by rw [hr0], (hB.setCell (p := ⟨w.heap.size + 1, 0, none⟩) (by simp) _).trans (belowK_b (w := w) (Nat.le_refl _) _ D _ _ (by simp at hD; omega) hK' rfl rfl)⟩
      simp [results, Try.f109, go_sem, hc5]
    case stop =>
      rintro D c pre W hD ⟨k, hk, rfl⟩ ⟨⟨rfl, ini, last, e1, e2, e3, hcr⟩, hB⟩ hK
      obtain ⟨k', rfl⟩ : ∃ k', k = k' + 1 := by
        cases k with
        | zero => simp [down_zero] at e1
        | succ k' => exact ⟨k', rfl⟩
      rw [down_succ _ _ (by omega)] at e1
      obtain ⟨rfl, e5⟩ := List.append_inj' e1 rfl
      obtain rfl : (⟨l.length - 1 - k', by omega⟩ : Fin l.length) = last := by simpa using e5
      have hr0 : r = _ := HHT.out (l.length - 1 - k') (by omega) (fun i hi1 hi2 => e2 ⟨i, hi2⟩ (by
        simp only [down, List.mem_map]
        refine ⟨Fin.rev ⟨i, hi2⟩, ?_, by simp⟩
        rw [List.mem_take_iff_getElem]
        refine ⟨l.length - 1 - i, by simp; omega, ?_⟩
        simp only [List.getElem_finRange]
        apply Fin.ext
        simp [Fin.rev]; omega)) e3
      gi_wp2
      refine ⟨by simp, .inl ⟨_, _, rfl, run_takeDeferred hK, ?_⟩⟩
      have hc5 := cell_kept hcr (grownBy_putObj' _ D (.deferred none)) (fun r e => by cases e; exact ⟨_, hK, rfl⟩)
      refine ⟨.int .i64 _, ?_, rfl, hB.trans (belowK_b (w := w) (Nat.le_refl _) W D _ _ (by simp at hD; omega) hK rfl rfl)⟩
      simp [results, Try.f109, go_sem, hc5]
  · have H := Lib.hid (cmpN_len BB_gt n m hne)
    have hne' : (((dg BB n).length : Int) != ((dg BB m).length : Int)) = true := by simp; omega
    generalize (dg BB n).length = na at *
    generalize (dg BB m).length = nb at *
    clear hne
    go_enter Try.func109, Try.ntmps109
    go_wp2_with (go_at_call 158; refine (sgn_walk _ _ (by omega) (by omega)).mono ?_; rintro e w' ⟨rfl, rfl⟩)
    have hr : (results Try.f109 #[]).run Try.prog w = (results Try.f109 #[]).run Try.prog w := rfl
    refine bodyPost_ret (v := .int .i64 (sgn (na - nb))) (by simp [results, Try.f109, go_sem]) rfl ⟨by rw [H.out], ?_⟩
    exact (Ext.new _ _).alloc _
end Go.Proofs.Ytmlnpagkabmmpaa

/- Products and quotients of rows of digits. -/
namespace Go.Proofs.Ytmlnpagkabmmpaa
open Go.RowKit

theorem ks_set (k : IntKind) (l : List Nat) (i d : Nat) : (ks k l).set i (.int k (d : Int)) = ks k (l.set i d) := by simp [ks, List.map_set]
theorem ks_replicate (k : IntKind) (n : Nat) : List.replicate n (Value.int k 0) = ks k (List.replicate n 0) := by simp [ks]

/-- what the product's row holds -/
def MulRow (w : World) (g L v : Nat) (wr : World) (out : List Nat) : Prop :=
  Row wr g 133 (ks .u32 out) ∧ out.length = L ∧ (∀ d ∈ out, d < BB) ∧ val BB out = v ∧ Ext w wr

set_option maxRecDepth 100000 in
set_option maxHeartbeats 1000000 in
theorem mul_walk (a b : Option Addr) (ca cb n m : Nat) (w : World) (hla : (dg BB n).length ≤ 1000000) (hlb : (dg BB m).length ≤ 1000000) (ha : Rd w a (ks .u32 (dg BB n))) (hb : Rd w b (ks .u32 (dg BB m))) :
    Calls Try.prog 143 #[.slice a (dg BB n).length ca, .slice b (dg BB m).length cb] w (Got w .u32 (dg BB (n * m))) := by
  have LB : ∀ i, (dg BB m).length ≤ i → m < BB ^ i := fun i h => (dg_len_le BB_gt i m).1 h
  have HNN := lt_pow_len BB_gt n
  have HIN : ∀ (k j c : Nat) (out : List Nat), k < (dg BB n).length → out.length = (dg BB n).length + (dg BB m).length → val BB out + c * BB ^ (k + j) = (n % BB ^ k) * m + BB ^ k * (n / BB ^ k % BB * (m % BB ^ j)) → (j < (dg BB m).length ∨ 0 < c) → k + j < out.length :=
    fun k j c out hk hl h hc => mul_inside BB_gt n m k j c _ out hk rfl hl h hc
  generalize hna : (dg BB n).length = na at *
  generalize hnb : (dg BB m).length = nb at *
  have HNA := Lib.hid hna
  have HNB := Lib.hid hnb
  have HLB := Lib.hid LB
  have HN := Lib.hid HNN
  have HI := Lib.hid HIN
  clear hna hnb LB HNN HIN
  go_enter Try.func143, Try.ntmps143
  go_wp2_with (at_make; refine make_one elemU32 rfl rfl _ _ rfl rfl rfl (n := na + nb) (by omega) (by omega) (by omega) (by unfold maxLen; omega) ?_; intro w0 hrow0 hext0)
  rw [ks_replicate] at hrow0
  go_loopw [18] (fun i wr => ∃ k : Nat, k ≤ na ∧ i = .int .i64 k ∧ ∃ out, MulRow w w.heap.size (na + nb) ((n % BB ^ k) * m) wr out)
    (fun i _ => na - (intOf i).toNat)
  case atStart =>
    refine ⟨0, by omega, rfl, List.replicate (na + nb) 0, hrow0, by simp, ?_, ?_, hext0⟩
    · intro d hd; rw [(List.mem_replicate.1 hd).2]; decide
    · rw [val_replicate]; simp [Nat.mod_one]
  case round =>
    obtain ⟨k, hk, rfl, out, hrow, hlen, hlt, hval, hext⟩ := hrel
    clear hrow0 hext0
    obtain ⟨wo, rfl⟩ : ∃ wo : World, wo = wr := ⟨_, rfl⟩
    by_cases h1 : k < na
    · obtain ⟨ba, oa, rfl, hca⟩ := (ha.ext hext).num (i := k) (by rw [HNA.out]; exact h1)
      rw [fdig] at hca
      have d1 : n / BB ^ k % BB < 1000000000 := Nat.mod_lt _ (by decide)
      generalize hx : n / BB ^ k % BB = x at *
      have HV := Lib.hid hval
      have HL := Lib.hid hlen
      clear hval hlen
      have HX := Lib.hid hx
      clear hx
      go_wp2
      go_loopw [8, 9] (fun cv jv wr => ∃ c j : Nat, ∃ o2 : List Nat, cv = .int .u64 c ∧ jv = .int .i64 j ∧ c < 1000000000 ∧ j ≤ na + nb ∧ Row wr w.heap.size 133 (ks .u32 o2) ∧ Hid (o2.length = na + nb) ∧ (∀ d ∈ o2, d < BB) ∧ Hid (val BB o2 + c * BB ^ (k + j) = (n % BB ^ k) * m + BB ^ k * (x * (m % BB ^ j))) ∧ Ext w wr)
        (fun _ jv _ => na + nb + 1 - (intOf jv).toNat)
      case atStart => exact ⟨0, 0, out, rfl, rfl, by omega, by omega, hrow, HL.out, hlt, by show _ = _; rw [HV.out]; simp [Nat.mod_one], hext⟩
      case round =>
        obtain ⟨c, j, o2, rfl, rfl, hc, hj, hrow2, HL2, hlt2, HV2, hext2⟩ := hrel
        clear hrow hlt
        by_cases hmore : j < nb ∨ 0 < c
        · have hin : k + j < o2.length := HI.out k j c o2 h1 HL2.out (by rw [HX.out]; exact HV2.out) hmore
          have hlo : o2[k + j] < 1000000000 := hlt2 _ (List.getElem_mem hin)
          have hcell : wr.cell? ⟨w.heap.size, k + j, none⟩ = some (.int .u32 ((o2[k + j] : Nat) : Int)) := hrow2.cell (ks_get hin)
          have hfz : wr.frozen? ⟨w.heap.size, k + j, none⟩ = false := hrow2.frozen _
          have hyl : m / BB ^ j % BB < 1000000000 := Nat.mod_lt _ (by decide)
          have HMR := Lib.hid (mul_round (B := BB) n m x k j c o2 hin HV2.out)
          have HMC := mul_carry (B := 1000000000) c o2[k + j] x (m / BB ^ j % BB) hc hlo d1 hyl
          have HY0 : Hid (¬ j < nb → m / BB ^ j % BB = 0) := fun h => digit_0 (HLB.out j (by omega))
          have hyc : j < nb → ∃ bb ob, b = some ⟨bb, ob, none⟩ ∧ wr.cell? ⟨bb, ob + j, none⟩ = some (.int .u32 ((m / BB ^ j % BB : Nat) : Int)) := fun h => by
            obtain ⟨ba, oa, e, hca⟩ := (hb.ext hext2).num (i := j) (by rw [HNB.out]; exact h)
            rw [fdig] at hca
            exact ⟨ba, oa, e, hca⟩
          have hkj : k + j < na + nb := by rw [← HL2.out]; exact hin
          generalize m / BB ^ j % BB = y at *
          generalize hoo : o2[k + j] = oo at *
          clear hoo
          have close : ∀ (t : Nat), t = c + oo + x * y → ∃ c' j' : Nat, ∃ o3 : List Nat, Value.int .u64 ((t / 1000000000 : Nat) : Int) = .int .u64 c' ∧ Value.int .i64 ((j : Int) + 1) = .int .i64 j' ∧ c' < 1000000000 ∧ j' ≤ na + nb ∧ Row (wr.setCell ⟨w.heap.size, k + j, none⟩ (.int .u32 ((t % 1000000000 : Nat) : Int))) w.heap.size 133 (ks .u32 o3) ∧ Hid (o3.length = na + nb) ∧ (∀ d ∈ o3, d < BB) ∧ Hid (val BB o3 + c' * BB ^ (k + j') = (n % BB ^ k) * m + BB ^ k * (x * (m % BB ^ j'))) ∧ Ext w (wr.setCell ⟨w.heap.size, k + j, none⟩ (.int .u32 ((t % 1000000000 : Nat) : Int))) := by
            intro t ht
            subst ht
            refine ⟨_, j + 1, o2.set (k + j) ((c + oo + x * y) % BB), rfl, by go_num, HMC.1, by omega, ?_, ?_, ?_, HMR.out, hext2.set (Nat.le_refl _) _⟩
            · rw [← ks_set]; exact hrow2.set _ _
            · show _ = _; rw [List.length_set]; exact HL2.out
            · exact set_lt hlt2 _ _ (Nat.mod_lt _ (by decide))
          have HCL := Lib.hid close
          have hxy : ((x : Int) * y) ≤ 999999998000000001 := by have h3 : x * y ≤ 999999998000000001 := Nat.le_trans HMC.2 (by omega); rw [← Int.natCast_mul]; omega
          have hxy0 : 0 ≤ ((x : Int) * y) := Int.mul_nonneg (by omega) (by omega)
          clear close HMR HMC hlt2
          by_cases h2 : j < nb
          · obtain ⟨bb, ob, rfl, hcb⟩ := hyc h2
            clear hyc hmore hin
            go_wp2
            go_roundw
            case rel =>
              have := HCL.out (c + oo + x * y) rfl
              rw [Int.natCast_ediv, Int.natCast_emod, Int.natCast_add, Int.natCast_add, Int.natCast_mul] at this
              exact this
            case measure => simp [intOf]; omega
          · have hy0 := HY0.out h2
            subst hy0
            have hc1 : 0 < c := by omega
            clear hyc hmore hin
            go_wp2
            go_roundw
            case rel => exact HCL.out (c + oo) (by omega)
            case measure => simp [intOf]; omega
        · have h2 : ¬ j < nb := by omega
          have h3 : ¬ 0 < c := by omega
          obtain rfl : c = 0 := by omega
          have HROW := Lib.hid (mul_row (B := BB) n m k j o2 (HLB.out j (by omega)) (by rw [HX.out]; exact HV2.out))
          clear hmore
          go_wp2
          go_roundw
          case rel => exact ⟨k + 1, h1, by go_num, o2, hrow2, HL2.out, hlt2, HROW.out, hext2⟩
          case measure => simp [intOf]; omega
    · obtain rfl : k = na := by omega
      have hl : (ks .u32 out).length = k + nb := by rw [ks_len, hlen]
      have HV := Lib.hid hval
      have HL := Lib.hid hlen
      clear hval hlen
      go_wp2_with (go_at_call 160; refine (trim_walk _ _ out _ _ HL.out (Nat.le_refl _) (by unfold maxLen; omega) hrow.rd).mono ?_; rintro e w' ⟨rfl, rfl⟩)
      go_ret
      have hv : val BB out = n * m := by rw [HV.out, Nat.mod_eq_of_lt HN.out]
      have h7 : strip out = dg BB (n * m) := by rw [strip_dg BB_gt out hlt, hv]
      have h5 : stripN out out.length = (dg BB (n * m)).length := by rw [← strip_len, h7]
      have h6 := hrow.rd.take (stripN out out.length)
      rw [ks_take] at h6
      have h8 : out.take (stripN out out.length) = dg BB (n * m) := h7
      rw [h8] at h6
      refine ⟨_, (dg BB (n * m)).length, ret_slice h5 h5, Nat.le_refl _, ?_, h6, hext, fun ad e => by cases e; exact Nat.le_refl _⟩
      have := stripN_le out out.length
      rw [h5, HL.out] at this
      unfold maxLen; omega
end Go.Proofs.Ytmlnpagkabmmpaa

/- slices.Clone at one type of slices. -/
namespace Go.Proofs.Ytmlnpagkabmmpaa
open Go.RowKit

theorem elemDg : Elem Try.prog 132 133 (.int .u32 0) 1 4 := Elem.mk Try.underlying132 (by kernel_rfl) rfl (by decide)

set_option maxRecDepth 100000 in
set_option maxHeartbeats 400000 in
theorem cloneDg (a : Option Addr) (n c : Nat) (xs : List Value) (w : World) (hl : xs.length = n * 1) (hn : n ≤ c) (hc : c ≤ maxLen) (hb : n * 4 ≤ 140737488355328) (hr : Rd w a xs) (h1 : ∀ u ∈ xs, u.oneCell' = true) :
    Calls Try.prog 145 #[.slice a n c] w (GotC w n xs) := by
  have H1 := Lib.hid h1
  have HL := Lib.hid hl
  clear h1 hl
  rcases a with _ | ad
  · have hx : xs = [] := by
      rcases hr with h0 | ⟨b, off, e, _⟩
      · exact h0
      · cases e
    have hn0 : n = 0 := by have := HL.out; rw [hx] at this; simp at this; omega
    subst hn0
    have hnil := fun (w : World) (a : Option Addr) (l c : Nat) => Lib.run_eql_slice_nil (P := Try.prog) w (t := 132) (e := 133) a l c 0 0 Try.underlying132
    go_enter Try.func145, Try.ntmps145
    go_wp2
    go_ret
    exact ⟨none, 0, rfl, Nat.le_refl _, by simp [maxLen], by rw [hx]; exact Rd.nil _ _, Ext.refl _, From.none _⟩
  · have hm : n ≤ maxLen := by omega
    have hnil := fun (w : World) (a : Option Addr) (l c : Nat) => Lib.run_eql_slice_nil (P := Try.prog) w (t := 132) (e := 133) a l c 0 0 Try.underlying132
    go_enter Try.func145, Try.ntmps145
    go_wp2_with (at_builtin; refine append_row elemDg (World.ownsRow_made _ _ 0 (Nat.le_refl _) (by simp [maxLen]) rfl) (Ext.new _ _) HL.out (hr.alloc _) (by omega) (by omega) H1.out rfl _ _ rfl rfl rfl ?_; intro v' w1 own1 ext1 _)
    go_ret
    obtain ⟨a', c', rfl, f1, f2, f3⟩ := own_form own1
    have hf := own_from own1
    rw [Nat.zero_add] at *
    exact ⟨a', c', rfl, f1, f2, f3, ext1, hf⟩
end Go.Proofs.Ytmlnpagkabmmpaa

/- A row of digits so many times; how often one is in another; quotients. -/
namespace Go.Proofs.Ytmlnpagkabmmpaa
open Go.RowKit

set_option maxRecDepth 100000 in
set_option maxHeartbeats 400000 in
theorem times_walk (a : Option Addr) (ca n t : Nat) (w : World) (ht : t < 1000000000) (hla : (dg BB n).length ≤ 1000000) (ha : Rd w a (ks .u32 (dg BB n))) :
    Calls Try.prog 183 #[.slice a (dg BB n).length ca, .int .i64 t] w (Got w .u32 (dg BB (n * t))) := by
  rcases Nat.eq_zero_or_pos t with rfl | h0
  · generalize (dg BB n).length = na at *
    go_enter Try.func183, Try.ntmps183
    go_wp2
    go_ret
    exact ⟨none, 0, rfl, Nat.le_refl _, by simp [maxLen], Rd.nil _ _, Ext.refl _, From.none _⟩
  · have h1 : dg BB t = [t] := dg_one BB_gt h0 (by rw [BB_eq]; exact ht)
    have H := Lib.hid (fun (W : World) (b : Option Addr) (cb : Nat) (h2 : Rd W b (ks .u32 (dg BB t))) (h3 : Rd W a (ks .u32 (dg BB n))) => mul_walk a b ca cb n t W hla (by rw [h1]; simp) h3 h2)
    rw [h1] at H
    have h0' : ((t : Int) == 0) = false := by simp; omega
    generalize (dg BB n).length = na at *
    go_enter Try.func183, Try.ntmps183
    go_wp2_with fail
    refine (H.out _ _ _ ?_ (ha.alloc _)).mono ?_
    · exact (Row.new w 133 (ks .u32 [t])).rd
    · rintro e w1 ⟨a', c', rfl, f1, f2, f3, f4, f5⟩
      go_wp2
      go_ret
      exact ⟨a', c', rfl, f1, f2, f3, (Ext.new _ _).trans f4, f5.mono (by simp)⟩

set_option maxRecDepth 100000 in
set_option maxHeartbeats 800000 in
theorem fits_walk (a b : Option Addr) (ca cb n m : Nat) (w : World) (hla : (dg BB n).length ≤ 900000) (hlb : (dg BB m).length ≤ 900000) (ha : Rd w a (ks .u32 (dg BB n))) (hb : Rd w b (ks .u32 (dg BB m)))
    (hq : n < BB * m) :
    Calls Try.prog 182 #[.slice a (dg BB n).length ca, .slice b (dg BB m).length cb] w fun e w' => e = .returned (.int .i64 ((n / m : Nat) : Int)) ∧ Ext w w' := by
  have HT := Lib.hid (fun (W : World) (t : Nat) (ht : t < 1000000000) (hr : Rd W b (ks .u32 (dg BB m))) => times_walk b cb m t W ht (by omega) hr)
  have HC := Lib.hid (fun (W : World) (t : Nat) (d : Option Addr) (cd : Nat) (ht : t < 1000000000) (hr : Rd W d (ks .u32 (dg BB (m * t)))) (hr2 : Rd W a (ks .u32 (dg BB n))) =>
    cmp_walk d a cd ca (m * t) n W (by have := dg_len_mul BB_gt m t; have := dg_len_small BB_gt (show t < BB by rw [BB_eq]; exact ht); omega) (by omega) hr hr2)
  have HQ := Lib.hid hq
  clear hq hla hlb
  generalize (dg BB n).length = na at *
  generalize (dg BB m).length = nb at *
  go_enter Try.func182, Try.ntmps182
  go_wp2
  go_loopw [5, 6] (fun lv hv wr => ∃ lo hi : Nat, lv = .int .i64 lo ∧ hv = .int .i64 hi ∧ lo ≤ hi ∧ hi ≤ 999999999 ∧ Hid (lo * m ≤ n ∧ n < (hi + 1) * m) ∧ Ext w wr)
    (fun lv hv _ => (intOf hv - intOf lv).toNat)
  case atStart => exact ⟨0, 999999999, rfl, rfl, by omega, by omega, by have := HQ.out; unfold BB at this; exact ⟨by omega, by omega⟩, Ext.refl _⟩
  case round =>
    obtain ⟨lo, hi, rfl, rfl, hlh, hhi, HI, hext⟩ := hrel
    by_cases hlt : lo < hi
    · obtain ⟨mid, hmid⟩ : ∃ mid : Nat, mid = (lo + hi + 1) / 2 := ⟨_, rfl⟩
      have hm1 : lo < mid := by omega
      have hm2 : mid ≤ hi := by omega
      have em : ((lo : Int) + hi + 1) / 2 = (mid : Int) := by omega
      have EM := Lib.hid em
      clear em hmid
      go_wp2_with fail
      rw [EM.out]
      refine (HT.out _ mid (by omega) (hb.ext hext)).mono ?_
      rintro e w1 ⟨d, cd, rfl, _, _, hrd, hext1, _⟩
      go_wp2_with fail
      refine (HC.out _ mid d cd (by omega) hrd (ha.ext (hext.trans hext1))).mono ?_
      rintro e w2 ⟨rfl, hext2⟩
      have hext3 := hext.trans (hext1.trans hext2)
      by_cases hc : m * mid ≤ n
      · have hc' : decide (cmpN (m * mid) n ≤ 0) = true := by simp only [decide_eq_true_eq]; exact (cmpN_le _ _).2 hc
        have HCC := Lib.hid hc
        clear hc
        go_wp2
        go_roundw
        case rel => exact ⟨mid, hi, rfl, rfl, hm2, hhi, ⟨by rw [Nat.mul_comm]; exact HCC.out, HI.out.2⟩, hext3⟩
        case measure => simp [intOf]; omega
      · have hc' : decide (cmpN (m * mid) n ≤ 0) = false := by simp only [decide_eq_false_iff_not]; exact fun h => hc ((cmpN_le _ _).1 h)
        have HCC := Lib.hid hc
        clear hc
        go_wp2
        go_roundw
        case rel =>
          refine ⟨lo, mid - 1, rfl, by go_num, by omega, by omega, ⟨HI.out.1, ?_⟩, hext3⟩
          rw [Nat.sub_add_cancel (by omega), Nat.mul_comm]
          have := HCC.out; omega
        case measure => simp [intOf]; omega
    · obtain rfl : lo = hi := by omega
      have hqq := Lib.hid (quot_of HI.out.1 HI.out.2)
      go_wp2
      go_ret
      exact ⟨ret_int (by rw [← hqq.out]), hext⟩
end Go.Proofs.Ytmlnpagkabmmpaa

/- The quotient of two rows of digits, and what is left. -/
namespace Go.Proofs.Ytmlnpagkabmmpaa
open Go.RowKit Go.Shelf

attribute [local go_sem] Oper.semAt_some

/-- the two results of the quotient -/
def GotQR (W : World) (q r : Nat) (e : Ending) (w' : World) : Prop :=
  ∃ a c b d, e = .returned (.tuple #[.slice a (dg BB q).length c, .slice b (dg BB r).length d]) ∧ (dg BB q).length ≤ c ∧ c ≤ maxLen ∧ (dg BB r).length ≤ d ∧ d ≤ maxLen ∧ Rd w' a (ks .u32 (dg BB q)) ∧ Rd w' b (ks .u32 (dg BB r)) ∧ Ext W w'

theorem down_map (n : Nat) : ∀ k, k ≤ n → (down n k).map (fun i => i.1) = (List.range k).map fun j => n - 1 - j := by
  intro k
  induction k with
  | zero => intro _; simp [down_zero]
  | succ k ih => intro h; rw [down_succ _ _ h, List.map_append, ih (by omega), List.range_succ, List.map_append]; simp

/-- what the quotient's own cells hold behind some rounds -/
def DvI (w : World) (b : Option Addr) (nb cb n m L : Nat) (pre : List Nat) (W : World) : Prop :=
  Row W w.heap.size 132 [.slice b nb cb] ∧ Row W (w.heap.size + 1) 132 [.slice (some ⟨w.heap.size + 1 + 1 + 1, 0, none⟩) L L] ∧
  (∃ ar cr, Row W (w.heap.size + 1 + 1) 132 [.slice ar (dg BB (dvS BB n m L pre).2).length cr] ∧ (dg BB (dvS BB n m L pre).2).length ≤ cr ∧ cr ≤ maxLen ∧ Rd W ar (ks .u32 (dg BB (dvS BB n m L pre).2)) ∧ From (w.heap.size + 1 + 1 + 1 + 1 + 1) ar) ∧
  Row W (w.heap.size + 1 + 1 + 1) 133 (ks .u32 (dvS BB n m L pre).1) ∧ w.heap.size + 1 + 1 + 1 + 1 + 1 ≤ W.heap.size
theorem dvI_own {N : Nat} {w : World} {b : Option Addr} {nb cb n m L : Nat} : Own (fun (pre : List (Fin N)) W => DvI w b nb cb n m L (pre.map (·.1)) W) := by
  rintro s A B row ⟨h0, h1, ⟨ar, cr, h2, j1, j2, j3, j4⟩, h3, h5⟩ hg hr
  exact ⟨h0.iter hg hr, h1.iter hg hr, ⟨ar, cr, h2.iter hg hr, j1, j2, j3.iter hg hr, j4⟩, h3.iter hg hr, Nat.le_trans h5 hg.size⟩

/-- what a round of the quotient keeps, as worlds -/
def K3 (b : Nat) (W A : World) : Prop := KeepsFrom (b + 1 + 1 + 1 + 1 + 1) W A ∧ KpB b (b + 1 + 1 + 1 + 1) W A ∧ b + 1 + 1 + 1 + 1 + 1 ≤ A.heap.size
theorem K3.refl {b : Nat} {W : World} (h : b + 1 + 1 + 1 + 1 + 1 ≤ W.heap.size) : K3 b W W := ⟨KeepsFrom.refl _ _, KpB.refl _ _ _, h⟩
theorem K3.ext {b : Nat} {W A C : World} (h : K3 b W A) (e : Ext A C) : K3 b W C := by
  obtain ⟨h1, h2, h3⟩ := h
  refine ⟨h1.trans (KeepsFrom.of_grownBy (row := none) ⟨e.os, e.tape, e.output, e.size, fun k hk _ => e.block k hk⟩ (fun j h => by cases h)), ⟨h2.1.trans (e.mono (by omega)), (e.block _ (by omega)).trans h2.2⟩, Nat.le_trans h3 e.size⟩
theorem K3.set {b : Nat} {W A : World} (h : K3 b W A) {p : Addr} (h1 : b ≤ p.block) (h2 : p.block ≠ b + 1 + 1 + 1 + 1) (u : Value) : K3 b W (A.setCell p u) := by
  obtain ⟨k1, k2, k3⟩ := h
  exact ⟨k1.trans ((KeepsOthers.setCell _ _ _).from _), k2.set h1 h2 u, by simpa [World.setCell] using k3⟩
theorem K3.drew {b : Nat} {W A : World} (h : K3 b W A) : K3 b W A.drew := h.ext (Ext.refl A).drew

set_option maxRecDepth 100000 in
set_option maxHeartbeats 4000000 in
theorem divd_walk (a b : Option Addr) (ca cb n m : Nat) (w : World) (hm : 0 < m) (hla : (dg BB n).length ≤ 100000) (hlb : (dg BB m).length ≤ 100000) (ha : Rd w a (ks .u32 (dg BB n))) (hb : Rd w b (ks .u32 (dg BB m))) :
    Calls Try.prog 144 #[.slice a (dg BB n).length ca, .slice b (dg BB m).length cb] w (GotQR w (n / m) (n % m)) := by
  generalize hl : dg BB n = l at *
  generalize hnb : (dg BB m).length = nb at *
  have HL := Lib.hid hl
  have HNB := Lib.hid hnb
  clear hl hnb
  refine (callsIn_wide (n := 3)).1 ?_
  refine callsIn_of_wp_marks Try.func144 rfl trivial ?_ rfl
  simp only [Try.ntmps144, List.size_toArray, List.length_cons, List.length_nil, Nat.reduceAdd, Nat.reduceSub, Array.replicate_succ, Array.replicate_zero, List.push_toArray, List.append_toArray, List.nil_append, List.cons_append]
  have r0 : Row (((w.alloc (.cells #[.slice b nb cb] 132)).alloc (.cells #[.slice none 0 0] 132)).alloc (.cells #[.slice none 0 0] 132)) w.heap.size 132 [.slice b nb cb] := ((Row.new w _ [_]).alloc _).alloc _
  have r1 : Row (((w.alloc (.cells #[.slice b nb cb] 132)).alloc (.cells #[.slice none 0 0] 132)).alloc (.cells #[.slice none 0 0] 132)) (w.heap.size + 1) 132 [.slice none 0 0] := by
    have := (Row.new (w.alloc (.cells #[.slice b nb cb] 132)) 132 [.slice none 0 0]).alloc (.cells #[.slice none 0 0] 132)
    rwa [World.size_alloc] at this
  have r2 : Row (((w.alloc (.cells #[.slice b nb cb] 132)).alloc (.cells #[.slice none 0 0] 132)).alloc (.cells #[.slice none 0 0] 132)) (w.heap.size + 1 + 1) 132 [.slice none 0 0] := by
    have := Row.new ((w.alloc (.cells #[.slice b nb cb] 132)).alloc (.cells #[.slice none 0 0] 132)) 132 [.slice none 0 0]
    rwa [World.size_alloc, World.size_alloc] at this
  have x3 : Ext w (((w.alloc (.cells #[.slice b nb cb] 132)).alloc (.cells #[.slice none 0 0] 132)).alloc (.cells #[.slice none 0 0] 132)) := ((Ext.new _ _).alloc _).alloc _
  have R0 := Lib.hid r0
  have R1 := Lib.hid r1
  have R2 := Lib.hid r2
  have X3 := Lib.hid x3
  clear r0 r1 r2 x3
  gi_wp2_with (first | (gi_at_make; refine make_one_in elemU32 rfl rfl _ _ rfl rfl rfl (n := l.length) rfl rfl (by omega) (by unfold maxLen; omega) ?_; intro w0 hrow0 hext0 hsz0; have c1 := (R1.out.ext hext0).cell (i := 0) rfl; have f1 := (R1.out.ext hext0).frozen 0) | (refine ⟨trivial, ?_⟩; gi_at_call 159; refine (backA_in Fence.wide 2 trivial rfl _ _ _ _).mono ?_; rintro e w' ⟨rfl, rfl⟩))
  obtain ⟨WL, hWL⟩ : ∃ WL, (w0.setCell ⟨w.heap.size + 1, 0, none⟩ (.slice (some ⟨w.heap.size + 1 + 1 + 1, 0, none⟩) l.length l.length)).alloc (.cells #[.slice a l.length ca] 132) = WL := ⟨_, rfl⟩
  simp only [World.size_alloc] at hrow0 hsz0
  have hsL : WL.heap.size = w.heap.size + 1 + 1 + 1 + 1 + 1 := by rw [← hWL]; simp [World.setCell, hsz0]
  have l0 : Row WL w.heap.size 132 [.slice b nb cb] := by rw [← hWL]; exact ((R0.out.ext hext0).far (p := ⟨w.heap.size + 1, 0, none⟩) (by simp) _).alloc _
  have l1 : Row WL (w.heap.size + 1) 132 [.slice (some ⟨w.heap.size + 1 + 1 + 1, 0, none⟩) l.length l.length] := by rw [← hWL]; exact ((R1.out.ext hext0).set 0 _).alloc _
  have l2 : Row WL (w.heap.size + 1 + 1) 132 [.slice none 0 0] := by rw [← hWL]; exact ((R2.out.ext hext0).far (p := ⟨w.heap.size + 1, 0, none⟩) (by simp) _).alloc _
  have l3 : Row WL (w.heap.size + 1 + 1 + 1) 133 (ks .u32 (List.replicate l.length 0)) := by rw [← hWL, ← ks_replicate]; exact (hrow0.far (p := ⟨w.heap.size + 1, 0, none⟩) (Nat.ne_of_gt (by show w.heap.size + 1 < _; omega)) _).alloc _
  have l4 : Row WL (w.heap.size + 1 + 1 + 1 + 1) 132 [.slice a l.length ca] := by
    rw [← hWL]
    have := Row.new (w0.setCell ⟨w.heap.size + 1, 0, none⟩ (.slice (some ⟨w.heap.size + 1 + 1 + 1, 0, none⟩) l.length l.length)) 132 [.slice a l.length ca]
    rwa [show (w0.setCell ⟨w.heap.size + 1, 0, none⟩ (.slice (some ⟨w.heap.size + 1 + 1 + 1, 0, none⟩) l.length l.length)).heap.size = w.heap.size + 1 + 1 + 1 + 1 by simp [World.setCell, hsz0]] at this
  have xL : Ext w WL := by rw [← hWL]; exact ((X3.out.trans hext0).set (p := ⟨w.heap.size + 1, 0, none⟩) (by simp) _).alloc _
  rw [hWL]
  clear R0 R1 R2 X3 hrow0 hext0 hsz0 c1 f1 hWL
  have HSL := Lib.hid hsL
  refine wpIn_rangeFunc_ownG (n := 3) rfl (by omega) (gf := 186) (lb := #[.pointer (some ⟨w.heap.size + 1 + 1 + 1 + 1, 0, none⟩)]) rfl trivial (enters_of Try.func186 (by kernel_rfl) rfl)
    (backA_stops Fence.wide 2 trivial rfl (by omega) (w.heap.size + 1 + 1 + 1 + 1) ca a l (by omega) w WL ha xL (by omega) (l4.cell (i := 0) rfl)) kpB_t (kpB_b (by omega) (by omega)) (Below.refl _ _) (fun _ => rfl)
    (fun pre W => DvI w b nb cb n m l.length (pre.map (·.1)) W ∧ Below w.heap.size w W)
    (fun _ _ _ => False)
    (OwnFrom.and (Own.from dvI_own _) (ownFrom_below (Nat.le_refl _) (by omega)))
    (fun _ _ _ _ _ hs _ _ => hs)
    ⟨⟨l0, l1, ⟨none, 0, by simpa [dvS, dg_zero] using l2, by simp [dvS, dg_zero], by simp [maxLen], Rd.nil _ _, From.none _⟩, l3, by omega⟩, xL⟩
    (fun i => { tmps := #[.slice a l.length ca, .slice b nb cb, undef, .pointer (some ⟨w.heap.size, 0, none⟩), .pointer (some ⟨w.heap.size + 1, 0, none⟩), .pointer (some ⟨w.heap.size + 1 + 1, 0, none⟩), .int .i64 (i.1 : Int), .int .u32 (l[i.1] : Int), undef, .slice a l.length ca, .int .i64 (l.length : Int), .slice (some ⟨w.heap.size + 1 + 1 + 1, 0, none⟩) l.length l.length, .slice a l.length ca, .func (.func 186) #[] #[.pointer (some ⟨w.heap.size + 1 + 1 + 1 + 1, 0, none⟩)], .int .i64 (i.1 : Int), .int .u32 (l[i.1] : Int), undef, undef, undef, undef, undef, undef, undef, undef, undef, undef, undef, undef, undef, undef, undef, undef, undef, undef, undef, undef, undef, undef, undef, undef, undef], defers := [] }) ?assign ?body ?done ?stop
  case assign =>
    intro lp x W K hK
    dsimp only [bkEnc]
    gi_wp2
    exact hK
  case body =>
    rintro lp pre ⟨k, hk⟩ W ⟨⟨i0, i1, ⟨ar, cr, i2, j1, j2, j3, j4⟩, i3, hsW⟩, hB⟩ _
    have hRm := dvS_lt hm BB n l.length (pre.map (·.1))
    have hQl := dvS_len BB n m l.length (pre.map (·.1))
    have hSS : Hid (dvS BB n m l.length ((pre ++ [(⟨k, hk⟩ : Fin l.length)]).map (fun i => i.1)) = dvStep BB n m (dvS BB n m l.length (pre.map (·.1))) k) := by
      show _ = _; rw [List.map_append]; exact dvS_snoc _ _ _ _ _ _
    have hxk : l[k] = n / BB ^ k % BB := by
      have := HL.out; subst this; exact dg_at BB_gt hk
    unfold dvStep at hSS
    rw [← hxk] at hSS
    have hx : l[k] < 1000000000 := by rw [hxk]; exact Nat.mod_lt _ (by decide)
    clear hxk
    generalize l[k] = x at *
    generalize hR : (dvS BB n m l.length (pre.map (·.1))).2 = R at *
    generalize hQ : (dvS BB n m l.length (pre.map (·.1))).1 = Q at *
    clear hR hQ
    obtain ⟨t, ht⟩ : ∃ t, t = x + BB * R := ⟨_, rfl⟩
    rw [← ht] at hSS
    have hlenR : (dg BB R).length ≤ nb := by rw [← HNB.out]; exact dg_len_mono BB_gt (by omega)
    have hstrip : strip (x :: dg BB R) = dg BB t := by
      rw [strip_dg BB_gt _ (fun d hd => by
        rcases List.mem_cons.1 hd with h | h
        · rw [h]; exact hx
        · exact dg_lt BB_gt h)]
      simp only [val]; rw [val_dg BB_gt, ht]
    have hklen : Hid (stripN (x :: dg BB R) (x :: dg BB R).length = (dg BB t).length) := by show _ = _; rw [← strip_len, hstrip]
    have htm : Hid (t < BB * m) := by
      show _ < _
      have h3 : BB * (R + 1) ≤ BB * m := Nat.mul_le_mul_left _ hRm
      rw [Nat.mul_add] at h3
      have : x < BB := hx
      omega
    have hlent : (dg BB t).length ≤ nb + 1 := by
      rw [dg_len_le BB_gt, Nat.pow_succ, Nat.mul_comm]
      have h7 := lt_pow_len BB_gt m
      rw [HNB.out] at h7
      have h8 : BB * m ≤ BB * BB ^ nb := Nat.mul_le_mul_left _ (by omega)
      have := htm.out
      omega
    have ownD := (Row.new W 133 [.int .u32 (x : Int)]).own (base := W.heap.size) (Nat.le_refl _) (by simp [maxLen])
    have cr0 := i2.cell (i := 0) rfl
    have cr0' : (W.alloc (.cells #[.int .u32 (x : Int)] 133)).cell? ⟨w.heap.size + 1 + 1, 0, none⟩ = some (.slice ar (dg BB R).length cr) := (i2.alloc _).cell (i := 0) rfl
    have HSS := hSS
    have HI2 := Lib.hid i2
    clear hSS ht i2
    gi_wp2_with (gi_at_builtin; refine append_row_in elemU32 ownD (by simp) (by rw [ks_len, Nat.mul_one]) (j3.alloc _) (by unfold maxLen; simp; omega) (by simp; omega) (by simp [ks, Value.oneCell']) rfl _ _ rfl rfl rfl ?_; intro v1 w1 own1 hg1; obtain ⟨a1, c1, rfl, f1, f2, f3⟩ := own_form own1)
    have hx1 : Ext W w1 := (Ext.new _ _).grown hg1 (fun k e => by cases e; exact Nat.le_refl _)
    have hf1 := own_from own1
    refine ⟨trivial, ?_⟩
    refine (CallsIn.inRound lp (callsIn_wide.2 (trim_walk a1 c1 (x :: dg BB R) _ _ (by simp; omega) f1 f2 f3))).mono ?_
    rintro e w' ⟨rfl, rfl⟩
    rw [hklen.out]
    have f4 : Rd w1 a1 (ks .u32 (dg BB t)) := by
      have h6 := f3.take (stripN (x :: dg BB R) (x :: dg BB R).length)
      rw [show [Value.int .u32 (x : Int)] ++ ks .u32 (dg BB R) = ks .u32 (x :: dg BB R) from rfl, ks_take] at h6
      rwa [show (x :: dg BB R).take (stripN (x :: dg BB R) (x :: dg BB R).length) = dg BB t from hstrip] at h6
    have f5 : (dg BB t).length ≤ maxLen := by unfold maxLen; omega
    have n0 := i0.ext hx1
    have n1 := i1.ext hx1
    have n2 := HI2.out.ext hx1
    have n3 := i3.ext hx1
    have k3 := (K3.refl hsW).ext hx1
    have hB1 := hB.trans (hx1.mono (by omega))
    have hs1 : w.heap.size + 1 + 1 + 1 + 1 + 1 ≤ w1.heap.size := Nat.le_trans hsW hx1.size
    have f6 : From (w.heap.size + 1 + 1 + 1 + 1 + 1) a1 := hf1.mono hsW
    clear cr0 cr0' ownD own1 f1 f2 f3 hf1 j3 j4 HI2 i0 i1 i3
    have cA := n2.cell (i := 0) rfl
    have fA := n2.frozen 0
    have cY := n0.cell (i := 0) rfl
    have N0 := Lib.hid n0
    have N1 := Lib.hid n1
    have N2 := Lib.hid n2
    have N3 := Lib.hid n3
    clear n0 n1 n2 n3
    gi_wp2_with fail
    refine ⟨trivial, ?_⟩
    -- the world behind the store of what is left so far
    obtain ⟨w2, hw2⟩ : ∃ w2, w1.setCell ⟨w.heap.size + 1 + 1, 0, none⟩ (.slice a1 (dg BB t).length (dg BB t).length) = w2 := ⟨_, rfl⟩
    have q0 : Row w2 w.heap.size 132 [.slice b nb cb] := by rw [← hw2]; exact N0.out.far (p := ⟨w.heap.size + 1 + 1, 0, none⟩) (Nat.ne_of_lt (by show _ < w.heap.size + 1 + 1; omega)) _
    have q1 : Row w2 (w.heap.size + 1) 132 [.slice (some ⟨w.heap.size + 1 + 1 + 1, 0, none⟩) l.length l.length] := by rw [← hw2]; exact N1.out.far (p := ⟨w.heap.size + 1 + 1, 0, none⟩) (Nat.ne_of_lt (by show _ < w.heap.size + 1 + 1; omega)) _
    have q2 : Row w2 (w.heap.size + 1 + 1) 132 [.slice a1 (dg BB t).length (dg BB t).length] := by rw [← hw2]; exact N2.out.set 0 _
    have q3 : Row w2 (w.heap.size + 1 + 1 + 1) 133 (ks .u32 Q) := by rw [← hw2]; exact N3.out.far (p := ⟨w.heap.size + 1 + 1, 0, none⟩) (Nat.ne_of_gt (by show w.heap.size + 1 + 1 < _; omega)) _
    have q4 : Rd w2 a1 (ks .u32 (dg BB t)) := by
      rw [← hw2]
      refine f4.keep fun bb off e _ => Below.heap_setCell _ _ _ _ ?_
      have := f6 _ e
      show bb ≠ w.heap.size + 1 + 1
      simp only at this; omega
    have kk3 : K3 w.heap.size W w2 := by rw [← hw2]; exact k3.set (p := ⟨w.heap.size + 1 + 1, 0, none⟩) (by show _ ≤ w.heap.size + 1 + 1; omega) (by show w.heap.size + 1 + 1 ≠ _; omega) _
    have hB2 : Below w.heap.size w w2 := by rw [← hw2]; exact hB1.setCell (p := ⟨w.heap.size + 1 + 1, 0, none⟩) (by show _ ≤ w.heap.size + 1 + 1; omega) _
    have hs2 : w.heap.size + 1 + 1 + 1 + 1 + 1 ≤ w2.heap.size := kk3.2.2
    clear cA fA cY N0 N1 N2 N3 k3 hB1 hs1 hx1 f4 hg1
    rw [hw2]
    clear hw2
    have HCM := Lib.hid (cmp_walk a1 b (dg BB t).length cb t m w2 (by omega) (by rw [HNB.out]; omega) q4 (hb.ext hB2))
    rw [HNB.out] at HCM
    refine (CallsIn.inRound lp (callsIn_wide.2 HCM.out)).mono ?_
    rintro e w3 ⟨rfl, hx3⟩
    have p0 := q0.ext hx3
    have p1 := q1.ext hx3
    have p2 := q2.ext hx3
    have p3 := q3.ext hx3
    have p4 := q4.ext hx3
    have pk := kk3.ext hx3
    have pB := hB2.trans (hx3.mono (by omega))
    clear q0 q1 q2 q3 q4 kk3 hB2 HCM hx3 hs2
    by_cases hlt : t < m
    · have hc : decide (cmpN t m < 0) = true := by simp only [decide_eq_true_eq]; exact (cmpN_lt _ _).2 hlt
      rw [if_pos hlt] at HSS
      have P := Lib.hid (And.intro p0 (And.intro p1 (And.intro p2 p3)))
      clear p0 p1 p2 p3 hlt
      gi_wp2
      obtain ⟨p0, p1, p2, p3⟩ := P.out
      refine ⟨by rw [HSL.out]; exact pk.1, pk.2.1, ⟨p0, p1, ?_, ?_, pk.2.2⟩, pB⟩
      · rw [HSS.out]; exact ⟨a1, _, p2, Nat.le_refl _, f5, p4, f6⟩
      · rw [HSS.out]; exact p3
    · have hc : decide (cmpN t m < 0) = false := by simp only [decide_eq_false_iff_not]; exact fun h => hlt ((cmpN_lt _ _).1 h)
      rw [if_neg hlt] at HSS
      have hqq : t / m < 1000000000 := by rw [Nat.div_lt_iff_lt_mul hm]; exact htm.out
      have cR := p2.cell (i := 0) rfl
      have cY := p0.cell (i := 0) rfl
      have P0 := Lib.hid p0
      have P1 := Lib.hid p1
      have P2 := Lib.hid p2
      have P3 := Lib.hid p3
      clear p0 p1 p2 p3
      gi_wp2_with fail
      refine ⟨trivial, ?_⟩
      have HF := Lib.hid (fits_walk a1 b (dg BB t).length cb t m w3 (by omega) (by rw [HNB.out]; omega) p4 (hb.ext pB) htm.out)
      rw [HNB.out] at HF
      refine (CallsIn.inRound lp (callsIn_wide.2 HF.out)).mono ?_
      rintro e w4 ⟨rfl, hx4⟩
      clear HF cR cY
      have p0 := P0.out.ext hx4
      have p1 := P1.out.ext hx4
      have p2 := P2.out.ext hx4
      have p3 := P3.out.ext hx4
      replace p4 := p4.ext hx4
      replace pk := pk.ext hx4
      replace pB := pB.trans (hx4.mono (by have := P0.out.lt; omega))
      clear P0 P1 P2 P3 hx4
      generalize hqg : t / m = qd at *
      have HQG := Lib.hid hqg
      clear hqg
      have hkQ : k < Q.length := by rw [hQl]; exact hk
      have HKQ := Lib.hid hkQ
      have cQ := p1.cell (i := 0) rfl
      have cq : w4.cell? ⟨w.heap.size + 1 + 1 + 1, k, none⟩ = some (.int .u32 ((Q[k] : Nat) : Int)) := p3.cell (ks_get hkQ)
      have fq := p3.frozen k
      generalize hqk : Q[k] = qk at *
      clear hqk hkQ
      obtain ⟨w5, hw5⟩ : ∃ w5, w4.setCell ⟨w.heap.size + 1 + 1 + 1, k, none⟩ (.int .u32 (qd : Int)) = w5 := ⟨_, rfl⟩
      have e0 : Row w5 w.heap.size 132 [.slice b nb cb] := by rw [← hw5]; exact p0.far (p := ⟨w.heap.size + 1 + 1 + 1, k, none⟩) (Nat.ne_of_lt (by show _ < w.heap.size + 1 + 1 + 1; omega)) _
      have e1 : Row w5 (w.heap.size + 1) 132 [.slice (some ⟨w.heap.size + 1 + 1 + 1, 0, none⟩) l.length l.length] := by rw [← hw5]; exact p1.far (p := ⟨w.heap.size + 1 + 1 + 1, k, none⟩) (Nat.ne_of_lt (by show _ < w.heap.size + 1 + 1 + 1; omega)) _
      have e2 : Row w5 (w.heap.size + 1 + 1) 132 [.slice a1 (dg BB t).length (dg BB t).length] := by rw [← hw5]; exact p2.far (p := ⟨w.heap.size + 1 + 1 + 1, k, none⟩) (Nat.ne_of_lt (by show _ < w.heap.size + 1 + 1 + 1; omega)) _
      have e3 : Row w5 (w.heap.size + 1 + 1 + 1) 133 (ks .u32 (Q.set k qd)) := by rw [← hw5, ← ks_set]; exact p3.set _ _
      have e4 : Rd w5 a1 (ks .u32 (dg BB t)) := by
        rw [← hw5]
        refine p4.keep fun bb off e _ => Below.heap_setCell _ _ _ _ ?_
        have := f6 _ e
        show bb ≠ w.heap.size + 1 + 1 + 1
        simp only at this; omega
      have ek : K3 w.heap.size W w5 := by rw [← hw5]; exact pk.set (p := ⟨w.heap.size + 1 + 1 + 1, k, none⟩) (by show _ ≤ w.heap.size + 1 + 1 + 1; omega) (by show w.heap.size + 1 + 1 + 1 ≠ _; omega) _
      have eB : Below w.heap.size w w5 := by rw [← hw5]; exact pB.setCell (p := ⟨w.heap.size + 1 + 1 + 1, k, none⟩) (by show _ ≤ w.heap.size + 1 + 1 + 1; omega) _
      have E := Lib.hid (And.intro e0 (And.intro e1 (And.intro e2 (And.intro e3 (And.intro e4 (And.intro ek eB))))))
      clear p0 p1 p2 p3 p4 pk pB e0 e1 e2 e3 e4 ek eB
      gi_wp2_with fail
      clear hw5 cQ cq fq
      have cR := E.out.2.2.1.cell (i := 0) rfl
      have cY := E.out.1.cell (i := 0) rfl
      have hmx : Try.prog.follows .mixedOrders = true := by kernel_rfl
      have hbE : Rd w5 b (ks .u32 (dg BB m)) := hb.ext E.out.2.2.2.2.2.2
      have HT := Lib.hid (fun (W : World) (hr : Rd W b (ks .u32 (dg BB m))) => times_walk b cb m qd W hqq (by rw [HNB.out]; omega) hr)
      rw [HNB.out] at HT
      have hmq : m * qd ≤ t := by rw [← HQG.out]; exact Nat.mul_div_le t m
      have hrm : t - m * qd = t % m := by rw [← HQG.out]; have := Nat.mod_add_div t m; omega
      have hl6 := dg_len_mono BB_gt hmq
      have HS := Lib.hid (fun (W : World) (a6 : Option Addr) (c6 : Nat) (h1 : Rd W a1 (ks .u32 (dg BB t))) (h2 : Rd W a6 (ks .u32 (dg BB (m * qd)))) => sub_walk a1 a6 (dg BB t).length c6 t (m * qd) W hmq (by omega) (by omega) h1 h2)
      rw [hrm] at HS
      have HRM := Lib.hid hrm
      clear hrm hmq hl6
      gi_region_with_o (first
        | (refine ⟨trivial, ?_⟩; gi_at_call 183; refine (CallsIn.inRound lp (callsIn_wide.2 (HT.out _ (by exact hbE)))).mono ?_; rintro e w6 ⟨a6, c6, rfl, _, _, r6, x6, _⟩; have e6 : Row w6 (w.heap.size + 1 + 1) 132 [.slice a1 (dg BB t).length (dg BB t).length] := Row.ext (show Row w5.drew _ _ _ from E.out.2.2.1) x6; have cR6 := e6.cell (i := 0) rfl)
        | (refine ⟨trivial, ?_⟩; gi_at_call 110; refine (CallsIn.inRound lp (callsIn_wide.2 (HS.out _ _ _ (Rd.ext (show Rd w5.drew _ _ from E.out.2.2.2.2.1) x6) r6))).mono ?_; rintro e w7 ⟨a7, c7, rfl, g1, g2, r7, x7, g7⟩; have e7 := e6.ext x7; have cR7 := e7.cell (i := 0) rfl; have fR7 := e7.frozen 0))
      all_goals
        have P := Lib.hid (And.intro e7 (And.intro r7 (And.intro x7 x6)))
        clear e6 e7 r7 x7 x6 cR6 r6
        gi_wp2
        obtain ⟨e7, r7, x7, x6⟩ := P.out
        obtain ⟨e0, e1, e2, e3, e4, ek, eB⟩ := E.out
        have x8 : Ext w5 w7 := ((Ext.refl w5).drew.trans x6).trans x7
        have hs5 : w.heap.size + 1 + 1 + 1 + 1 + 1 ≤ w5.heap.size := ek.2.2
        have ek7 := (ek.ext x8).set (p := ⟨w.heap.size + 1 + 1, 0, none⟩) (by show _ ≤ w.heap.size + 1 + 1; omega) (by show w.heap.size + 1 + 1 ≠ _; omega) (.slice a7 (dg BB (t % m)).length c7)
        refine ⟨by rw [HSL.out]; exact ek7.1, ek7.2.1, ⟨?_, ?_, ?_, ?_, ek7.2.2⟩, (eB.trans (x8.mono (by omega))).setCell (p := ⟨w.heap.size + 1 + 1, 0, none⟩) (by show _ ≤ w.heap.size + 1 + 1; omega) _⟩
        · exact (e0.ext x8).far (p := ⟨w.heap.size + 1 + 1, 0, none⟩) (Nat.ne_of_lt (by show _ < w.heap.size + 1 + 1; omega)) _
        · exact (e1.ext x8).far (p := ⟨w.heap.size + 1 + 1, 0, none⟩) (Nat.ne_of_lt (by show _ < w.heap.size + 1 + 1; omega)) _
        · rw [HSS.out]
          refine ⟨a7, c7, e7.set 0 _, g1, g2, ?_, g7.mono (by have := ((Ext.refl w5).drew.trans x6).size; omega)⟩
          refine r7.keep fun bb off e _ => Below.heap_setCell _ _ _ _ ?_
          have h1 := g7 _ e
          have h2 := ((Ext.refl w5).drew.trans x6).size
          show bb ≠ w.heap.size + 1 + 1
          simp only at h1; omega
        · rw [HSS.out]
          exact (e3.ext x8).far (p := ⟨w.heap.size + 1 + 1, 0, none⟩) (Nat.ne_of_gt (by show w.heap.size + 1 + 1 < _; omega)) _
  case done =>
    rintro D ys W hD rfl ⟨⟨i0, i1, ⟨ar, cr, i2, j1, j2, j3, j4⟩, i3, hsW⟩, hB⟩ hK
    have hn : n < BB ^ l.length := by rw [← HL.out]; exact lt_pow_len BB_gt n
    have hS : dvS BB n m l.length ((down l.length l.length).map (fun i => i.1)) = (fixd BB l.length (n / m), n % m) := by
      rw [down_map _ _ (Nat.le_refl _), dvS_down BB_gt n m _ hm hn _ (Nat.le_refl _), dvQ_all]; simp
    rw [hS] at i2 j1 j3 i3
    simp only at i2 j1 j3 i3
    clear hS
    have hqlt : n / m < BB ^ l.length := Nat.lt_of_le_of_lt (Nat.div_le_self n m) hn
    have hst := strip_fixd BB_gt l.length (n / m) hqlt
    have cQ := i1.cell (i := 0) rfl
    have cR := i2.cell (i := 0) rfl
    have fQ := i1.frozen 0
    have fR := i2.frozen 0
    have HT := Lib.hid (fun (A : World) (h : Rd A (some ⟨w.heap.size + 1 + 1 + 1, 0, none⟩) (ks .u32 (fixd BB l.length (n / m)))) => trim_walk (some ⟨w.heap.size + 1 + 1 + 1, 0, none⟩) l.length (fixd BB l.length (n / m)) l.length A (fixd_len _ _ _) (Nat.le_refl _) (by unfold maxLen; omega) h)
    have hk5 : stripN (fixd BB l.length (n / m)) (fixd BB l.length (n / m)).length = (dg BB (n / m)).length := by rw [← strip_len, hst]
    rw [hk5] at HT
    have hrd := i3.rd
    have I1 := Lib.hid i1
    have I2 := Lib.hid i2
    have I3 := Lib.hid i3
    have HST := Lib.hid hst
    have HK5 := Lib.hid hk5
    have hKK := Lib.hid hK
    clear i0 i1 i2 i3 hst hk5 hn hqlt hK
    have hmx : Try.prog.follows .mixedOrders = true := by kernel_rfl
    simp only [Exit.inBlock, Exit.then]
    gi_wp2_with fail
    gi_region_with_o (refine ⟨trivial, ?_⟩; gi_at_call 160; refine (callsIn_wide.2 (HT.out _ (by exact hrd))).mono ?_; rintro e w6 ⟨rfl, rfl⟩)
    all_goals
      gi_wp2
      have hKd : W.drew.heap[D]? = some (.deferred (some [])) := hKK.out
      have hK1 := (KeepsOthers.setCell W.drew ⟨w.heap.size + 1, 0, none⟩ (.slice (some ⟨w.heap.size + 1 + 1 + 1, 0, none⟩) (dg BB (n / m)).length (dg BB (n / m)).length)).same D _ hKd rfl
      have hK2 := (KeepsOthers.setCell (W.drew.setCell ⟨w.heap.size + 1, 0, none⟩ (.slice (some ⟨w.heap.size + 1 + 1 + 1, 0, none⟩) (dg BB (n / m)).length (dg BB (n / m)).length)) ⟨w.heap.size + 1 + 1, 0, none⟩ (.slice ar (dg BB (n % m)).length cr)).same D _ hK1 rfl
      refine ⟨by simp, .inl ⟨_, _, rfl, run_takeDeferred hK2, ?_⟩⟩
      have hit : ∀ r, some D = some r → ∃ o : Obj, (((W.setCell ⟨w.heap.size + 1, 0, none⟩ (.slice (some ⟨w.heap.size + 1 + 1 + 1, 0, none⟩) (dg BB (n / m)).length (dg BB (n / m)).length)).setCell ⟨w.heap.size + 1 + 1, 0, none⟩ (.slice ar (dg BB (n % m)).length cr)).drew).heap[r]? = some o ∧ o.isCells = false := fun r e => by cases e; exact ⟨_, hK2, rfl⟩
      have hgb := grownBy_putObj' (((W.setCell ⟨w.heap.size + 1, 0, none⟩ (.slice (some ⟨w.heap.size + 1 + 1 + 1, 0, none⟩) (dg BB (n / m)).length (dg BB (n / m)).length)).setCell ⟨w.heap.size + 1 + 1, 0, none⟩ (.slice ar (dg BB (n % m)).length cr)).drew) D (.deferred none)
      have z1 := (((I1.out.set 0 (.slice (some ⟨w.heap.size + 1 + 1 + 1, 0, none⟩) (dg BB (n / m)).length (dg BB (n / m)).length)).far (p := ⟨w.heap.size + 1 + 1, 0, none⟩) (Nat.ne_of_lt (by show _ < w.heap.size + 1 + 1; omega)) (.slice ar (dg BB (n % m)).length cr)).drew.iter hgb hit).cell (i := 0) rfl
      have z2 := (((I2.out.far (p := ⟨w.heap.size + 1, 0, none⟩) (Nat.ne_of_gt (by show w.heap.size + 1 < _; omega)) (.slice (some ⟨w.heap.size + 1 + 1 + 1, 0, none⟩) (dg BB (n / m)).length (dg BB (n / m)).length)).set 0 (.slice ar (dg BB (n % m)).length cr)).drew.iter hgb hit).cell (i := 0) rfl
      have z3 := (((I3.out.far (p := ⟨w.heap.size + 1, 0, none⟩) (Nat.ne_of_gt (by show w.heap.size + 1 < _; omega)) (.slice (some ⟨w.heap.size + 1 + 1 + 1, 0, none⟩) (dg BB (n / m)).length (dg BB (n / m)).length)).far (p := ⟨w.heap.size + 1 + 1, 0, none⟩) (Nat.ne_of_gt (by show w.heap.size + 1 + 1 < _; omega)) (.slice ar (dg BB (n % m)).length cr)).drew.iter hgb hit).rd
      have z4 : Rd (((W.setCell ⟨w.heap.size + 1, 0, none⟩ (.slice (some ⟨w.heap.size + 1 + 1 + 1, 0, none⟩) (dg BB (n / m)).length (dg BB (n / m)).length)).setCell ⟨w.heap.size + 1 + 1, 0, none⟩ (.slice ar (dg BB (n % m)).length cr)).drew) ar (ks .u32 (dg BB (n % m))) := by
        refine Rd.drew ((j3.keep fun bb off e _ => Below.heap_setCell _ _ _ _ ?_).keep fun bb off e _ => Below.heap_setCell _ _ _ _ ?_)
        · have := j4 _ e
          show bb ≠ w.heap.size + 1
          simp only at this; omega
        · have := j4 _ e
          show bb ≠ w.heap.size + 1 + 1
          simp only at this; omega
      have z5 := z4.iter hgb hit
      have z6 := z3.take (stripN (fixd BB l.length (n / m)) (fixd BB l.length (n / m)).length)
      rw [ks_take, show (fixd BB l.length (n / m)).take (stripN (fixd BB l.length (n / m)) (fixd BB l.length (n / m)).length) = dg BB (n / m) from HST.out] at z6
      have z7 : (dg BB (n / m)).length ≤ maxLen := by
        have := stripN_le (fixd BB l.length (n / m)) (fixd BB l.length (n / m)).length
        rw [HK5.out, fixd_len] at this
        unfold maxLen; omega
      have hBF : Below w.heap.size w ((((W.setCell ⟨w.heap.size + 1, 0, none⟩ (.slice (some ⟨w.heap.size + 1 + 1 + 1, 0, none⟩) (dg BB (n / m)).length (dg BB (n / m)).length)).setCell ⟨w.heap.size + 1 + 1, 0, none⟩ (.slice ar (dg BB (n % m)).length cr)).drew).putObj D (.deferred none)) :=
        (((hB.setCell (p := ⟨w.heap.size + 1, 0, none⟩) (by show _ ≤ w.heap.size + 1; omega) _).setCell (p := ⟨w.heap.size + 1 + 1, 0, none⟩) (by show _ ≤ w.heap.size + 1 + 1; omega) _).drew).trans (belowK_b (w := w) (Nat.le_refl _) _ D _ _ (by omega) hK2 rfl rfl)
      refine ⟨.tuple #[.slice (some ⟨w.heap.size + 1 + 1 + 1, 0, none⟩) (dg BB (n / m)).length (dg BB (n / m)).length, .slice ar (dg BB (n % m)).length cr], ?_, ⟨_, _, _, _, rfl, Nat.le_refl _, z7, j1, j2, z6, z5, hBF⟩⟩
      simp [results, Try.f144, go_sem, z1, z2]
  case stop =>
    rintro D c pre W _ _ h _
    exact h.elim
end Go.Proofs.Ytmlnpagkabmmpaa

/- Integers with a sign: of, Neg, Cmp, Add, Mul, Div, Gcd. -/
namespace Go.Proofs.Ytmlnpagkabmmpaa
open Go.RowKit

/-- the result is the integer z -/
def GotInt (W : World) (z : Int) (e : Ending) (w' : World) : Prop :=
  ∃ a c, e = .returned (.agg #[.bool (decide (z < 0)), .slice a (dg BB z.natAbs).length c]) ∧ (dg BB z.natAbs).length ≤ c ∧ c ≤ maxLen ∧ Rd w' a (ks .u32 (dg BB z.natAbs)) ∧ Ext W w' ∧ From W.heap.size a
theorem GotInt.later {W W' : World} {z : Int} {e : Ending} {w' : World} (h : GotInt W' z e w') (x : Ext W W') : GotInt W z e w' := by
  obtain ⟨a, c, h1, h2, h3, h4, h5, h6⟩ := h
  exact ⟨a, c, h1, h2, h3, h4, x.trans h5, h6.mono x.size⟩
/-- the result is stored in a variable of the call's own -/
theorem got_store {w W w' : World} {z : Int} {a : Option Addr} {c g : Nat} (hg1 : w.heap.size ≤ g) (hg2 : g < W.heap.size) (x : Ext w W) (h2 : (dg BB z.natAbs).length ≤ c) (h3 : c ≤ maxLen) (h4 : Rd w' a (ks .u32 (dg BB z.natAbs))) (h5 : Ext W w') (h6 : From W.heap.size a) (u v : Value) :
    GotInt w z (.returned (.agg #[.bool (decide (z < 0)), .slice a (dg BB z.natAbs).length c])) ((w'.setCell ⟨g, 0, none⟩ u).setCell ⟨g, 1, none⟩ v) := by
  refine ⟨a, c, rfl, h2, h3, ?_, ((x.trans h5).set (p := ⟨g, 0, none⟩) hg1 _).set (p := ⟨g, 1, none⟩) hg1 _, h6.mono x.size⟩
  exact (h4.keep fun bb off e _ => Below.heap_setCell _ _ _ _ (by have := h6 _ e; show bb ≠ g; simp only at this; omega)).keep fun bb off e _ => Below.heap_setCell _ _ _ _ (by have := h6 _ e; show bb ≠ g; simp only at this; omega)
/-- a sign, and digits -/
def sz (s : Bool) (n : Nat) : Int := if s then -(n : Int) else n
theorem sz_abs (s : Bool) (n : Nat) : (sz s n).natAbs = n := by unfold sz; cases s <;> simp
theorem sz_neg (s : Bool) (n : Nat) : decide (sz s n < 0) = (s && decide (0 < n)) := by
  unfold sz; cases s <;> simp
theorem sz_self (z : Int) : sz (decide (z < 0)) z.natAbs = z := by
  unfold sz; by_cases h : z < 0 <;> simp [h] <;> omega
theorem ks_one (k : IntKind) (l : List Nat) : ∀ u ∈ ks k l, u.oneCell' = true := by
  intro u hu; simp only [ks, List.mem_map] at hu; obtain ⟨_, _, rfl⟩ := hu; rfl

set_option maxRecDepth 100000 in
set_option maxHeartbeats 400000 in
theorem of_walk (s : Bool) (n : Nat) (a : Option Addr) (c : Nat) (w : World) (hc : (dg BB n).length ≤ c) (hm : c ≤ maxLen) (hb : (dg BB n).length ≤ 1000000) (hr : Rd w a (ks .u32 (dg BB n))) :
    Calls Try.prog 81 #[.bool s, .slice a (dg BB n).length c] w (GotInt w (sz s n)) := by
  have hpos : decide ((0 : Int) < ((dg BB n).length : Nat)) = decide (0 < n) := by
    rw [Bool.eq_iff_iff]; simp only [decide_eq_true_eq]
    have := dg_len0 BB_gt n; omega
  have HP := Lib.hid hpos
  have HC := Lib.hid (fun W (h : Rd W a (ks .u32 (dg BB n))) => cloneDg a (dg BB n).length c (ks .u32 (dg BB n)) W (by rw [ks_len, Nat.mul_one]) hc hm (by omega) h (ks_one _ _))
  clear hpos
  generalize hna : (dg BB n).length = na at *
  have HNA := Lib.hid hna
  clear hna
  cases s
  · have hsz : decide (sz false n < 0) = false := by rw [sz_neg, ← HP.out]; rfl
    have HSZ := Lib.hid hsz
    clear hsz
    go_enter Try.func81, Try.ntmps81
    go_wp2_with fail
    refine (HC.out _ (hr.alloc _)).mono ?_
    rintro e w1 ⟨a1, c1, rfl, g1, g2, g3, g4, g5⟩
    have r1 := (Row.new w 24 [.bool false, .slice none 0 0]).ext g4
    have k0 := r1.cell (i := 0) rfl
    have k1 := r1.cell (i := 1) rfl
    have f0 := r1.frozen 0
    have f1 := r1.frozen 1
    go_wp2
    have r2 := (r1.set 0 (.bool (false))).set 1 (.slice a1 na c1)
    have z0 := r2.cell (i := 0) rfl
    have z1 := r2.cell (i := 1) rfl
    refine bodyPost_ret (v := .agg #[.bool (false), .slice a1 na c1]) ?_ rfl ?_
    · simp [results, Try.f81, go_sem, z0, z1]
    · have hgs := got_store (w := w) (W := w.alloc (.cells #[.bool false, .slice none 0 0] 24)) (z := sz false n) (g := w.heap.size) (Nat.le_refl _) (by simp) (Ext.new _ _) (by rw [sz_abs, HNA.out]; exact g1) g2 (by rw [sz_abs]; exact g3) g4 g5
      rw [HSZ.out, sz_abs, HNA.out] at hgs
      exact hgs _ _
  · have hsz : decide (sz true n < 0) = decide (0 < na) := by rw [sz_neg, ← HP.out]; simp
    have HSZ := Lib.hid hsz
    clear hsz
    go_enter Try.func81, Try.ntmps81
    go_wp2_with fail
    refine (HC.out _ (hr.alloc _)).mono ?_
    rintro e w1 ⟨a1, c1, rfl, g1, g2, g3, g4, g5⟩
    have r1 := (Row.new w 24 [.bool false, .slice none 0 0]).ext g4
    have k0 := r1.cell (i := 0) rfl
    have k1 := r1.cell (i := 1) rfl
    have f0 := r1.frozen 0
    have f1 := r1.frozen 1
    go_wp2
    have r2 := (r1.set 0 (.bool (decide (0 < na)))).set 1 (.slice a1 na c1)
    have z0 := r2.cell (i := 0) rfl
    have z1 := r2.cell (i := 1) rfl
    refine bodyPost_ret (v := .agg #[.bool (decide (0 < na)), .slice a1 na c1]) ?_ rfl ?_
    · simp [results, Try.f81, go_sem, z0, z1]
    · have hgs := got_store (w := w) (W := w.alloc (.cells #[.bool false, .slice none 0 0] 24)) (z := sz true n) (g := w.heap.size) (Nat.le_refl _) (by simp) (Ext.new _ _) (by rw [sz_abs, HNA.out]; exact g1) g2 (by rw [sz_abs]; exact g3) g4 g5
      rw [HSZ.out, sz_abs, HNA.out] at hgs
      exact hgs _ _

/-- an integer as an argument -/
def IsInt (w : World) (z : Int) (a : Option Addr) (c : Nat) : Prop := (dg BB z.natAbs).length ≤ c ∧ c ≤ maxLen ∧ Rd w a (ks .u32 (dg BB z.natAbs))
theorem IsInt.ext {w w' : World} {z : Int} {a : Option Addr} {c : Nat} (h : IsInt w z a c) (x : Ext w w') : IsInt w' z a c := ⟨h.1, h.2.1, h.2.2.ext x⟩

set_option maxRecDepth 100000 in
set_option maxHeartbeats 400000 in
theorem neg_walk (z : Int) (a : Option Addr) (c : Nat) (w : World) (hb : (dg BB z.natAbs).length ≤ 1000000) (h : IsInt w z a c) :
    Calls Try.prog 78 #[.agg #[.bool (decide (z < 0)), .slice a (dg BB z.natAbs).length c]] w (GotInt w (-z)) := by
  obtain ⟨h1, h2, h3⟩ := h
  have HO := Lib.hid (fun W (hr : Rd W a (ks .u32 (dg BB z.natAbs))) => of_walk (!decide (z < 0)) z.natAbs a c W h1 h2 hb hr)
  have hz : sz (!decide (z < 0)) z.natAbs = -z := by unfold sz; by_cases hz : z < 0 <;> simp [hz] <;> omega
  rw [hz] at HO
  clear hz
  generalize -z = y at *
  generalize decide (z < 0) = s at *
  have HN : Hid ((dg BB z.natAbs).length = (dg BB z.natAbs).length) := rfl
  generalize (dg BB z.natAbs).length = na at *
  go_enter Try.func78, Try.ntmps78
  go_wp2_with (go_at_call 81; refine (HO.out _ ((h3.alloc _).alloc _)).mono ?_; rintro e w1 ⟨a1, c1, rfl, g1, g2, g3, g4, g5⟩; have r1 := (Row.new (w.alloc (.cells #[.bool s, .slice a na c] 24)) 24 [.bool false, .slice none 0 0]).ext g4; rw [World.size_alloc] at r1; have k0 := r1.cell (i := 0) rfl; have k1 := r1.cell (i := 1) rfl; have f0 := r1.frozen 0; have f1 := r1.frozen 1)
  have r2 := (r1.set 0 (.bool (decide (y < 0)))).set 1 (.slice a1 (dg BB y.natAbs).length c1)
  have z0 := r2.cell (i := 0) rfl
  have z1 := r2.cell (i := 1) rfl
  refine bodyPost_ret (v := .agg #[.bool (decide (y < 0)), .slice a1 (dg BB y.natAbs).length c1]) ?_ rfl ?_
  · simp [results, Try.f78, go_sem, z0, z1]
  · exact got_store (by simp) (by simp) ((Ext.new _ _).alloc _) g1 g2 g3 g4 g5 _ _

/-- -1, 0, 1 -/
def cmpZ (x y : Int) : Int := if x < y then -1 else if x = y then 0 else 1

set_option maxRecDepth 100000 in
set_option maxHeartbeats 400000 in
theorem cmpz_walk (z1 z2 : Int) (a b : Option Addr) (ca cb : Nat) (w : World) (hb1 : (dg BB z1.natAbs).length ≤ 1000000) (hb2 : (dg BB z2.natAbs).length ≤ 1000000) (h1 : IsInt w z1 a ca) (h2 : IsInt w z2 b cb) :
    Calls Try.prog 57 #[.agg #[.bool (decide (z1 < 0)), .slice a (dg BB z1.natAbs).length ca], .agg #[.bool (decide (z2 < 0)), .slice b (dg BB z2.natAbs).length cb]] w fun e w' => e = .returned (.int .i64 (cmpZ z1 z2)) ∧ Ext w w' := by
  have HC := Lib.hid (fun W (hr : Rd W a (ks .u32 (dg BB z1.natAbs))) (hr2 : Rd W b (ks .u32 (dg BB z2.natAbs))) => cmp_walk a b ca cb z1.natAbs z2.natAbs W hb1 hb2 hr hr2)
  have hR1 : Hid (decide (z1 < 0) = true → decide (z2 < 0) = false → cmpZ z1 z2 = -1) := by
    unfold Hid cmpZ; simp only [decide_eq_true_eq, decide_eq_false_iff_not]; intro p q; rw [if_pos (by omega)]
  have hR2 : Hid (decide (z1 < 0) = false → decide (z2 < 0) = true → cmpZ z1 z2 = 1) := by
    unfold Hid cmpZ; simp only [decide_eq_true_eq, decide_eq_false_iff_not]; intro p q; rw [if_neg (by omega), if_neg (by omega)]
  have hR3 : Hid (decide (z1 < 0) = true → decide (z2 < 0) = true → cmpZ z1 z2 = -cmpN z1.natAbs z2.natAbs) := by
    unfold Hid cmpZ cmpN; simp only [decide_eq_true_eq]; intro p q; (repeat' split) <;> omega
  have hR4 : Hid (decide (z1 < 0) = false → decide (z2 < 0) = false → cmpZ z1 z2 = cmpN z1.natAbs z2.natAbs) := by
    unfold Hid cmpZ cmpN; simp only [decide_eq_false_iff_not]; intro p q; (repeat' split) <;> omega
  have hcb : -1 ≤ cmpN z1.natAbs z2.natAbs ∧ cmpN z1.natAbs z2.natAbs ≤ 1 := by unfold cmpN; (repeat' split) <;> omega
  obtain ⟨hcb1, hcb2⟩ := hcb
  have r1 := h1.2.2
  have r2 := h2.2.2
  clear h1 h2 hb1 hb2
  generalize cmpZ z1 z2 = r at *
  generalize cmpN z1.natAbs z2.natAbs = q at *
  generalize hna : (dg BB z1.natAbs).length = na at *
  generalize hnb : (dg BB z2.natAbs).length = nb at *
  clear hna hnb
  cases s1 : decide (z1 < 0) <;> cases s2 : decide (z2 < 0)
  all_goals
    rw [s1, s2] at hR1 hR2 hR3 hR4
    clear s1 s2
    first
      | have HF := Lib.hid (hR4.out rfl rfl)
      | have HF := Lib.hid (hR3.out rfl rfl)
      | have HF := Lib.hid (hR2.out rfl rfl)
      | have HF := Lib.hid (hR1.out rfl rfl)
    clear hR1 hR2 hR3 hR4
    go_enter Try.func57, Try.ntmps57
    go_wp2_with (go_at_call 109; refine (HC.out _ ((r1.alloc _).alloc _) ((r2.alloc _).alloc _)).mono ?_; rintro e w1 ⟨rfl, g1⟩; first | have k0 := (((Row.new w 24 [.bool false, .slice a na ca]).alloc _).ext g1).cell (i := 0) rfl | have k0 := (((Row.new w 24 [.bool true, .slice a na ca]).alloc _).ext g1).cell (i := 0) rfl)
    go_ret
    first
      | exact ⟨ret_int HF.out.symm, ((Ext.new _ _).alloc _).trans g1⟩
      | exact ⟨ret_int HF.out.symm, (Ext.new _ _).alloc _⟩
end Go.Proofs.Ytmlnpagkabmmpaa

/- Mul, Add of integers. -/
namespace Go.Proofs.Ytmlnpagkabmmpaa
open Go.RowKit

theorem mul_sign (z1 z2 : Int) : sz (decide (z1 < 0) != decide (z2 < 0)) (z1.natAbs * z2.natAbs) = z1 * z2 := by
  conv => rhs; rw [← sz_self z1, ← sz_self z2]
  generalize decide (z1 < 0) = s1
  generalize decide (z2 < 0) = s2
  cases s1 <;> cases s2 <;> simp [sz, Int.neg_mul, Int.mul_neg]

/-- two integers boxed, and a result's cells -/
theorem two_boxes (w : World) (u0 u1 v0 v1 : Value) :
    ∃ W0, ((w.alloc (.cells #[u0, u1] 24)).alloc (.cells #[v0, v1] 24)).alloc (.cells #[.bool false, .slice none 0 0] 24) = W0 ∧ Row W0 w.heap.size 24 [u0, u1] ∧ Row W0 (w.heap.size + 1) 24 [v0, v1] ∧ Row W0 (w.heap.size + 1 + 1) 24 [.bool false, .slice none 0 0] ∧ Ext w W0 ∧ W0.heap.size = w.heap.size + 1 + 1 + 1 := by
  refine ⟨_, rfl, ((Row.new w _ [_, _]).alloc _).alloc _, ?_, ?_, ((Ext.new _ _).alloc _).alloc _, by simp⟩
  · have := (Row.new (w.alloc (.cells #[u0, u1] 24)) 24 [v0, v1]).alloc (.cells #[.bool false, .slice none 0 0] 24)
    rwa [World.size_alloc] at this
  · have := Row.new ((w.alloc (.cells #[u0, u1] 24)).alloc (.cells #[v0, v1] 24)) 24 [.bool false, .slice none 0 0]
    rwa [World.size_alloc, World.size_alloc] at this

/-- what a region over two boxed integers holds -/
theorem held4 {w W : World} {u0 u1 v0 v1 : Value} (h0 : Row W w.heap.size 24 [u0, u1]) (h1 : Row W (w.heap.size + 1) 24 [v0, v1]) :
    W.cell? ⟨w.heap.size, 0, none⟩ = some u0 ∧ W.cell? ⟨w.heap.size, 1, none⟩ = some u1 ∧ W.cell? ⟨w.heap.size + 1, 0, none⟩ = some v0 ∧ W.cell? ⟨w.heap.size + 1, 1, none⟩ = some v1 :=
  ⟨h0.cell (i := 0) rfl, h0.cell (i := 1) rfl, h1.cell (i := 0) rfl, h1.cell (i := 1) rfl⟩
theorem row_far2 {w : World} {g h : Nat} {E : TypeId} {xs : List Value} (r : Row w g E xs) (e : g < h) (u v : Value) : Row ((w.setCell ⟨h, 0, none⟩ u).setCell ⟨h, 1, none⟩ v) g E xs :=
  (r.far (p := ⟨h, 0, none⟩) (Nat.ne_of_lt e) u).far (p := ⟨h, 1, none⟩) (Nat.ne_of_lt e) v

set_option maxRecDepth 100000 in
set_option maxHeartbeats 4000000 in
theorem mulz_walk (z1 z2 : Int) (a b : Option Addr) (ca cb : Nat) (w : World) (hb1 : (dg BB z1.natAbs).length ≤ 100000) (hb2 : (dg BB z2.natAbs).length ≤ 100000) (h1 : IsInt w z1 a ca) (h2 : IsInt w z2 b cb) :
    Calls Try.prog 76 #[.agg #[.bool (decide (z1 < 0)), .slice a (dg BB z1.natAbs).length ca], .agg #[.bool (decide (z2 < 0)), .slice b (dg BB z2.natAbs).length cb]] w (GotInt w (z1 * z2)) := by
  have HM := Lib.hid (fun W (hr : Rd W a (ks .u32 (dg BB z1.natAbs))) (hr2 : Rd W b (ks .u32 (dg BB z2.natAbs))) => mul_walk a b ca cb z1.natAbs z2.natAbs W (by omega) (by omega) hr hr2)
  have hlm := dg_len_mul BB_gt z1.natAbs z2.natAbs
  have HO := Lib.hid (fun W a' c' (g1 : (dg BB (z1.natAbs * z2.natAbs)).length ≤ c') (g2 : c' ≤ maxLen) (hr : Rd W a' (ks .u32 (dg BB (z1.natAbs * z2.natAbs)))) => of_walk (decide (z1 < 0) != decide (z2 < 0)) (z1.natAbs * z2.natAbs) a' c' W g1 g2 (by omega) hr)
  rw [mul_sign] at HO
  have r1 := h1.2.2
  have r2 := h2.2.2
  clear h1 h2 hb1 hb2 hlm
  generalize z1 * z2 = y at *
  generalize decide (z1 < 0) = s1 at *
  generalize decide (z2 < 0) = s2 at *
  generalize hl : dg BB (z1.natAbs * z2.natAbs) = l at *
  clear hl
  generalize (dg BB z1.natAbs).length = na at *
  generalize (dg BB z2.natAbs).length = nb at *
  go_enter Try.func76, Try.ntmps76
  go_wp2_with fail
  obtain ⟨W0, hW0, q0, q1, q2, x0, hs0⟩ := two_boxes w (.bool s1) (.slice a na ca) (.bool s2) (.slice b nb cb)
  rw [hW0]
  have k0 := q0.cell (i := 0) rfl
  have k1 := q0.cell (i := 1) rfl
  have k2 := q1.cell (i := 0) rfl
  have k3 := q1.cell (i := 1) rfl
  have QQ := Lib.hid (And.intro q0 (And.intro q1 (And.intro q2 (And.intro x0 hs0))))
  clear hW0 q0 q1 q2 x0 hs0
  go_region_held3 (fun w' => w'.cell? ⟨w.heap.size, 0, none⟩ = some (.bool s1) ∧ w'.cell? ⟨w.heap.size, 1, none⟩ = some (.slice a na ca) ∧ w'.cell? ⟨w.heap.size + 1, 0, none⟩ = some (.bool s2) ∧ w'.cell? ⟨w.heap.size + 1, 1, none⟩ = some (.slice b nb cb)) (first | exact held4 QQ.out.1.drew QQ.out.2.1.drew | exact held4 (row_far2 (QQ.out.1.drew.ext (Ext.trans g4 t4)) (by omega) _ _) (row_far2 (QQ.out.2.1.drew.ext (Ext.trans g4 t4)) (by omega) _ _) | exact held4 (QQ.out.1.drew.ext (Ext.trans g4 t4)) (QQ.out.2.1.drew.ext (Ext.trans g4 t4)) | exact held4 (QQ.out.1.drew.ext g4) (QQ.out.2.1.drew.ext g4)) (first
    | (go_at_call 143; refine (HM.out _ ?_ ?_).mono ?_; exact (r1.ext QQ.out.2.2.2.1).drew; exact (r2.ext QQ.out.2.2.2.1).drew; rintro e w1 ⟨a1, c1, rfl, g1, g2, g3, g4, g5⟩)
    | (go_at_call 81; refine (HO.out _ _ _ ?_ ?_ ?_).mono ?_; exact g1; exact g2; exact g3; rintro e w2 ⟨a2, c2, rfl, t1, t2, t3, t4, t5⟩; have h0 := ((QQ.out.2.2.1.drew.ext g4).ext t4).cell (i := 0) rfl; have h1 := ((QQ.out.2.2.1.drew.ext g4).ext t4).cell (i := 1) rfl; have h2 := ((QQ.out.2.2.1.drew.ext g4).ext t4).frozen 0; have h3 := ((QQ.out.2.2.1.drew.ext g4).ext t4).frozen 1))
  go_wp2_with fail
  obtain ⟨q0, q1, q2, x0, hs0⟩ := QQ.out
  have r3 := (((q2.drew.ext g4).ext t4).set 0 (.bool (decide (y < 0)))).set 1 (.slice a2 (dg BB y.natAbs).length c2)
  have z0 := r3.cell (i := 0) rfl
  have z1 := r3.cell (i := 1) rfl
  refine bodyPost_ret (v := .agg #[.bool (decide (y < 0)), .slice a2 (dg BB y.natAbs).length c2]) ?_ rfl ?_
  · simp [results, Try.f76, go_sem, z0, z1]
  · have hz1 := g4.size
    simp only [World.drew] at hz1
    exact got_store (by omega) (by omega) (x0.drew.trans g4) t1 t2 t3 t4 t5 _ _

/-- signs of a sum -/
theorem add_sign0 (z1 z2 : Int) (h : (decide (z1 < 0) == decide (z2 < 0)) = true) : sz (decide (z1 < 0)) (z1.natAbs + z2.natAbs) = z1 + z2 := by
  simp only [beq_iff_eq] at h
  unfold sz
  by_cases h1 : z1 < 0
  · rw [decide_eq_true h1] at *; have := of_decide_eq_true h.symm; simp; omega
  · rw [decide_eq_false h1] at *; have := of_decide_eq_false h.symm; simp; omega
theorem add_sign1 (z1 z2 : Int) (h : (decide (z1 < 0) == decide (z2 < 0)) = false) (hc : z2.natAbs ≤ z1.natAbs) : sz (decide (z1 < 0)) (z1.natAbs - z2.natAbs) = z1 + z2 := by
  unfold sz
  have e : ((z1.natAbs - z2.natAbs : Nat) : Int) = z1.natAbs - z2.natAbs := Int.ofNat_sub hc
  rw [e]; clear e
  by_cases h1 : z1 < 0 <;> by_cases h2 : z2 < 0
  · rw [decide_eq_true h1, decide_eq_true h2] at h; cases h
  · rw [decide_eq_true h1]; simp only [if_true]; omega
  · rw [decide_eq_false h1]; simp only [Bool.false_eq_true, if_false]; omega
  · rw [decide_eq_false h1, decide_eq_false h2] at h; cases h
theorem add_sign2 (z1 z2 : Int) (h : (decide (z1 < 0) == decide (z2 < 0)) = false) (hc : z1.natAbs ≤ z2.natAbs) : sz (decide (z2 < 0)) (z2.natAbs - z1.natAbs) = z1 + z2 := by
  have h' : (decide (z2 < 0) == decide (z1 < 0)) = false := by rw [Bool.beq_comm]; exact h
  rw [add_sign1 z2 z1 h' hc, Int.add_comm]

set_option maxRecDepth 100000 in
set_option maxHeartbeats 4000000 in
theorem addz_walk (z1 z2 : Int) (a b : Option Addr) (ca cb : Nat) (w : World) (hb1 : (dg BB z1.natAbs).length ≤ 100000) (hb2 : (dg BB z2.natAbs).length ≤ 100000) (h1 : IsInt w z1 a ca) (h2 : IsInt w z2 b cb) :
    Calls Try.prog 47 #[.agg #[.bool (decide (z1 < 0)), .slice a (dg BB z1.natAbs).length ca], .agg #[.bool (decide (z2 < 0)), .slice b (dg BB z2.natAbs).length cb]] w (GotInt w (z1 + z2)) := by
  have HA := Lib.hid (fun W (hr : Rd W a (ks .u32 (dg BB z1.natAbs))) (hr2 : Rd W b (ks .u32 (dg BB z2.natAbs))) => add_walk a b ca cb z1.natAbs z2.natAbs W (by omega) (by omega) hr hr2)
  have HS1 := Lib.hid (fun W (hr : Rd W a (ks .u32 (dg BB z1.natAbs))) (hr2 : Rd W b (ks .u32 (dg BB z2.natAbs))) (hle : z2.natAbs ≤ z1.natAbs) => sub_walk a b ca cb z1.natAbs z2.natAbs W hle (by omega) (by omega) hr hr2)
  have HS2 := Lib.hid (fun W (hr : Rd W a (ks .u32 (dg BB z1.natAbs))) (hr2 : Rd W b (ks .u32 (dg BB z2.natAbs))) (hle : z1.natAbs ≤ z2.natAbs) => sub_walk b a cb ca z2.natAbs z1.natAbs W hle (by omega) (by omega) hr2 hr)
  have HC := Lib.hid (fun W (hr : Rd W a (ks .u32 (dg BB z1.natAbs))) (hr2 : Rd W b (ks .u32 (dg BB z2.natAbs))) => cmp_walk a b ca cb z1.natAbs z2.natAbs W (by omega) (by omega) hr hr2)
  have hla := dg_len_add BB_gt z1.natAbs z2.natAbs
  have hls1 := dg_len_mono BB_gt (Nat.sub_le z1.natAbs z2.natAbs)
  have hls2 := dg_len_mono BB_gt (Nat.sub_le z2.natAbs z1.natAbs)
  have HO := Lib.hid (fun (s : Bool) (n : Nat) (hn : (dg BB n).length ≤ 300000) W a' c' (g1 : (dg BB n).length ≤ c') (g2 : c' ≤ maxLen) (hr : Rd W a' (ks .u32 (dg BB n))) => of_walk s n a' c' W g1 g2 (by omega) hr)
  have hn1 := cmpN_ge z1.natAbs z2.natAbs
  have hcb : -1 ≤ cmpN z1.natAbs z2.natAbs ∧ cmpN z1.natAbs z2.natAbs ≤ 1 := by unfold cmpN; (repeat' split) <;> omega
  obtain ⟨hcb1, hcb2⟩ := hcb
  have HY0 := Lib.hid (add_sign0 z1 z2)
  have HY1 := Lib.hid (add_sign1 z1 z2)
  have HY2 := Lib.hid (add_sign2 z1 z2)
  have r1 := h1.2.2
  have r2 := h2.2.2
  have hL0 : (dg BB (z1.natAbs + z2.natAbs)).length ≤ 300000 := by omega
  have hL1 : (dg BB (z1.natAbs - z2.natAbs)).length ≤ 300000 := by omega
  have hL2 : (dg BB (z2.natAbs - z1.natAbs)).length ≤ 300000 := by omega
  have HO0 := Lib.hid (HO.out (decide (z1 < 0)) _ hL0)
  have HO1 := Lib.hid (HO.out (decide (z1 < 0)) _ hL1)
  have HO2 := Lib.hid (HO.out (decide (z2 < 0)) _ hL2)
  clear h1 h2 hb1 hb2 hla hls1 hls2 HO hL0 hL1 hL2
  generalize z1 + z2 = y at *
  generalize z1.natAbs + z2.natAbs = m0 at *
  generalize z1.natAbs - z2.natAbs = m1 at *
  generalize z2.natAbs - z1.natAbs = m2 at *
  generalize cmpN z1.natAbs z2.natAbs = q at *
  generalize decide (z1 < 0) = s1 at *
  generalize decide (z2 < 0) = s2 at *
  generalize hna : (dg BB z1.natAbs).length = na at *
  generalize hnb : (dg BB z2.natAbs).length = nb at *
  clear hna hnb
  cases he : (s1 == s2)
  · rw [he] at HY0 HY1 HY2
    have HE := Lib.hid he
    by_cases hq : 0 ≤ q
    · have hle := hn1.1 hq
      have HF := HY1.out rfl hle
      rw [HF] at HO1
      have HS := Lib.hid (fun W p r => HS1.out W p r hle)
      clear HA HS1 HS2 HO0 HO2 HY0 HY1 HY2 hn1 HF hle
      go_enter Try.func47, Try.ntmps47
      go_wp2_with fail
      obtain ⟨W0, hW0, q0, q1, q2, x0, hs0⟩ := two_boxes w (.bool s1) (.slice a na ca) (.bool s2) (.slice b nb cb)
      rw [hW0]
      have k0 := q0.cell (i := 0) rfl
      have k1 := q0.cell (i := 1) rfl
      have k2 := q1.cell (i := 0) rfl
      have k3 := q1.cell (i := 1) rfl
      have QQ := Lib.hid (And.intro q0 (And.intro q1 (And.intro q2 (And.intro x0 hs0))))
      clear hW0 q0 q1 q2 x0 hs0
      go_quiet (fail)
      go_wp2_with (go_at_call 109; refine (HC.out _ ?_ ?_).mono ?_; exact (r1.ext QQ.out.2.2.2.1).drew; exact (r2.ext QQ.out.2.2.2.1).drew; rintro e w1 ⟨rfl, g0⟩)
      have p0 := Row.ext (show Row (W0.drewN nq) _ _ _ from QQ.out.1) g0
      have p1 := Row.ext (show Row (W0.drewN nq) _ _ _ from QQ.out.2.1) g0
      have p2 := Row.ext (show Row (W0.drewN nq) _ _ _ from QQ.out.2.2.1) g0
      have px := (Ext.drewN QQ.out.2.2.2.1 nq).trans g0
      have ps : w.heap.size + 1 + 1 + 1 ≤ w1.heap.size := by have h1 := g0.size; have h2 := QQ.out.2.2.2.2; simp only [World.drewN] at h1; omega
      have PP := Lib.hid (And.intro p0 (And.intro p1 (And.intro p2 (And.intro px ps))))
      have k0 := p0.cell (i := 0) rfl
      have k1 := p0.cell (i := 1) rfl
      have k2 := p1.cell (i := 0) rfl
      have k3 := p1.cell (i := 1) rfl
      clear p0 p1 p2 px ps
      go_region_held3 (fun w' => w'.cell? ⟨w.heap.size, 0, none⟩ = some (.bool s1) ∧ w'.cell? ⟨w.heap.size, 1, none⟩ = some (.slice a na ca) ∧ w'.cell? ⟨w.heap.size + 1, 0, none⟩ = some (.bool s2) ∧ w'.cell? ⟨w.heap.size + 1, 1, none⟩ = some (.slice b nb cb)) (first | exact held4 PP.out.1.drew PP.out.2.1.drew | exact held4 (row_far2 (PP.out.1.drew.ext (Ext.trans g4 t4)) (by omega) _ _) (row_far2 (PP.out.2.1.drew.ext (Ext.trans g4 t4)) (by omega) _ _) | exact held4 (PP.out.1.drew.ext (Ext.trans g4 t4)) (PP.out.2.1.drew.ext (Ext.trans g4 t4)) | exact held4 (PP.out.1.drew.ext g4) (PP.out.2.1.drew.ext g4)) (first
        | (go_at_call 110; refine (HS.out _ ?_ ?_).mono ?_; exact (r1.ext PP.out.2.2.2.1).drew; exact (r2.ext PP.out.2.2.2.1).drew; rintro e w2 ⟨a2, c2, rfl, g1, g2, g3, g4, g5⟩)
        | (go_at_call 81; refine (HO1.out _ _ _ ?_ ?_ ?_).mono ?_; exact g1; exact g2; exact g3; rintro e w3 ⟨a3, c3, rfl, t1, t2, t3, t4, t5⟩; have h0 := ((PP.out.2.2.1.drew.ext g4).ext t4).cell (i := 0) rfl; have h1 := ((PP.out.2.2.1.drew.ext g4).ext t4).cell (i := 1) rfl; have h2 := ((PP.out.2.2.1.drew.ext g4).ext t4).frozen 0; have h3 := ((PP.out.2.2.1.drew.ext g4).ext t4).frozen 1))
      go_wp2_with fail
      obtain ⟨p0, p1, p2, px, ps⟩ := PP.out
      have r3 := (((p2.drew.ext g4).ext t4).set 0 (.bool (decide (y < 0)))).set 1 (.slice a3 (dg BB y.natAbs).length c3)
      have z0 := r3.cell (i := 0) rfl
      have z1 := r3.cell (i := 1) rfl
      refine bodyPost_ret (v := .agg #[.bool (decide (y < 0)), .slice a3 (dg BB y.natAbs).length c3]) ?_ rfl ?_
      · simp [results, Try.f47, go_sem, z0, z1]
      · have hz1 := g4.size
        simp only [World.drew] at hz1
        exact got_store (by omega) (by omega) (px.drew.trans g4) t1 t2 t3 t4 t5 _ _
    · have hle : z1.natAbs ≤ z2.natAbs := by have : ¬ z2.natAbs ≤ z1.natAbs := fun h => hq (hn1.2 h); omega
      have HF := HY2.out rfl hle
      rw [HF] at HO2
      have HS := Lib.hid (fun W p r => HS2.out W p r hle)
      clear HA HS1 HS2 HO0 HO1 HY0 HY1 HY2 hn1 HF hle
      go_enter Try.func47, Try.ntmps47
      go_wp2_with fail
      obtain ⟨W0, hW0, q0, q1, q2, x0, hs0⟩ := two_boxes w (.bool s1) (.slice a na ca) (.bool s2) (.slice b nb cb)
      rw [hW0]
      have k0 := q0.cell (i := 0) rfl
      have k1 := q0.cell (i := 1) rfl
      have k2 := q1.cell (i := 0) rfl
      have k3 := q1.cell (i := 1) rfl
      have QQ := Lib.hid (And.intro q0 (And.intro q1 (And.intro q2 (And.intro x0 hs0))))
      clear hW0 q0 q1 q2 x0 hs0
      go_quiet (fail)
      go_wp2_with (go_at_call 109; refine (HC.out _ ?_ ?_).mono ?_; exact (r1.ext QQ.out.2.2.2.1).drew; exact (r2.ext QQ.out.2.2.2.1).drew; rintro e w1 ⟨rfl, g0⟩)
      have p0 := Row.ext (show Row (W0.drewN nq) _ _ _ from QQ.out.1) g0
      have p1 := Row.ext (show Row (W0.drewN nq) _ _ _ from QQ.out.2.1) g0
      have p2 := Row.ext (show Row (W0.drewN nq) _ _ _ from QQ.out.2.2.1) g0
      have px := (Ext.drewN QQ.out.2.2.2.1 nq).trans g0
      have ps : w.heap.size + 1 + 1 + 1 ≤ w1.heap.size := by have h1 := g0.size; have h2 := QQ.out.2.2.2.2; simp only [World.drewN] at h1; omega
      have PP := Lib.hid (And.intro p0 (And.intro p1 (And.intro p2 (And.intro px ps))))
      have k0 := p0.cell (i := 0) rfl
      have k1 := p0.cell (i := 1) rfl
      have k2 := p1.cell (i := 0) rfl
      have k3 := p1.cell (i := 1) rfl
      clear p0 p1 p2 px ps
      go_region_held3 (fun w' => w'.cell? ⟨w.heap.size, 0, none⟩ = some (.bool s1) ∧ w'.cell? ⟨w.heap.size, 1, none⟩ = some (.slice a na ca) ∧ w'.cell? ⟨w.heap.size + 1, 0, none⟩ = some (.bool s2) ∧ w'.cell? ⟨w.heap.size + 1, 1, none⟩ = some (.slice b nb cb)) (first | exact held4 PP.out.1.drew PP.out.2.1.drew | exact held4 (row_far2 (PP.out.1.drew.ext (Ext.trans g4 t4)) (by omega) _ _) (row_far2 (PP.out.2.1.drew.ext (Ext.trans g4 t4)) (by omega) _ _) | exact held4 (PP.out.1.drew.ext (Ext.trans g4 t4)) (PP.out.2.1.drew.ext (Ext.trans g4 t4)) | exact held4 (PP.out.1.drew.ext g4) (PP.out.2.1.drew.ext g4)) (first
        | (go_at_call 110; refine (HS.out _ ?_ ?_).mono ?_; exact (r1.ext PP.out.2.2.2.1).drew; exact (r2.ext PP.out.2.2.2.1).drew; rintro e w2 ⟨a2, c2, rfl, g1, g2, g3, g4, g5⟩)
        | (go_at_call 81; refine (HO2.out _ _ _ ?_ ?_ ?_).mono ?_; exact g1; exact g2; exact g3; rintro e w3 ⟨a3, c3, rfl, t1, t2, t3, t4, t5⟩; have h0 := ((PP.out.2.2.1.drew.ext g4).ext t4).cell (i := 0) rfl; have h1 := ((PP.out.2.2.1.drew.ext g4).ext t4).cell (i := 1) rfl; have h2 := ((PP.out.2.2.1.drew.ext g4).ext t4).frozen 0; have h3 := ((PP.out.2.2.1.drew.ext g4).ext t4).frozen 1))
      go_wp2_with fail
      obtain ⟨p0, p1, p2, px, ps⟩ := PP.out
      have r3 := (((p2.drew.ext g4).ext t4).set 0 (.bool (decide (y < 0)))).set 1 (.slice a3 (dg BB y.natAbs).length c3)
      have z0 := r3.cell (i := 0) rfl
      have z1 := r3.cell (i := 1) rfl
      refine bodyPost_ret (v := .agg #[.bool (decide (y < 0)), .slice a3 (dg BB y.natAbs).length c3]) ?_ rfl ?_
      · simp [results, Try.f47, go_sem, z0, z1]
      · have hz1 := g4.size
        simp only [World.drew] at hz1
        exact got_store (by omega) (by omega) (px.drew.trans g4) t1 t2 t3 t4 t5 _ _
  · have HF := HY0.out he
    rw [HF] at HO0
    have HE := Lib.hid he
    clear HS1 HS2 HO1 HO2 HY0 HY1 HY2 hn1 HF HC
    go_enter Try.func47, Try.ntmps47
    go_wp2_with fail
    obtain ⟨W0, hW0, q0, q1, q2, x0, hs0⟩ := two_boxes w (.bool s1) (.slice a na ca) (.bool s2) (.slice b nb cb)
    rw [hW0]
    have k0 := q0.cell (i := 0) rfl
    have k1 := q0.cell (i := 1) rfl
    have k2 := q1.cell (i := 0) rfl
    have k3 := q1.cell (i := 1) rfl
    have QQ := Lib.hid (And.intro q0 (And.intro q1 (And.intro q2 (And.intro x0 hs0))))
    clear hW0 q0 q1 q2 x0 hs0
    go_quiet (fail)
    go_wp2_with fail
    obtain ⟨w1, hw1⟩ : ∃ w1, W0.drewN nq = w1 := ⟨_, rfl⟩
    have g0 : Ext (W0.drewN nq) w1 := by rw [← hw1]; exact Ext.refl _
    rw [hw1]
    clear hw1
    have p0 := Row.ext (show Row (W0.drewN nq) _ _ _ from QQ.out.1) g0
    have p1 := Row.ext (show Row (W0.drewN nq) _ _ _ from QQ.out.2.1) g0
    have p2 := Row.ext (show Row (W0.drewN nq) _ _ _ from QQ.out.2.2.1) g0
    have px := (Ext.drewN QQ.out.2.2.2.1 nq).trans g0
    have ps : w.heap.size + 1 + 1 + 1 ≤ w1.heap.size := by have h1 := g0.size; have h2 := QQ.out.2.2.2.2; simp only [World.drewN] at h1; omega
    have PP := Lib.hid (And.intro p0 (And.intro p1 (And.intro p2 (And.intro px ps))))
    have k0 := p0.cell (i := 0) rfl
    have k1 := p0.cell (i := 1) rfl
    have k2 := p1.cell (i := 0) rfl
    have k3 := p1.cell (i := 1) rfl
    clear p0 p1 p2 px ps
    go_region_held3 (fun w' => w'.cell? ⟨w.heap.size, 0, none⟩ = some (.bool s1) ∧ w'.cell? ⟨w.heap.size, 1, none⟩ = some (.slice a na ca) ∧ w'.cell? ⟨w.heap.size + 1, 0, none⟩ = some (.bool s2) ∧ w'.cell? ⟨w.heap.size + 1, 1, none⟩ = some (.slice b nb cb)) (first | exact held4 PP.out.1.drew PP.out.2.1.drew | exact held4 (row_far2 (PP.out.1.drew.ext (Ext.trans g4 t4)) (by omega) _ _) (row_far2 (PP.out.2.1.drew.ext (Ext.trans g4 t4)) (by omega) _ _) | exact held4 (PP.out.1.drew.ext (Ext.trans g4 t4)) (PP.out.2.1.drew.ext (Ext.trans g4 t4)) | exact held4 (PP.out.1.drew.ext g4) (PP.out.2.1.drew.ext g4)) (first
      | (go_at_call 108; refine (HA.out _ ?_ ?_).mono ?_; exact (r1.ext PP.out.2.2.2.1).drew; exact (r2.ext PP.out.2.2.2.1).drew; rintro e w2 ⟨v2, rfl, own2, g4⟩; obtain ⟨a2, c2, rfl, g1, g2, g3⟩ := own_form own2)
      | (go_at_call 81; refine (HO0.out _ _ _ ?_ ?_ ?_).mono ?_; exact g1; exact g2; exact g3; rintro e w3 ⟨a3, c3, rfl, t1, t2, t3, t4, t5⟩; have h0 := ((PP.out.2.2.1.drew.ext g4).ext t4).cell (i := 0) rfl; have h1 := ((PP.out.2.2.1.drew.ext g4).ext t4).cell (i := 1) rfl; have h2 := ((PP.out.2.2.1.drew.ext g4).ext t4).frozen 0; have h3 := ((PP.out.2.2.1.drew.ext g4).ext t4).frozen 1))
    go_wp2_with fail
    obtain ⟨p0, p1, p2, px, ps⟩ := PP.out
    have r3 := (((p2.drew.ext g4).ext t4).set 0 (.bool (decide (y < 0)))).set 1 (.slice a3 (dg BB y.natAbs).length c3)
    have z0 := r3.cell (i := 0) rfl
    have z1 := r3.cell (i := 1) rfl
    refine bodyPost_ret (v := .agg #[.bool (decide (y < 0)), .slice a3 (dg BB y.natAbs).length c3]) ?_ rfl ?_
    · simp [results, Try.f47, go_sem, z0, z1]
    · have hz1 := g4.size
      simp only [World.drew] at hz1
      exact got_store (by omega) (by omega) (px.drew.trans g4) t1 t2 t3 t4 t5 _ _
end Go.Proofs.Ytmlnpagkabmmpaa

/- Div and Gcd of integers. -/
namespace Go.Proofs.Ytmlnpagkabmmpaa
open Go.RowKit

/-- the quotient as the code gives it -/
def divZ (x y : Int) : Int := if y = 0 then 0 else x / y
def modZ (x y : Int) : Int := if y = 0 then 0 else x % y

theorem div_uniq {a b r q : Int} (hb : b ≠ 0) (h : r + b * q = a) (h0 : 0 ≤ r) (h1 : r < (b.natAbs : Int)) : divZ a b = q ∧ modZ a b = r := by
  unfold divZ modZ
  rw [if_neg hb, if_neg hb]
  rcases Int.lt_or_gt_of_ne hb with hn | hp
  · have hb' : 0 < -b := by omega
    have := (Int.ediv_emod_unique hb' (a := a) (r := r) (q := -q)).2 ⟨by rw [Int.neg_mul_neg]; exact h, h0, by omega⟩
    rw [Int.ediv_neg, Int.emod_neg] at this
    exact ⟨by omega, this.2⟩
  · exact (Int.ediv_emod_unique hp).2 ⟨h, h0, by omega⟩

theorem div_sign1 (z1 z2 : Int) (h0 : 0 < z2.natAbs) (h : (decide (z1 < 0) && decide (0 < z1.natAbs % z2.natAbs)) = true) :
    sz (decide (z1 < 0) != decide (z2 < 0)) (z1.natAbs / z2.natAbs + 1) = divZ z1 z2 ∧ sz false (z2.natAbs - z1.natAbs % z2.natAbs) = modZ z1 z2 := by
  simp only [Bool.and_eq_true, decide_eq_true_eq] at h
  have hr := Nat.mod_lt z1.natAbs h0
  have hd := Nat.mod_add_div z1.natAbs z2.natAbs
  generalize z1.natAbs % z2.natAbs = r at *
  generalize z1.natAbs / z2.natAbs = q at *
  have e : ((z2.natAbs - r : Nat) : Int) = z2.natAbs - r := Int.ofNat_sub (by omega)
  have hd' : (r : Int) + (z2.natAbs : Int) * q = z1.natAbs := by exact_mod_cast hd
  have := div_uniq (a := z1) (b := z2) (r := sz false (z2.natAbs - r)) (q := sz (decide (z1 < 0) != decide (z2 < 0)) (q + 1)) (by omega) ?_ (by unfold sz; simp only [Bool.false_eq_true, if_false]; omega) (by unfold sz; simp only [Bool.false_eq_true, if_false]; omega)
  · exact ⟨this.1.symm, this.2.symm⟩
  · unfold sz
    rw [decide_eq_true h.1]
    simp only [Bool.false_eq_true, if_false]
    rw [e]
    by_cases h2 : z2 < 0
    · rw [decide_eq_true h2]
      simp only [bne_self_eq_false, Bool.false_eq_true, if_false]
      have ez : (z2.natAbs : Int) = -z2 := by omega
      rw [ez] at hd' ⊢
      have : (z1.natAbs : Int) = -z1 := by omega
      rw [this] at hd'
      rw [Int.natCast_add, Int.mul_add]
      rw [Int.neg_mul] at hd'
      simp; omega
    · rw [decide_eq_false h2]
      simp only [Bool.true_bne, Bool.not_false, if_true]
      have ez : (z2.natAbs : Int) = z2 := by omega
      rw [ez] at hd' ⊢
      have : (z1.natAbs : Int) = -z1 := by omega
      rw [this] at hd'
      rw [Int.natCast_add, Int.mul_neg, Int.mul_add]
      simp; omega
theorem div_sign2 (z1 z2 : Int) (h0 : 0 < z2.natAbs) (h : (decide (z1 < 0) && decide (0 < z1.natAbs % z2.natAbs)) = false) :
    sz (decide (z1 < 0) != decide (z2 < 0)) (z1.natAbs / z2.natAbs) = divZ z1 z2 ∧ sz false (z1.natAbs % z2.natAbs) = modZ z1 z2 := by
  have hr := Nat.mod_lt z1.natAbs h0
  have hd := Nat.mod_add_div z1.natAbs z2.natAbs
  generalize z1.natAbs % z2.natAbs = r at *
  generalize z1.natAbs / z2.natAbs = q at *
  have hd' : (r : Int) + (z2.natAbs : Int) * q = z1.natAbs := by exact_mod_cast hd
  have := div_uniq (a := z1) (b := z2) (r := sz false r) (q := sz (decide (z1 < 0) != decide (z2 < 0)) q) (by omega) ?_ (by unfold sz; simp only [Bool.false_eq_true, if_false]; omega) (by unfold sz; simp only [Bool.false_eq_true, if_false]; omega)
  · exact ⟨this.1.symm, this.2.symm⟩
  · unfold sz
    simp only [Bool.false_eq_true, if_false]
    by_cases h1 : z1 < 0 <;> by_cases h2 : z2 < 0
    · rw [decide_eq_true h1] at h
      have : r = 0 := by simpa using h
      subst this
      rw [decide_eq_true h1, decide_eq_true h2]
      simp only [bne_self_eq_false, Bool.false_eq_true, if_false]
      have ez : (z2.natAbs : Int) = -z2 := by omega
      have : (z1.natAbs : Int) = -z1 := by omega
      rw [ez, this, Int.neg_mul] at hd'
      omega
    · rw [decide_eq_true h1] at h
      have : r = 0 := by simpa using h
      subst this
      rw [decide_eq_true h1, decide_eq_false h2]
      simp only [Bool.true_bne, Bool.not_false, if_true]
      have ez : (z2.natAbs : Int) = z2 := by omega
      have : (z1.natAbs : Int) = -z1 := by omega
      rw [ez, this] at hd'
      rw [Int.mul_neg]; omega
    · rw [decide_eq_false h1, decide_eq_true h2]
      simp only [Bool.false_bne, if_true]
      have ez : (z2.natAbs : Int) = -z2 := by omega
      have : (z1.natAbs : Int) = z1 := by omega
      rw [ez, this, Int.neg_mul] at hd'
      rw [Int.mul_neg]; omega
    · rw [decide_eq_false h1, decide_eq_false h2]
      simp only [bne_self_eq_false, Bool.false_eq_true, if_false]
      have ez : (z2.natAbs : Int) = z2 := by omega
      have : (z1.natAbs : Int) = z1 := by omega
      rw [ez, this] at hd'
      omega

/-- the two results of a quotient -/
def GotDiv (W : World) (q r : Int) (e : Ending) (w' : World) : Prop :=
  ∃ a c b d, e = .returned (.tuple #[.agg #[.bool (decide (q < 0)), .slice a (dg BB q.natAbs).length c], .agg #[.bool (decide (r < 0)), .slice b (dg BB r.natAbs).length d]]) ∧ IsInt w' q a c ∧ IsInt w' r b d ∧ Ext W w' ∧ From W.heap.size a ∧ From W.heap.size b

theorem two_boxes2 (w : World) (u0 u1 v0 v1 : Value) :
    ∃ W0, (((w.alloc (.cells #[u0, u1] 24)).alloc (.cells #[v0, v1] 24)).alloc (.cells #[.bool false, .slice none 0 0] 24)).alloc (.cells #[.bool false, .slice none 0 0] 24) = W0 ∧ Row W0 w.heap.size 24 [u0, u1] ∧ Row W0 (w.heap.size + 1) 24 [v0, v1] ∧ Row W0 (w.heap.size + 1 + 1) 24 [.bool false, .slice none 0 0] ∧ Row W0 (w.heap.size + 1 + 1 + 1) 24 [.bool false, .slice none 0 0] ∧ Ext w W0 ∧ W0.heap.size = w.heap.size + 1 + 1 + 1 + 1 := by
  obtain ⟨W, hW, q0, q1, q2, x, hs⟩ := two_boxes w u0 u1 v0 v1
  rw [hW]
  refine ⟨_, rfl, q0.alloc _, q1.alloc _, q2.alloc _, ?_, x.alloc _, by simp [hs]⟩
  have := Row.new W 24 [.bool false, .slice none 0 0]
  rwa [hs] at this

theorem Rd.far {w : World} {a : Option Addr} {xs : List Value} {g : Nat} {p : Addr} (h : Rd w a xs) (f : From g a) (hp : p.block < g) (u : Value) : Rd (w.setCell p u) a xs :=
  h.keep fun bb off e _ => Below.heap_setCell _ _ _ _ (by have := f _ e; simp only at this; omega)
/-- the two results lie in the call's own cells -/
theorem div_end {w W : World} {g : Nat} {yq yr : Int} {a b : Option Addr} {c d : Nat} (hg : g = w.heap.size + 1 + 1)
    (m2 : Row W g 24 [.bool false, .slice none 0 0]) (m3 : Row W (g + 1) 24 [.bool false, .slice none 0 0]) (x : Ext w W)
    (h1 : IsInt W yq a c) (h2 : IsInt W yr b d) (f1 : From (w.heap.size + 1 + 1 + 1 + 1) a) (f2 : From (w.heap.size + 1 + 1 + 1 + 1) b) :
    Row ((((W.setCell ⟨g, 0, none⟩ (.bool (decide (yq < 0)))).setCell ⟨g, 1, none⟩ (.slice a (dg BB yq.natAbs).length c)).setCell ⟨g + 1, 0, none⟩ (.bool (decide (yr < 0)))).setCell ⟨g + 1, 1, none⟩ (.slice b (dg BB yr.natAbs).length d)) g 24 [.bool (decide (yq < 0)), .slice a (dg BB yq.natAbs).length c] ∧
    Row ((((W.setCell ⟨g, 0, none⟩ (.bool (decide (yq < 0)))).setCell ⟨g, 1, none⟩ (.slice a (dg BB yq.natAbs).length c)).setCell ⟨g + 1, 0, none⟩ (.bool (decide (yr < 0)))).setCell ⟨g + 1, 1, none⟩ (.slice b (dg BB yr.natAbs).length d)) (g + 1) 24 [.bool (decide (yr < 0)), .slice b (dg BB yr.natAbs).length d] ∧
    GotDiv w yq yr (.returned (.tuple #[.agg #[.bool (decide (yq < 0)), .slice a (dg BB yq.natAbs).length c], .agg #[.bool (decide (yr < 0)), .slice b (dg BB yr.natAbs).length d]])) ((((W.setCell ⟨g, 0, none⟩ (.bool (decide (yq < 0)))).setCell ⟨g, 1, none⟩ (.slice a (dg BB yq.natAbs).length c)).setCell ⟨g + 1, 0, none⟩ (.bool (decide (yr < 0)))).setCell ⟨g + 1, 1, none⟩ (.slice b (dg BB yr.natAbs).length d)) := by
  subst hg
  have kp : ∀ {z : Int} {a' : Option Addr} {c' : Nat}, IsInt W z a' c' → From (w.heap.size + 1 + 1 + 1 + 1) a' → IsInt ((((W.setCell ⟨w.heap.size + 1 + 1, 0, none⟩ (.bool (decide (yq < 0)))).setCell ⟨w.heap.size + 1 + 1, 1, none⟩ (.slice a (dg BB yq.natAbs).length c)).setCell ⟨w.heap.size + 1 + 1 + 1, 0, none⟩ (.bool (decide (yr < 0)))).setCell ⟨w.heap.size + 1 + 1 + 1, 1, none⟩ (.slice b (dg BB yr.natAbs).length d)) z a' c' := by
    intro z a' c' h f
    refine ⟨h.1, h.2.1, ?_⟩
    exact (((h.2.2.far f (by show w.heap.size + 1 + 1 < _; omega) _).far f (by show w.heap.size + 1 + 1 < _; omega) _).far f (by show w.heap.size + 1 + 1 + 1 < _; omega) _).far f (by show w.heap.size + 1 + 1 + 1 < _; omega) _
  refine ⟨?_, ?_, a, c, b, d, rfl, kp h1 f1, kp h2 f2, ?_, f1.mono (by omega), f2.mono (by omega)⟩
  · exact row_far2 ((m2.set 0 _).set 1 _) (by omega) _ _
  · exact (Row.set (Row.set ((m3.far (p := ⟨w.heap.size + 1 + 1, 0, none⟩) (Nat.ne_of_gt (by show w.heap.size + 1 + 1 < _; omega)) _).far (p := ⟨w.heap.size + 1 + 1, 1, none⟩) (Nat.ne_of_gt (by show w.heap.size + 1 + 1 < _; omega)) _) 0 _) 1 _)
  · exact (((x.set (p := ⟨w.heap.size + 1 + 1, 0, none⟩) (by show _ ≤ w.heap.size + 1 + 1; omega) _).set (p := ⟨w.heap.size + 1 + 1, 1, none⟩) (by show _ ≤ w.heap.size + 1 + 1; omega) _).set (p := ⟨w.heap.size + 1 + 1 + 1, 0, none⟩) (by show _ ≤ w.heap.size + 1 + 1 + 1; omega) _).set (p := ⟨w.heap.size + 1 + 1 + 1, 1, none⟩) (by show _ ≤ w.heap.size + 1 + 1 + 1; omega) _

set_option maxRecDepth 100000 in
set_option maxHeartbeats 4000000 in
theorem divz_walk (z1 z2 : Int) (a b : Option Addr) (ca cb : Nat) (w : World) (hb1 : (dg BB z1.natAbs).length ≤ 100000) (hb2 : (dg BB z2.natAbs).length ≤ 100000) (h1 : IsInt w z1 a ca) (h2 : IsInt w z2 b cb) :
    Calls Try.prog 79 #[.agg #[.bool (decide (z1 < 0)), .slice a (dg BB z1.natAbs).length ca], .agg #[.bool (decide (z2 < 0)), .slice b (dg BB z2.natAbs).length cb]] w (GotDiv w (divZ z1 z2) (modZ z1 z2)) := by
  have hlz := dg_len0 BB_gt z2.natAbs
  rcases Nat.eq_zero_or_pos z2.natAbs with h0 | h0
  · have hd0 : divZ z1 z2 = 0 := by unfold divZ; rw [if_pos (by omega)]
    have hm0 : modZ z1 z2 = 0 := by unfold modZ; rw [if_pos (by omega)]
    rw [hd0, hm0]
    have hl0 := hlz.2 h0
    rw [hl0]
    generalize decide (z1 < 0) = s1
    generalize decide (z2 < 0) = s2
    generalize (dg BB z1.natAbs).length = na
    clear hd0 hm0 hl0 h0 hlz
    obtain ⟨W0, hW0, q0, q1, q2, q3, x0, hs0⟩ := two_boxes2 w (.bool s1) (.slice a na ca) (.bool s2) (.slice b 0 cb)
    have HW0 := Lib.hid hW0
    have QQ := Lib.hid (And.intro q0 (And.intro q1 (And.intro q2 (And.intro q3 (And.intro x0 hs0)))))
    have k2 := q1.cell (i := 0) rfl
    have k3 := q1.cell (i := 1) rfl
    have k4 := q2.cell (i := 0) rfl
    have k5 := q2.cell (i := 1) rfl
    have k6 := q3.cell (i := 0) rfl
    have k7 := q3.cell (i := 1) rfl
    have f4 := q2.frozen 0
    have f5 := q2.frozen 1
    have f6 := q3.frozen 0
    have f7 := q3.frozen 1
    clear hW0 q0 q1 q2 q3 x0 hs0
    go_enter Try.func79, Try.ntmps79
    go_wp2_with fail
    rw [HW0.out]
    obtain ⟨q0, q1, q2, q3, x0, hs0⟩ := QQ.out
    refine bodyPost_ret (v := .tuple #[.agg #[.bool false, .slice none 0 0], .agg #[.bool false, .slice none 0 0]]) ?_ rfl ?_
    · simp [results, Try.f79, go_sem, k4, k5, k6, k7]
    · exact ⟨none, 0, none, 0, rfl, ⟨Nat.le_refl _, by simp [maxLen], Rd.nil _ _⟩, ⟨Nat.le_refl _, by simp [maxLen], Rd.nil _ _⟩, x0, From.none _, From.none _⟩
  · have hln : 0 < (dg BB z2.natAbs).length := by omega
    have hqm := dg_len_mono BB_gt (Nat.div_le_self z1.natAbs z2.natAbs)
    have hq1 := dg_len_add BB_gt (z1.natAbs / z2.natAbs) 1
    have hrm := dg_len_mono BB_gt (Nat.le_of_lt (Nat.mod_lt z1.natAbs h0))
    have hsm := dg_len_mono BB_gt (Nat.sub_le z2.natAbs (z1.natAbs % z2.natAbs))
    have hl1 : (dg BB 1).length = 1 := by rw [dg_one BB_gt (by decide) BB_gt]; rfl
    have HD := Lib.hid (fun W (hr : Rd W a (ks .u32 (dg BB z1.natAbs))) (hr2 : Rd W b (ks .u32 (dg BB z2.natAbs))) => divd_walk a b ca cb z1.natAbs z2.natAbs W h0 hb1 hb2 hr hr2)
    have HA := Lib.hid (fun W a' ca' b' cb' (hr : Rd W a' (ks .u32 (dg BB (z1.natAbs / z2.natAbs)))) (hr2 : Rd W b' (ks .u32 (dg BB 1))) => add_walk a' b' ca' cb' (z1.natAbs / z2.natAbs) 1 W (by omega) (by omega) hr hr2)
    rw [hl1, dg_one BB_gt (t := 1) (by decide) BB_gt] at HA
    have HS := Lib.hid (fun W b' cb' (hr : Rd W b (ks .u32 (dg BB z2.natAbs))) (hr2 : Rd W b' (ks .u32 (dg BB (z1.natAbs % z2.natAbs)))) => sub_walk b b' cb cb' z2.natAbs (z1.natAbs % z2.natAbs) W (Nat.le_of_lt (Nat.mod_lt _ h0)) (by omega) (by omega) hr hr2)
    have HO := Lib.hid (fun (s : Bool) (n : Nat) (hn : (dg BB n).length ≤ 300000) W a' c' (g1 : (dg BB n).length ≤ c') (g2 : c' ≤ maxLen) (hr : Rd W a' (ks .u32 (dg BB n))) => of_walk s n a' c' W g1 g2 (by omega) hr)
    have HOQ1 := Lib.hid (HO.out (decide (z1 < 0) != decide (z2 < 0)) (z1.natAbs / z2.natAbs + 1) (by omega))
    have HOQ2 := Lib.hid (HO.out (decide (z1 < 0) != decide (z2 < 0)) (z1.natAbs / z2.natAbs) (by omega))
    have HOR1 := Lib.hid (HO.out false (z2.natAbs - z1.natAbs % z2.natAbs) (by omega))
    have HOR2 := Lib.hid (HO.out false (z1.natAbs % z2.natAbs) (by omega))
    have HL0 := dg_len0 BB_gt (z1.natAbs % z2.natAbs)
    have HL1 : decide (0 < z1.natAbs % z2.natAbs) = decide ((0 : Int) < ((dg BB (z1.natAbs % z2.natAbs)).length : Nat)) := by
      rw [Bool.eq_iff_iff]; simp only [decide_eq_true_eq]; omega
    have hlr : (dg BB (z1.natAbs % z2.natAbs)).length ≤ 100000 := by omega
    have HZ1 := Lib.hid (div_sign1 z1 z2 h0)
    have HZ2 := Lib.hid (div_sign2 z1 z2 h0)
    rw [HL1] at HZ1 HZ2
    have r1 := h1.2.2
    have r2 := h2.2.2
    clear h1 h2 hb1 hb2 HO hqm hq1 hrm hsm hl1 hlz HL0 HL1
    generalize divZ z1 z2 = yq at *
    generalize modZ z1 z2 = yr at *
    generalize z1.natAbs / z2.natAbs + 1 = q1 at *
    generalize z1.natAbs / z2.natAbs = q at *
    generalize z2.natAbs - z1.natAbs % z2.natAbs = rr1 at *
    generalize z1.natAbs % z2.natAbs = r at *
    generalize decide (z1 < 0) = s1 at *
    generalize decide (z2 < 0) = s2 at *
    generalize hna : (dg BB z1.natAbs).length = na at *
    generalize hnb : (dg BB z2.natAbs).length = nb at *
    clear hna hnb h0
    have R1 := Lib.hid r1
    have R2 := Lib.hid r2
    clear r1 r2
    cases s1
    · obtain ⟨hy1, hy2⟩ := HZ2.out rfl
      rw [hy1] at HOQ2
      rw [hy2] at HOR2
      rw [Bool.false_bne] at HOQ2
      clear HZ1 HZ2 HOQ1 HOR1 HA HS hy1 hy2
      obtain ⟨W0, hW0, q0, q1, q2, q3, x0, hs0⟩ := two_boxes2 w (.bool false) (.slice a na ca) (.bool s2) (.slice b nb cb)
      have HW0 := Lib.hid hW0
      have QQ := Lib.hid (And.intro q0 (And.intro q1 (And.intro q2 (And.intro q3 (And.intro x0 hs0)))))
      clear hW0 q0 q1 q2 q3 x0 hs0
      go_enter Try.func79, Try.ntmps79
      go_wp2_with (go_at_call 144; rw [HW0.out]; refine (HD.out _ ?_ ?_).mono ?_; exact R1.out.ext QQ.out.2.2.2.2.1; exact R2.out.ext QQ.out.2.2.2.2.1; rintro e w1 ⟨a1, c1, b1, d1, rfl, t1, t2, t3, t4, t5, t6, g0⟩; have p0 := QQ.out.1.ext g0; have p1 := QQ.out.2.1.ext g0; have p2 := QQ.out.2.2.1.ext g0; have p3 := QQ.out.2.2.2.1.ext g0; have k0 := p0.cell (i := 0) rfl; have k1 := p0.cell (i := 1) rfl; have k2 := p1.cell (i := 0) rfl; have k3 := p1.cell (i := 1) rfl; have ps : w.heap.size + 1 + 1 + 1 + 1 ≤ w1.heap.size := (by have h1 := g0.size; have h2 := QQ.out.2.2.2.2.2; omega); have px := QQ.out.2.2.2.2.1.trans g0)
      obtain ⟨u1, u2, u5⟩ := And.intro t1 (And.intro t2 t5)
      obtain ⟨u3, u4, u6⟩ := And.intro t3 (And.intro t4 t6)
      clear t1 t2 t3 t4 t5 t6
      refine (HOQ2.out _ _ _ u1 u2 u5).mono ?_
      rintro e w2 ⟨a2, c2, rfl, v1, v2, v3, v4, v5⟩
      have P2 := Lib.hid (And.intro (p2.ext v4) (p3.ext v4))
      clear k0 k1 k2 k3 p0 p1 p2 p3
      go_wp2_with fail
      refine (HOR2.out _ _ _ u3 u4 (u6.ext v4)).mono ?_
      rintro e w3 ⟨a3, c3, rfl, y1, y2, y3, y4, y5⟩
      have m2 := P2.out.1.ext y4
      have m3 := P2.out.2.ext y4
      have k4 := m2.cell (i := 0) rfl
      have k5 := m2.cell (i := 1) rfl
      have k6 := m3.cell (i := 0) rfl
      have k7 := m3.cell (i := 1) rfl
      have f4 := m2.frozen 0
      have f5 := m2.frozen 1
      have f6 := m3.frozen 0
      have f7 := m3.frozen 1
      have M := Lib.hid (And.intro m2 (And.intro m3 (And.intro v3 y3)))
      clear m2 m3
      go_wp2_with fail
      obtain ⟨m2, m3, v3, y3⟩ := M.out
      have hv4 := v4.size
      obtain ⟨n2, n3, n4⟩ := div_end rfl m2 m3 (((px).trans v4).trans y4) ⟨v1, v2, v3.ext y4⟩ ⟨y1, y2, y3⟩ (v5.mono (by omega)) (y5.mono (by omega))
      have j4 := n2.cell (i := 0) rfl
      have j5 := n2.cell (i := 1) rfl
      have j6 := n3.cell (i := 0) rfl
      have j7 := n3.cell (i := 1) rfl
      clear k4 k5 k6 k7 f4 f5 f6 f7 m2 m3
      refine bodyPost_ret (v := .tuple #[.agg #[.bool (decide (yq < 0)), .slice a2 (dg BB yq.natAbs).length c2], .agg #[.bool (decide (yr < 0)), .slice a3 (dg BB yr.natAbs).length c3]]) ?_ rfl n4
      simp [results, Try.f79, go_sem, j4, j5, j6, j7]
    · by_cases hr0 : 0 < (dg BB r).length
      · obtain ⟨hy1, hy2⟩ := HZ1.out (by rw [Bool.true_and]; exact decide_eq_true (by omega))
        rw [hy1] at HOQ1
        rw [hy2] at HOR1
        rw [Bool.true_bne] at HOQ1
        clear HZ1 HZ2 HOQ2 HOR2 hy1 hy2
        obtain ⟨W0, hW0, q0, q1, q2, q3, x0, hs0⟩ := two_boxes2 w (.bool true) (.slice a na ca) (.bool s2) (.slice b nb cb)
        have HW0 := Lib.hid hW0
        have QQ := Lib.hid (And.intro q0 (And.intro q1 (And.intro q2 (And.intro q3 (And.intro x0 hs0)))))
        clear hW0 q0 q1 q2 q3 x0 hs0
        go_enter Try.func79, Try.ntmps79
        go_wp2_with (go_at_call 144; rw [HW0.out]; refine (HD.out _ ?_ ?_).mono ?_; exact R1.out.ext QQ.out.2.2.2.2.1; exact R2.out.ext QQ.out.2.2.2.2.1; rintro e w1 ⟨a1, c1, b1, d1, rfl, t1, t2, t3, t4, t5, t6, g0⟩; have p0 := QQ.out.1.ext g0; have p1 := QQ.out.2.1.ext g0; have p2 := QQ.out.2.2.1.ext g0; have p3 := QQ.out.2.2.2.1.ext g0; have k0 := p0.cell (i := 0) rfl; have k1 := p0.cell (i := 1) rfl; have k2 := p1.cell (i := 0) rfl; have k3 := p1.cell (i := 1) rfl; have ps : w.heap.size + 1 + 1 + 1 + 1 ≤ w1.heap.size := (by have h1 := g0.size; have h2 := QQ.out.2.2.2.2.2; omega); have px := QQ.out.2.2.2.2.1.trans g0)
        have T := Lib.hid (And.intro t1 (And.intro t2 (And.intro t3 (And.intro t4 (And.intro t5 (And.intro t6 (And.intro px ps)))))))
        have PP := Lib.hid (And.intro p0 (And.intro p1 (And.intro p2 p3)))
        clear t1 t2 t3 t4 t5 t6 p0 p1 p2 p3 px ps
        go_region_held3 (fun w' => w'.cell? ⟨w.heap.size + 1, 1, none⟩ = some (.slice b nb cb)) (first
            | exact (pE.cell (i := 1) rfl)
            | exact ((pE.alloc _).cell (i := 1) rfl)
            | exact (PP.out.2.1.drew.cell (i := 1) rfl)
            | exact ((PP.out.2.1.alloc _).drew.cell (i := 1) rfl)) (first
          | (go_at_call 108; refine (HA.out _ _ _ _ _ ?_ ?_).mono ?_; (first | exact T.out.2.2.2.2.1.ext ((Ext.refl w1).alloc _).drew | exact T.out.2.2.2.2.1.ext xS1 | exact T.out.2.2.2.2.1.ext (xS1.alloc _)); (first | exact (Row.new w1 _ _).drew.rd | exact ((Row.new w1 _ _).drew.ext xS).rd | exact (Row.new _ _ _).rd); rintro e wA ⟨vA, rfl, ownA, xA⟩; obtain ⟨a6, c6, rfl, u1, u2, u5⟩ := own_form ownA; (first | have xA1 := (((Ext.refl w1).alloc _).drew).trans xA | have xA1 := xS1.trans xA | have xA1 := (xS1.alloc _).trans xA); have pE := PP.out.2.1.ext xA1)
          | (go_at_call 110; refine (HS.out _ _ _ ?_ ?_).mono ?_; (first | exact R2.out.ext (T.out.2.2.2.2.2.2.1.trans (Ext.refl w1).drew) | exact R2.out.ext (T.out.2.2.2.2.2.2.1.trans ((Ext.refl w1).alloc _).drew) | exact R2.out.ext (T.out.2.2.2.2.2.2.1.trans xA1)); (first | exact T.out.2.2.2.2.2.1.ext (Ext.refl w1).drew | exact T.out.2.2.2.2.2.1.ext ((Ext.refl w1).alloc _).drew | exact T.out.2.2.2.2.2.1.ext xA1); rintro e wS ⟨b6, d6, rfl, u3, u4, u6, xS, gS⟩; (first | have xS1 := (Ext.refl w1).drew.trans xS | have xS1 := ((Ext.refl w1).alloc _).drew.trans xS | have xS1 := xA1.trans xS); have pE := PP.out.2.1.ext xS1))
        all_goals
          clear pE
          first
            | (have e5 := u5.ext xS; have e6 := u6; have eP := xS1)
            | (have e6 := u6.ext xA; have e5 := u5; have eP := xA1)
          obtain ⟨p0, p1, p2, p3⟩ := PP.out
          obtain ⟨_, _, _, _, _, _, px, ps⟩ := T.out
          have p0 := p0.ext eP
          have p1 := p1.ext eP
          have p2 := p2.ext eP
          have p3 := p3.ext eP
          have px := px.trans eP
          have ps := Nat.le_trans ps eP.size
          have k0 := p0.cell (i := 0) rfl
          have k1 := p0.cell (i := 1) rfl
          have k2 := p1.cell (i := 0) rfl
          have k3 := p1.cell (i := 1) rfl
          clear u5 u6 xA xA1 xS xS1 ownA gS eP
          have u5 := e5
          have u6 := e6
          clear e5 e6
          go_wp2_with fail
          refine (HOQ1.out _ _ _ u1 u2 u5).mono ?_
          rintro e w2 ⟨a2, c2, rfl, v1, v2, v3, v4, v5⟩
          have P2 := Lib.hid (And.intro (p2.ext v4) (p3.ext v4))
          clear k0 k1 k2 k3 p0 p1 p2 p3
          go_wp2_with fail
          refine (HOR1.out _ _ _ u3 u4 (u6.ext v4)).mono ?_
          rintro e w3 ⟨a3, c3, rfl, y1, y2, y3, y4, y5⟩
          have m2 := P2.out.1.ext y4
          have m3 := P2.out.2.ext y4
          have k4 := m2.cell (i := 0) rfl
          have k5 := m2.cell (i := 1) rfl
          have k6 := m3.cell (i := 0) rfl
          have k7 := m3.cell (i := 1) rfl
          have f4 := m2.frozen 0
          have f5 := m2.frozen 1
          have f6 := m3.frozen 0
          have f7 := m3.frozen 1
          have M := Lib.hid (And.intro m2 (And.intro m3 (And.intro v3 y3)))
          clear m2 m3
          go_wp2_with fail
          obtain ⟨m2, m3, v3, y3⟩ := M.out
          have hv4 := v4.size
          obtain ⟨n2, n3, n4⟩ := div_end rfl m2 m3 (((px).trans v4).trans y4) ⟨v1, v2, v3.ext y4⟩ ⟨y1, y2, y3⟩ (v5.mono (by omega)) (y5.mono (by omega))
          have j4 := n2.cell (i := 0) rfl
          have j5 := n2.cell (i := 1) rfl
          have j6 := n3.cell (i := 0) rfl
          have j7 := n3.cell (i := 1) rfl
          clear k4 k5 k6 k7 f4 f5 f6 f7 m2 m3
          refine bodyPost_ret (v := .tuple #[.agg #[.bool (decide (yq < 0)), .slice a2 (dg BB yq.natAbs).length c2], .agg #[.bool (decide (yr < 0)), .slice a3 (dg BB yr.natAbs).length c3]]) ?_ rfl n4
          simp [results, Try.f79, go_sem, j4, j5, j6, j7]
      · obtain ⟨hy1, hy2⟩ := HZ2.out (by rw [Bool.true_and]; exact decide_eq_false (by omega))
        rw [hy1] at HOQ2
        rw [hy2] at HOR2
        rw [Bool.true_bne] at HOQ2
        clear HZ1 HZ2 HOQ1 HOR1 HA HS hy1 hy2
        obtain ⟨W0, hW0, q0, q1, q2, q3, x0, hs0⟩ := two_boxes2 w (.bool true) (.slice a na ca) (.bool s2) (.slice b nb cb)
        have HW0 := Lib.hid hW0
        have QQ := Lib.hid (And.intro q0 (And.intro q1 (And.intro q2 (And.intro q3 (And.intro x0 hs0)))))
        clear hW0 q0 q1 q2 q3 x0 hs0
        go_enter Try.func79, Try.ntmps79
        go_wp2_with (go_at_call 144; rw [HW0.out]; refine (HD.out _ ?_ ?_).mono ?_; exact R1.out.ext QQ.out.2.2.2.2.1; exact R2.out.ext QQ.out.2.2.2.2.1; rintro e w1 ⟨a1, c1, b1, d1, rfl, t1, t2, t3, t4, t5, t6, g0⟩; have p0 := QQ.out.1.ext g0; have p1 := QQ.out.2.1.ext g0; have p2 := QQ.out.2.2.1.ext g0; have p3 := QQ.out.2.2.2.1.ext g0; have k0 := p0.cell (i := 0) rfl; have k1 := p0.cell (i := 1) rfl; have k2 := p1.cell (i := 0) rfl; have k3 := p1.cell (i := 1) rfl; have ps : w.heap.size + 1 + 1 + 1 + 1 ≤ w1.heap.size := (by have h1 := g0.size; have h2 := QQ.out.2.2.2.2.2; omega); have px := QQ.out.2.2.2.2.1.trans g0)
        obtain ⟨u1, u2, u5⟩ := And.intro t1 (And.intro t2 t5)
        obtain ⟨u3, u4, u6⟩ := And.intro t3 (And.intro t4 t6)
        clear t1 t2 t3 t4 t5 t6
        refine (HOQ2.out _ _ _ u1 u2 u5).mono ?_
        rintro e w2 ⟨a2, c2, rfl, v1, v2, v3, v4, v5⟩
        have P2 := Lib.hid (And.intro (p2.ext v4) (p3.ext v4))
        clear k0 k1 k2 k3 p0 p1 p2 p3
        go_wp2_with fail
        refine (HOR2.out _ _ _ u3 u4 (u6.ext v4)).mono ?_
        rintro e w3 ⟨a3, c3, rfl, y1, y2, y3, y4, y5⟩
        have m2 := P2.out.1.ext y4
        have m3 := P2.out.2.ext y4
        have k4 := m2.cell (i := 0) rfl
        have k5 := m2.cell (i := 1) rfl
        have k6 := m3.cell (i := 0) rfl
        have k7 := m3.cell (i := 1) rfl
        have f4 := m2.frozen 0
        have f5 := m2.frozen 1
        have f6 := m3.frozen 0
        have f7 := m3.frozen 1
        have M := Lib.hid (And.intro m2 (And.intro m3 (And.intro v3 y3)))
        clear m2 m3
        go_wp2_with fail
        obtain ⟨m2, m3, v3, y3⟩ := M.out
        have hv4 := v4.size
        obtain ⟨n2, n3, n4⟩ := div_end rfl m2 m3 (((px).trans v4).trans y4) ⟨v1, v2, v3.ext y4⟩ ⟨y1, y2, y3⟩ (v5.mono (by omega)) (y5.mono (by omega))
        have j4 := n2.cell (i := 0) rfl
        have j5 := n2.cell (i := 1) rfl
        have j6 := n3.cell (i := 0) rfl
        have j7 := n3.cell (i := 1) rfl
        clear k4 k5 k6 k7 f4 f5 f6 f7 m2 m3
        refine bodyPost_ret (v := .tuple #[.agg #[.bool (decide (yq < 0)), .slice a2 (dg BB yq.natAbs).length c2], .agg #[.bool (decide (yr < 0)), .slice a3 (dg BB yr.natAbs).length c3]]) ?_ rfl n4
        simp [results, Try.f79, go_sem, j4, j5, j6, j7]
end Go.Proofs.Ytmlnpagkabmmpaa

/- Gcd of integers. -/
namespace Go.Proofs.Ytmlnpagkabmmpaa
open Go.RowKit

set_option maxRecDepth 100000 in
set_option maxHeartbeats 4000000 in
theorem gcdz_walk (z1 z2 : Int) (a b : Option Addr) (ca cb : Nat) (w : World) (hb1 : (dg BB z1.natAbs).length ≤ 100000) (hb2 : (dg BB z2.natAbs).length ≤ 100000) (h1 : IsInt w z1 a ca) (h2 : IsInt w z2 b cb) :
    Calls Try.prog 137 #[.agg #[.bool (decide (z1 < 0)), .slice a (dg BB z1.natAbs).length ca], .agg #[.bool (decide (z2 < 0)), .slice b (dg BB z2.natAbs).length cb]] w (GotInt w ((Nat.gcd z1.natAbs z2.natAbs : Nat) : Int)) := by
  obtain ⟨b1, b2, r1⟩ := h1
  obtain ⟨b3, b4, r2⟩ := h2
  generalize z1.natAbs = n1 at *
  generalize z2.natAbs = n2 at *
  have HO := Lib.hid (fun (n : Nat) (hn : (dg BB n).length ≤ 100000) W a' c' (g1 : (dg BB n).length ≤ c') (g2 : c' ≤ maxLen) (hr : Rd W a' (ks .u32 (dg BB n))) => of_walk false n a' c' W g1 g2 (by omega) hr)
  generalize decide (z1 < 0) = s1 at *
  generalize decide (z2 < 0) = s2 at *
  have B1 := Lib.hid (And.intro b1 (And.intro b2 r1))
  have B2 := Lib.hid (And.intro b3 (And.intro b4 r2))
  have HB := Lib.hid (And.intro hb1 hb2)
  clear b1 b2 r1 b3 b4 r2 hb1 hb2
  obtain ⟨na, hna⟩ : ∃ x, x = (dg BB n1).length := ⟨_, rfl⟩
  obtain ⟨nb, hnb⟩ : ∃ x, x = (dg BB n2).length := ⟨_, rfl⟩
  have HNA := Lib.hid hna
  have HNB := Lib.hid hnb
  rw [← hna, ← hnb]
  clear hna hnb
  go_enter Try.func137, Try.ntmps137
  go_wp2_with fail
  obtain ⟨W0, hW0, q0, q1, q2, x0, hs0⟩ := two_boxes w (.bool s1) (.slice a na ca) (.bool s2) (.slice b nb cb)
  rw [hW0]
  have k0 := q0.cell (i := 0) rfl
  have k1 := q0.cell (i := 1) rfl
  have k2 := q1.cell (i := 0) rfl
  have k3 := q1.cell (i := 1) rfl
  have QQ := Lib.hid (And.intro q2 (And.intro x0 hs0))
  clear hW0 q0 q1 q2 x0 hs0
  go_quiet (fail)
  go_wp2_with fail
  have QX : Ext w (W0.drewN nq) := (QQ.out.2.1).drewN nq
  have QS : w.heap.size + 1 + 1 + 1 ≤ (W0.drewN nq).heap.size := by have := QQ.out.2.2; simp only [World.drewN]; omega
  have QR : Row (W0.drewN nq) (w.heap.size + 1 + 1) 24 [.bool false, .slice none 0 0] := QQ.out.1
  generalize W0.drewN nq = W1 at *
  clear k0 k1 k2 k3 QQ
  have Q := Lib.hid (And.intro QX (And.intro QS QR))
  clear QX QS QR
  go_loopg [5, 6] n2 (fun k A B wr => ∃ n m a' ca' b' cb', A = .slice a' (dg BB n).length ca' ∧ B = .slice b' (dg BB m).length cb' ∧ k = m ∧ (dg BB n).length ≤ 100000 ∧ (dg BB m).length ≤ 100000 ∧ (dg BB n).length ≤ ca' ∧ ca' ≤ maxLen ∧ (dg BB m).length ≤ cb' ∧ cb' ≤ maxLen ∧ Rd wr a' (ks .u32 (dg BB n)) ∧ Rd wr b' (ks .u32 (dg BB m)) ∧ Ext W1 wr ∧ Hid (Nat.gcd n m = Nat.gcd n1 n2))
  case atStart =>
    exact ⟨n1, n2, a, ca, b, cb, by rw [← HNA.out], by rw [← HNB.out], rfl, HB.out.1, HB.out.2, B1.out.1, B1.out.2.1, B2.out.1, B2.out.2.1, B1.out.2.2.ext Q.out.1, B2.out.2.2.ext Q.out.1, Ext.refl _, rfl⟩
  case round =>
    obtain ⟨n, m, a', ca', b', cb', rfl, rfl, hgm, l1, l2, d1, d2, d3, d4, R1, R2, X, HG⟩ := hrel
    have HGM := Lib.hid hgm
    clear hgm
    have hl0 := dg_len0 BB_gt m
    rcases Nat.eq_zero_or_pos m with h0 | h0
    · have hl := hl0.2 h0
      have HGN : Nat.gcd n1 n2 = n := by have := HG.out; rw [h0, Nat.gcd_zero_right] at this; exact this.symm
      have HO1 := Lib.hid (HO.out n l1 wr a' ca' d1 d2 R1)
      have hsz : sz false n = ((Nat.gcd n1 n2 : Nat) : Int) := by rw [HGN]; rfl
      rw [hsz] at HO1
      clear hl0 HG HGN hsz h0 l2 R2 d3 d4
      generalize ((Nat.gcd n1 n2 : Nat) : Int) = y at *
      generalize (dg BB n).length = ln at *
      generalize (dg BB m).length = lm at *
      subst hl
      have q2 := Q.out.2.2.ext X
      go_wp2_with fail
      refine HO1.out.mono ?_
      rintro e w3 ⟨a3, c3, rfl, t1, t2, t3, t4, t5⟩
      have q3 := q2.ext t4
      have k0 := q3.cell (i := 0) rfl
      have k1 := q3.cell (i := 1) rfl
      have f0 := q3.frozen 0
      have f1 := q3.frozen 1
      clear q2 q3
      go_wp2_with fail
      have r3 := (((Q.out.2.2.ext X).ext t4).set 0 (.bool (decide (y < 0)))).set 1 (.slice a3 (dg BB y.natAbs).length c3)
      have z0 := r3.cell (i := 0) rfl
      have z1 := r3.cell (i := 1) rfl
      refine bodyPost_ret (v := .agg #[.bool (decide (y < 0)), .slice a3 (dg BB y.natAbs).length c3]) ?_ rfl ?_
      · simp [results, Try.f137, go_sem, z0, z1]
      · have hz1 := X.size
        have hz2 := Q.out.2.1
        exact got_store (by omega) (by omega) (Q.out.1.trans X) t1 t2 t3 t4 t5 _ _
    · have hl : 0 < (dg BB m).length := by omega
      have HD := Lib.hid (divd_walk a' b' ca' cb' n m wr h0 l1 l2 R1 R2)
      have hln : (dg BB (n % m)).length ≤ (dg BB m).length := dg_len_mono BB_gt (Nat.le_of_lt (Nat.mod_lt _ h0))
      have HF := Lib.hid (And.intro l1 (And.intro l2 (And.intro d1 (And.intro d2 (And.intro d3 (And.intro d4 (And.intro R1 (And.intro R2 (And.intro X hln)))))))))
      clear hl0 l1 l2 d1 d2 d3 d4 R1 R2 X hln
      have H0 := Lib.hid h0
      clear h0
      obtain ⟨lm, hlm⟩ : ∃ x, x = (dg BB m).length := ⟨_, rfl⟩
      rw [← hlm] at hl HD ⊢
      have HLM := Lib.hid hlm
      clear hlm
      generalize (dg BB n).length = ln at HD ⊢
      go_wp2_with (go_at_call 144; refine HD.out.mono ?_; rintro e w3 ⟨a3, c3, b3, d3, rfl, t1, t2, t3, t4, t5, t6, g0⟩)
      go_roundg (n % m)
      case measure => rw [HGM.out]; exact Nat.mod_lt _ H0.out
      case rel =>
        obtain ⟨l1, l2, d1, d2, d3, d4, R1, R2, X, hln⟩ := HF.out
        refine ⟨m, n % m, _, _, _, _, by rw [HLM.out], rfl, rfl, l2, by omega, d3, d4, t3, t4, R2.ext g0, t6, X.trans g0, ?_⟩
        show _ = _
        rw [← HG.out, Nat.gcd_comm m, ← Nat.gcd_rec, Nat.gcd_comm]
end Go.Proofs.Ytmlnpagkabmmpaa

/- The integer of an int64. -/
namespace Go.Proofs.Ytmlnpagkabmmpaa
open Go.RowKit

theorem u64_neg (n : Int) (h1 : -9223372036854775808 ≤ n) (h2 : n < 0) : IntKind.u64.wrap (-IntKind.u64.wrap n) = ((n.natAbs : Nat) : Int) := by
  simp only [IntKind.wrap, IntKind.bits, IntKind.signed]
  simp
  omega

set_option maxRecDepth 100000 in
set_option maxHeartbeats 4000000 in
theorem ofi_walk (n : Int) (w : World) (h1 : -9223372036854775808 ≤ n) (h2 : n < 9223372036854775808) :
    Calls Try.prog 25 #[.int .i64 n] w (GotInt w n) := by
  obtain ⟨N, hNe⟩ : ∃ N, N = n.natAbs := ⟨_, rfl⟩
  have HN : Hid (N ≤ 9223372036854775808) := by show _ ≤ _; omega
  suffices hall : ∀ y, y = n → Calls Try.prog 25 #[.int .i64 n] w (GotInt w y) from hall n rfl
  intro y hy
  by_cases hn : n < 0
  · have HSZ : Hid (sz true N = y) := by show sz true N = y; unfold sz; rw [hNe, hy]; simp; omega
    have HW : Hid (IntKind.u64.wrap (-IntKind.u64.wrap n) = (N : Int)) := by rw [hNe]; exact u64_neg n h1 hn
    clear hNe hy
    go_enter Try.func25, Try.ntmps25
    go_wp2_with fail
    rw [HW.out]
    have Q := Lib.hid (And.intro (Ext.new w (.cells #[.bool false, .slice none 0 0] 24)) (Row.new w 24 [.bool false, .slice none 0 0]))
    obtain ⟨W0, hW0⟩ : ∃ W0, w.alloc (.cells #[.bool false, .slice none 0 0] 24) = W0 := ⟨_, rfl⟩
    rw [show w.alloc (.cells [Value.bool false, .slice none 0 0].toArray 24) = W0 from hW0] at Q
    rw [hW0]
    clear hW0
    go_loopw [3, 4] (fun sz x wr => ∃ i : Nat, i ≤ 3 ∧ sz = .int .u64 ((N / BB ^ i : Nat) : Int) ∧ wr.ownsRow W0.heap.size 133 1 x i (ks .u32 (fixd BB i N)) ∧ Ext W0 wr ∧ Hid (i = 0 ∨ BB ^ (i - 1) ≤ N)) (fun sz _ _ => (intOf sz).toNat)
    case atStart => exact ⟨0, by omega, by simp, World.ownsRow_nil _ _ _ _, Ext.refl _, .inl rfl⟩
    case round =>
      obtain ⟨i, hi, rfl, hown, hext, HP⟩ := hrel
      by_cases hz : N / BB ^ i = 0
      · rw [hz]
        have hlt : N < BB ^ i := Nat.lt_of_div_eq_zero (Nat.pow_pos (by decide)) hz
        have hfd : fixd BB i N = dg BB N := fixd_dg BB_gt hlt HP.out
        rw [hfd] at hown
        have hl : i = (dg BB N).length := by rw [← hfd, fixd_len]
        rw [hl] at hown
        obtain ⟨a1, c1, rfl, g1, g2, g3⟩ := own_form hown
        have q2 := Q.out.2.ext hext
        have HX := Lib.hid hext
        have HO := Lib.hid (of_walk true N a1 c1 wr g1 g2 (by omega) g3)
        rw [HSZ.out] at HO
        have hs1 := hext.size
        clear hz hlt hfd hl hi HP g1 g2 g3 hown hext
        go_wp2_with fail
        refine HO.out.mono ?_
        rintro e w3 ⟨a3, c3, rfl, t1, t2, t3, t4, t5⟩
        have q3 := q2.ext t4
        have k0 := q3.cell (i := 0) rfl
        have k1 := q3.cell (i := 1) rfl
        have f0 := q3.frozen 0
        have f1 := q3.frozen 1
        have Q3 := Lib.hid q3
        clear q2 q3
        go_wp2_with fail
        have r3 := (Q3.out.set 0 (.bool (decide (y < 0)))).set 1 (.slice a3 (dg BB y.natAbs).length c3)
        have z0 := r3.cell (i := 0) rfl
        have z1 := r3.cell (i := 1) rfl
        refine bodyPost_ret (v := .agg #[.bool (decide (y < 0)), .slice a3 (dg BB y.natAbs).length c3]) ?_ rfl ?_
        · simp [results, Try.f25, go_sem, z0, z1]
        · exact got_store (Nat.le_refl _) (by have := Q.out.1.size; have := Q.out.2.lt; omega) (Q.out.1.trans HX.out) t1 t2 t3 t4 t5 _ _
      · have hN9 : N / BB ^ i ≤ 9223372036854775808 := Nat.le_trans (Nat.div_le_self _ _) HN.out
        have hi2 : i ≤ 2 := by
          by_cases h3 : i = 3
          · subst h3
            exact absurd (Nat.div_eq_of_lt (Nat.lt_of_le_of_lt HN.out (by decide))) hz
          · omega
        have hpos : 0 < N / BB ^ i := Nat.pos_of_ne_zero hz
        have hle : BB ^ i ≤ N := by
          by_cases hc : BB ^ i ≤ N
          · exact hc
          · exact absurd (Nat.div_eq_of_lt (by omega)) hz
        have HS : Hid (N / BB ^ i / BB = N / BB ^ (i + 1)) := by show _ = _; rw [Nat.div_div_eq_div_mul, Nat.pow_succ]
        have HF : Hid (fixd BB (i + 1) N = fixd BB i N ++ [N / BB ^ i % BB]) := fixd_succ _ _ _
        have HLE := Lib.hid hle
        clear hle hz
        generalize N / BB ^ i = x at *
        go_wp2_with (at_builtin; refine append_elem elemU32 hown hext (by unfold maxLen; omega) (by omega) rfl (by simp [Value.oneCell']) rfl _ _ rfl rfl rfl ?_; intro v' w1 own1 ext1 _)
        go_roundw
        case rel =>
          refine ⟨i + 1, by omega, ?_, ?_, ext1, .inr ?_⟩
          · have := HS.out
            rw [← this]; rfl
          · rw [HF.out, ks_append]; exact own1
          · simpa using HLE.out
        case measure => simp [intOf]; omega
  · have HSZ : Hid (sz false N = y) := by show sz false N = y; unfold sz; rw [hNe, hy]; simp; omega
    have HW : Hid (n = (N : Int)) := by show n = _; rw [hNe]; omega
    clear hNe hy
    go_enter Try.func25, Try.ntmps25
    go_wp2_with fail
    rw [HW.out]
    have Q := Lib.hid (And.intro (Ext.new w (.cells #[.bool false, .slice none 0 0] 24)) (Row.new w 24 [.bool false, .slice none 0 0]))
    obtain ⟨W0, hW0⟩ : ∃ W0, w.alloc (.cells #[.bool false, .slice none 0 0] 24) = W0 := ⟨_, rfl⟩
    rw [show w.alloc (.cells [Value.bool false, .slice none 0 0].toArray 24) = W0 from hW0] at Q
    rw [hW0]
    clear hW0
    go_loopw [3, 4] (fun sz x wr => ∃ i : Nat, i ≤ 3 ∧ sz = .int .u64 ((N / BB ^ i : Nat) : Int) ∧ wr.ownsRow W0.heap.size 133 1 x i (ks .u32 (fixd BB i N)) ∧ Ext W0 wr ∧ Hid (i = 0 ∨ BB ^ (i - 1) ≤ N)) (fun sz _ _ => (intOf sz).toNat)
    case atStart => exact ⟨0, by omega, by simp, World.ownsRow_nil _ _ _ _, Ext.refl _, .inl rfl⟩
    case round =>
      obtain ⟨i, hi, rfl, hown, hext, HP⟩ := hrel
      by_cases hz : N / BB ^ i = 0
      · rw [hz]
        have hlt : N < BB ^ i := Nat.lt_of_div_eq_zero (Nat.pow_pos (by decide)) hz
        have hfd : fixd BB i N = dg BB N := fixd_dg BB_gt hlt HP.out
        rw [hfd] at hown
        have hl : i = (dg BB N).length := by rw [← hfd, fixd_len]
        rw [hl] at hown
        obtain ⟨a1, c1, rfl, g1, g2, g3⟩ := own_form hown
        have q2 := Q.out.2.ext hext
        have HX := Lib.hid hext
        have HO := Lib.hid (of_walk false N a1 c1 wr g1 g2 (by omega) g3)
        rw [HSZ.out] at HO
        have hs1 := hext.size
        clear hz hlt hfd hl hi HP g1 g2 g3 hown hext
        go_wp2_with fail
        refine HO.out.mono ?_
        rintro e w3 ⟨a3, c3, rfl, t1, t2, t3, t4, t5⟩
        have q3 := q2.ext t4
        have k0 := q3.cell (i := 0) rfl
        have k1 := q3.cell (i := 1) rfl
        have f0 := q3.frozen 0
        have f1 := q3.frozen 1
        have Q3 := Lib.hid q3
        clear q2 q3
        go_wp2_with fail
        have r3 := (Q3.out.set 0 (.bool (decide (y < 0)))).set 1 (.slice a3 (dg BB y.natAbs).length c3)
        have z0 := r3.cell (i := 0) rfl
        have z1 := r3.cell (i := 1) rfl
        refine bodyPost_ret (v := .agg #[.bool (decide (y < 0)), .slice a3 (dg BB y.natAbs).length c3]) ?_ rfl ?_
        · simp [results, Try.f25, go_sem, z0, z1]
        · exact got_store (Nat.le_refl _) (by have := Q.out.1.size; have := Q.out.2.lt; omega) (Q.out.1.trans HX.out) t1 t2 t3 t4 t5 _ _
      · have hN9 : N / BB ^ i ≤ 9223372036854775808 := Nat.le_trans (Nat.div_le_self _ _) HN.out
        have hi2 : i ≤ 2 := by
          by_cases h3 : i = 3
          · subst h3
            exact absurd (Nat.div_eq_of_lt (Nat.lt_of_le_of_lt HN.out (by decide))) hz
          · omega
        have hpos : 0 < N / BB ^ i := Nat.pos_of_ne_zero hz
        have hle : BB ^ i ≤ N := by
          by_cases hc : BB ^ i ≤ N
          · exact hc
          · exact absurd (Nat.div_eq_of_lt (by omega)) hz
        have HS : Hid (N / BB ^ i / BB = N / BB ^ (i + 1)) := by show _ = _; rw [Nat.div_div_eq_div_mul, Nat.pow_succ]
        have HF : Hid (fixd BB (i + 1) N = fixd BB i N ++ [N / BB ^ i % BB]) := fixd_succ _ _ _
        have HLE := Lib.hid hle
        clear hle hz
        generalize N / BB ^ i = x at *
        go_wp2_with (at_builtin; refine append_elem elemU32 hown hext (by unfold maxLen; omega) (by omega) rfl (by simp [Value.oneCell']) rfl _ _ rfl rfl rfl ?_; intro v' w1 own1 ext1 _)
        go_roundw
        case rel =>
          refine ⟨i + 1, by omega, ?_, ?_, ext1, .inr ?_⟩
          · have := HS.out
            rw [← this]; rfl
          · rw [HF.out, ks_append]; exact own1
          · simpa using HLE.out
        case measure => simp [intOf]; omega
end Go.Proofs.Ytmlnpagkabmmpaa

/- slices.Reverse of bytes. -/
namespace Go.Proofs.Ytmlnpagkabmmpaa
open Go.RowKit

/-- k exchanges from both ends inward -/
def revK (l : List Nat) (k : Nat) : List Nat := (List.range l.length).map fun i => if i < k ∨ l.length - 1 - i < k then l[l.length - 1 - i]?.getD 0 else l[i]?.getD 0
theorem revK_len (l : List Nat) (k : Nat) : (revK l k).length = l.length := by simp [revK]
theorem revK_get (l : List Nat) (k i : Nat) (h : i < l.length) : (revK l k)[i]? = some (if i < k ∨ l.length - 1 - i < k then l[l.length - 1 - i]?.getD 0 else l[i]?.getD 0) := by simp [revK, h]
theorem revK_zero (l : List Nat) : revK l 0 = l := by
  apply List.ext_getElem?
  intro i
  by_cases h : i < l.length
  · rw [revK_get _ _ _ h]; simp [h]
  · rw [List.getElem?_eq_none (by rw [revK_len]; omega), List.getElem?_eq_none (by omega)]
theorem revK_end (l : List Nat) (k : Nat) (hk : l.length ≤ 2 * k + 1) : revK l k = l.reverse := by
  apply List.ext_getElem?
  intro i
  by_cases h : i < l.length
  · rw [revK_get _ _ _ h, List.getElem?_reverse h]
    have hj : l.length - 1 - i < l.length := by omega
    by_cases hc : i < k ∨ l.length - 1 - i < k
    · rw [if_pos hc]; simp [hj]
    · rw [if_neg hc]
      have : l.length - 1 - i = i := by omega
      rw [this]; simp [h]
  · rw [List.getElem?_eq_none (by rw [revK_len]; omega), List.getElem?_eq_none (by simp; omega)]
theorem revK_step (l : List Nat) (k : Nat) (hk : 2 * k + 1 < l.length) :
    ((revK l k).set k ((revK l k)[l.length - 1 - k]?.getD 0)).set (l.length - 1 - k) ((revK l k)[k]?.getD 0) = revK l (k + 1) := by
  have e1 : l.length - 1 - (l.length - 1 - k) = k := by omega
  have hA : (revK l k)[l.length - 1 - k]?.getD 0 = l[l.length - 1 - k]?.getD 0 := by
    rw [revK_get _ _ _ (by omega), e1, if_neg (by omega)]; rfl
  have hB : (revK l k)[k]?.getD 0 = l[k]?.getD 0 := by
    rw [revK_get _ _ _ (by omega), if_neg (by omega)]; rfl
  rw [hA, hB]
  apply List.ext_getElem?
  intro i
  by_cases h : i < l.length
  · rw [revK_get l (k + 1) i h, List.getElem?_set, List.getElem?_set]
    simp only [List.length_set, revK_len]
    by_cases h1 : l.length - 1 - k = i
    · subst h1
      rw [if_pos rfl, if_pos (by omega), if_pos (by omega), e1]
    · rw [if_neg h1]
      by_cases h2 : k = i
      · subst h2
        rw [if_pos rfl, if_pos (by omega), if_pos (by omega)]
      · rw [if_neg h2, revK_get _ _ _ h]
        congr 1
        by_cases h3 : i < k ∨ l.length - 1 - i < k
        · rw [if_pos h3, if_pos (by omega)]
        · rw [if_neg h3, if_neg (by omega)]
  · rw [List.getElem?_eq_none (by simp [revK_len]; omega), List.getElem?_eq_none (by rw [revK_len]; omega)]

theorem grown_set {a b : World} {g : Nat} (h : a.grownBy b (some g)) (i : Nat) (u : Value) : a.grownBy (b.setCell ⟨g, i, none⟩ u) (some g) :=
  ⟨h.os, h.tape, h.output, by have := (KeepsOthers.setCell b ⟨g, i, none⟩ u).size; exact Nat.le_trans h.size this, fun k hk hne => (Below.heap_setCell b ⟨g, i, none⟩ u k (fun e => hne (by rw [e]))).trans (h.block k hk hne)⟩
theorem grown_drew {a b : World} {r : Option Nat} (h : a.grownBy b r) : a.grownBy b.drew r := ⟨h.os, h.tape, h.output, h.size, h.block⟩

set_option maxRecDepth 100000 in
set_option maxHeartbeats 1000000 in
theorem revb_walk (g c : Nat) (l : List Nat) (rest : List Value) (w : World) (hl : l.length ≤ 100000000) (hr : Row w g 5 (ks .u8 l ++ rest)) :
    Calls Try.prog 138 #[.slice (some ⟨g, 0, none⟩) l.length c] w fun e w' => e = .returned (.tuple #[]) ∧ Row w' g 5 (ks .u8 l.reverse ++ rest) ∧ w.grownBy w' (some g) := by
  have HR := Lib.hid hr
  obtain ⟨n, hn⟩ : ∃ n, n = l.length := ⟨_, rfl⟩
  have HN := Lib.hid hn
  rw [← hn] at hl ⊢
  clear hr hn
  go_enter Try.func138, Try.ntmps138
  go_wp2_with fail
  go_loopw [2, 3] (fun i j wr => ∃ k : Nat, 2 * k ≤ n + 1 ∧ i = .int .i64 k ∧ j = .int .i64 ((n : Int) - 1 - k) ∧ Row wr g 5 (ks .u8 (revK l k) ++ rest) ∧ w.grownBy wr (some g)) (fun i _ _ => n - (intOf i).toNat)
  case atStart => exact ⟨0, by omega, rfl, by simp, by rw [revK_zero]; exact HR.out, World.grownBy.refl _ _⟩
  case round =>
    obtain ⟨k, hk, rfl, rfl, hrow, hg⟩ := hrel
    by_cases hlt : 2 * k + 1 < n
    · obtain ⟨m, hm⟩ : ∃ m : Nat, (n : Int) - 1 - k = (m : Int) := ⟨n - 1 - k, by omega⟩
      rw [hm]
      have hmk : k < m := by omega
      have hmn : m < n := by omega
      have hlen : (revK l k).length = n := by rw [revK_len, HN.out]
      obtain ⟨x, hx⟩ : ∃ x, (revK l k)[k]? = some x := ⟨_, List.getElem?_eq_getElem (by omega)⟩
      obtain ⟨y, hy⟩ : ∃ y, (revK l k)[m]? = some y := ⟨_, List.getElem?_eq_getElem (by omega)⟩
      have ck : wr.cell? ⟨g, k, none⟩ = some (.int .u8 (x : Int)) := hrow.cell (by rw [List.getElem?_append_left (by rw [ks_len]; omega)]; simp [ks, hx])
      have cm : wr.cell? ⟨g, m, none⟩ = some (.int .u8 (y : Int)) := hrow.cell (by rw [List.getElem?_append_left (by rw [ks_len]; omega)]; simp [ks, hy])
      have fk := hrow.frozen k
      have fm := hrow.frozen m
      have HM := Lib.hid hm
      have HH := Lib.hid (And.intro hrow (And.intro hg (And.intro hlen (And.intro hx hy))))
      clear hrow hg hm hlen hx hy
      go_wp2_with fail
      go_region
      go_wp2_with fail
      go_roundw
      case rel =>
        obtain ⟨hrow, hg, hlen, hx, hy⟩ := HH.out
        have hm := HM.out
        have hn := HN.out
        refine ⟨k + 1, by omega, by go_num, ?_, ?_, ?_⟩
        · have : (m : Int) - 1 = (n : Int) - 1 - ((k + 1 : Nat) : Int) := by omega
          rw [this]
        · have h1 := (hrow.set k (.int .u8 (y : Int))).set m (.int .u8 (x : Int))
          rw [List.set_append_left _ _ (by rw [ks_len]; omega), ks_set, List.set_append_left _ _ (by rw [ks_len, List.length_set]; omega), ks_set] at h1
          have h2 := revK_step l k (by omega)
          have e1 : l.length - 1 - k = m := by omega
          rw [e1, hx, hy] at h2
          simp only [Option.getD_some] at h2
          rw [h2] at h1
          exact h1.drew
        · exact grown_drew (grown_set (grown_set hg _ _) _ _)
      case measure => simp [intOf]; omega
    · go_wp2_with fail
      have hk2 : l.length ≤ 2 * k + 1 := by rw [← HN.out]; omega
      rw [revK_end _ _ hk2] at hrow
      go_end0
      exact ⟨rfl, hrow, hg⟩
end Go.Proofs.Ytmlnpagkabmmpaa
