/- Part of the proof that a law returns true for all that comes in, and that what came in reads as it did. No condition. -/
import Derived.Test.YtogodjiemgilaaaMgO2
/- Laws in the logic over objects: what comes in is read and never turned. No program stands in this text. -/
namespace Go.Proofs.Ytogodjiemgilaaa
open Go.RowKit
namespace O
/-- all that there was -/
abbrev was (W : World) : Foot := fun b => b < W.heap.size
theorem Turn.ext {S : Foot} {w w' : World} (h : Turn S w w') (hs : ∀ b, ¬ S b) : Ext w w' := ⟨h.os, h.tape, h.output, h.size, fun b hb => h.block b hb (hs b)⟩
theorem flat_all2 {α : Type} {P : Program} {W : World} {Z : Foot} {m : Nat} {e : TypeId} (f : α → List VP) (he : ∀ x : List Value, x.length = P.cellsOf e → Typed P W m e x → ∃ a, All2 Z (f a) x W) :
    ∀ (xs : List (List Value)), (∀ x ∈ xs, x.length = P.cellsOf e ∧ Typed P W m e x) → ∃ l : List α, l.length = xs.length ∧ All2 Z (l.flatMap f) xs.flatten W
  | [], _ => ⟨[], rfl, trivial⟩
  | x :: xs, h => by
    obtain ⟨l, h1, h2⟩ := flat_all2 f he xs fun y hy => h y (List.mem_cons_of_mem _ hy)
    obtain ⟨a, ha⟩ := he x (h x List.mem_cons_self).1 (h x List.mem_cons_self).2
    exact ⟨a :: l, by simp [h1], by rw [List.flatMap_cons, List.flatten_cons]; exact ha.app h2⟩
/-- a slice that came in -/
theorem ro_of {α : Type} {P : Program} {W : World} {T e : TypeId} {v : Value} (hT : P.underlying T = some (.slice e)) (f : α → List VP) (he : ∀ (m : Nat) (x : List Value), x.length = P.cellsOf e → Typed P W m e x → ∃ a, All2 (was W) (f a) x W) (h : Arg P W T v) :
    ∃ l : List α, l.length ≤ maxLen ∧ (VP.ro l.length (l.flatMap f)).p (was W) v W := by
  obtain ⟨a, cap, xs, m, rfl, h1, h2, h3, h4⟩ := h.slice hT
  obtain ⟨l, e1, e2⟩ := flat_all2 f (he m) xs h3
  refine ⟨l, by omega, a, cap, by rw [e1], by omega, h2, ?_⟩
  rcases Nat.eq_zero_or_pos xs.flatten.length with h0 | h0
  · left
    have := e2.len
    exact List.eq_nil_of_length_eq_zero (by omega)
  · right
    obtain ⟨b, off, ea, hb, hc⟩ := h4.all h0
    exact ⟨b, off, ea, hb, fun j x hx => by
      obtain ⟨u, hu, hp⟩ := e2.get hx
      exact ⟨u, hc j u hu, hp⟩⟩
/-- what a law's walk says of all that comes in -/
theorem SpecO.law {P : Program} {f : FuncId} {ps : List VP} (h : SpecO P f (ps.map Par.vp) [] [] [] (HA.of (VP.bool true))) {vs : List Value} {W : World} (ha : All2 (was W) ps vs W) :
    Calls P f vs.toArray W fun e W' => e = .returned (.bool true) ∧ Ext W W' := by
  have hl := ha.len
  refine (h vs.toArray W (was W) (fun _ => False) (fun _ => False) (by simp [hl]) (fun j q hq => ?_) (fun y hy => by cases hy) ?_ (fun _ h => h) (fun _ h => h.elim) (fun _ h => h.elim)).mono fun e w' ⟨v, Z', S', T, h1, _, _, _, h2, _, _, h3⟩ => ⟨?_, h3.ext fun _ h => h⟩
  · rw [List.getElem?_map, Option.map_eq_some_iff] at hq
    obtain ⟨x, hx, rfl⟩ := hq
    obtain ⟨v, hv, hp⟩ := ha.get hx
    exact ⟨v, by simpa using hv, hp⟩
  · have : ∀ {ps : List VP} {vs : List Value}, All2 (was W) ps vs W → AllS (was W) ((ps.map Par.vp).map Par.mvR) vs W fun _ => False := by
      intro ps vs h
      have e : (ps.map Par.vp).map Par.mvR = (ps.map fun _ => VP.any).map HA.of := by simp [Par.mvR]
      rw [e]
      exact AllS.of_all2 (fun _ h => h) (All2.of_get (by simp [h.len]) fun i x v hx _ => by
        rw [List.getElem?_map, Option.map_eq_some_iff] at hx
        obtain ⟨_, _, rfl⟩ := hx; trivial)
    simpa using this ha
  · obtain ⟨h2, _⟩ := h2
    rw [h1, h2]
theorem typed_str {P : Program} {W : World} {Z : Foot} {m : Nat} {t : TypeId} {x : List Value} (ht : P.underlying t = some .string) (h : Typed P W m t x) : ∃ s, All2 Z [VP.str s] x W := by
  obtain ⟨s, rfl, _⟩ := h.string ht
  exact ⟨s, rfl, trivial⟩
theorem typed_int {P : Program} {W : World} {Z : Foot} {m : Nat} {t : TypeId} {k : IntKind} {x : List Value} (ht : P.underlying t = some (.int k)) (h : Typed P W m t x) : ∃ n, All2 Z [VP.int k n] x W ∧ (Lit.int k n).wf = true := by
  obtain ⟨s, rfl, hs⟩ := h.int ht
  exact ⟨s, ⟨rfl, trivial⟩, hs⟩
end O
end Go.Proofs.Ytogodjiemgilaaa
