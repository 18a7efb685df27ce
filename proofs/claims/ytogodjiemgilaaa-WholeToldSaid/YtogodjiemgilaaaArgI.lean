/- What an argument of type api.Int is. -/
import Derived.Test.YtogodjiemgilaaaLaw1
namespace Go.Proofs.Ytogodjiemgilaaa
open Go.RowKit

theorem nums_of {k : IntKind} {B : Nat} : ∀ (xs : List (List Value)), (∀ x ∈ xs, ∃ d : Nat, x = [.int k (d : Int)] ∧ d < B) → ∃ l : List Nat, l.length = xs.length ∧ xs.flatten = ks k l ∧ ∀ d ∈ l, d < B
  | [], _ => ⟨[], rfl, rfl, fun _ h => by cases h⟩
  | x :: r, h => by
    obtain ⟨d, rfl, hd⟩ := h x (List.mem_cons_self ..)
    obtain ⟨l, h1, h2, h3⟩ := nums_of r (fun x hx => h x (List.mem_cons_of_mem _ hx))
    exact ⟨d :: l, by simp [h1], by rw [List.flatten_cons, h2]; rfl, fun q hq => by
      rcases List.mem_cons.1 hq with rfl | hq
      · exact hd
      · exact h3 q hq⟩

theorem typed_u32s {w : World} {n : Nat} {cs : List Value} (h : Typed Try.prog w n 67 cs) :
    ∃ (a : Option Addr) (l : List Nat) (c : Nat), cs = [.slice a l.length c] ∧ l.length ≤ c ∧ c ≤ maxLen ∧ (∀ d ∈ l, d < 4294967296) ∧ Rd w a (ks .u32 l) := by
  obtain ⟨a, cap, xs, m, rfl, h1, h2, h3, h4⟩ := h.slice Try.underlying67
  obtain ⟨l, e1, e2, e3⟩ := nums_of (k := .u32) (B := 4294967296) xs (fun x hx => by
    obtain ⟨y, rfl, hy⟩ := (h3 x hx).2.int Try.underlying160
    have hb : 0 ≤ y ∧ y < 4294967296 := by simp [Lit.wf, IntKind.min, IntKind.max, IntKind.signed, IntKind.bits] at hy; omega
    exact ⟨y.toNat, by rw [Int.toNat_of_nonneg hb.1], by omega⟩)
  rw [e2] at h4
  exact ⟨a, l, cap, by rw [e1], by rw [e1]; exact h1, h2, e3, h4⟩

theorem two_of {α : Type} {l : List α} (h : l.length = 2) : ∃ a b, l = [a, b] := by
  cases l with
  | nil => cases h
  | cons a r =>
    cases r with
    | nil => cases h
    | cons b r2 =>
      cases r2 with
      | nil => exact ⟨a, b, rfl⟩
      | cons c r3 => simp at h

theorem cells_aint : Try.prog.cellsOf 69 = 2 := by kernel_rfl
theorem cells_u32s : Try.prog.cellsOf 67 = 1 := by kernel_rfl
theorem cells_bool : Try.prog.cellsOf 4 = 1 := by kernel_rfl

theorem arg_aint {w : World} {v : Value} (h : Arg Try.prog w 69 v) : ∃ x : AInt, v = x.v ∧ x.ok w := by
  obtain ⟨cs, m, rfl, hl, hf⟩ := h.struct Try.underlying69
  rw [cells_aint] at hl
  obtain ⟨u0, u1, rfl⟩ := two_of hl
  have f0 := hf _ (List.mem_cons_self ..)
  have f1 := hf _ (List.mem_cons_of_mem _ (List.mem_cons_self ..))
  simp only at f0 f1
  rw [cells_bool] at f0
  rw [cells_u32s] at f1
  obtain ⟨s, hs⟩ := f0.bool Try.underlying4
  obtain ⟨a, l, c, hc, h1, h2, h3, h4⟩ := typed_u32s f1
  have e0 : u0 = .bool s := by simpa using hs
  have e1 : u1 = .slice a l.length c := by simpa using hc
  subst e0 e1
  exact ⟨⟨s, a, l, c⟩, rfl, h1, h2, h3, h4⟩
end Go.Proofs.Ytogodjiemgilaaa
