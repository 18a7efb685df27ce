/- The laws of Base on make and append, inside a fence; what an iterator's steps keep. -/
import Derived.Test.YtogodjiemgilaaaBase
import Derived.RangeFuncBox
import Derived.RangeFuncWrites
import Derived.RangeFuncCalls
import Derived.RangeFuncLeaves
import Derived.Shelf.Abstract
import Derived.OwnWalkIn
import Derived.TacticsInMore
import Derived.LoopNIn
import Derived.LoopIn
namespace Go.Proofs.Ytogodjiemgilaaa
open Go.RowKit Go.Shelf

theorem make_one_in {F : Fence} {N : Nat} {P : Program} {T E : TypeId} {z : Value} {bytes : Nat} (he : Elem P T E z 1 bytes) (hz1 : z.cells = #[z]) {w : World} {n : Nat}
    {ops : Array Oper} {rest : List Oper} {o : Oper} {a : Act} {Q : Exit → Act → World → Prop} (hg : o.guard = none) (l c : Operand) (hop : o.op = Op.makeSlice T l c)
    {kl kc : IntKind} {L C : Int} (hl : a.eval l = .int kl L) (hc : a.eval c = .int kc C) (hL : L = (n : Int)) (hC : C = (n : Int)) (hb : bytes * n ≤ 281474976710656) (hm : n ≤ maxLen)
    (h : ∀ w1, Row w1 w.heap.size E (List.replicate n z) → Ext w w1 → w1.heap.size = w.heap.size + 1 → wpListIn F N P ops Q rest (a.put o.dst (.slice (some ⟨w.heap.size, 0, none⟩) n n)) w1) : wpListIn F N P ops Q (o :: rest) a w := by
  obtain ⟨ht, i, hi, hz, hsz, hby, _, _⟩ := he
  refine wpListIn_plain hg fun K hK => ?_
  have h63 : (n : Int) ≤ 9223372036854775807 := by have := hm; simp [maxLen] at this; omega
  have hb' : (i.bytes : Int) * (n : Int) ≤ 281474976710656 := by
    have h : ((i.bytes * n : Nat) : Int) ≤ 281474976710656 := by rw [hby]; omega
    rwa [Int.natCast_mul] at h
  have hr := run_make (P := P) w T E i z ht hi hz kl kc n n (by omega) (by omega) hb' h63
  simp only [Int.toNat_natCast, hsz, Nat.mul_one] at hr
  have hmc : madeCells z.cells n = (List.replicate n z).toArray := by
    rw [hz1]; apply Array.toList_inj.1; rw [toList_madeCells_one]
  rw [hmc] at hr
  subst hL hC
  unfold Oper.wpIn
  have h' := h _ (Row.new w E _) (Ext.new w _) (by simp)
  refine ⟨?_, ?_⟩
  · simp [Oper.about, hop]
  · rw [Oper.semAt_plain F _ _ (by rw [hop]; intro c hc'; cases hc')]
    simp [execOp, hop, hl, hc, hr, Result.andThen]
    exact hK _ _ (by simpa using h')

theorem append_row_in {F : Fence} {N : Nat} {P : Program} {T E : TypeId} {z : Value} {size bytes : Nat} (he : Elem P T E z size bytes) {w : World} {base : Nat} {v : Value} {n : Nat} {xs : List Value}
    (own : w.ownsRow base E size v n xs) (hbase : base ≤ w.heap.size) {A : Option Addr} {m c : Nat} {ys : List Value} (hl : ys.length = m * size) (hr : Rd w A ys)
    (hn : n + m ≤ maxLen) (hb : (n + m) * bytes ≤ 140737488355328) (h1 : ∀ u ∈ ys, u.oneCell' = true)
    {ops : Array Oper} {rest : List Oper} {o : Oper} {a : Act} {Q : Exit → Act → World → Prop} (hgd : o.guard = none) (s x : Operand)
    (ho : o.op = .call { callee := .builtin .append, args := #[s, x], argTypes := #[T, T] }) (hs : a.eval s = v) (hx : a.eval x = .slice A m c)
    (h : ∀ v' w', w'.ownsRow base E size v' (n + m) (xs ++ ys) → w.grownBy w' v.ownBlock → wpListIn F N P ops Q rest (a.put o.dst v') w') : wpListIn F N P ops Q (o :: rest) a w := by
  obtain ⟨ht, i, hi, hz, hsz, hby, hzs, hpos⟩ := he
  have hcells : ∀ ad, A = some ad → ∀ j u, ys[j]? = some u → w.cell? (ad.add j) = some u := by
    intro ad hA j u hu
    obtain ⟨b, off, e, hc⟩ := hr.get hu
    rw [hA] at e
    injection e with e
    subst e
    rw [add_plain]; exact hc
  rcases A with _ | ad
  · have hy : ys = [] := by
      rcases hr with h0 | ⟨b, off, e, _⟩
      · exact h0
      · cases e
    subst hy
    have hm : m = 0 := by
      rcases Nat.eq_zero_or_pos m with h0 | h0
      · exact h0
      · have := Nat.mul_pos h0 hpos; simp at hl; omega
    subst hm
    refine wpListIn_plain hgd fun K hK => ?_
    have hrun := run_append_noth (P := P) w base T o.type E i size ht hi v n xs own c
    unfold Oper.wpIn
    refine ⟨?_, ?_⟩
    · simp [Oper.about, ho, resolve, Target.leads, Sem.run_pure]
    · rw [Oper.semAt_plain F _ _ (by rw [ho]; intro c hc'; cases hc')]
      simp [execOp, ho, resolve, invoke, builtin, hs, hx, hrun, Result.andThen]
      exact hK _ _ (h v w (by simpa using own) (World.grownBy.refl w _))
  · refine wpListIn_append_own _ hgd s x T ho base E i z size bytes ht hi hz hsz hby hzs hpos v n xs hs own ad m c ys hx hl (hcells ad rfl) h1 hn hb hbase ?_
    intro v' w' own' hg _
    exact h v' w' own' hg

/-- what is read stays through an iterator's step -/
theorem Rd.iter {A B : World} {row : Option Nat} {a : Option Addr} {xs : List Value} (h : Rd A a xs) (hg : A.grownBy B row) (hr : ∀ r, row = some r → ∃ o : Obj, A.heap[r]? = some o ∧ o.isCells = false) : Rd B a xs := by
  rcases h with rfl | ⟨b, off, ea, hc⟩
  · exact .inl rfl
  · exact .inr ⟨b, off, ea, fun j u hu => cell_kept (hc j u hu) hg hr⟩
theorem Row.iter {A B : World} {row : Option Nat} {g : Nat} {E : TypeId} {xs : List Value} (h : Row A g E xs) (hg : A.grownBy B row) (hr : ∀ r, row = some r → ∃ o : Obj, A.heap[r]? = some o ∧ o.isCells = false) : Row B g E xs := by
  refine (hg.block g h.lt ?_).trans h
  intro e
  obtain ⟨o, ho, hc⟩ := hr g e.symm
  unfold Row at h
  rw [ho] at h
  injection h with h
  subst h
  simp [Obj.isCells] at hc
end Go.Proofs.Ytogodjiemgilaaa
