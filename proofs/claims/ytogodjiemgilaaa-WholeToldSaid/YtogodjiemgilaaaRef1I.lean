/- The reference's Div: plain laws. -/
import Derived.Test.YtogodjiemgilaaaRef1H
namespace Go.Proofs.Ytogodjiemgilaaa
open Go.RowKit

theorem dvQ_len (B n m L k : Nat) : (dvQ B n m L k).length = L := by simp [dvQ]
theorem dvQ_get0 (B n m L k p : Nat) (hk : k < L) (hp : p = L - 1 - k) : (dvQ B n m L k)[p]? = some 0 := by
  have hpl : p < L := by omega
  unfold dvQ
  rw [List.getElem?_map, List.getElem?_range hpl]
  show some (if L - k ≤ p then _ else 0) = _
  rw [if_neg (by omega)]
theorem rdiv_step {B : Nat} (hB : 1 < B) (n m L k p : Nat) (hm : 0 < m) (hn : n < B ^ L) (hk : k < L) (hp : p = L - 1 - k) :
    n / B ^ (L - (k + 1)) % m = (n / B ^ p % B + B * (n / B ^ (L - k) % m)) % m ∧
    dvQ B n m L (k + 1) = (dvQ B n m L k).set p ((n / B ^ p % B + B * (n / B ^ (L - k) % m)) / m) := by
  have h1 := dvS_down hB n m L hm hn k (by omega)
  have h2 := dvS_down hB n m L hm hn (k + 1) (by omega)
  rw [List.range_succ, List.map_append, List.map_cons, List.map_nil, dvS_snoc, h1, ← hp] at h2
  unfold dvStep at h2
  simp only at h2
  have hz := dvQ_get0 B n m L k p hk hp
  generalize n / B ^ p % B + B * (n / B ^ (L - k) % m) = t at *
  by_cases ht : t < m
  · rw [if_pos ht] at h2
    have e := Prod.mk.inj h2
    refine ⟨by rw [← e.2, Nat.mod_eq_of_lt ht], ?_⟩
    rw [← e.1, Nat.div_eq_of_lt ht]
    apply List.ext_getElem?
    intro i
    rw [List.getElem?_set]
    by_cases hi : p = i
    · subst hi
      rw [if_pos rfl, if_pos (by rw [dvQ_len]; omega), hz]
    · rw [if_neg hi]
  · rw [if_neg ht] at h2
    have e := Prod.mk.inj h2
    exact ⟨e.2.symm, e.1.symm⟩
end Go.Proofs.Ytogodjiemgilaaa
