/- slices.Backward over a row of uint32 at one type: the index and the digit, the last one first. -/
import Derived.Test.YtogodjiemgilaaaWholeA
import Derived.RangeFuncBox
import Derived.RangeFuncWrites
import Derived.RangeFuncCalls
import Derived.RangeFuncLeaves
import Derived.Shelf.Abstract
import Derived.OwnWalkIn
import Derived.TacticsInMore
import Derived.LoopNIn
import Derived.LoopIn
namespace Go.Proofs.Ytogodjiemgilaaa
open Go.RowKit Go.Shelf

attribute [local go_sem] Oper.semAt_some

/-- the last k indexes of n, the greatest one first -/
def down (n k : Nat) : List (Fin n) := ((List.finRange n).take k).map Fin.rev
theorem down_zero (n : Nat) : down n 0 = [] := by simp [down]
theorem down_len (n k : Nat) (h : k ≤ n) : (down n k).length = k := by simp [down]; omega
theorem down_succ (n k : Nat) (h : k < n) : down n (k + 1) = down n k ++ [⟨n - 1 - k, by omega⟩] := by
  unfold down
  rw [List.take_succ_eq_append_getElem (by simpa using h), List.map_append]
  simp only [List.getElem_finRange, List.map_cons, List.map_nil]
  congr 2
  apply Fin.ext
  simp [Fin.rev]
  omega
/-- what a round keeps: what lay below n₀, and block B -/
def KpB (n₀ B : Nat) (W W' : World) : Prop := Below n₀ W W' ∧ W'.heap[B]? = W.heap[B]?
theorem KpB.refl (n₀ B : Nat) (W : World) : KpB n₀ B W W := ⟨Below.refl _ _, rfl⟩
theorem kpB_t {n₀ B : Nat} {a b c : World} (h : KpB n₀ B a b) (k : KpB n₀ B b c) : KpB n₀ B a c := ⟨h.1.trans k.1, k.2.trans h.2⟩
theorem kpB_b {n₀ B : Nat} {w : World} (hn : n₀ ≤ w.heap.size) (hB : B < w.heap.size) (W : World) (l : Nat) (o o' : Obj) (hl : w.heap.size ≤ l) (h : W.heap[l]? = some o) (h1 : o.isCells = false) (h2 : o.isWalk = false) : KpB n₀ B W (W.putObj l o') :=
  ⟨belowK_b hn W l o o' hl h h1 h2, World.putObj_heap_other (by omega)⟩
theorem KpB.set {n₀ B : Nat} {W W' : World} (h : KpB n₀ B W W') {p : Addr} (hp : n₀ ≤ p.block) (hB : p.block ≠ B) (u : Value) : KpB n₀ B W (W'.setCell p u) :=
  ⟨h.1.setCell hp u, (Below.heap_setCell W' p u B (by omega)).trans h.2⟩
/-- the arguments of yield at an index -/
def bkEnc (l : List Nat) (i : Fin l.length) : Array Value := #[.int .i64 (i.1 : Int), .int .u32 (l[i.1] : Int)]

set_option maxRecDepth 100000 in
set_option maxHeartbeats 2000000 in
theorem backA_clo (F : Fence) (n : Nat) (h8 : F.fn 197) (hro : F.round = none) (hn : 1 ≤ n) (lp Bs cap : Nat) (a : Option Addr) (l : List Nat) (hl : l.length ≤ 1000000) (w0 : World) (hr : Rd w0 a (ks .u32 l)) (J Jx : List (Fin l.length) → World → Prop)
    (hY : ∀ pre x W, J pre W → pre.length < l.length → YieldAt F (n - 1) Try.prog lp (bkEnc l x) W fun e W' =>
      (e = .returned (.bool true) ∧ J (pre ++ [x]) W' ∧ KpB w0.heap.size Bs W W') ∨ (e = .returned (.bool false) ∧ Jx (pre ++ [x]) W'))
    (W : World) (hext : Ext w0 W) (hBs : W.cell? ⟨Bs, 0, none⟩ = some (.slice a l.length cap)) (h0 : J [] W) :
    CallsIn F n Try.prog 197 #[.func (.yield lp) #[] #[], .pointer (some ⟨Bs, 0, none⟩)] W fun e W' => (∃ v, e = .returned v) ∧
      ((∃ ys, ys = down l.length l.length ∧ J ys W') ∨ (∃ pre, (∃ k, k ≤ l.length ∧ pre = down l.length k) ∧ Jx pre W')) := by
  refine callsIn_of_wp Try.func197 rfl h8 ?_ hro
  simp only [Try.ntmps197, List.size_toArray, List.length_cons, List.length_nil, Nat.reduceAdd, Nat.reduceSub, Array.replicate_succ, Array.replicate_zero, List.push_toArray, List.append_toArray, List.nil_append, List.cons_append]
  gi_wp2
  gi_loopw [3] (fun i wr => ∃ k : Nat, k ≤ l.length ∧ i = .int .i64 ((l.length : Int) - 1 - k) ∧ J (down l.length k) wr ∧ KpB w0.heap.size Bs W wr)
    (fun i _ => (intOf i + 1).toNat)
  case atStart => exact ⟨0, Nat.zero_le _, by simp, by rw [down_zero]; exact h0, KpB.refl _ _ _⟩
  case round =>
    obtain ⟨k, hk, rfl, hJs, hnx⟩ := hrel
    have hBs' : wr.cell? ⟨Bs, 0, none⟩ = some (.slice a l.length cap) := (World.cell?_of_block (a := ⟨Bs, 0, none⟩) hnx.2).trans hBs
    by_cases hlt : k < l.length
    · obtain ⟨b, off, rfl, hc0⟩ := hr.num (i := l.length - 1 - k) (by omega)
      have hb0 : b < w0.heap.size := World.block_lt_of_cell? w0 _ hc0
      have hcx : wr.cell? ⟨b, off + (l.length - 1 - k), none⟩ = some (.int .u32 (l[l.length - 1 - k] : Int)) := (hnx.1.cell (p := ⟨b, off + (l.length - 1 - k), none⟩) hb0).trans (hext.cell hc0)
      obtain ⟨fn, tmps, assign, body, hy, hR⟩ := hY _ ⟨l.length - 1 - k, by omega⟩ wr hJs (by rw [down_len _ _ hk]; exact hlt)
      unfold bkEnc at hy
      dsimp only at hy
      have ei : ((l.length - 1 - k : Nat) : Int) = (l.length : Int) - 1 - k := by omega
      rw [ei] at hy
      have HEI := Lib.hid ei
      clear ei
      gi_wp2
      refine hR.mono ?_
      rintro e W3 (⟨rfl, hJ3, hk3⟩ | ⟨rfl, hJx3⟩)
      · gi_wp2
        go_roundw
        case rel => exact ⟨k + 1, by omega, by go_num, by rw [down_succ _ _ hlt]; exact hJ3, kpB_t hnx hk3⟩
        case measure => simp [intOf]; omega
      · gi_wp2
        refine bodyPost_ret (results_none rfl _ _ _) rfl ?_
        exact ⟨⟨_, rfl⟩, .inr ⟨_, ⟨k + 1, by omega, (down_succ _ _ hlt).symm⟩, hJx3⟩⟩
    · obtain rfl : k = l.length := by omega
      gi_wp2
      go_end0
      exact ⟨⟨_, rfl⟩, .inl ⟨_, rfl, hJs⟩⟩

set_option maxHeartbeats 1000000 in
theorem backA_in (F : Fence) (n : Nat) (h5 : F.fn 170) (hro : F.round = none) (a : Option Addr) (len cap : Nat) (w : World) :
    CallsIn F n Try.prog 170 #[.slice a len cap] w fun e w' => e = .returned (.func (.func 197) #[] #[.pointer (some ⟨w.heap.size, 0, none⟩)]) ∧ w' = w.alloc (.cells #[.slice a len cap] 162) := by
  refine callsIn_of_wp Try.func170 rfl h5 ?_ hro
  simp only [Try.ntmps170, List.size_toArray, List.length_cons, List.length_nil, Nat.reduceAdd, Nat.reduceSub, Array.replicate_succ, Array.replicate_zero, List.push_toArray, List.append_toArray, List.nil_append, List.cons_append]
  gi_wp2
  go_ret
  exact ⟨rfl, rfl⟩

theorem backA_stops (F : Fence) (n : Nat) (h8 : F.fn 197) (hro : F.round = none) (hn : 1 ≤ n) (Bs cap : Nat) (a : Option Addr) (l : List Nat) (hl : l.length ≤ 1000000) (w0 w : World) (hr : Rd w0 a (ks .u32 l)) (hext : Ext w0 w) (hlt : Bs < w.heap.size)
    (hc : w.cell? ⟨Bs, 0, none⟩ = some (.slice a l.length cap)) :
    SeqStopsK F n Try.prog 197 #[.pointer (some ⟨Bs, 0, none⟩)] (bkEnc l) (KpB w0.heap.size Bs) (fun ys => ys = down l.length l.length) (fun pre => ∃ k, k ≤ l.length ∧ pre = down l.length k) l.length w := fun lp J Jx W hW _ _ hY h0 =>
  backA_clo F n h8 hro hn lp Bs cap a l hl w0 hr J Jx hY W (hext.trans hW) ((hW.cell (p := ⟨Bs, 0, none⟩) hlt).trans hc) h0
end Go.Proofs.Ytogodjiemgilaaa
