/- slices.Backward over a row of uint32 at one type: the index and the digit, the last one first. -/
import Derived.Test.YtogodjiemgilaaaBackA
import Derived.RangeFuncBox
import Derived.RangeFuncWrites
import Derived.RangeFuncCalls
import Derived.RangeFuncLeaves
import Derived.Shelf.Abstract
import Derived.OwnWalkIn
import Derived.TacticsInMore
import Derived.LoopNIn
import Derived.LoopIn
namespace Go.Proofs.Ytogodjiemgilaaa
open Go.RowKit Go.Shelf

attribute [local go_sem] Oper.semAt_some

set_option maxRecDepth 100000 in
set_option maxHeartbeats 2000000 in
theorem backB_clo (F : Fence) (n : Nat) (h8 : F.fn 175) (hro : F.round = none) (hn : 1 ≤ n) (lp Bs cap : Nat) (a : Option Addr) (l : List Nat) (hl : l.length ≤ 1000000) (w0 : World) (hr : Rd w0 a (ks .u32 l)) (J Jx : List (Fin l.length) → World → Prop)
    (hY : ∀ pre x W, J pre W → pre.length < l.length → YieldAt F (n - 1) Try.prog lp (bkEnc l x) W fun e W' =>
      (e = .returned (.bool true) ∧ J (pre ++ [x]) W' ∧ KpB w0.heap.size Bs W W') ∨ (e = .returned (.bool false) ∧ Jx (pre ++ [x]) W'))
    (W : World) (hext : Ext w0 W) (hBs : W.cell? ⟨Bs, 0, none⟩ = some (.slice a l.length cap)) (h0 : J [] W) :
    CallsIn F n Try.prog 175 #[.func (.yield lp) #[] #[], .pointer (some ⟨Bs, 0, none⟩)] W fun e W' => (∃ v, e = .returned v) ∧
      ((∃ ys, ys = down l.length l.length ∧ J ys W') ∨ (∃ pre, (∃ k, k ≤ l.length ∧ pre = down l.length k) ∧ Jx pre W')) := by
  refine callsIn_of_wp Try.func175 rfl h8 ?_ hro
  simp only [Try.ntmps175, List.size_toArray, List.length_cons, List.length_nil, Nat.reduceAdd, Nat.reduceSub, Array.replicate_succ, Array.replicate_zero, List.push_toArray, List.append_toArray, List.nil_append, List.cons_append]
  gi_wp2
  gi_loopw [3] (fun i wr => ∃ k : Nat, k ≤ l.length ∧ i = .int .i64 ((l.length : Int) - 1 - k) ∧ J (down l.length k) wr ∧ KpB w0.heap.size Bs W wr)
    (fun i _ => (intOf i + 1).toNat)
  case atStart => exact ⟨0, Nat.zero_le _, by simp, by rw [down_zero]; exact h0, KpB.refl _ _ _⟩
  case round =>
    obtain ⟨k, hk, rfl, hJs, hnx⟩ := hrel
    have hBs' : wr.cell? ⟨Bs, 0, none⟩ = some (.slice a l.length cap) := (World.cell?_of_block (a := ⟨Bs, 0, none⟩) hnx.2).trans hBs
    by_cases hlt : k < l.length
    · obtain ⟨b, off, rfl, hc0⟩ := hr.num (i := l.length - 1 - k) (by omega)
      have hb0 : b < w0.heap.size := World.block_lt_of_cell? w0 _ hc0
      have hcx : wr.cell? ⟨b, off + (l.length - 1 - k), none⟩ = some (.int .u32 (l[l.length - 1 - k] : Int)) := (hnx.1.cell (p := ⟨b, off + (l.length - 1 - k), none⟩) hb0).trans (hext.cell hc0)
      obtain ⟨fn, tmps, assign, body, hy, hR⟩ := hY _ ⟨l.length - 1 - k, by omega⟩ wr hJs (by rw [down_len _ _ hk]; exact hlt)
      unfold bkEnc at hy
      dsimp only at hy
      have ei : ((l.length - 1 - k : Nat) : Int) = (l.length : Int) - 1 - k := by omega
      rw [ei] at hy
      have HEI := Lib.hid ei
      clear ei
      gi_wp2
      refine hR.mono ?_
      rintro e W3 (⟨rfl, hJ3, hk3⟩ | ⟨rfl, hJx3⟩)
      · gi_wp2
        go_roundw
        case rel => exact ⟨k + 1, by omega, by go_num, by rw [down_succ _ _ hlt]; exact hJ3, kpB_t hnx hk3⟩
        case measure => simp [intOf]; omega
      · gi_wp2
        refine bodyPost_ret (results_none rfl _ _ _) rfl ?_
        exact ⟨⟨_, rfl⟩, .inr ⟨_, ⟨k + 1, by omega, (down_succ _ _ hlt).symm⟩, hJx3⟩⟩
    · obtain rfl : k = l.length := by omega
      gi_wp2
      go_end0
      exact ⟨⟨_, rfl⟩, .inl ⟨_, rfl, hJs⟩⟩

set_option maxHeartbeats 1000000 in
theorem backB_in (F : Fence) (n : Nat) (h5 : F.fn 129) (hro : F.round = none) (a : Option Addr) (len cap : Nat) (w : World) :
    CallsIn F n Try.prog 129 #[.slice a len cap] w fun e w' => e = .returned (.func (.func 175) #[] #[.pointer (some ⟨w.heap.size, 0, none⟩)]) ∧ w' = w.alloc (.cells #[.slice a len cap] 67) := by
  refine callsIn_of_wp Try.func129 rfl h5 ?_ hro
  simp only [Try.ntmps129, List.size_toArray, List.length_cons, List.length_nil, Nat.reduceAdd, Nat.reduceSub, Array.replicate_succ, Array.replicate_zero, List.push_toArray, List.append_toArray, List.nil_append, List.cons_append]
  gi_wp2
  go_ret
  exact ⟨rfl, rfl⟩

theorem backB_stops (F : Fence) (n : Nat) (h8 : F.fn 175) (hro : F.round = none) (hn : 1 ≤ n) (Bs cap : Nat) (a : Option Addr) (l : List Nat) (hl : l.length ≤ 1000000) (w0 w : World) (hr : Rd w0 a (ks .u32 l)) (hext : Ext w0 w) (hlt : Bs < w.heap.size)
    (hc : w.cell? ⟨Bs, 0, none⟩ = some (.slice a l.length cap)) :
    SeqStopsK F n Try.prog 175 #[.pointer (some ⟨Bs, 0, none⟩)] (bkEnc l) (KpB w0.heap.size Bs) (fun ys => ys = down l.length l.length) (fun pre => ∃ k, k ≤ l.length ∧ pre = down l.length k) l.length w := fun lp J Jx W hW _ _ hY h0 =>
  backB_clo F n h8 hro hn lp Bs cap a l hl w0 hr J Jx hY W (hext.trans hW) ((hW.cell (p := ⟨Bs, 0, none⟩) hlt).trans hc) h0
end Go.Proofs.Ytogodjiemgilaaa
