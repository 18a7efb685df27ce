/- Products and quotients of rows of digits. -/
import Derived.Test.YtogodjiemgilaaaWholeA
namespace Go.Proofs.Ytogodjiemgilaaa
open Go.RowKit

theorem ks_set (k : IntKind) (l : List Nat) (i d : Nat) : (ks k l).set i (.int k (d : Int)) = ks k (l.set i d) := by simp [ks, List.map_set]
theorem ks_replicate (k : IntKind) (n : Nat) : List.replicate n (Value.int k 0) = ks k (List.replicate n 0) := by simp [ks]

/-- what the product's row holds -/
def MulRow (w : World) (g L v : Nat) (wr : World) (out : List Nat) : Prop :=
  Row wr g 160 (ks .u32 out) ∧ out.length = L ∧ (∀ d ∈ out, d < BB) ∧ val BB out = v ∧ Ext w wr

set_option maxRecDepth 100000 in
set_option maxHeartbeats 1000000 in
theorem mul_walk (a b : Option Addr) (ca cb n m : Nat) (w : World) (hla : (dg BB n).length ≤ 1000000) (hlb : (dg BB m).length ≤ 1000000) (ha : Rd w a (ks .u32 (dg BB n))) (hb : Rd w b (ks .u32 (dg BB m))) :
    Calls Try.prog 127 #[.slice a (dg BB n).length ca, .slice b (dg BB m).length cb] w (Got w .u32 (dg BB (n * m))) := by
  have LB : ∀ i, (dg BB m).length ≤ i → m < BB ^ i := fun i h => (dg_len_le BB_gt i m).1 h
  have HNN := lt_pow_len BB_gt n
  have HIN : ∀ (k j c : Nat) (out : List Nat), k < (dg BB n).length → out.length = (dg BB n).length + (dg BB m).length → val BB out + c * BB ^ (k + j) = (n % BB ^ k) * m + BB ^ k * (n / BB ^ k % BB * (m % BB ^ j)) → (j < (dg BB m).length ∨ 0 < c) → k + j < out.length :=
    fun k j c out hk hl h hc => mul_inside BB_gt n m k j c _ out hk rfl hl h hc
  generalize hna : (dg BB n).length = na at *
  generalize hnb : (dg BB m).length = nb at *
  have HNA := Lib.hid hna
  have HNB := Lib.hid hnb
  have HLB := Lib.hid LB
  have HN := Lib.hid HNN
  have HI := Lib.hid HIN
  clear hna hnb LB HNN HIN
  go_enter Try.func127, Try.ntmps127
  go_wp2_with (at_make; refine make_one elemU32 rfl rfl _ _ rfl rfl rfl (n := na + nb) (by omega) (by omega) (by omega) (by unfold maxLen; omega) ?_; intro w0 hrow0 hext0)
  rw [ks_replicate] at hrow0
  go_loopw [18] (fun i wr => ∃ k : Nat, k ≤ na ∧ i = .int .i64 k ∧ ∃ out, MulRow w w.heap.size (na + nb) ((n % BB ^ k) * m) wr out)
    (fun i _ => na - (intOf i).toNat)
  case atStart =>
    refine ⟨0, by omega, rfl, List.replicate (na + nb) 0, hrow0, by simp, ?_, ?_, hext0⟩
    · intro d hd; rw [(List.mem_replicate.1 hd).2]; decide
    · rw [val_replicate]; simp [Nat.mod_one]
  case round =>
    obtain ⟨k, hk, rfl, out, hrow, hlen, hlt, hval, hext⟩ := hrel
    clear hrow0 hext0
    obtain ⟨wo, rfl⟩ : ∃ wo : World, wo = wr := ⟨_, rfl⟩
    by_cases h1 : k < na
    · obtain ⟨ba, oa, rfl, hca⟩ := (ha.ext hext).num (i := k) (by rw [HNA.out]; exact h1)
      rw [fdig] at hca
      have d1 : n / BB ^ k % BB < 1000000000 := Nat.mod_lt _ (by decide)
      generalize hx : n / BB ^ k % BB = x at *
      have HV := Lib.hid hval
      have HL := Lib.hid hlen
      clear hval hlen
      have HX := Lib.hid hx
      clear hx
      go_wp2
      go_loopw [8, 9] (fun cv jv wr => ∃ c j : Nat, ∃ o2 : List Nat, cv = .int .u64 c ∧ jv = .int .i64 j ∧ c < 1000000000 ∧ j ≤ na + nb ∧ Row wr w.heap.size 160 (ks .u32 o2) ∧ Hid (o2.length = na + nb) ∧ (∀ d ∈ o2, d < BB) ∧ Hid (val BB o2 + c * BB ^ (k + j) = (n % BB ^ k) * m + BB ^ k * (x * (m % BB ^ j))) ∧ Ext w wr)
        (fun _ jv _ => na + nb + 1 - (intOf jv).toNat)
      case atStart => exact ⟨0, 0, out, rfl, rfl, by omega, by omega, hrow, HL.out, hlt, by show _ = _; rw [HV.out]; simp [Nat.mod_one], hext⟩
      case round =>
        obtain ⟨c, j, o2, rfl, rfl, hc, hj, hrow2, HL2, hlt2, HV2, hext2⟩ := hrel
        clear hrow hlt
        by_cases hmore : j < nb ∨ 0 < c
        · have hin : k + j < o2.length := HI.out k j c o2 h1 HL2.out (by rw [HX.out]; exact HV2.out) hmore
          have hlo : o2[k + j] < 1000000000 := hlt2 _ (List.getElem_mem hin)
          have hcell : wr.cell? ⟨w.heap.size, k + j, none⟩ = some (.int .u32 ((o2[k + j] : Nat) : Int)) := hrow2.cell (ks_get hin)
          have hfz : wr.frozen? ⟨w.heap.size, k + j, none⟩ = false := hrow2.frozen _
          have hyl : m / BB ^ j % BB < 1000000000 := Nat.mod_lt _ (by decide)
          have HMR := Lib.hid (mul_round (B := BB) n m x k j c o2 hin HV2.out)
          have HMC := mul_carry (B := 1000000000) c o2[k + j] x (m / BB ^ j % BB) hc hlo d1 hyl
          have HY0 : Hid (¬ j < nb → m / BB ^ j % BB = 0) := fun h => digit_0 (HLB.out j (by omega))
          have hyc : j < nb → ∃ bb ob, b = some ⟨bb, ob, none⟩ ∧ wr.cell? ⟨bb, ob + j, none⟩ = some (.int .u32 ((m / BB ^ j % BB : Nat) : Int)) := fun h => by
            obtain ⟨ba, oa, e, hca⟩ := (hb.ext hext2).num (i := j) (by rw [HNB.out]; exact h)
            rw [fdig] at hca
            exact ⟨ba, oa, e, hca⟩
          have hkj : k + j < na + nb := by rw [← HL2.out]; exact hin
          generalize m / BB ^ j % BB = y at *
          generalize hoo : o2[k + j] = oo at *
          clear hoo
          have close : ∀ (t : Nat), t = c + oo + x * y → ∃ c' j' : Nat, ∃ o3 : List Nat, Value.int .u64 ((t / 1000000000 : Nat) : Int) = .int .u64 c' ∧ Value.int .i64 ((j : Int) + 1) = .int .i64 j' ∧ c' < 1000000000 ∧ j' ≤ na + nb ∧ Row (wr.setCell ⟨w.heap.size, k + j, none⟩ (.int .u32 ((t % 1000000000 : Nat) : Int))) w.heap.size 160 (ks .u32 o3) ∧ Hid (o3.length = na + nb) ∧ (∀ d ∈ o3, d < BB) ∧ Hid (val BB o3 + c' * BB ^ (k + j') = (n % BB ^ k) * m + BB ^ k * (x * (m % BB ^ j'))) ∧ Ext w (wr.setCell ⟨w.heap.size, k + j, none⟩ (.int .u32 ((t % 1000000000 : Nat) : Int))) := by
            intro t ht
            subst ht
            refine ⟨_, j + 1, o2.set (k + j) ((c + oo + x * y) % BB), rfl, by go_num, HMC.1, by omega, ?_, ?_, ?_, HMR.out, hext2.set (Nat.le_refl _) _⟩
            · rw [← ks_set]; exact hrow2.set _ _
            · show _ = _; rw [List.length_set]; exact HL2.out
            · exact set_lt hlt2 _ _ (Nat.mod_lt _ (by decide))
          have HCL := Lib.hid close
          have hxy : ((x : Int) * y) ≤ 999999998000000001 := by have h3 : x * y ≤ 999999998000000001 := Nat.le_trans HMC.2 (by omega); rw [← Int.natCast_mul]; omega
          have hxy0 : 0 ≤ ((x : Int) * y) := Int.mul_nonneg (by omega) (by omega)
          clear close HMR HMC hlt2
          by_cases h2 : j < nb
          · obtain ⟨bb, ob, rfl, hcb⟩ := hyc h2
            clear hyc hmore hin
            go_wp2
            go_roundw
            case rel =>
              have := HCL.out (c + oo + x * y) rfl
              rw [Int.natCast_ediv, Int.natCast_emod, Int.natCast_add, Int.natCast_add, Int.natCast_mul] at this
              exact this
            case measure => simp [intOf]; omega
          · have hy0 := HY0.out h2
            subst hy0
            have hc1 : 0 < c := by omega
            clear hyc hmore hin
            go_wp2
            go_roundw
            case rel => exact HCL.out (c + oo) (by omega)
            case measure => simp [intOf]; omega
        · have h2 : ¬ j < nb := by omega
          have h3 : ¬ 0 < c := by omega
          obtain rfl : c = 0 := by omega
          have HROW := Lib.hid (mul_row (B := BB) n m k j o2 (HLB.out j (by omega)) (by rw [HX.out]; exact HV2.out))
          clear hmore
          go_wp2
          go_roundw
          case rel => exact ⟨k + 1, h1, by go_num, o2, hrow2, HL2.out, hlt2, HROW.out, hext2⟩
          case measure => simp [intOf]; omega
    · obtain rfl : k = na := by omega
      have hl : (ks .u32 out).length = k + nb := by rw [ks_len, hlen]
      have HV := Lib.hid hval
      have HL := Lib.hid hlen
      clear hval hlen
      go_wp2_with (go_at_call 130; refine (trim_walk _ _ out _ _ HL.out (Nat.le_refl _) (by unfold maxLen; omega) hrow.rd).mono ?_; rintro e w' ⟨rfl, rfl⟩)
      go_ret
      have hv : val BB out = n * m := by rw [HV.out, Nat.mod_eq_of_lt HN.out]
      have h7 : strip out = dg BB (n * m) := by rw [strip_dg BB_gt out hlt, hv]
      have h5 : stripN out out.length = (dg BB (n * m)).length := by rw [← strip_len, h7]
      have h6 := hrow.rd.take (stripN out out.length)
      rw [ks_take] at h6
      have h8 : out.take (stripN out out.length) = dg BB (n * m) := h7
      rw [h8] at h6
      refine ⟨_, (dg BB (n * m)).length, ret_slice h5 h5, Nat.le_refl _, ?_, h6, hext, fun ad e => by cases e; exact Nat.le_refl _⟩
      have := stripN_le out out.length
      rw [h5, HL.out] at this
      unfold maxLen; omega
end Go.Proofs.Ytogodjiemgilaaa
