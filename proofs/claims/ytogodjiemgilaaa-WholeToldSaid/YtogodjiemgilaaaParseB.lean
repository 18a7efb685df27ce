/- Parse: what it gives, and its walk. -/
import Derived.Test.YtogodjiemgilaaaParseA
namespace Go.Proofs.Ytogodjiemgilaaa
open Go.RowKit

def isD (c : Nat) : Bool := decide (48 ≤ c) && decide (c ≤ 57)
def dgt (c : Nat) : Nat := if isD c then c - 48 else 0
theorem dgt_lt (c : Nat) : dgt c < 10 := by
  unfold dgt isD; split
  · rename_i h; rw [Bool.and_eq_true] at h; have h1 := of_decide_eq_true h.1; have h2 := of_decide_eq_true h.2; omega
  · omega
theorem dgt_of {c : Nat} (h : isD c = true) : dgt c = c - 48 ∧ 48 ≤ c ∧ c ≤ 57 := by
  unfold dgt; rw [if_pos h]; unfold isD at h; rw [Bool.and_eq_true] at h; exact ⟨rfl, of_decide_eq_true h.1, of_decide_eq_true h.2⟩
/-- the number of a text's digits -/
def numU (l : List Nat) : Nat := val 10 (l.reverse.map dgt)
def parseU (l : List Nat) : Option Nat := if 0 < l.length ∧ l.length ≤ 10000 ∧ l.all isD = true then some (numU l) else none
def parseL (l : List Nat) : Option Int := if l[0]?.getD 0 = 45 then (parseU (l.drop 1)).map (sz true) else (parseU l).map (sz false)
theorem numU_lt (l : List Nat) : numU l < 10 ^ l.length := by
  have := val_lt ten_gt (l := l.reverse.map dgt) (fun d hd => by
    simp only [List.mem_map] at hd
    obtain ⟨x, _, rfl⟩ := hd
    exact dgt_lt x)
  rw [List.length_map, List.length_reverse] at this
  exact this
theorem numU_dig (l : List Nat) (j : Nat) (h : j < l.length) : numU l / 10 ^ j % 10 = dgt (l[l.length - 1 - j]?.getD 0) := by
  have hd : ∀ d ∈ l.reverse.map dgt, d < 10 := fun d hd => by
    simp only [List.mem_map] at hd
    obtain ⟨x, _, rfl⟩ := hd
    exact dgt_lt x
  have h1 := fixd_of_val ten_gt (l.reverse.map dgt) hd
  rw [List.length_map, List.length_reverse] at h1
  have h2 := fixd_get (B := 10) (k := numU l) h
  unfold numU at h2 ⊢
  rw [h1, List.getElem?_map, List.getElem?_reverse h] at h2
  rw [List.getElem?_eq_getElem (by omega)] at h2 ⊢
  simpa using (Option.some.inj h2).symm
/-- one more digit of a piece -/
theorem piece_step (N e k : Nat) : N / 10 ^ e % 10 ^ (k + 1) = 10 * (N / 10 ^ (e + 1) % 10 ^ k) + N / 10 ^ e % 10 := by
  rw [Nat.pow_succ 10 k, Nat.mul_comm (10 ^ k) 10, Nat.mod_mul, Nat.div_div_eq_div_mul, show 10 ^ e * 10 = 10 ^ (e + 1) from rfl]
  omega
theorem piece_done (N L i m : Nat) (hN : N < 10 ^ L) (hm : m = 9 ∨ L = 9 * i + m) (h9 : m ≤ 9) : N / 10 ^ (9 * i) % 10 ^ m = N / BB ^ i % BB := by
  rw [BB_pow]
  by_cases h : m = 9
  · subst h; rfl
  · have hL : L = 9 * i + m := by omega
    have h1 : N / 10 ^ (9 * i) < 10 ^ m := by rw [Nat.div_lt_iff_lt_mul (Nat.pow_pos (by decide)), ← Nat.pow_add, Nat.add_comm, ← hL]; exact hN
    rw [Nat.mod_eq_of_lt h1, Nat.mod_eq_of_lt (Nat.lt_of_lt_of_le h1 (by rw [show BB = 10 ^ 9 from rfl]; exact Nat.pow_le_pow_right (by decide) h9))]

theorem own_ext {w w' : World} {base : Nat} {e : TypeId} {size n : Nat} {v : Value} {xs : List Value} (h : w.ownsRow base e size v n xs) (x : Ext w w') : w'.ownsRow base e size v n xs := by
  obtain ⟨h1, h2⟩ := h
  refine ⟨h1, ?_⟩
  rcases h2 with h2 | ⟨g, cap, cur, e1, e2, e3, e4⟩
  · exact .inl h2
  · exact .inr ⟨g, cap, cur, e1, e2, x.obj e3, e4⟩

/-- the results of Parse -/
def GotP (r : Option Int) (W : World) (e : Ending) (w' : World) : Prop :=
  match r with
  | some z => ∃ a c, e = .returned (.tuple #[.agg #[.bool (decide (z < 0)), .slice a (dg BB z.natAbs).length c], .bool true]) ∧ IsInt w' z a c ∧ Ext W w'
  | none => e = .returned (.tuple #[.agg #[.bool false, .slice none 0 0], .bool false]) ∧ Ext W w'

set_option maxRecDepth 100000 in
set_option maxHeartbeats 4000000 in
theorem parse_walk (s : ByteArray) (w : World) (hs : s.size ≤ 1000000) : Calls Try.prog 67 #[.string s] w (GotP (parseL (byt s)) w) := by
  by_cases h0 : s.size = 0
  · have he : byt s = [] := List.length_eq_zero_iff.1 (by rw [byt_len]; exact h0)
    have hr : parseL (byt s) = none := by rw [he]; rfl
    rw [hr]
    clear he hr hs
    go_enter Try.func67, Try.ntmps67
    go_wp2_with fail
    have r9 := Row.new w 69 [.bool false, .slice none 0 0]
    have z0 := r9.cell (i := 0) rfl
    have z1 := r9.cell (i := 1) rfl
    exact bodyPost_ret (v := .tuple #[.agg #[.bool false, .slice none 0 0], .bool false]) (by simp [results, Try.f67, go_sem, z0, z1]) rfl ⟨rfl, Ext.new _ _⟩
  · have hs0 : 0 < s.size := by omega
    have hget : (byt s)[0]?.getD 0 = s[0].toNat := by rw [List.getElem?_eq_getElem (by rw [byt_len]; exact hs0), Option.getD_some, byt_get s 0 hs0]
    by_cases hneg : s[0].toNat = 45
    · have hpl : parseL (byt s) = (parseU (byt (s.extract 1 s.size))).map (sz true) := by
        unfold parseL
        rw [hget, if_pos hneg, byt_extract, List.take_of_length_le (by rw [byt_len]; exact Nat.le_refl _)]
      rw [hpl]
      have n45 : ((s[0].toNat : Int) == 45) = true := by rw [hneg]; rfl
      clear hget
      by_cases hbig : s.size - 1 ≤ 10000 ∧ 0 < s.size - 1
      · obtain ⟨hbig, hs0⟩ := hbig
        have HR : Hid (∀ r, r = (parseU (byt (s.extract 1 s.size))).map (sz true) → (((byt (s.extract 1 s.size)).all isD = true → r = some (sz true (numU (byt (s.extract 1 s.size))))) ∧ ((byt (s.extract 1 s.size)).all isD = false → r = none))) := by
          intro r hr
          have hsz : (byt (s.extract 1 s.size)).length = (s.size - 1) := by rw [byt_len]; rw [ByteArray.size_extract]; omega
          constructor
          · intro h; rw [hr]; unfold parseU; rw [if_pos ⟨by omega, by omega, h⟩]; rfl
          · intro h; rw [hr]; unfold parseU; rw [if_neg (fun h2 => by rw [h2.2.2] at h; cases h)]; rfl
        generalize hrr : (parseU (byt (s.extract 1 s.size))).map (sz true) = r at *
        have HRR := Lib.hid (HR.out r rfl)
        have HTS : Hid ((s.extract 1 s.size).size = (s.size - 1)) := by show _ = _; rw [ByteArray.size_extract]; omega
        clear hrr HR hpl hneg
        have hz1 : (((s.size - 1) : Nat) : Int) ≠ 0 := by omega
        have hz0 : ((((s.size - 1) : Nat) : Int) == 0) = false := beq_false_of_ne hz1
        have hz2 : decide (10000 < (((s.size - 1) : Nat) : Int)) = false := decide_eq_false (by omega)
        go_enter Try.func67, Try.ntmps67
        go_wp2_with fail
        generalize s[0].toNat = b0 at *
        obtain ⟨t, ht⟩ : ∃ t, t = (s.extract 1 s.size) := ⟨_, rfl⟩
        obtain ⟨L, hL⟩ : ∃ L, L = (s.size - 1) := ⟨_, rfl⟩
        obtain ⟨N, hN⟩ : ∃ N, N = numU (byt t) := ⟨_, rfl⟩
        have HT : Hid (t.size = L) := by show _ = _; rw [ht, hL]; exact HTS.out
        have HN := Lib.hid hN
        rw [← ht, ← hN] at HRR
        rw [← ht, ← hL]
        have hbig' : L ≤ 10000 := by omega
        have hs0' : 0 < L := by omega
        clear hN ht hL hs h0 hz1 hz2 hz0 n45 hbig HTS
        obtain ⟨W0, hW0⟩ : ∃ W0, w.alloc (.cells #[.bool false, .slice none 0 0] 69) = W0 := ⟨_, rfl⟩
        have q0 : Row W0 w.heap.size 69 [.bool false, .slice none 0 0] := by rw [← hW0]; exact Row.new w _ [_, _]
        have x0 : Ext w W0 := by rw [← hW0]; exact Ext.new _ _
        rw [hW0]
        have Q := Lib.hid (And.intro x0 q0)
        clear hW0 x0 q0
        go_loopw [5, 6] (fun x ev wr => ∃ i : Nat, 9 * i ≤ L + 8 ∧ ev = .int .i64 ((L : Int) - 9 * i) ∧ wr.ownsRow W0.heap.size 160 1 x i (ks .u32 (fixd BB i N)) ∧ Ext W0 wr ∧ Hid (∀ j, L ≤ j + 9 * i → j < L → isD ((byt t)[j]?.getD 0) = true)) (fun _ ev _ => (intOf ev + 9).toNat)
        case atStart => exact ⟨0, by omega, by simp, World.ownsRow_nil _ _ _ _, Ext.refl _, fun j h1 h2 => absurd h1 (by omega)⟩
        case round =>
          obtain ⟨i, hi, rfl, hown, hext, HP⟩ := hrel
          by_cases hlt : 9 * i < L
          · obtain ⟨e, he⟩ : ∃ e : Nat, (L : Int) - 9 * i = (e : Int) := ⟨L - 9 * i, by omega⟩
            have heL : e ≤ L := by omega
            have he0 : 0 < e := by omega
            have HE := Lib.hid he
            rw [he]
            have HEN : Hid (L = 9 * i + e) := by show _ = _; omega
            clear he
            by_cases h9 : 9 ≤ e
            · have hsz : (t.extract (e - 9) e).size = 9 := by rw [ByteArray.size_extract]; have := HT.out; omega
              obtain ⟨cap, W1, hcv, x1, r1⟩ := conv_text wr (t.extract (e - 9) e)
              rw [hsz] at hcv
              have hb : byt (t.extract (e - 9) e) = ((byt t).take e).drop (e - 9) := byt_extract t (e - 9) e
              rw [hb] at r1
              have hlen1 : (((byt t).take e).drop (e - 9)).length = 9 := by rw [List.length_drop, List.length_take, byt_len]; have := HT.out; omega
              have HG : Hid (∀ k, k < 9 → (((byt t).take e).drop (e - 9))[k]?.getD 0 = (byt t)[(e - 9) + k]?.getD 0) := fun k hk => by
                rw [List.getElem?_drop, List.getElem?_take, if_pos (by omega)]
              have HLT : Hid (∀ d ∈ ((byt t).take e).drop (e - 9), d < 256) := fun d hd => byt_lt t d (List.mem_of_mem_take (List.mem_of_mem_drop hd))
              have HDIG : Hid (∀ k, k < 9 → N / 10 ^ (9 * i + 9 - (k + 1)) % 10 = dgt ((byt t)[(e - 9) + k]?.getD 0)) := fun k hk => by
                have h1 := HN.out
                have h2 := HT.out
                have h3 := HEN.out
                rw [h1, numU_dig _ _ (by rw [byt_len]; omega), byt_len]
                congr 3
                omega
              generalize ((byt t).take e).drop (e - 9) = l at *
              have HL1 := Lib.hid hlen1
              have R1 := Lib.hid r1
              have htl : e ≤ t.size := by have := HT.out; omega
              clear hb r1 hlen1 hsz
              go_wp2_with fail
              clear hcv
              go_loopw [7, 44] (fun nv kv wr2 => ∃ k : Nat, k ≤ 9 ∧ kv = .int .i64 k ∧ nv = .int .u32 ((N / 10 ^ (9 * i + 9 - k) % 10 ^ k : Nat) : Int) ∧ Ext W1 wr2 ∧ Hid (∀ j, j < k → isD ((byt t)[(e - 9) + j]?.getD 0) = true)) (fun _ kv _ => 10 - (intOf kv).toNat)
              case atStart => exact ⟨0, by omega, rfl, by simp [Nat.mod_one], Ext.refl _, fun j h => absurd h (Nat.not_lt_zero j)⟩
              case round =>
                obtain ⟨k, hk, rfl, rfl, hext2, HP2⟩ := hrel
                by_cases hkm : k < 9
                · obtain ⟨b0, ob, hbo, hcb⟩ := (R1.out.ext hext2).num (i := k) (by rw [HL1.out]; exact hkm)
                  simp only [Option.some.injEq, Addr.mk.injEq] at hbo
                  obtain ⟨rfl, rfl, -⟩ := hbo
                  rw [Nat.zero_add] at hcb
                  have hx : l[k]'(by rw [HL1.out]; exact hkm) < 256 := HLT.out _ (List.getElem_mem _)
                  have hxe : Hid ((byt t)[(e - 9) + k]?.getD 0 = l[k]'(by rw [HL1.out]; exact hkm)) := by
                    show _ = _; rw [← HG.out k hkm, List.getElem?_eq_getElem (by rw [HL1.out]; exact hkm)]; rfl
                  generalize l[k]'(by rw [HL1.out]; exact hkm) = c at *
                  have hnb : N / 10 ^ (9 * i + 9 - k) % 10 ^ k < 10 ^ k := Nat.mod_lt _ (Nat.pow_pos (by decide))
                  have hkb : 10 ^ k ≤ 10 ^ 8 := Nat.pow_le_pow_right (by decide) (by omega)
                  have hnb2 : N / 10 ^ (9 * i + 9 - k) % 10 ^ k < 100000000 := Nat.lt_of_lt_of_le hnb hkb
                  have HST : Hid (N / 10 ^ (9 * i + 9 - (k + 1)) % 10 ^ (k + 1) = 10 * (N / 10 ^ (9 * i + 9 - k) % 10 ^ k) + dgt c) := by
                    show _ = _
                    rw [piece_step, HDIG.out k hkm, hxe.out, show 9 * i + 9 - (k + 1) + 1 = 9 * i + 9 - k by omega]
                  clear hnb hkb
                  generalize N / 10 ^ (9 * i + 9 - k) % 10 ^ k = v at *
                  cases hd : isD c
                  · have hF : Hid ((byt t).all isD = false) := by
                      show _ = _
                      refine List.all_eq_false.2 ⟨c, ?_, by rw [hd]; simp⟩
                      have hi2 : (e - 9) + k < (byt t).length := by rw [byt_len]; have := HT.out; omega
                      have h3 := hxe.out
                      rw [List.getElem?_eq_getElem hi2, Option.getD_some] at h3
                      rw [← h3]; exact List.getElem_mem _
                    have hr := HRR.out.2 hF.out
                    have HRN := Lib.hid hr
                    have hcd : c < 48 ∨ 57 < c := by
                      by_cases h1 : 48 ≤ c
                      · by_cases h2 : c ≤ 57
                        · unfold isD at hd; rw [decide_eq_true h1, decide_eq_true h2] at hd; cases hd
                        · omega
                      · omega
                    have q2 := ((Q.out.2.ext hext).ext x1).ext hext2
                    have k0 := q2.cell (i := 0) rfl
                    have k1 := q2.cell (i := 1) rfl
                    have f0 := q2.frozen 0
                    have f1 := q2.frozen 1
                    have Q2 := Lib.hid q2
                    have X2 := Lib.hid (((Q.out.1.trans hext).trans x1).trans hext2)
                    clear q2 hr hext x1 hext2 hd
                    rcases hcd with hcd | hcd
                    all_goals
                      go_wp2_with fail
                      rw [HRN.out]
                      have r9 := (Q2.out.set 0 (.bool false)).set 1 (.slice none 0 0)
                      have z0 := r9.cell (i := 0) rfl
                      have z1 := r9.cell (i := 1) rfl
                      refine bodyPost_ret (v := .tuple #[.agg #[.bool false, .slice none 0 0], .bool false]) (by simp [results, Try.f67, go_sem, z0, z1]) rfl ⟨rfl, (X2.out.set (p := ⟨w.heap.size, 0, none⟩) (Nat.le_refl _) _).set (p := ⟨w.heap.size, 1, none⟩) (Nat.le_refl _) _⟩
                  · obtain ⟨e1, e2, e3⟩ := dgt_of hd
                    rw [e1] at HST
                    have HDD := Lib.hid hd
                    clear e1 hd
                    go_wp2_with fail
                    go_roundw
                    case rel =>
                      refine ⟨k + 1, hkm, by go_num, ?_, hext2, ?_⟩
                      · rw [HST.out]; congr 1; omega
                      · intro j hj
                        by_cases hji : j = k
                        · subst hji; rw [hxe.out]; exact HDD.out
                        · exact HP2.out j (by omega)
                    case measure => simp [intOf]; omega
                · have hkM : 9 = k := by omega
                  subst hkM
                  have HV : Hid (N / 10 ^ (9 * i + 9 - 9) % 10 ^ 9 = N / BB ^ i % BB) := by
                    show _ = _
                    rw [show 9 * i + 9 - 9 = 9 * i by omega]
                    exact piece_done N L i 9 (by have := numU_lt (byt t); rw [byt_len, HT.out, ← HN.out] at this; exact this) (by have := HEN.out; omega) (by omega)
                  have hvb : N / BB ^ i % BB < 1000000000 := Nat.mod_lt _ (by decide)
                  rw [HV.out]
                  have HFS : Hid (fixd BB (i + 1) N = fixd BB i N ++ [N / BB ^ i % BB]) := fixd_succ _ _ _
                  generalize N / BB ^ i % BB = v at *
                  have hown3 := own_ext hown (x1.trans hext2)
                  have hext3 := (hext.trans x1).trans hext2
                  clear hown
                  go_wp2_with (at_builtin; refine append_elem elemU32 hown3 hext3 (by unfold maxLen; omega) (by omega) rfl (by simp [Value.oneCell']) rfl _ _ rfl rfl rfl ?_; intro v' w1 own1 ext1 _)
                  go_roundw
                  case rel =>
                    have hEN := HEN.out
                    refine ⟨i + 1, by omega, ?_, ?_, ext1, ?_⟩
                    · congr 1; omega
                    · rw [HFS.out, ks_append]; exact own1
                    · intro j h1 h2
                      by_cases hj : L ≤ j + 9 * i
                      · exact HP.out j hj h2
                      · have := HP2.out (j - (e - 9)) (by omega)
                        rw [show (e - 9) + (j - (e - 9)) = j by omega] at this
                        exact this
                  case measure => simp [intOf]; omega
            · have hsz : (t.extract 0 e).size = e := by rw [ByteArray.size_extract]; have := HT.out; omega
              obtain ⟨cap, W1, hcv, x1, r1⟩ := conv_text wr (t.extract 0 e)
              rw [hsz] at hcv
              have hb : byt (t.extract 0 e) = ((byt t).take e).drop 0 := byt_extract t 0 e
              rw [hb] at r1
              have hlen1 : (((byt t).take e).drop 0).length = e := by rw [List.length_drop, List.length_take, byt_len]; have := HT.out; omega
              have HG : Hid (∀ k, k < e → (((byt t).take e).drop 0)[k]?.getD 0 = (byt t)[0 + k]?.getD 0) := fun k hk => by
                rw [List.getElem?_drop, List.getElem?_take, if_pos (by omega)]
              have HLT : Hid (∀ d ∈ ((byt t).take e).drop 0, d < 256) := fun d hd => byt_lt t d (List.mem_of_mem_take (List.mem_of_mem_drop hd))
              have HDIG : Hid (∀ k, k < e → N / 10 ^ (9 * i + e - (k + 1)) % 10 = dgt ((byt t)[0 + k]?.getD 0)) := fun k hk => by
                have h1 := HN.out
                have h2 := HT.out
                have h3 := HEN.out
                rw [h1, numU_dig _ _ (by rw [byt_len]; omega), byt_len]
                congr 3
                omega
              generalize ((byt t).take e).drop 0 = l at *
              have HL1 := Lib.hid hlen1
              have R1 := Lib.hid r1
              have htl : e ≤ t.size := by have := HT.out; omega
              clear hb r1 hlen1 hsz
              go_wp2_with fail
              clear hcv
              go_loopw [7, 44] (fun nv kv wr2 => ∃ k : Nat, k ≤ e ∧ kv = .int .i64 k ∧ nv = .int .u32 ((N / 10 ^ (9 * i + e - k) % 10 ^ k : Nat) : Int) ∧ Ext W1 wr2 ∧ Hid (∀ j, j < k → isD ((byt t)[0 + j]?.getD 0) = true)) (fun _ kv _ => 10 - (intOf kv).toNat)
              case atStart => exact ⟨0, by omega, rfl, by simp [Nat.mod_one], Ext.refl _, fun j h => absurd h (Nat.not_lt_zero j)⟩
              case round =>
                obtain ⟨k, hk, rfl, rfl, hext2, HP2⟩ := hrel
                by_cases hkm : k < e
                · obtain ⟨b0, ob, hbo, hcb⟩ := (R1.out.ext hext2).num (i := k) (by rw [HL1.out]; exact hkm)
                  simp only [Option.some.injEq, Addr.mk.injEq] at hbo
                  obtain ⟨rfl, rfl, -⟩ := hbo
                  rw [Nat.zero_add] at hcb
                  have hx : l[k]'(by rw [HL1.out]; exact hkm) < 256 := HLT.out _ (List.getElem_mem _)
                  have hxe : Hid ((byt t)[0 + k]?.getD 0 = l[k]'(by rw [HL1.out]; exact hkm)) := by
                    show _ = _; rw [← HG.out k hkm, List.getElem?_eq_getElem (by rw [HL1.out]; exact hkm)]; rfl
                  generalize l[k]'(by rw [HL1.out]; exact hkm) = c at *
                  have hnb : N / 10 ^ (9 * i + e - k) % 10 ^ k < 10 ^ k := Nat.mod_lt _ (Nat.pow_pos (by decide))
                  have hkb : 10 ^ k ≤ 10 ^ 8 := Nat.pow_le_pow_right (by decide) (by omega)
                  have hnb2 : N / 10 ^ (9 * i + e - k) % 10 ^ k < 100000000 := Nat.lt_of_lt_of_le hnb hkb
                  have HST : Hid (N / 10 ^ (9 * i + e - (k + 1)) % 10 ^ (k + 1) = 10 * (N / 10 ^ (9 * i + e - k) % 10 ^ k) + dgt c) := by
                    show _ = _
                    rw [piece_step, HDIG.out k hkm, hxe.out, show 9 * i + e - (k + 1) + 1 = 9 * i + e - k by omega]
                  clear hnb hkb
                  generalize N / 10 ^ (9 * i + e - k) % 10 ^ k = v at *
                  cases hd : isD c
                  · have hF : Hid ((byt t).all isD = false) := by
                      show _ = _
                      refine List.all_eq_false.2 ⟨c, ?_, by rw [hd]; simp⟩
                      have hi2 : 0 + k < (byt t).length := by rw [byt_len]; have := HT.out; omega
                      have h3 := hxe.out
                      rw [List.getElem?_eq_getElem hi2, Option.getD_some] at h3
                      rw [← h3]; exact List.getElem_mem _
                    have hr := HRR.out.2 hF.out
                    have HRN := Lib.hid hr
                    have hcd : c < 48 ∨ 57 < c := by
                      by_cases h1 : 48 ≤ c
                      · by_cases h2 : c ≤ 57
                        · unfold isD at hd; rw [decide_eq_true h1, decide_eq_true h2] at hd; cases hd
                        · omega
                      · omega
                    have q2 := ((Q.out.2.ext hext).ext x1).ext hext2
                    have k0 := q2.cell (i := 0) rfl
                    have k1 := q2.cell (i := 1) rfl
                    have f0 := q2.frozen 0
                    have f1 := q2.frozen 1
                    have Q2 := Lib.hid q2
                    have X2 := Lib.hid (((Q.out.1.trans hext).trans x1).trans hext2)
                    clear q2 hr hext x1 hext2 hd
                    rcases hcd with hcd | hcd
                    all_goals
                      go_wp2_with fail
                      rw [HRN.out]
                      have r9 := (Q2.out.set 0 (.bool false)).set 1 (.slice none 0 0)
                      have z0 := r9.cell (i := 0) rfl
                      have z1 := r9.cell (i := 1) rfl
                      refine bodyPost_ret (v := .tuple #[.agg #[.bool false, .slice none 0 0], .bool false]) (by simp [results, Try.f67, go_sem, z0, z1]) rfl ⟨rfl, (X2.out.set (p := ⟨w.heap.size, 0, none⟩) (Nat.le_refl _) _).set (p := ⟨w.heap.size, 1, none⟩) (Nat.le_refl _) _⟩
                  · obtain ⟨e1, e2, e3⟩ := dgt_of hd
                    rw [e1] at HST
                    have HDD := Lib.hid hd
                    clear e1 hd
                    go_wp2_with fail
                    go_roundw
                    case rel =>
                      refine ⟨k + 1, hkm, by go_num, ?_, hext2, ?_⟩
                      · rw [HST.out]; congr 1; omega
                      · intro j hj
                        by_cases hji : j = k
                        · subst hji; rw [hxe.out]; exact HDD.out
                        · exact HP2.out j (by omega)
                    case measure => simp [intOf]; omega
                · have hkM : e = k := by omega
                  subst hkM
                  have HV : Hid (N / 10 ^ (9 * i + e - e) % 10 ^ e = N / BB ^ i % BB) := by
                    show _ = _
                    rw [show 9 * i + e - e = 9 * i by omega]
                    exact piece_done N L i e (by have := numU_lt (byt t); rw [byt_len, HT.out, ← HN.out] at this; exact this) (by have := HEN.out; omega) (by omega)
                  have hvb : N / BB ^ i % BB < 1000000000 := Nat.mod_lt _ (by decide)
                  rw [HV.out]
                  have HFS : Hid (fixd BB (i + 1) N = fixd BB i N ++ [N / BB ^ i % BB]) := fixd_succ _ _ _
                  generalize N / BB ^ i % BB = v at *
                  have hown3 := own_ext hown (x1.trans hext2)
                  have hext3 := (hext.trans x1).trans hext2
                  clear hown
                  go_wp2_with (at_builtin; refine append_elem elemU32 hown3 hext3 (by unfold maxLen; omega) (by omega) rfl (by simp [Value.oneCell']) rfl _ _ rfl rfl rfl ?_; intro v' w1 own1 ext1 _)
                  go_roundw
                  case rel =>
                    have hEN := HEN.out
                    refine ⟨i + 1, by omega, ?_, ?_, ext1, ?_⟩
                    · congr 1; omega
                    · rw [HFS.out, ks_append]; exact own1
                    · intro j h1 h2
                      by_cases hj : L ≤ j + 9 * i
                      · exact HP.out j hj h2
                      · have := HP2.out (j - 0) (by omega)
                        rw [show 0 + (j - 0) = j by omega] at this
                        exact this
                  case measure => simp [intOf]; omega
          · have hNb : N < BB ^ i := by
              have h1 := numU_lt (byt t)
              rw [byt_len, HT.out, ← HN.out] at h1
              rw [BB_pow]
              exact Nat.lt_of_lt_of_le h1 (Nat.pow_le_pow_right (by decide) (by omega))
            have hall : (byt t).all isD = true := List.all_eq_true.2 fun d hd => by
              obtain ⟨j, hj, rfl⟩ := List.getElem_of_mem hd
              have h2 := HT.out
              rw [byt_len] at hj
              have := HP.out j (by omega) (by omega)
              rw [List.getElem?_eq_getElem (by rw [byt_len]; exact hj), Option.getD_some] at this
              exact this
            have HRS := Lib.hid (HRR.out.1 hall)
            obtain ⟨a1, c1, rfl, g1, g2, g3⟩ := own_form hown
            have HTR := Lib.hid (trim_walk a1 c1 (fixd BB i N) i wr (fixd_len _ _ _) g1 g2 g3)
            have h7 : strip (fixd BB i N) = dg BB N := strip_fixd BB_gt i N hNb
            have h5 : stripN (fixd BB i N) (fixd BB i N).length = (dg BB N).length := by rw [← strip_len, h7]
            have h6 := g3.take (stripN (fixd BB i N) (fixd BB i N).length)
            rw [ks_take, show (fixd BB i N).take (stripN (fixd BB i N) (fixd BB i N).length) = dg BB N from h7] at h6
            have hdl : (dg BB N).length ≤ i := by rw [← h5]; exact Nat.le_trans (stripN_le _ _) (by rw [fixd_len]; exact Nat.le_refl _)
            rw [h5] at HTR
            obtain ⟨y, hy⟩ : ∃ y, sz true N = y := ⟨_, rfl⟩
            have HO := Lib.hid (of_walk true N a1 (dg BB N).length wr (Nat.le_refl _) (by unfold maxLen; omega) (by omega) h6)
            rw [hy] at HO HRS
            have Q2 := Lib.hid (Q.out.2.ext hext)
            have X2 := Lib.hid (Q.out.1.trans hext)
            have hsz := (Q.out.2).lt
            have hsz2 := hext.size
            clear hNb hall HRR HP h7 h5 h6 hdl hy hown g1 g2 g3 hext
            go_wp2_with fail
            refine HTR.out.mono ?_
            rintro e w' ⟨rfl, rfl⟩
            go_wp2_with fail
            refine HO.out.mono ?_
            rintro e w3 ⟨a3, c3, rfl, t1, t2, t3, t4, t5⟩
            have q3 := Q2.out.ext t4
            have k0 := q3.cell (i := 0) rfl
            have k1 := q3.cell (i := 1) rfl
            have f0 := q3.frozen 0
            have f1 := q3.frozen 1
            have Q3 := Lib.hid q3
            clear q3
            go_wp2_with fail
            rw [HRS.out]
            have r9 := (Q3.out.set 0 (.bool (decide (y < 0)))).set 1 (.slice a3 (dg BB y.natAbs).length c3)
            have z0 := r9.cell (i := 0) rfl
            have z1 := r9.cell (i := 1) rfl
            refine bodyPost_ret (v := .tuple #[.agg #[.bool (decide (y < 0)), .slice a3 (dg BB y.natAbs).length c3], .bool true]) (by simp [results, Try.f67, go_sem, z0, z1]) rfl ⟨a3, c3, rfl, ⟨t1, t2, (t3.far t5 (p := ⟨w.heap.size, 0, none⟩) (by show w.heap.size < _; omega) _).far t5 (p := ⟨w.heap.size, 1, none⟩) (by show w.heap.size < _; omega) _⟩, ((X2.out.trans t4).set (p := ⟨w.heap.size, 0, none⟩) (Nat.le_refl _) _).set (p := ⟨w.heap.size, 1, none⟩) (Nat.le_refl _) _⟩
      · have hr : (parseU (byt (s.extract 1 s.size))).map (sz true) = none := by
          unfold parseU
          rw [if_neg (fun h => by rw [byt_len, ByteArray.size_extract] at h; omega)]; rfl
        rw [hr]
        clear hr hpl hneg
        by_cases hz : s.size - 1 = 0
        · have hz1 : ((s.size - 1 : Nat) : Int) = 0 := by omega
          clear hbig
          go_enter Try.func67, Try.ntmps67
          go_wp2_with fail
          have r9 := Row.new w 69 [.bool false, .slice none 0 0]
          have z0 := r9.cell (i := 0) rfl
          have z1 := r9.cell (i := 1) rfl
          exact bodyPost_ret (v := .tuple #[.agg #[.bool false, .slice none 0 0], .bool false]) (by simp [results, Try.f67, go_sem, z0, z1]) rfl ⟨rfl, Ext.new _ _⟩
        · have hz0 : (((s.size - 1 : Nat) : Int) == 0) = false := beq_false_of_ne (by omega)
          have hz2 : decide (10000 < ((s.size - 1 : Nat) : Int)) = true := decide_eq_true (by omega)
          go_enter Try.func67, Try.ntmps67
          go_wp2_with fail
          have r9 := Row.new w 69 [.bool false, .slice none 0 0]
          have z0 := r9.cell (i := 0) rfl
          have z1 := r9.cell (i := 1) rfl
          exact bodyPost_ret (v := .tuple #[.agg #[.bool false, .slice none 0 0], .bool false]) (by simp [results, Try.f67, go_sem, z0, z1]) rfl ⟨rfl, Ext.new _ _⟩
    · have n45 : ((s[0].toNat : Int) == 45) = false := by simp; omega
      have hpl : parseL (byt s) = (parseU (byt s)).map (sz false) := by
        unfold parseL
        rw [hget, if_neg hneg]
      rw [hpl]
      clear hget
      by_cases hbig : s.size ≤ 10000
      · have HR : Hid (∀ r, r = (parseU (byt s)).map (sz false) → (((byt s).all isD = true → r = some (sz false (numU (byt s)))) ∧ ((byt s).all isD = false → r = none))) := by
          intro r hr
          have hsz : (byt s).length = s.size := by rw [byt_len]
          constructor
          · intro h; rw [hr]; unfold parseU; rw [if_pos ⟨by omega, by omega, h⟩]; rfl
          · intro h; rw [hr]; unfold parseU; rw [if_neg (fun h2 => by rw [h2.2.2] at h; cases h)]; rfl
        generalize hrr : (parseU (byt s)).map (sz false) = r at *
        have HRR := Lib.hid (HR.out r rfl)
        clear hrr HR hpl hneg
        have hz1 : ((s.size : Nat) : Int) ≠ 0 := by omega
        have hz0 : (((s.size : Nat) : Int) == 0) = false := beq_false_of_ne hz1
        have hz2 : decide (10000 < ((s.size : Nat) : Int)) = false := decide_eq_false (by omega)
        go_enter Try.func67, Try.ntmps67
        go_wp2_with fail
        generalize s[0].toNat = b0 at *
        obtain ⟨t, ht⟩ : ∃ t, t = s := ⟨_, rfl⟩
        have hts : s.size = t.size := by rw [ht]
        obtain ⟨N, hN⟩ : ∃ N, N = numU (byt t) := ⟨_, rfl⟩
        have HN := Lib.hid hN
        rw [← ht, ← hN] at HRR
        rw [← ht]
        obtain ⟨L, hL⟩ : ∃ L, L = t.size := ⟨_, rfl⟩
        have HT : Hid (t.size = L) := hL.symm
        rw [← hL] at hts ⊢
        have hbig' : L ≤ 10000 := by omega
        have hs0' : 0 < L := by omega
        clear hN ht hL hs h0 hz1 hz2 hz0 n45 hbig
        obtain ⟨W0, hW0⟩ : ∃ W0, w.alloc (.cells #[.bool false, .slice none 0 0] 69) = W0 := ⟨_, rfl⟩
        have q0 : Row W0 w.heap.size 69 [.bool false, .slice none 0 0] := by rw [← hW0]; exact Row.new w _ [_, _]
        have x0 : Ext w W0 := by rw [← hW0]; exact Ext.new _ _
        rw [hW0]
        have Q := Lib.hid (And.intro x0 q0)
        clear hW0 x0 q0
        go_loopw [5, 6] (fun x ev wr => ∃ i : Nat, 9 * i ≤ L + 8 ∧ ev = .int .i64 ((L : Int) - 9 * i) ∧ wr.ownsRow W0.heap.size 160 1 x i (ks .u32 (fixd BB i N)) ∧ Ext W0 wr ∧ Hid (∀ j, L ≤ j + 9 * i → j < L → isD ((byt t)[j]?.getD 0) = true)) (fun _ ev _ => (intOf ev + 9).toNat)
        case atStart => exact ⟨0, by omega, by simp, World.ownsRow_nil _ _ _ _, Ext.refl _, fun j h1 h2 => absurd h1 (by omega)⟩
        case round =>
          obtain ⟨i, hi, rfl, hown, hext, HP⟩ := hrel
          by_cases hlt : 9 * i < L
          · obtain ⟨e, he⟩ : ∃ e : Nat, (L : Int) - 9 * i = (e : Int) := ⟨L - 9 * i, by omega⟩
            have heL : e ≤ L := by omega
            have he0 : 0 < e := by omega
            have HE := Lib.hid he
            rw [he]
            have HEN : Hid (L = 9 * i + e) := by show _ = _; omega
            clear he
            by_cases h9 : 9 ≤ e
            · have hsz : (t.extract (e - 9) e).size = 9 := by rw [ByteArray.size_extract]; have := HT.out; omega
              obtain ⟨cap, W1, hcv, x1, r1⟩ := conv_text wr (t.extract (e - 9) e)
              rw [hsz] at hcv
              have hb : byt (t.extract (e - 9) e) = ((byt t).take e).drop (e - 9) := byt_extract t (e - 9) e
              rw [hb] at r1
              have hlen1 : (((byt t).take e).drop (e - 9)).length = 9 := by rw [List.length_drop, List.length_take, byt_len]; have := HT.out; omega
              have HG : Hid (∀ k, k < 9 → (((byt t).take e).drop (e - 9))[k]?.getD 0 = (byt t)[(e - 9) + k]?.getD 0) := fun k hk => by
                rw [List.getElem?_drop, List.getElem?_take, if_pos (by omega)]
              have HLT : Hid (∀ d ∈ ((byt t).take e).drop (e - 9), d < 256) := fun d hd => byt_lt t d (List.mem_of_mem_take (List.mem_of_mem_drop hd))
              have HDIG : Hid (∀ k, k < 9 → N / 10 ^ (9 * i + 9 - (k + 1)) % 10 = dgt ((byt t)[(e - 9) + k]?.getD 0)) := fun k hk => by
                have h1 := HN.out
                have h2 := HT.out
                have h3 := HEN.out
                rw [h1, numU_dig _ _ (by rw [byt_len]; omega), byt_len]
                congr 3
                omega
              generalize ((byt t).take e).drop (e - 9) = l at *
              have HL1 := Lib.hid hlen1
              have R1 := Lib.hid r1
              have htl : e ≤ t.size := by have := HT.out; omega
              clear hb r1 hlen1 hsz
              go_wp2_with fail
              clear hcv
              go_loopw [7, 44] (fun nv kv wr2 => ∃ k : Nat, k ≤ 9 ∧ kv = .int .i64 k ∧ nv = .int .u32 ((N / 10 ^ (9 * i + 9 - k) % 10 ^ k : Nat) : Int) ∧ Ext W1 wr2 ∧ Hid (∀ j, j < k → isD ((byt t)[(e - 9) + j]?.getD 0) = true)) (fun _ kv _ => 10 - (intOf kv).toNat)
              case atStart => exact ⟨0, by omega, rfl, by simp [Nat.mod_one], Ext.refl _, fun j h => absurd h (Nat.not_lt_zero j)⟩
              case round =>
                obtain ⟨k, hk, rfl, rfl, hext2, HP2⟩ := hrel
                by_cases hkm : k < 9
                · obtain ⟨b0, ob, hbo, hcb⟩ := (R1.out.ext hext2).num (i := k) (by rw [HL1.out]; exact hkm)
                  simp only [Option.some.injEq, Addr.mk.injEq] at hbo
                  obtain ⟨rfl, rfl, -⟩ := hbo
                  rw [Nat.zero_add] at hcb
                  have hx : l[k]'(by rw [HL1.out]; exact hkm) < 256 := HLT.out _ (List.getElem_mem _)
                  have hxe : Hid ((byt t)[(e - 9) + k]?.getD 0 = l[k]'(by rw [HL1.out]; exact hkm)) := by
                    show _ = _; rw [← HG.out k hkm, List.getElem?_eq_getElem (by rw [HL1.out]; exact hkm)]; rfl
                  generalize l[k]'(by rw [HL1.out]; exact hkm) = c at *
                  have hnb : N / 10 ^ (9 * i + 9 - k) % 10 ^ k < 10 ^ k := Nat.mod_lt _ (Nat.pow_pos (by decide))
                  have hkb : 10 ^ k ≤ 10 ^ 8 := Nat.pow_le_pow_right (by decide) (by omega)
                  have hnb2 : N / 10 ^ (9 * i + 9 - k) % 10 ^ k < 100000000 := Nat.lt_of_lt_of_le hnb hkb
                  have HST : Hid (N / 10 ^ (9 * i + 9 - (k + 1)) % 10 ^ (k + 1) = 10 * (N / 10 ^ (9 * i + 9 - k) % 10 ^ k) + dgt c) := by
                    show _ = _
                    rw [piece_step, HDIG.out k hkm, hxe.out, show 9 * i + 9 - (k + 1) + 1 = 9 * i + 9 - k by omega]
                  clear hnb hkb
                  generalize N / 10 ^ (9 * i + 9 - k) % 10 ^ k = v at *
                  cases hd : isD c
                  · have hF : Hid ((byt t).all isD = false) := by
                      show _ = _
                      refine List.all_eq_false.2 ⟨c, ?_, by rw [hd]; simp⟩
                      have hi2 : (e - 9) + k < (byt t).length := by rw [byt_len]; have := HT.out; omega
                      have h3 := hxe.out
                      rw [List.getElem?_eq_getElem hi2, Option.getD_some] at h3
                      rw [← h3]; exact List.getElem_mem _
                    have hr := HRR.out.2 hF.out
                    have HRN := Lib.hid hr
                    have hcd : c < 48 ∨ 57 < c := by
                      by_cases h1 : 48 ≤ c
                      · by_cases h2 : c ≤ 57
                        · unfold isD at hd; rw [decide_eq_true h1, decide_eq_true h2] at hd; cases hd
                        · omega
                      · omega
                    have q2 := ((Q.out.2.ext hext).ext x1).ext hext2
                    have k0 := q2.cell (i := 0) rfl
                    have k1 := q2.cell (i := 1) rfl
                    have f0 := q2.frozen 0
                    have f1 := q2.frozen 1
                    have Q2 := Lib.hid q2
                    have X2 := Lib.hid (((Q.out.1.trans hext).trans x1).trans hext2)
                    clear q2 hr hext x1 hext2 hd
                    rcases hcd with hcd | hcd
                    all_goals
                      go_wp2_with fail
                      rw [HRN.out]
                      have r9 := (Q2.out.set 0 (.bool false)).set 1 (.slice none 0 0)
                      have z0 := r9.cell (i := 0) rfl
                      have z1 := r9.cell (i := 1) rfl
                      refine bodyPost_ret (v := .tuple #[.agg #[.bool false, .slice none 0 0], .bool false]) (by simp [results, Try.f67, go_sem, z0, z1]) rfl ⟨rfl, (X2.out.set (p := ⟨w.heap.size, 0, none⟩) (Nat.le_refl _) _).set (p := ⟨w.heap.size, 1, none⟩) (Nat.le_refl _) _⟩
                  · obtain ⟨e1, e2, e3⟩ := dgt_of hd
                    rw [e1] at HST
                    have HDD := Lib.hid hd
                    clear e1 hd
                    go_wp2_with fail
                    go_roundw
                    case rel =>
                      refine ⟨k + 1, hkm, by go_num, ?_, hext2, ?_⟩
                      · rw [HST.out]; congr 1; omega
                      · intro j hj
                        by_cases hji : j = k
                        · subst hji; rw [hxe.out]; exact HDD.out
                        · exact HP2.out j (by omega)
                    case measure => simp [intOf]; omega
                · have hkM : 9 = k := by omega
                  subst hkM
                  have HV : Hid (N / 10 ^ (9 * i + 9 - 9) % 10 ^ 9 = N / BB ^ i % BB) := by
                    show _ = _
                    rw [show 9 * i + 9 - 9 = 9 * i by omega]
                    exact piece_done N L i 9 (by have := numU_lt (byt t); rw [byt_len, HT.out, ← HN.out] at this; exact this) (by have := HEN.out; omega) (by omega)
                  have hvb : N / BB ^ i % BB < 1000000000 := Nat.mod_lt _ (by decide)
                  rw [HV.out]
                  have HFS : Hid (fixd BB (i + 1) N = fixd BB i N ++ [N / BB ^ i % BB]) := fixd_succ _ _ _
                  generalize N / BB ^ i % BB = v at *
                  have hown3 := own_ext hown (x1.trans hext2)
                  have hext3 := (hext.trans x1).trans hext2
                  clear hown
                  go_wp2_with (at_builtin; refine append_elem elemU32 hown3 hext3 (by unfold maxLen; omega) (by omega) rfl (by simp [Value.oneCell']) rfl _ _ rfl rfl rfl ?_; intro v' w1 own1 ext1 _)
                  go_roundw
                  case rel =>
                    have hEN := HEN.out
                    refine ⟨i + 1, by omega, ?_, ?_, ext1, ?_⟩
                    · congr 1; omega
                    · rw [HFS.out, ks_append]; exact own1
                    · intro j h1 h2
                      by_cases hj : L ≤ j + 9 * i
                      · exact HP.out j hj h2
                      · have := HP2.out (j - (e - 9)) (by omega)
                        rw [show (e - 9) + (j - (e - 9)) = j by omega] at this
                        exact this
                  case measure => simp [intOf]; omega
            · have hsz : (t.extract 0 e).size = e := by rw [ByteArray.size_extract]; have := HT.out; omega
              obtain ⟨cap, W1, hcv, x1, r1⟩ := conv_text wr (t.extract 0 e)
              rw [hsz] at hcv
              have hb : byt (t.extract 0 e) = ((byt t).take e).drop 0 := byt_extract t 0 e
              rw [hb] at r1
              have hlen1 : (((byt t).take e).drop 0).length = e := by rw [List.length_drop, List.length_take, byt_len]; have := HT.out; omega
              have HG : Hid (∀ k, k < e → (((byt t).take e).drop 0)[k]?.getD 0 = (byt t)[0 + k]?.getD 0) := fun k hk => by
                rw [List.getElem?_drop, List.getElem?_take, if_pos (by omega)]
              have HLT : Hid (∀ d ∈ ((byt t).take e).drop 0, d < 256) := fun d hd => byt_lt t d (List.mem_of_mem_take (List.mem_of_mem_drop hd))
              have HDIG : Hid (∀ k, k < e → N / 10 ^ (9 * i + e - (k + 1)) % 10 = dgt ((byt t)[0 + k]?.getD 0)) := fun k hk => by
                have h1 := HN.out
                have h2 := HT.out
                have h3 := HEN.out
                rw [h1, numU_dig _ _ (by rw [byt_len]; omega), byt_len]
                congr 3
                omega
              generalize ((byt t).take e).drop 0 = l at *
              have HL1 := Lib.hid hlen1
              have R1 := Lib.hid r1
              have htl : e ≤ t.size := by have := HT.out; omega
              clear hb r1 hlen1 hsz
              go_wp2_with fail
              clear hcv
              go_loopw [7, 44] (fun nv kv wr2 => ∃ k : Nat, k ≤ e ∧ kv = .int .i64 k ∧ nv = .int .u32 ((N / 10 ^ (9 * i + e - k) % 10 ^ k : Nat) : Int) ∧ Ext W1 wr2 ∧ Hid (∀ j, j < k → isD ((byt t)[0 + j]?.getD 0) = true)) (fun _ kv _ => 10 - (intOf kv).toNat)
              case atStart => exact ⟨0, by omega, rfl, by simp [Nat.mod_one], Ext.refl _, fun j h => absurd h (Nat.not_lt_zero j)⟩
              case round =>
                obtain ⟨k, hk, rfl, rfl, hext2, HP2⟩ := hrel
                by_cases hkm : k < e
                · obtain ⟨b0, ob, hbo, hcb⟩ := (R1.out.ext hext2).num (i := k) (by rw [HL1.out]; exact hkm)
                  simp only [Option.some.injEq, Addr.mk.injEq] at hbo
                  obtain ⟨rfl, rfl, -⟩ := hbo
                  rw [Nat.zero_add] at hcb
                  have hx : l[k]'(by rw [HL1.out]; exact hkm) < 256 := HLT.out _ (List.getElem_mem _)
                  have hxe : Hid ((byt t)[0 + k]?.getD 0 = l[k]'(by rw [HL1.out]; exact hkm)) := by
                    show _ = _; rw [← HG.out k hkm, List.getElem?_eq_getElem (by rw [HL1.out]; exact hkm)]; rfl
                  generalize l[k]'(by rw [HL1.out]; exact hkm) = c at *
                  have hnb : N / 10 ^ (9 * i + e - k) % 10 ^ k < 10 ^ k := Nat.mod_lt _ (Nat.pow_pos (by decide))
                  have hkb : 10 ^ k ≤ 10 ^ 8 := Nat.pow_le_pow_right (by decide) (by omega)
                  have hnb2 : N / 10 ^ (9 * i + e - k) % 10 ^ k < 100000000 := Nat.lt_of_lt_of_le hnb hkb
                  have HST : Hid (N / 10 ^ (9 * i + e - (k + 1)) % 10 ^ (k + 1) = 10 * (N / 10 ^ (9 * i + e - k) % 10 ^ k) + dgt c) := by
                    show _ = _
                    rw [piece_step, HDIG.out k hkm, hxe.out, show 9 * i + e - (k + 1) + 1 = 9 * i + e - k by omega]
                  clear hnb hkb
                  generalize N / 10 ^ (9 * i + e - k) % 10 ^ k = v at *
                  cases hd : isD c
                  · have hF : Hid ((byt t).all isD = false) := by
                      show _ = _
                      refine List.all_eq_false.2 ⟨c, ?_, by rw [hd]; simp⟩
                      have hi2 : 0 + k < (byt t).length := by rw [byt_len]; have := HT.out; omega
                      have h3 := hxe.out
                      rw [List.getElem?_eq_getElem hi2, Option.getD_some] at h3
                      rw [← h3]; exact List.getElem_mem _
                    have hr := HRR.out.2 hF.out
                    have HRN := Lib.hid hr
                    have hcd : c < 48 ∨ 57 < c := by
                      by_cases h1 : 48 ≤ c
                      · by_cases h2 : c ≤ 57
                        · unfold isD at hd; rw [decide_eq_true h1, decide_eq_true h2] at hd; cases hd
                        · omega
                      · omega
                    have q2 := ((Q.out.2.ext hext).ext x1).ext hext2
                    have k0 := q2.cell (i := 0) rfl
                    have k1 := q2.cell (i := 1) rfl
                    have f0 := q2.frozen 0
                    have f1 := q2.frozen 1
                    have Q2 := Lib.hid q2
                    have X2 := Lib.hid (((Q.out.1.trans hext).trans x1).trans hext2)
                    clear q2 hr hext x1 hext2 hd
                    rcases hcd with hcd | hcd
                    all_goals
                      go_wp2_with fail
                      rw [HRN.out]
                      have r9 := (Q2.out.set 0 (.bool false)).set 1 (.slice none 0 0)
                      have z0 := r9.cell (i := 0) rfl
                      have z1 := r9.cell (i := 1) rfl
                      refine bodyPost_ret (v := .tuple #[.agg #[.bool false, .slice none 0 0], .bool false]) (by simp [results, Try.f67, go_sem, z0, z1]) rfl ⟨rfl, (X2.out.set (p := ⟨w.heap.size, 0, none⟩) (Nat.le_refl _) _).set (p := ⟨w.heap.size, 1, none⟩) (Nat.le_refl _) _⟩
                  · obtain ⟨e1, e2, e3⟩ := dgt_of hd
                    rw [e1] at HST
                    have HDD := Lib.hid hd
                    clear e1 hd
                    go_wp2_with fail
                    go_roundw
                    case rel =>
                      refine ⟨k + 1, hkm, by go_num, ?_, hext2, ?_⟩
                      · rw [HST.out]; congr 1; omega
                      · intro j hj
                        by_cases hji : j = k
                        · subst hji; rw [hxe.out]; exact HDD.out
                        · exact HP2.out j (by omega)
                    case measure => simp [intOf]; omega
                · have hkM : e = k := by omega
                  subst hkM
                  have HV : Hid (N / 10 ^ (9 * i + e - e) % 10 ^ e = N / BB ^ i % BB) := by
                    show _ = _
                    rw [show 9 * i + e - e = 9 * i by omega]
                    exact piece_done N L i e (by have := numU_lt (byt t); rw [byt_len, HT.out, ← HN.out] at this; exact this) (by have := HEN.out; omega) (by omega)
                  have hvb : N / BB ^ i % BB < 1000000000 := Nat.mod_lt _ (by decide)
                  rw [HV.out]
                  have HFS : Hid (fixd BB (i + 1) N = fixd BB i N ++ [N / BB ^ i % BB]) := fixd_succ _ _ _
                  generalize N / BB ^ i % BB = v at *
                  have hown3 := own_ext hown (x1.trans hext2)
                  have hext3 := (hext.trans x1).trans hext2
                  clear hown
                  go_wp2_with (at_builtin; refine append_elem elemU32 hown3 hext3 (by unfold maxLen; omega) (by omega) rfl (by simp [Value.oneCell']) rfl _ _ rfl rfl rfl ?_; intro v' w1 own1 ext1 _)
                  go_roundw
                  case rel =>
                    have hEN := HEN.out
                    refine ⟨i + 1, by omega, ?_, ?_, ext1, ?_⟩
                    · congr 1; omega
                    · rw [HFS.out, ks_append]; exact own1
                    · intro j h1 h2
                      by_cases hj : L ≤ j + 9 * i
                      · exact HP.out j hj h2
                      · have := HP2.out (j - 0) (by omega)
                        rw [show 0 + (j - 0) = j by omega] at this
                        exact this
                  case measure => simp [intOf]; omega
          · have hNb : N < BB ^ i := by
              have h1 := numU_lt (byt t)
              rw [byt_len, HT.out, ← HN.out] at h1
              rw [BB_pow]
              exact Nat.lt_of_lt_of_le h1 (Nat.pow_le_pow_right (by decide) (by omega))
            have hall : (byt t).all isD = true := List.all_eq_true.2 fun d hd => by
              obtain ⟨j, hj, rfl⟩ := List.getElem_of_mem hd
              have h2 := HT.out
              rw [byt_len] at hj
              have := HP.out j (by omega) (by omega)
              rw [List.getElem?_eq_getElem (by rw [byt_len]; exact hj), Option.getD_some] at this
              exact this
            have HRS := Lib.hid (HRR.out.1 hall)
            obtain ⟨a1, c1, rfl, g1, g2, g3⟩ := own_form hown
            have HTR := Lib.hid (trim_walk a1 c1 (fixd BB i N) i wr (fixd_len _ _ _) g1 g2 g3)
            have h7 : strip (fixd BB i N) = dg BB N := strip_fixd BB_gt i N hNb
            have h5 : stripN (fixd BB i N) (fixd BB i N).length = (dg BB N).length := by rw [← strip_len, h7]
            have h6 := g3.take (stripN (fixd BB i N) (fixd BB i N).length)
            rw [ks_take, show (fixd BB i N).take (stripN (fixd BB i N) (fixd BB i N).length) = dg BB N from h7] at h6
            have hdl : (dg BB N).length ≤ i := by rw [← h5]; exact Nat.le_trans (stripN_le _ _) (by rw [fixd_len]; exact Nat.le_refl _)
            rw [h5] at HTR
            obtain ⟨y, hy⟩ : ∃ y, sz false N = y := ⟨_, rfl⟩
            have HO := Lib.hid (of_walk false N a1 (dg BB N).length wr (Nat.le_refl _) (by unfold maxLen; omega) (by omega) h6)
            rw [hy] at HO HRS
            have Q2 := Lib.hid (Q.out.2.ext hext)
            have X2 := Lib.hid (Q.out.1.trans hext)
            have hsz := (Q.out.2).lt
            have hsz2 := hext.size
            clear hNb hall HRR HP h7 h5 h6 hdl hy hown g1 g2 g3 hext
            go_wp2_with fail
            refine HTR.out.mono ?_
            rintro e w' ⟨rfl, rfl⟩
            go_wp2_with fail
            refine HO.out.mono ?_
            rintro e w3 ⟨a3, c3, rfl, t1, t2, t3, t4, t5⟩
            have q3 := Q2.out.ext t4
            have k0 := q3.cell (i := 0) rfl
            have k1 := q3.cell (i := 1) rfl
            have f0 := q3.frozen 0
            have f1 := q3.frozen 1
            have Q3 := Lib.hid q3
            clear q3
            go_wp2_with fail
            rw [HRS.out]
            have r9 := (Q3.out.set 0 (.bool (decide (y < 0)))).set 1 (.slice a3 (dg BB y.natAbs).length c3)
            have z0 := r9.cell (i := 0) rfl
            have z1 := r9.cell (i := 1) rfl
            refine bodyPost_ret (v := .tuple #[.agg #[.bool (decide (y < 0)), .slice a3 (dg BB y.natAbs).length c3], .bool true]) (by simp [results, Try.f67, go_sem, z0, z1]) rfl ⟨a3, c3, rfl, ⟨t1, t2, (t3.far t5 (p := ⟨w.heap.size, 0, none⟩) (by show w.heap.size < _; omega) _).far t5 (p := ⟨w.heap.size, 1, none⟩) (by show w.heap.size < _; omega) _⟩, ((X2.out.trans t4).set (p := ⟨w.heap.size, 0, none⟩) (Nat.le_refl _) _).set (p := ⟨w.heap.size, 1, none⟩) (Nat.le_refl _) _⟩
      · have hr : (parseU (byt s)).map (sz false) = none := by
          unfold parseU
          rw [if_neg (fun h => by rw [byt_len] at h; omega)]; rfl
        rw [hr]
        clear hr hpl hneg
        have hz0 : ((s.size : Int) == 0) = false := beq_false_of_ne (by omega)
        have hz2 : decide (10000 < (s.size : Int)) = true := decide_eq_true (by omega)
        go_enter Try.func67, Try.ntmps67
        go_wp2_with fail
        have r9 := Row.new w 69 [.bool false, .slice none 0 0]
        have z0 := r9.cell (i := 0) rfl
        have z1 := r9.cell (i := 1) rfl
        exact bodyPost_ret (v := .tuple #[.agg #[.bool false, .slice none 0 0], .bool false]) (by simp [results, Try.f67, go_sem, z0, z1]) rfl ⟨rfl, Ext.new _ _⟩
end Go.Proofs.Ytogodjiemgilaaa
