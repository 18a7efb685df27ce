/- Part of the proof that a law returns true for all that comes in, and that what came in reads as it did. No condition. -/
import Derived.Test.YtogodjiemgilaaaMgP0
/- What the functions of scope call. -/
namespace Go.Proofs.Ytogodjiemgilaaa
open Go.RowKit
namespace O

def cNat (n : Nat) : List VP := [VP.int .i64 (n : Nat)]
theorem cNat_len (n : Nat) : (cNat n).length = 1 := rfl
theorem cNat_one (n : Nat) : (cNat n).all (·.one) = true := rfl
theorem cNat_nu (n : Nat) : (cNat n).all (·.nu) = true := rfl
/-- a table: names, what they tell, levels -/
structure TabD (β : Type) where
  told : List (ByteArray × β)
  names : List ByteArray
  levels : List Nat
def TabD.bind {β : Type} (d : TabD β) (s : ByteArray) (x : β) : TabD β := if (mfind mkStr s d.told).isSome then d else ⟨mput mkStr s x d.told, d.names ++ [s], d.levels⟩
def TabD.bindE {β : Type} (d : TabD β) (s : ByteArray) : Int := if (mfind mkStr s d.told).isSome then 13 else 0
theorem TabD.bind_t {β : Type} {d : TabD β} {s : ByteArray} {x : β} (h : (mfind mkStr s d.told).isSome = true) : d.bind s x = d := if_pos h
theorem TabD.bind_f {β : Type} {d : TabD β} {s : ByteArray} {x : β} (h : (mfind mkStr s d.told).isSome = false) : d.bind s x = ⟨mput mkStr s x d.told, d.names ++ [s], d.levels⟩ := if_neg (by simp [h])
theorem TabD.bindE_t {β : Type} {d : TabD β} {s : ByteArray} (h : (mfind mkStr s d.told).isSome = true) : d.bindE s = 13 := if_pos h
theorem TabD.bindE_f {β : Type} {d : TabD β} {s : ByteArray} (h : (mfind mkStr s d.told).isSome = false) : d.bindE s = 0 := if_neg (by simp [h])
def TabD.push {β : Type} (d : TabD β) (n : Int) : TabD β := if 0 ≤ n ∧ n ≤ 1000 - d.levels.length then ⟨d.told, d.names, d.levels ++ List.replicate n.toNat d.names.length⟩ else d
def TabD.pushE {β : Type} (d : TabD β) (n : Int) : Int := if n < 0 then 1 else if n > 1000 - d.levels.length then 4 else 0
def TabD.left {β : Type} (d : TabD β) (n : Int) : Nat := (d.levels[d.levels.length - n.toNat]?).getD 0
def dels {β : Type} (l : List ByteArray) (t : List (ByteArray × β)) : List (ByteArray × β) := l.foldl (fun t s => mdel mkStr s t) t
def TabD.pop {β : Type} (d : TabD β) (n : Int) : TabD β := if 0 < n ∧ n ≤ d.levels.length then ⟨dels (d.names.drop (d.left n)) d.told, d.names.take (d.left n), d.levels.take (d.levels.length - n.toNat)⟩ else d
def TabD.popE {β : Type} (d : TabD β) (n : Int) : Int := if n < 0 then 1 else if n > d.levels.length then 2 else 0
theorem dels_snoc {β : Type} {l : List ByteArray} {k : Nat} {s : ByteArray} (h : l[k]? = some s) (t : List (ByteArray × β)) : mdel mkStr s (dels (l.take k) t) = dels (l.take (k + 1)) t := by
  unfold dels
  rw [List.take_add_one, h, Option.toList_some, List.foldl_append]; rfl
theorem rep_copy {x n j m : Nat} (h : j ≤ n) (hm : m = min j (n - j)) : List.replicate (j + m) x ++ List.replicate (n - (j + m)) 0 = (List.replicate j x ++ List.replicate (n - j) 0).take j ++ (((List.replicate j x ++ List.replicate (n - j) 0).drop 0).take j).take m ++ (List.replicate j x ++ List.replicate (n - j) 0).drop (j + m) := by
  have h1 : (List.replicate j x ++ List.replicate (n - j) 0).take j = List.replicate j x := by rw [List.take_append_of_le_length (by simp)]; simp
  rw [List.drop_zero, h1, List.take_replicate, Nat.min_eq_left (by omega), List.replicate_append_replicate, List.drop_append, List.length_replicate]
  congr 1
  rw [List.drop_eq_nil_of_le (by simp), List.nil_append, List.drop_replicate]
  congr 1; omega
theorem rep_copy0 (x n : Nat) : List.replicate (min 1 n) x ++ List.replicate (n - min 1 n) 0 = (List.replicate n 0).take 0 ++ [x].take (min 1 n) ++ (List.replicate n 0).drop (0 + min 1 n) := by
  rcases Nat.eq_zero_or_pos n with h | h
  · subst h; rfl
  · rw [Nat.min_eq_left (by omega : 1 ≤ n)]
    simp [List.drop_replicate]
theorem rep_end {x n j : Nat} (h : j = n) : List.replicate j x ++ List.replicate (n - j) (0 : Nat) = List.replicate n x := by subst h; simp
theorem TabD.left_get {β : Type} (d : TabD β) {n : Int} (h0 : 0 < n) (h1 : n ≤ d.levels.length) : d.levels[d.levels.length - n.toNat]? = some (d.left n) := by
  unfold TabD.left
  rw [List.getElem?_eq_getElem (by omega)]; rfl
theorem TabD.left_le {β : Type} (d : TabD β) (hI : ∀ x ∈ d.levels, x ≤ d.names.length) {n : Int} (h0 : 0 < n) (h1 : n ≤ d.levels.length) : d.left n ≤ d.names.length := hI _ (List.mem_of_getElem? (d.left_get h0 h1))
theorem mdel_eqv {β : Type} {g : β → VP} {t t' : List (ByteArray × β)} (h : t = t') : mEnt g t = mEnt g t' := by rw [h]
abbrev Tab {β : Type} (T : TypeId) (g : β → VP) (d : TabD β) : HA := HA.cells T [HA.map mkStr (mEnt g d.told), HA.row 9 1 d.names.length ((d.names.flatMap cStr).map HA.of), HA.row 3 1 d.levels.length ((d.levels.flatMap cNat).map HA.of)]
theorem ScopeA_el_str : Elem Try.prog 31 9 (.string (ByteArray.mk #[])) 1 16 := Elem.mk Try.underlying31 (by kernel_rfl) rfl (by decide)
theorem ScopeA_hb_math_bits_Mul64 : hasBody Try.prog 188 = true := by kernel_rfl
theorem ScopeA_hb_math_bits_Mul : hasBody Try.prog 152 = true := by kernel_rfl
theorem ScopeA_el_nat : Elem Try.prog 35 3 (.int .i64 0) 1 8 := Elem.mk Try.underlying35 (by kernel_rfl) rfl (by decide)
theorem ScopeA_one_int : oneTy Try.prog 3 = true := by kernel_rfl
theorem ScopeA_size_int : ∀ w, (sizeOf 3).run Try.prog w = .ok 1 w := run_sizeOne ScopeA_one_int
set_option maxRecDepth 100000 in
set_option maxHeartbeats 4000000 in
theorem sc_Clone_str (l : List ByteArray) (hl : l.length ≤ 1000000) : SpecO Try.prog 113 [.bo (HA.row 9 1 l.length ((l.flatMap cStr).map HA.of))] [] [] [] (HA.row 9 1 l.length ((l.flatMap cStr).map HA.of)) := by
  refine spec_of 8 Try.func113 rfl Try.ntmps113 rfl fun w0 S0 Z0 Bf => ?_
  refine t_sub (fs' := [.bor (.tmp 0) (HA.row 9 1 l.length ((l.flatMap cStr).map HA.of))]) [0] rfl ?_
  refine t_sub (fs' := [.bor (.tmp 0) (HA.row 9 1 l.length ((l.flatMap cStr).map HA.of))]) [0] rfl ?_
  refine b_name fun v1 => ?_
  refine t_sub (fs' := [.bor (.val v1) (HA.row 9 1 l.length ((l.flatMap cStr).map HA.of)), .is (.tmp 0) (VP.eq v1 true true)]) [0, 1] rfl ?_
  refine t_seq ?_
  refine t_region (F := ⟨_, _, _, _, _, _⟩) [.bor (.val v1) (HA.row 9 1 l.length ((l.flatMap cStr).map HA.of)), .is (.tmp 0) (VP.eq v1 true true)] [] [(0, .is (.tmp 2) (VP.nilS))] [] [0, 1] [] [[]] [[]] rfl rfl follow rfl ⟨
    .inl ⟨wants_plain rfl, does_move _ (.inr rfl) rfl rfl rfl rfl (ar_const (fun _ _ => rfl))⟩,
    trivial⟩ ?_
  refine nx_sub (fs' := [.bor (.val v1) (HA.row 9 1 l.length ((l.flatMap cStr).map HA.of)), .is (.tmp 0) (VP.eq v1 true true), .is (.tmp 2) (VP.nilS)]) [0, 1, 2] rfl ?_
  refine nx_then ?_
  refine t_seq ?_
  refine t_seq ?_
  refine t_region (F := ⟨_, _, _, _, _, _⟩) [.bor (.val v1) (HA.row 9 1 l.length ((l.flatMap cStr).map HA.of)), .is (.tmp 0) (VP.eq v1 true true), .is (.tmp 2) (VP.nilS)] [] [(0, .is (.tmp 3) (VP.eq v1 true true)), (1, .is (.tmp 4) (VP.may (l.length = 0)))] [] [0, 1, 2] [] [[], [0]] [[1], []] rfl rfl follow rfl ⟨
    .inl ⟨wants_plain rfl, does_move _ (.inl rfl) rfl rfl rfl rfl (ar_tmp (av_fs 1 rfl))⟩,
    .inl ⟨wants_plain rfl, does_isNil _ _ Try.underlying31 rfl rfl rfl rfl rfl (sl_bor (av_fs 0 rfl) (ar_tmp (av_rs 0 0 rfl rfl))) (ar_const (fun _ _ => rfl))⟩,
    trivial⟩ ?_
  refine nx_sub (fs' := [.bor (.val v1) (HA.row 9 1 l.length ((l.flatMap cStr).map HA.of)), .is (.tmp 0) (VP.eq v1 true true), .is (.tmp 2) (VP.nilS), .is (.tmp 4) (VP.may (l.length = 0))]) [0, 1, 2, 4] rfl ?_
  refine nx_then ?_
  refine t_condM 3 rfl (fun hm2 => ?_) ?_
  · have _ := hm2
    refine t_seq ?_
    refine t_region (F := ⟨_, _, _, _, _, _⟩) [.bor (.val v1) (HA.row 9 1 l.length ((l.flatMap cStr).map HA.of)), .is (.tmp 0) (VP.eq v1 true true), .is (.tmp 4) (VP.may (l.length = 0))] [(0, .is (.tmp 2) (VP.nilS))] [(0, .is (.tmp 2) (VP.nilS))] [] [0, 1, 3] [2] [[]] [[]] rfl rfl follow rfl ⟨
      .inl ⟨wants_plain rfl, does_move _ (.inr rfl) rfl rfl rfl rfl (ar_const (fun _ _ => rfl))⟩,
      trivial⟩ ?_
    refine nx_sub (fs' := [.bor (.val v1) (HA.row 9 1 l.length ((l.flatMap cStr).map HA.of)), .is (.tmp 0) (VP.eq v1 true true), .is (.tmp 2) (VP.nilS)]) [0, 1, 3] rfl ?_
    refine nx_then ?_
    refine t_ret ?_
    refine rt_then ?_
    exact rt_post [HA.row 9 1 l.length ((l.flatMap cStr).map HA.of)] [[]] [] [] rfl ⟨(rv_nilE 2 rfl (by omega)), trivial⟩ (by decide) rfl rfl
  · refine t_skip ?_
    refine nx_then ?_
    refine t_seq ?_
    refine t_region (F := ⟨_, _, _, _, _, _⟩) [.bor (.val v1) (HA.row 9 1 l.length ((l.flatMap cStr).map HA.of)), .is (.tmp 0) (VP.eq v1 true true), .is (.tmp 4) (VP.may (l.length = 0))] [(3, .is (.tmp 2) (VP.nilS))] [(1, .is (.tmp 6) (VP.eq v1 true true)), (2, .own 101 (.tmp 7) (HA.row 9 1 ((([] : List ByteArray) ++ l).length) (((([] : List ByteArray) ++ l).flatMap cStr).map HA.of))), (3, .eq 2 (.tmp 7))] [(0, 2, .own 101 (.tmp 5) (HA.row 9 1 (([] : List ByteArray).length) ((([] : List ByteArray).flatMap cStr).map HA.of)))] [0, 1, 3] [2] [[], [], [0, 1], [0, 1, 2]] [[2, 3], [2, 3], [3], []] rfl rfl follow rfl ⟨
      .inl ⟨wants_plain rfl, does_sliceLit (n := 0) ScopeA_el_str rfl (List.replicate 0 (VP.str (ByteArray.mk #[]))) (z1_of (fun _ _ => rfl) rfl 0) rfl rfl rfl rfl rfl rfl rfl (.nil _)⟩,
      .inl ⟨wants_plain rfl, does_move _ (.inl rfl) rfl rfl rfl rfl (ar_tmp (av_fs 1 rfl))⟩,
      .inl ⟨wants_plain rfl, does_append (n := 0) (m := l.length) ScopeA_el_str rfl _ _ rfl rfl rfl rfl rfl (by simp only [List.length_append, List.length_nil, List.length_cons, Nat.zero_add]) (flat_cat ([] : List ByteArray) l) rfl (by constructor <;> first | decide | omega | (simp only [List.length_append, List.length_cons, List.length_nil] at *; omega)) (flat_lenH cStr_len _) (flat_allH (fun _ => rfl) cStr_one _) (flat_allH (fun _ => rfl) cStr_nu _) (mv_own (av_ms 0 0 2 rfl rfl rfl)) (src_look (sit_bor (av_fs 0 rfl)) (ar_tmp (av_rs 0 1 rfl rfl)))⟩,
      .inl ⟨wants_plain rfl, does_eqTmp (k := 7) _ rfl (.inr rfl) rfl rfl rfl rfl rfl⟩,
      trivial⟩ ?_
    refine nx_sub (fs' := [.bor (.val v1) (HA.row 9 1 l.length ((l.flatMap cStr).map HA.of)), .own 101 (.tmp 7) (HA.row 9 1 ((([] : List ByteArray) ++ l).length) (((([] : List ByteArray) ++ l).flatMap cStr).map HA.of)), .eq 2 (.tmp 7)]) [0, 4, 5] rfl ?_
    refine nx_then ?_
    refine t_sub (fs' := [.own 101 (.tmp 7) (HA.row 9 1 ((([] : List ByteArray) ++ l).length) (((([] : List ByteArray) ++ l).flatMap cStr).map HA.of)), .bor (.val v1) (HA.row 9 1 l.length ((l.flatMap cStr).map HA.of)), .eq 2 (.tmp 7)]) [1, 0, 2] rfl ?_
    refine t_name rfl fun v3 => ?_
    refine t_sub (fs' := [.own 101 (.val v3) (HA.row 9 1 ((([] : List ByteArray) ++ l).length) (((([] : List ByteArray) ++ l).flatMap cStr).map HA.of)), .is (.tmp 7) (VP.eq v3 true true), .bor (.val v1) (HA.row 9 1 l.length ((l.flatMap cStr).map HA.of)), .eq 2 (.tmp 7)]) [0, 1, 2, 3] rfl ?_
    refine t_sub (fs' := [.eq 2 (.tmp 7), .is (.tmp 7) (VP.eq v3 true true), .own 101 (.val v3) (HA.row 9 1 ((([] : List ByteArray) ++ l).length) (((([] : List ByteArray) ++ l).flatMap cStr).map HA.of)), .bor (.val v1) (HA.row 9 1 l.length ((l.flatMap cStr).map HA.of))]) [3, 1, 0, 2] rfl ?_
    refine t_eq ?_
    refine t_sub (fs' := [.is (.tmp 2) (VP.eq v3 true true), .is (.tmp 7) (VP.eq v3 true true), .own 101 (.val v3) (HA.row 9 1 ((([] : List ByteArray) ++ l).length) (((([] : List ByteArray) ++ l).flatMap cStr).map HA.of)), .bor (.val v1) (HA.row 9 1 l.length ((l.flatMap cStr).map HA.of))]) [0, 1, 2, 3] rfl ?_
    refine t_sub (fs' := [.is (.tmp 2) (VP.eq v3 true true), .own 101 (.val v3) (HA.row 9 1 ((([] : List ByteArray) ++ l).length) (((([] : List ByteArray) ++ l).flatMap cStr).map HA.of)), .bor (.val v1) (HA.row 9 1 l.length ((l.flatMap cStr).map HA.of))]) [0, 2, 3] rfl ?_
    refine t_ret ?_
    exact rt_post [HA.row 9 1 l.length ((l.flatMap cStr).map HA.of)] [[101]] [] [] rfl ⟨(rv_eq (congrArg (fun l => HA.row 9 1 l.length ((l.flatMap cStr).map HA.of)) (show (([] : List ByteArray) ++ l) = l by simp)) (rv_ownv 1 0 rfl rfl)), trivial⟩ (by decide) rfl rfl

set_option maxRecDepth 100000 in
set_option maxHeartbeats 4000000 in
theorem sc_Mul64 (n : Int) (h0 : 0 ≤ n) (h1 : n < 4294967296) : SpecO Try.prog 188 [.vp (VP.int .u64 1), .vp (VP.int .u64 n)] [] [] [] (HA.of (VP.tup [VP.int .u64 0, VP.int .u64 n])) := by
  refine spec_tup (ps := [VP.int .u64 0, VP.int .u64 n]) ?_
  refine spec_of 51 Try.func188 rfl Try.ntmps188 rfl fun w0 S0 Z0 Bf => ?_
  refine t_sub (fs' := [.is (.tmp 0) (VP.int .u64 1), .is (.tmp 1) (VP.int .u64 n)]) [0, 1] rfl ?_
  refine t_seq ?_
  refine t_region (F := ⟨_, _, _, _, _, _⟩) [.is (.tmp 0) (VP.int .u64 1), .is (.tmp 1) (VP.int .u64 n)] [] [(0, .is (.tmp 4) (VP.int .u64 0)), (1, .is (.tmp 5) (VP.int .u64 0))] [] [0, 1] [] [[], [0]] [[1], []] rfl rfl follow rfl ⟨
    .inl ⟨wants_plain rfl, does_move _ (.inr rfl) rfl rfl rfl rfl (ar_const (fun _ _ => rfl))⟩,
    .inl ⟨wants_plain rfl, does_move _ (.inr rfl) rfl rfl rfl rfl (ar_const (fun _ _ => rfl))⟩,
    trivial⟩ ?_
  refine nx_sub (fs' := [.is (.tmp 0) (VP.int .u64 1), .is (.tmp 1) (VP.int .u64 n), .is (.tmp 4) (VP.int .u64 0), .is (.tmp 5) (VP.int .u64 0)]) [0, 1, 2, 3] rfl ?_
  refine nx_then ?_
  refine t_seq ?_
  refine t_region (F := ⟨_, _, _, _, _, _⟩) [.is (.tmp 0) (VP.int .u64 1), .is (.tmp 1) (VP.int .u64 n), .is (.tmp 4) (VP.int .u64 0), .is (.tmp 5) (VP.int .u64 0)] [] [(0, .is (.tmp 14) (VP.int .u64 1)), (1, .is (.tmp 15) (VP.int .u64 1)), (2, .is (.tmp 6) (VP.int .u64 1))] [] [0, 1, 2, 3] [] [[], [0], [0, 1]] [[1, 2], [2], []] rfl rfl follow rfl ⟨
    .inl ⟨wants_plain rfl, does_move _ (.inl rfl) rfl rfl rfl rfl (ar_tmp (av_fs 0 rfl))⟩,
    .inl ⟨wants_plain rfl, does_bin (m := 1) (n := 4294967295) (r := 1) _ _ _ _ _ rfl rfl rfl rfl rfl rfl (br_and (j := 32) (by decide) (.inr rfl) (by decide) (by decide)) (ar_tmp (av_rs 0 0 rfl rfl)) (ar_const (fun _ _ => rfl))⟩,
    .inl ⟨wants_plain rfl, does_move _ (.inr rfl) rfl rfl rfl rfl (ar_tmp (av_rs 1 1 rfl rfl))⟩,
    trivial⟩ ?_
  refine nx_sub (fs' := [.is (.tmp 0) (VP.int .u64 1), .is (.tmp 1) (VP.int .u64 n), .is (.tmp 4) (VP.int .u64 0), .is (.tmp 5) (VP.int .u64 0), .is (.tmp 6) (VP.int .u64 1)]) [0, 1, 2, 3, 6] rfl ?_
  refine nx_then ?_
  refine t_seq ?_
  refine t_region (F := ⟨_, _, _, _, _, _⟩) [.is (.tmp 0) (VP.int .u64 1), .is (.tmp 1) (VP.int .u64 n), .is (.tmp 4) (VP.int .u64 0), .is (.tmp 5) (VP.int .u64 0), .is (.tmp 6) (VP.int .u64 1)] [] [(0, .is (.tmp 16) (VP.int .u64 1)), (1, .is (.tmp 17) (VP.int .u64 0)), (2, .is (.tmp 7) (VP.int .u64 0))] [] [0, 1, 2, 3, 4] [] [[], [0], [0, 1]] [[1, 2], [2], []] rfl rfl follow rfl ⟨
    .inl ⟨wants_plain rfl, does_move _ (.inl rfl) rfl rfl rfl rfl (ar_tmp (av_fs 0 rfl))⟩,
    .inl ⟨wants_plain rfl, does_bin (m := 1) (n := 32) (r := 0) _ _ _ _ _ rfl rfl rfl rfl rfl rfl (br_shr (c := 32) (by decide) rfl (by decide)) (ar_tmp (av_rs 0 0 rfl rfl)) (ar_const (fun _ _ => rfl))⟩,
    .inl ⟨wants_plain rfl, does_move _ (.inr rfl) rfl rfl rfl rfl (ar_tmp (av_rs 1 1 rfl rfl))⟩,
    trivial⟩ ?_
  refine nx_sub (fs' := [.is (.tmp 0) (VP.int .u64 1), .is (.tmp 1) (VP.int .u64 n), .is (.tmp 4) (VP.int .u64 0), .is (.tmp 5) (VP.int .u64 0), .is (.tmp 6) (VP.int .u64 1), .is (.tmp 7) (VP.int .u64 0)]) [0, 1, 2, 3, 4, 7] rfl ?_
  refine nx_then ?_
  refine t_seq ?_
  refine t_region (F := ⟨_, _, _, _, _, _⟩) [.is (.tmp 0) (VP.int .u64 1), .is (.tmp 1) (VP.int .u64 n), .is (.tmp 4) (VP.int .u64 0), .is (.tmp 5) (VP.int .u64 0), .is (.tmp 6) (VP.int .u64 1), .is (.tmp 7) (VP.int .u64 0)] [] [(0, .is (.tmp 18) (VP.int .u64 n)), (1, .is (.tmp 19) (VP.int .u64 n)), (2, .is (.tmp 8) (VP.int .u64 n))] [] [0, 1, 2, 3, 4, 5] [] [[], [0], [0, 1]] [[1, 2], [2], []] rfl rfl follow rfl ⟨
    .inl ⟨wants_plain rfl, does_move _ (.inl rfl) rfl rfl rfl rfl (ar_tmp (av_fs 1 rfl))⟩,
    .inl ⟨wants_plain rfl, does_bin (m := n) (n := 4294967295) (r := n) _ _ _ _ _ rfl rfl rfl rfl rfl rfl (br_and (j := 32) (by decide) (.inr rfl) (by decide) (by omega)) (ar_tmp (av_rs 0 0 rfl rfl)) (ar_const (fun _ _ => rfl))⟩,
    .inl ⟨wants_plain rfl, does_move _ (.inr rfl) rfl rfl rfl rfl (ar_tmp (av_rs 1 1 rfl rfl))⟩,
    trivial⟩ ?_
  refine nx_sub (fs' := [.is (.tmp 0) (VP.int .u64 1), .is (.tmp 1) (VP.int .u64 n), .is (.tmp 4) (VP.int .u64 0), .is (.tmp 5) (VP.int .u64 0), .is (.tmp 6) (VP.int .u64 1), .is (.tmp 7) (VP.int .u64 0), .is (.tmp 8) (VP.int .u64 n)]) [0, 1, 2, 3, 4, 5, 8] rfl ?_
  refine nx_then ?_
  refine t_seq ?_
  refine t_region (F := ⟨_, _, _, _, _, _⟩) [.is (.tmp 0) (VP.int .u64 1), .is (.tmp 1) (VP.int .u64 n), .is (.tmp 4) (VP.int .u64 0), .is (.tmp 5) (VP.int .u64 0), .is (.tmp 6) (VP.int .u64 1), .is (.tmp 7) (VP.int .u64 0), .is (.tmp 8) (VP.int .u64 n)] [] [(0, .is (.tmp 20) (VP.int .u64 n)), (1, .is (.tmp 21) (VP.int .u64 0)), (2, .is (.tmp 9) (VP.int .u64 0))] [] [0, 1, 2, 3, 4, 5, 6] [] [[], [0], [0, 1]] [[1, 2], [2], []] rfl rfl follow rfl ⟨
    .inl ⟨wants_plain rfl, does_move _ (.inl rfl) rfl rfl rfl rfl (ar_tmp (av_fs 1 rfl))⟩,
    .inl ⟨wants_plain rfl, does_bin (m := n) (n := 32) (r := 0) _ _ _ _ _ rfl rfl rfl rfl rfl rfl (br_shr (c := 32) (by decide) rfl (by first | decide | (rw [Int.fdiv_eq_ediv_of_nonneg _ (by decide)]; omega))) (ar_tmp (av_rs 0 0 rfl rfl)) (ar_const (fun _ _ => rfl))⟩,
    .inl ⟨wants_plain rfl, does_move _ (.inr rfl) rfl rfl rfl rfl (ar_tmp (av_rs 1 1 rfl rfl))⟩,
    trivial⟩ ?_
  refine nx_sub (fs' := [.is (.tmp 0) (VP.int .u64 1), .is (.tmp 1) (VP.int .u64 n), .is (.tmp 4) (VP.int .u64 0), .is (.tmp 5) (VP.int .u64 0), .is (.tmp 6) (VP.int .u64 1), .is (.tmp 7) (VP.int .u64 0), .is (.tmp 8) (VP.int .u64 n), .is (.tmp 9) (VP.int .u64 0)]) [0, 1, 2, 3, 4, 5, 6, 9] rfl ?_
  refine nx_then ?_
  refine t_seq ?_
  refine t_region (F := ⟨_, _, _, _, _, _⟩) [.is (.tmp 0) (VP.int .u64 1), .is (.tmp 1) (VP.int .u64 n), .is (.tmp 4) (VP.int .u64 0), .is (.tmp 5) (VP.int .u64 0), .is (.tmp 6) (VP.int .u64 1), .is (.tmp 7) (VP.int .u64 0), .is (.tmp 8) (VP.int .u64 n), .is (.tmp 9) (VP.int .u64 0)] [] [(0, .is (.tmp 22) (VP.int .u64 1)), (1, .is (.tmp 23) (VP.int .u64 n)), (2, .is (.tmp 24) (VP.int .u64 n)), (3, .is (.tmp 10) (VP.int .u64 n))] [] [0, 1, 2, 3, 4, 5, 6, 7] [] [[], [], [0, 1], [0, 1, 2]] [[2, 3], [2, 3], [3], []] rfl rfl follow rfl ⟨
    .inl ⟨wants_plain rfl, does_move _ (.inl rfl) rfl rfl rfl rfl (ar_tmp (av_fs 4 rfl))⟩,
    .inl ⟨wants_plain rfl, does_move _ (.inl rfl) rfl rfl rfl rfl (ar_tmp (av_fs 6 rfl))⟩,
    .inl ⟨wants_plain rfl, does_bin (m := 1) (n := n) (r := n) _ _ _ _ _ rfl rfl rfl rfl rfl rfl (br_mul (by rw [IntKind.wrap_u64]; omega)) (ar_tmp (av_rs 0 0 rfl rfl)) (ar_tmp (av_rs 1 1 rfl rfl))⟩,
    .inl ⟨wants_plain rfl, does_move _ (.inr rfl) rfl rfl rfl rfl (ar_tmp (av_rs 2 2 rfl rfl))⟩,
    trivial⟩ ?_
  refine nx_sub (fs' := [.is (.tmp 0) (VP.int .u64 1), .is (.tmp 1) (VP.int .u64 n), .is (.tmp 4) (VP.int .u64 0), .is (.tmp 5) (VP.int .u64 0), .is (.tmp 6) (VP.int .u64 1), .is (.tmp 7) (VP.int .u64 0), .is (.tmp 8) (VP.int .u64 n), .is (.tmp 9) (VP.int .u64 0), .is (.tmp 10) (VP.int .u64 n)]) [0, 1, 2, 3, 4, 5, 6, 7, 11] rfl ?_
  refine nx_then ?_
  refine t_seq ?_
  refine t_region (F := ⟨_, _, _, _, _, _⟩) [.is (.tmp 0) (VP.int .u64 1), .is (.tmp 1) (VP.int .u64 n), .is (.tmp 4) (VP.int .u64 0), .is (.tmp 5) (VP.int .u64 0), .is (.tmp 6) (VP.int .u64 1), .is (.tmp 7) (VP.int .u64 0), .is (.tmp 8) (VP.int .u64 n), .is (.tmp 9) (VP.int .u64 0), .is (.tmp 10) (VP.int .u64 n)] [] [(0, .is (.tmp 25) (VP.int .u64 0)), (1, .is (.tmp 26) (VP.int .u64 n)), (2, .is (.tmp 27) (VP.int .u64 0)), (3, .is (.tmp 28) (VP.int .u64 n)), (4, .is (.tmp 29) (VP.int .u64 0)), (5, .is (.tmp 30) (VP.int .u64 0)), (6, .is (.tmp 11) (VP.int .u64 0))] [] [0, 1, 2, 3, 4, 5, 6, 7, 8] [] [[], [], [0, 1], [], [3], [0, 1, 2, 3, 4], [0, 1, 2, 3, 4, 5]] [[2, 5, 6], [2, 5, 6], [5, 6], [4, 5, 6], [5, 6], [6], []] rfl rfl follow rfl ⟨
    .inl ⟨wants_plain rfl, does_move _ (.inl rfl) rfl rfl rfl rfl (ar_tmp (av_fs 5 rfl))⟩,
    .inl ⟨wants_plain rfl, does_move _ (.inl rfl) rfl rfl rfl rfl (ar_tmp (av_fs 6 rfl))⟩,
    .inl ⟨wants_plain rfl, does_bin (m := 0) (n := n) (r := 0) _ _ _ _ _ rfl rfl rfl rfl rfl rfl (br_mul (by rw [IntKind.wrap_u64]; omega)) (ar_tmp (av_rs 0 0 rfl rfl)) (ar_tmp (av_rs 1 1 rfl rfl))⟩,
    .inl ⟨wants_plain rfl, does_move _ (.inl rfl) rfl rfl rfl rfl (ar_tmp (av_fs 8 rfl))⟩,
    .inl ⟨wants_plain rfl, does_bin (m := n) (n := 32) (r := 0) _ _ _ _ _ rfl rfl rfl rfl rfl rfl (br_shr (c := 32) (by decide) rfl (by first | decide | (rw [Int.fdiv_eq_ediv_of_nonneg _ (by decide)]; omega))) (ar_tmp (av_rs 3 3 rfl rfl)) (ar_const (fun _ _ => rfl))⟩,
    .inl ⟨wants_plain rfl, does_bin (m := 0) (n := 0) (r := 0) _ _ _ _ _ rfl rfl rfl rfl rfl rfl (br_add (by rw [IntKind.wrap_u64]; omega)) (ar_tmp (av_rs 2 2 rfl rfl)) (ar_tmp (av_rs 4 4 rfl rfl))⟩,
    .inl ⟨wants_plain rfl, does_move _ (.inr rfl) rfl rfl rfl rfl (ar_tmp (av_rs 5 5 rfl rfl))⟩,
    trivial⟩ ?_
  refine nx_sub (fs' := [.is (.tmp 0) (VP.int .u64 1), .is (.tmp 1) (VP.int .u64 n), .is (.tmp 4) (VP.int .u64 0), .is (.tmp 5) (VP.int .u64 0), .is (.tmp 6) (VP.int .u64 1), .is (.tmp 7) (VP.int .u64 0), .is (.tmp 9) (VP.int .u64 0), .is (.tmp 11) (VP.int .u64 0)]) [0, 1, 2, 3, 4, 5, 7, 15] rfl ?_
  refine nx_then ?_
  refine t_seq ?_
  refine t_region (F := ⟨_, _, _, _, _, _⟩) [.is (.tmp 0) (VP.int .u64 1), .is (.tmp 1) (VP.int .u64 n), .is (.tmp 4) (VP.int .u64 0), .is (.tmp 5) (VP.int .u64 0), .is (.tmp 6) (VP.int .u64 1), .is (.tmp 7) (VP.int .u64 0), .is (.tmp 9) (VP.int .u64 0), .is (.tmp 11) (VP.int .u64 0)] [] [(0, .is (.tmp 31) (VP.int .u64 0)), (1, .is (.tmp 32) (VP.int .u64 0)), (2, .is (.tmp 12) (VP.int .u64 0))] [] [0, 1, 2, 3, 4, 5, 6, 7] [] [[], [0], [0, 1]] [[1, 2], [2], []] rfl rfl follow rfl ⟨
    .inl ⟨wants_plain rfl, does_move _ (.inl rfl) rfl rfl rfl rfl (ar_tmp (av_fs 7 rfl))⟩,
    .inl ⟨wants_plain rfl, does_bin (m := 0) (n := 4294967295) (r := 0) _ _ _ _ _ rfl rfl rfl rfl rfl rfl (br_and (j := 32) (by decide) (.inr rfl) (by decide) (by decide)) (ar_tmp (av_rs 0 0 rfl rfl)) (ar_const (fun _ _ => rfl))⟩,
    .inl ⟨wants_plain rfl, does_move _ (.inr rfl) rfl rfl rfl rfl (ar_tmp (av_rs 1 1 rfl rfl))⟩,
    trivial⟩ ?_
  refine nx_sub (fs' := [.is (.tmp 0) (VP.int .u64 1), .is (.tmp 1) (VP.int .u64 n), .is (.tmp 4) (VP.int .u64 0), .is (.tmp 5) (VP.int .u64 0), .is (.tmp 6) (VP.int .u64 1), .is (.tmp 7) (VP.int .u64 0), .is (.tmp 9) (VP.int .u64 0), .is (.tmp 11) (VP.int .u64 0), .is (.tmp 12) (VP.int .u64 0)]) [0, 1, 2, 3, 4, 5, 6, 7, 10] rfl ?_
  refine nx_then ?_
  refine t_seq ?_
  refine t_region (F := ⟨_, _, _, _, _, _⟩) [.is (.tmp 0) (VP.int .u64 1), .is (.tmp 1) (VP.int .u64 n), .is (.tmp 4) (VP.int .u64 0), .is (.tmp 5) (VP.int .u64 0), .is (.tmp 6) (VP.int .u64 1), .is (.tmp 7) (VP.int .u64 0), .is (.tmp 9) (VP.int .u64 0), .is (.tmp 11) (VP.int .u64 0), .is (.tmp 12) (VP.int .u64 0)] [] [(0, .is (.tmp 33) (VP.int .u64 0)), (1, .is (.tmp 34) (VP.int .u64 0)), (2, .is (.tmp 13) (VP.int .u64 0))] [] [0, 1, 2, 3, 4, 5, 6, 7, 8] [] [[], [0], [0, 1]] [[1, 2], [2], []] rfl rfl follow rfl ⟨
    .inl ⟨wants_plain rfl, does_move _ (.inl rfl) rfl rfl rfl rfl (ar_tmp (av_fs 7 rfl))⟩,
    .inl ⟨wants_plain rfl, does_bin (m := 0) (n := 32) (r := 0) _ _ _ _ _ rfl rfl rfl rfl rfl rfl (br_shr (c := 32) (by decide) rfl (by decide)) (ar_tmp (av_rs 0 0 rfl rfl)) (ar_const (fun _ _ => rfl))⟩,
    .inl ⟨wants_plain rfl, does_move _ (.inr rfl) rfl rfl rfl rfl (ar_tmp (av_rs 1 1 rfl rfl))⟩,
    trivial⟩ ?_
  refine nx_sub (fs' := [.is (.tmp 0) (VP.int .u64 1), .is (.tmp 1) (VP.int .u64 n), .is (.tmp 4) (VP.int .u64 0), .is (.tmp 5) (VP.int .u64 0), .is (.tmp 6) (VP.int .u64 1), .is (.tmp 7) (VP.int .u64 0), .is (.tmp 9) (VP.int .u64 0), .is (.tmp 12) (VP.int .u64 0), .is (.tmp 13) (VP.int .u64 0)]) [0, 1, 2, 3, 4, 5, 6, 8, 11] rfl ?_
  refine nx_then ?_
  refine t_seq ?_
  refine t_region (F := ⟨_, _, _, _, _, _⟩) [.is (.tmp 0) (VP.int .u64 1), .is (.tmp 1) (VP.int .u64 n), .is (.tmp 4) (VP.int .u64 0), .is (.tmp 5) (VP.int .u64 0), .is (.tmp 6) (VP.int .u64 1), .is (.tmp 7) (VP.int .u64 0), .is (.tmp 9) (VP.int .u64 0), .is (.tmp 13) (VP.int .u64 0)] [(5, .is (.tmp 12) (VP.int .u64 0))] [(0, .is (.tmp 35) (VP.int .u64 0)), (1, .is (.tmp 36) (VP.int .u64 1)), (2, .is (.tmp 37) (VP.int .u64 0)), (3, .is (.tmp 38) (VP.int .u64 0)), (4, .is (.tmp 39) (VP.int .u64 0)), (5, .is (.tmp 12) (VP.int .u64 0))] [] [0, 1, 2, 3, 4, 5, 6, 8] [7] [[], [], [], [1, 2], [0, 1, 2, 3], [0, 1, 2, 3, 4]] [[4, 5], [3, 4, 5], [3, 4, 5], [4, 5], [5], []] rfl rfl follow rfl ⟨
    .inl ⟨wants_plain rfl, does_move _ (.inl rfl) rfl rfl rfl rfl (ar_tmp (av_os 0 5 rfl rfl))⟩,
    .inl ⟨wants_plain rfl, does_move _ (.inl rfl) rfl rfl rfl rfl (ar_tmp (av_fs 4 rfl))⟩,
    .inl ⟨wants_plain rfl, does_move _ (.inl rfl) rfl rfl rfl rfl (ar_tmp (av_fs 6 rfl))⟩,
    .inl ⟨wants_plain rfl, does_bin (m := 1) (n := 0) (r := 0) _ _ _ _ _ rfl rfl rfl rfl rfl rfl (br_mul (by rw [IntKind.wrap_u64]; omega)) (ar_tmp (av_rs 1 1 rfl rfl)) (ar_tmp (av_rs 2 2 rfl rfl))⟩,
    .inl ⟨wants_plain rfl, does_bin (m := 0) (n := 0) (r := 0) _ _ _ _ _ rfl rfl rfl rfl rfl rfl (br_add (by rw [IntKind.wrap_u64]; omega)) (ar_tmp (av_rs 0 0 rfl rfl)) (ar_tmp (av_rs 3 3 rfl rfl))⟩,
    .inl ⟨wants_plain rfl, does_move _ (.inr rfl) rfl rfl rfl rfl (ar_tmp (av_rs 4 4 rfl rfl))⟩,
    trivial⟩ ?_
  refine nx_sub (fs' := [.is (.tmp 0) (VP.int .u64 1), .is (.tmp 1) (VP.int .u64 n), .is (.tmp 4) (VP.int .u64 0), .is (.tmp 5) (VP.int .u64 0), .is (.tmp 7) (VP.int .u64 0), .is (.tmp 9) (VP.int .u64 0), .is (.tmp 13) (VP.int .u64 0), .is (.tmp 12) (VP.int .u64 0)]) [0, 1, 2, 3, 5, 6, 7, 13] rfl ?_
  refine nx_then ?_
  refine t_seq ?_
  refine t_region (F := ⟨_, _, _, _, _, _⟩) [.is (.tmp 0) (VP.int .u64 1), .is (.tmp 1) (VP.int .u64 n), .is (.tmp 5) (VP.int .u64 0), .is (.tmp 7) (VP.int .u64 0), .is (.tmp 9) (VP.int .u64 0), .is (.tmp 13) (VP.int .u64 0), .is (.tmp 12) (VP.int .u64 0)] [(8, .is (.tmp 4) (VP.int .u64 0))] [(0, .is (.tmp 40) (VP.int .u64 0)), (1, .is (.tmp 41) (VP.int .u64 0)), (2, .is (.tmp 42) (VP.int .u64 0)), (3, .is (.tmp 43) (VP.int .u64 0)), (4, .is (.tmp 44) (VP.int .u64 0)), (5, .is (.tmp 45) (VP.int .u64 0)), (6, .is (.tmp 46) (VP.int .u64 0)), (7, .is (.tmp 47) (VP.int .u64 0)), (8, .is (.tmp 4) (VP.int .u64 0))] [] [0, 1, 3, 4, 5, 6, 7] [2] [[], [], [0, 1], [], [0, 1, 2, 3], [], [5], [0, 1, 2, 3, 4, 5, 6], [0, 1, 2, 3, 4, 5, 6, 7]] [[2, 4, 7, 8], [2, 4, 7, 8], [4, 7, 8], [4, 7, 8], [7, 8], [6, 7, 8], [7, 8], [8], []] rfl rfl follow rfl ⟨
    .inl ⟨wants_plain rfl, does_move _ (.inl rfl) rfl rfl rfl rfl (ar_tmp (av_fs 3 rfl))⟩,
    .inl ⟨wants_plain rfl, does_move _ (.inl rfl) rfl rfl rfl rfl (ar_tmp (av_fs 4 rfl))⟩,
    .inl ⟨wants_plain rfl, does_bin (m := 0) (n := 0) (r := 0) _ _ _ _ _ rfl rfl rfl rfl rfl rfl (br_mul (by rw [IntKind.wrap_u64]; omega)) (ar_tmp (av_rs 0 0 rfl rfl)) (ar_tmp (av_rs 1 1 rfl rfl))⟩,
    .inl ⟨wants_plain rfl, does_move _ (.inl rfl) rfl rfl rfl rfl (ar_tmp (av_fs 5 rfl))⟩,
    .inl ⟨wants_plain rfl, does_bin (m := 0) (n := 0) (r := 0) _ _ _ _ _ rfl rfl rfl rfl rfl rfl (br_add (by rw [IntKind.wrap_u64]; omega)) (ar_tmp (av_rs 2 2 rfl rfl)) (ar_tmp (av_rs 3 3 rfl rfl))⟩,
    .inl ⟨wants_plain rfl, does_move _ (.inl rfl) rfl rfl rfl rfl (ar_tmp (av_fs 6 rfl))⟩,
    .inl ⟨wants_plain rfl, does_bin (m := 0) (n := 32) (r := 0) _ _ _ _ _ rfl rfl rfl rfl rfl rfl (br_shr (c := 32) (by decide) rfl (by decide)) (ar_tmp (av_rs 5 5 rfl rfl)) (ar_const (fun _ _ => rfl))⟩,
    .inl ⟨wants_plain rfl, does_bin (m := 0) (n := 0) (r := 0) _ _ _ _ _ rfl rfl rfl rfl rfl rfl (br_add (by rw [IntKind.wrap_u64]; omega)) (ar_tmp (av_rs 4 4 rfl rfl)) (ar_tmp (av_rs 6 6 rfl rfl))⟩,
    .inl ⟨wants_plain rfl, does_move _ (.inr rfl) rfl rfl rfl rfl (ar_tmp (av_rs 7 7 rfl rfl))⟩,
    trivial⟩ ?_
  refine nx_sub (fs' := [.is (.tmp 0) (VP.int .u64 1), .is (.tmp 1) (VP.int .u64 n), .is (.tmp 5) (VP.int .u64 0), .is (.tmp 4) (VP.int .u64 0)]) [0, 1, 2, 15] rfl ?_
  refine nx_then ?_
  refine t_seq ?_
  refine t_region (F := ⟨_, _, _, _, _, _⟩) [.is (.tmp 0) (VP.int .u64 1), .is (.tmp 1) (VP.int .u64 n), .is (.tmp 4) (VP.int .u64 0)] [(3, .is (.tmp 5) (VP.int .u64 0))] [(0, .is (.tmp 48) (VP.int .u64 1)), (1, .is (.tmp 49) (VP.int .u64 n)), (2, .is (.tmp 50) (VP.int .u64 n)), (3, .is (.tmp 5) (VP.int .u64 n))] [] [0, 1, 3] [2] [[], [], [0, 1], [0, 1, 2]] [[2, 3], [2, 3], [3], []] rfl rfl follow rfl ⟨
    .inl ⟨wants_plain rfl, does_move _ (.inl rfl) rfl rfl rfl rfl (ar_tmp (av_fs 0 rfl))⟩,
    .inl ⟨wants_plain rfl, does_move _ (.inl rfl) rfl rfl rfl rfl (ar_tmp (av_fs 1 rfl))⟩,
    .inl ⟨wants_plain rfl, does_bin (m := 1) (n := n) (r := n) _ _ _ _ _ rfl rfl rfl rfl rfl rfl (br_mul (by rw [IntKind.wrap_u64]; omega)) (ar_tmp (av_rs 0 0 rfl rfl)) (ar_tmp (av_rs 1 1 rfl rfl))⟩,
    .inl ⟨wants_plain rfl, does_move _ (.inr rfl) rfl rfl rfl rfl (ar_tmp (av_rs 2 2 rfl rfl))⟩,
    trivial⟩ ?_
  refine nx_sub (fs' := [.is (.tmp 4) (VP.int .u64 0), .is (.tmp 5) (VP.int .u64 n)]) [2, 6] rfl ?_
  refine nx_then ?_
  refine t_ret ?_
  exact rt_post [HA.of (VP.int .u64 0), HA.of (VP.int .u64 n)] [[], []] [] [] rfl ⟨(rv_vp 0 rfl), (rv_vp 1 rfl), trivial⟩ (by decide) rfl rfl

set_option maxRecDepth 100000 in
set_option maxHeartbeats 4000000 in
theorem sc_Mul (n : Int) (h0 : 0 ≤ n) (h1 : n < 4294967296) : SpecO Try.prog 152 [.vp (VP.int .u64 1), .vp (VP.int .u64 n)] [] [] [] (HA.of (VP.tup [VP.int .u64 0, VP.int .u64 n])) := by
  refine spec_tup (ps := [VP.int .u64 0, VP.int .u64 n]) ?_
  refine spec_of 30 Try.func152 rfl Try.ntmps152 rfl fun w0 S0 Z0 Bf => ?_
  refine t_sub (fs' := [.is (.tmp 0) (VP.int .u64 1), .is (.tmp 1) (VP.int .u64 n)]) [0, 1] rfl ?_
  refine t_seq ?_
  refine t_region (F := ⟨_, _, _, _, _, _⟩) [.is (.tmp 0) (VP.int .u64 1), .is (.tmp 1) (VP.int .u64 n)] [] [(0, .is (.tmp 4) (VP.int .u64 0)), (1, .is (.tmp 5) (VP.int .u64 0))] [] [0, 1] [] [[], [0]] [[1], []] rfl rfl follow rfl ⟨
    .inl ⟨wants_plain rfl, does_move _ (.inr rfl) rfl rfl rfl rfl (ar_const (fun _ _ => rfl))⟩,
    .inl ⟨wants_plain rfl, does_move _ (.inr rfl) rfl rfl rfl rfl (ar_const (fun _ _ => rfl))⟩,
    trivial⟩ ?_
  refine nx_sub (fs' := [.is (.tmp 0) (VP.int .u64 1), .is (.tmp 1) (VP.int .u64 n), .is (.tmp 4) (VP.int .u64 0), .is (.tmp 5) (VP.int .u64 0)]) [0, 1, 2, 3] rfl ?_
  refine nx_then ?_
  refine t_seq ?_
  refine t_cond_c (b := false) ?_
  refine t_skip ?_
  refine nx_then ?_
  refine t_seq ?_
  refine t_region (F := ⟨_, _, _, _, _, _⟩) [.is (.tmp 0) (VP.int .u64 1), .is (.tmp 1) (VP.int .u64 n), .is (.tmp 4) (VP.int .u64 0), .is (.tmp 5) (VP.int .u64 0)] [] [(0, .is (.tmp 23) (VP.int .u64 1)), (1, .is (.tmp 24) (VP.int .u64 n)), (2, .is (.tmp 25) (VP.tup [VP.int .u64 0, VP.int .u64 n])), (3, .is (.tmp 22) (VP.tup [VP.int .u64 0, VP.int .u64 n])), (4, .is (.tmp 26) (VP.int .u64 0)), (5, .is (.tmp 27) (VP.int .u64 n)), (6, .is (.tmp 8) (VP.int .u64 0)), (7, .is (.tmp 9) (VP.int .u64 n))] [] [0, 1, 2, 3] [] [[], [], [0, 1], [0, 1, 2], [0, 1, 2, 3], [0, 1, 2, 3], [0, 1, 2, 3, 4], [0, 1, 2, 3, 4, 5, 6]] [[2, 3, 4, 5, 6, 7], [2, 3, 4, 5, 6, 7], [3, 4, 5, 6, 7], [4, 5, 6, 7], [6, 7], [7], [7], []] rfl rfl follow rfl ⟨
    .inl ⟨wants_plain rfl, does_move _ (.inl rfl) rfl rfl rfl rfl (ar_tmp (av_fs 0 rfl))⟩,
    .inl ⟨wants_plain rfl, does_move _ (.inl rfl) rfl rfl rfl rfl (ar_tmp (av_fs 1 rfl))⟩,
    .inl ⟨wants_plain rfl, does_call (sc_Mul64 n (by omega) (by omega)) (zf_tup (zfs_cons (fun _ _ _ _ h => h) (zfs_cons (fun _ _ _ _ h => h) zfs_nil))) rfl ScopeA_hb_math_bits_Mul64 rfl rfl rfl rfl ar_clo (ars_cons (pa_vp (ar_tmp (av_rs 0 0 rfl rfl))) (ars_cons (pa_vp (ar_tmp (av_rs 1 1 rfl rfl))) ars_nil)) trivial⟩,
    .inl ⟨wants_plain rfl, does_move _ (.inl rfl) rfl rfl rfl rfl (ar_tmp (av_rs 2 2 rfl rfl))⟩,
    .inl ⟨wants_plain rfl, does_extract (ps := [VP.int .u64 0, VP.int .u64 n]) _ 0 rfl rfl rfl rfl rfl (ar_tmp (av_rs 3 3 rfl rfl)) rfl⟩,
    .inl ⟨wants_plain rfl, does_extract (ps := [VP.int .u64 0, VP.int .u64 n]) _ 1 rfl rfl rfl rfl rfl (ar_tmp (av_rs 3 3 rfl rfl)) rfl⟩,
    .inl ⟨wants_plain rfl, does_move _ (.inr rfl) rfl rfl rfl rfl (ar_tmp (av_rs 4 4 rfl rfl))⟩,
    .inl ⟨wants_plain rfl, does_move _ (.inr rfl) rfl rfl rfl rfl (ar_tmp (av_rs 5 5 rfl rfl))⟩,
    trivial⟩ ?_
  refine nx_sub (fs' := [.is (.tmp 4) (VP.int .u64 0), .is (.tmp 5) (VP.int .u64 0), .is (.tmp 8) (VP.int .u64 0), .is (.tmp 9) (VP.int .u64 n)]) [2, 3, 10, 11] rfl ?_
  refine nx_then ?_
  refine t_seq ?_
  refine t_region (F := ⟨_, _, _, _, _, _⟩) [.is (.tmp 8) (VP.int .u64 0), .is (.tmp 9) (VP.int .u64 n)] [(2, .is (.tmp 4) (VP.int .u64 0)), (3, .is (.tmp 5) (VP.int .u64 0))] [(0, .is (.tmp 28) (VP.int .u64 0)), (1, .is (.tmp 29) (VP.int .u64 n)), (2, .is (.tmp 4) (VP.int .u64 0)), (3, .is (.tmp 5) (VP.int .u64 n))] [] [2, 3] [0, 1] [[], [], [0], [0, 1, 2]] [[2, 3], [3], [3], []] rfl rfl follow rfl ⟨
    .inl ⟨wants_plain rfl, does_move _ (.inl rfl) rfl rfl rfl rfl (ar_tmp (av_fs 0 rfl))⟩,
    .inl ⟨wants_plain rfl, does_move _ (.inl rfl) rfl rfl rfl rfl (ar_tmp (av_fs 1 rfl))⟩,
    .inl ⟨wants_plain rfl, does_move _ (.inr rfl) rfl rfl rfl rfl (ar_tmp (av_rs 0 0 rfl rfl))⟩,
    .inl ⟨wants_plain rfl, does_move _ (.inr rfl) rfl rfl rfl rfl (ar_tmp (av_rs 1 1 rfl rfl))⟩,
    trivial⟩ ?_
  refine nx_sub (fs' := [.is (.tmp 4) (VP.int .u64 0), .is (.tmp 5) (VP.int .u64 n)]) [4, 5] rfl ?_
  refine nx_then ?_
  refine t_ret ?_
  exact rt_post [HA.of (VP.int .u64 0), HA.of (VP.int .u64 n)] [[], []] [] [] rfl ⟨(rv_vp 0 rfl), (rv_vp 1 rfl), trivial⟩ (by decide) rfl rfl

set_option maxRecDepth 100000 in
set_option maxHeartbeats 4000000 in
theorem sc_Repeat (x : Nat) (n : Int) (h0 : 0 ≤ n) (h1 : n ≤ 100000) : SpecO Try.prog 112 [.bo (HA.row 3 1 (([x]).length) ((([x]).flatMap cNat).map HA.of)), .vp (VP.int .i64 n)] [] [] [] (HA.row 3 1 ((List.replicate n.toNat x).length) (((List.replicate n.toNat x).flatMap cNat).map HA.of)) := by
  have hn : ((n.toNat : Nat) : Int) = n := Int.toNat_of_nonneg h0
  refine spec_of 48 Try.func112 rfl Try.ntmps112 rfl fun w0 S0 Z0 Bf => ?_
  refine t_sub (fs' := [.bor (.tmp 0) (HA.row 3 1 (([x]).length) ((([x]).flatMap cNat).map HA.of)), .is (.tmp 1) (VP.int .i64 n)]) [0, 1] rfl ?_
  refine t_sub (fs' := [.bor (.tmp 0) (HA.row 3 1 (([x]).length) ((([x]).flatMap cNat).map HA.of)), .is (.tmp 1) (VP.int .i64 n)]) [0, 1] rfl ?_
  refine b_name fun v0 => ?_
  refine t_sub (fs' := [.bor (.val v0) (HA.row 3 1 (([x]).length) ((([x]).flatMap cNat).map HA.of)), .is (.tmp 0) (VP.eq v0 true true), .is (.tmp 1) (VP.int .i64 n)]) [0, 1, 2] rfl ?_
  refine t_seq ?_
  refine t_region (F := ⟨_, _, _, _, _, _⟩) [.bor (.val v0) (HA.row 3 1 (([x]).length) ((([x]).flatMap cNat).map HA.of)), .is (.tmp 0) (VP.eq v0 true true), .is (.tmp 1) (VP.int .i64 n)] [] [(0, .is (.tmp 4) (VP.nilS))] [] [0, 1, 2] [] [[]] [[]] rfl rfl follow rfl ⟨
    .inl ⟨wants_plain rfl, does_move _ (.inr rfl) rfl rfl rfl rfl (ar_const (fun _ _ => rfl))⟩,
    trivial⟩ ?_
  refine nx_sub (fs' := [.bor (.val v0) (HA.row 3 1 (([x]).length) ((([x]).flatMap cNat).map HA.of)), .is (.tmp 0) (VP.eq v0 true true), .is (.tmp 1) (VP.int .i64 n), .is (.tmp 4) (VP.nilS)]) [0, 1, 2, 3] rfl ?_
  refine nx_then ?_
  refine t_seq ?_
  refine t_seq ?_
  refine t_region (F := ⟨_, _, _, _, _, _⟩) [.bor (.val v0) (HA.row 3 1 (([x]).length) ((([x]).flatMap cNat).map HA.of)), .is (.tmp 0) (VP.eq v0 true true), .is (.tmp 1) (VP.int .i64 n), .is (.tmp 4) (VP.nilS)] [] [(0, .is (.tmp 9) (VP.int .i64 n)), (1, .is (.tmp 10) (VP.bool (decide (n < 0))))] [] [0, 1, 2, 3] [] [[], [0]] [[1], []] rfl rfl follow rfl ⟨
    .inl ⟨wants_plain rfl, does_move _ (.inl rfl) rfl rfl rfl rfl (ar_tmp (av_fs 2 rfl))⟩,
    .inl ⟨wants_plain rfl, does_cmp (m := n) (n := 0) _ _ _ _ _ rfl rfl rfl rfl rfl rfl .i64 (ar_tmp (av_rs 0 0 rfl rfl)) (ar_const (fun _ _ => rfl))⟩,
    trivial⟩ ?_
  refine nx_sub (fs' := [.bor (.val v0) (HA.row 3 1 (([x]).length) ((([x]).flatMap cNat).map HA.of)), .is (.tmp 0) (VP.eq v0 true true), .is (.tmp 1) (VP.int .i64 n), .is (.tmp 4) (VP.nilS), .is (.tmp 10) (VP.bool (decide (n < 0)))]) [0, 1, 2, 3, 5] rfl ?_
  refine nx_then ?_
  refine t_cond_fe 4 rfl (decide_eq_false (by omega)) ?_
  refine t_skip ?_
  refine nx_then ?_
  refine t_seq ?_
  refine t_region (F := ⟨_, _, _, _, _, _⟩) [.bor (.val v0) (HA.row 3 1 (([x]).length) ((([x]).flatMap cNat).map HA.of)), .is (.tmp 0) (VP.eq v0 true true), .is (.tmp 1) (VP.int .i64 n), .is (.tmp 4) (VP.nilS), .is (.tmp 10) (VP.bool (decide (n < 0)))] [] [(0, .is (.tmp 13) (VP.eq v0 true true)), (1, .is (.tmp 14) (VP.int .i64 ((([x]).length : Nat) : Int))), (2, .is (.tmp 15) (VP.int .u64 ((([x]).length : Nat) : Int))), (3, .is (.tmp 16) (VP.int .i64 n)), (4, .is (.tmp 17) (VP.int .u64 n)), (5, .is (.tmp 18) (VP.tup [VP.int .u64 0, VP.int .u64 n])), (6, .is (.tmp 12) (VP.tup [VP.int .u64 0, VP.int .u64 n])), (7, .is (.tmp 19) (VP.int .u64 0)), (8, .is (.tmp 20) (VP.int .u64 n)), (9, .is (.tmp 5) (VP.int .u64 0)), (10, .is (.tmp 6) (VP.int .u64 n))] [] [0, 1, 2, 3, 4] [] [[], [0], [0, 1], [], [3], [0, 1, 2, 3, 4], [0, 1, 2, 3, 4, 5], [0, 1, 2, 3, 4, 5, 6], [0, 1, 2, 3, 4, 5, 6], [0, 1, 2, 3, 4, 5, 6, 7], [0, 1, 2, 3, 4, 5, 6, 7, 8, 9]] [[1, 2, 5, 6, 7, 8, 9, 10], [2, 5, 6, 7, 8, 9, 10], [5, 6, 7, 8, 9, 10], [4, 5, 6, 7, 8, 9, 10], [5, 6, 7, 8, 9, 10], [6, 7, 8, 9, 10], [7, 8, 9, 10], [9, 10], [10], [10], []] rfl rfl follow rfl ⟨
    .inl ⟨wants_plain rfl, does_move _ (.inl rfl) rfl rfl rfl rfl (ar_tmp (av_fs 1 rfl))⟩,
    .inl ⟨wants_plain rfl, does_len _ _ (by kernel_rfl) rfl rfl rfl rfl rfl (sl_bor (av_fs 0 rfl) (ar_tmp (av_rs 0 0 rfl rfl)))⟩,
    .inl ⟨wants_plain rfl, does_conv (n := ((([x]).length : Nat) : Int)) _ Try.underlying3 Try.underlying206 rfl rfl rfl rfl rfl (by rw [IntKind.wrap_u64]; first | omega | (simp only [List.length_cons, List.length_nil]; omega)) (ar_tmp (av_rs 1 1 rfl rfl))⟩,
    .inl ⟨wants_plain rfl, does_move _ (.inl rfl) rfl rfl rfl rfl (ar_tmp (av_fs 2 rfl))⟩,
    .inl ⟨wants_plain rfl, does_conv (n := n) _ Try.underlying3 Try.underlying206 rfl rfl rfl rfl rfl (by rw [IntKind.wrap_u64]; first | omega | (simp only [List.length_cons, List.length_nil]; omega)) (ar_tmp (av_rs 3 3 rfl rfl))⟩,
    .inl ⟨wants_plain rfl, does_call (sc_Mul n (by omega) (by omega)) (zf_tup (zfs_cons (fun _ _ _ _ h => h) (zfs_cons (fun _ _ _ _ h => h) zfs_nil))) rfl ScopeA_hb_math_bits_Mul rfl rfl rfl rfl ar_clo (ars_cons (pa_vp (ar_tmp (av_rs 2 2 rfl rfl))) (ars_cons (pa_vp (ar_tmp (av_rs 4 4 rfl rfl))) ars_nil)) trivial⟩,
    .inl ⟨wants_plain rfl, does_move _ (.inl rfl) rfl rfl rfl rfl (ar_tmp (av_rs 5 5 rfl rfl))⟩,
    .inl ⟨wants_plain rfl, does_extract (ps := [VP.int .u64 0, VP.int .u64 n]) _ 0 rfl rfl rfl rfl rfl (ar_tmp (av_rs 6 6 rfl rfl)) rfl⟩,
    .inl ⟨wants_plain rfl, does_extract (ps := [VP.int .u64 0, VP.int .u64 n]) _ 1 rfl rfl rfl rfl rfl (ar_tmp (av_rs 6 6 rfl rfl)) rfl⟩,
    .inl ⟨wants_plain rfl, does_move _ (.inr rfl) rfl rfl rfl rfl (ar_tmp (av_rs 7 7 rfl rfl))⟩,
    .inl ⟨wants_plain rfl, does_move _ (.inr rfl) rfl rfl rfl rfl (ar_tmp (av_rs 8 8 rfl rfl))⟩,
    trivial⟩ ?_
  refine nx_sub (fs' := [.bor (.val v0) (HA.row 3 1 (([x]).length) ((([x]).flatMap cNat).map HA.of)), .is (.tmp 0) (VP.eq v0 true true), .is (.tmp 4) (VP.nilS), .is (.tmp 5) (VP.int .u64 0), .is (.tmp 6) (VP.int .u64 n)]) [0, 1, 3, 14, 15] rfl ?_
  refine nx_then ?_
  refine t_seq ?_
  refine t_seq ?_
  refine t_region (F := ⟨_, _, _, _, _, _⟩) [.bor (.val v0) (HA.row 3 1 (([x]).length) ((([x]).flatMap cNat).map HA.of)), .is (.tmp 0) (VP.eq v0 true true), .is (.tmp 4) (VP.nilS), .is (.tmp 5) (VP.int .u64 0), .is (.tmp 6) (VP.int .u64 n)] [] [(0, .is (.tmp 21) (VP.int .u64 0)), (1, .is (.tmp 22) (VP.bool (decide (0 > 0)))), (2, .is (.tmp 23) (VP.bool (decide (0 > 0)))), (3, .is (.tmp 24) (VP.int .u64 n)), (4, .is (.tmp 25) (VP.bool (decide (n > 9223372036854775807)))), (5, .is (.tmp 26) (VP.bool (decide (n > 9223372036854775807))))] [] [0, 1, 2, 3, 4] [] [[], [0], [0, 1], [0, 1, 2], [0, 1, 2, 3], [0, 1, 2, 3, 4]] [[1, 2, 3, 4, 5], [2, 3, 4, 5], [3, 4, 5], [4, 5], [5], []] rfl rfl follow rfl ⟨
    .inl ⟨wants_plain rfl, does_move _ (.inl rfl) rfl rfl rfl rfl (ar_tmp (av_fs 3 rfl))⟩,
    .inl ⟨wants_plain rfl, does_cmp (m := 0) (n := 0) _ _ _ _ _ rfl rfl rfl rfl rfl rfl .u64 (ar_tmp (av_rs 0 0 rfl rfl)) (ar_const (fun _ _ => rfl))⟩,
    .inl ⟨wants_plain rfl, does_move _ (.inl rfl) rfl rfl rfl rfl (ar_tmp (av_rs 1 1 rfl rfl))⟩,
    .inl ⟨wants_guard false rfl rfl rfl (av_bool rfl (av_rs 2 2 rfl rfl)), does_move _ (.inl rfl) rfl rfl rfl rfl (ar_tmp (av_fs 4 rfl))⟩,
    .inl ⟨wants_guard false rfl rfl rfl (av_bool rfl (av_rs 2 2 rfl rfl)), does_cmp (m := n) (n := 9223372036854775807) _ _ _ _ _ rfl rfl rfl rfl rfl rfl .u64 (ar_tmp (av_rs 3 3 rfl rfl)) (ar_const (fun _ _ => rfl))⟩,
    .inl ⟨wants_plain rfl, does_pick false _ _ _ rfl rfl rfl rfl rfl (ar_tmp (av_bool rfl (av_rs 2 2 rfl rfl))) (ar_tmp (av_rs 4 4 rfl rfl))⟩,
    trivial⟩ ?_
  refine nx_sub (fs' := [.bor (.val v0) (HA.row 3 1 (([x]).length) ((([x]).flatMap cNat).map HA.of)), .is (.tmp 0) (VP.eq v0 true true), .is (.tmp 4) (VP.nilS), .is (.tmp 6) (VP.int .u64 n), .is (.tmp 26) (VP.bool (decide (n > 9223372036854775807)))]) [0, 1, 2, 4, 10] rfl ?_
  refine nx_then ?_
  refine t_cond_fe 4 rfl (decide_eq_false (by omega)) ?_
  refine t_skip ?_
  refine nx_then ?_
  refine t_seq ?_
  refine t_region (F := ⟨_, _, _, _, _, _⟩) [.bor (.val v0) (HA.row 3 1 (([x]).length) ((([x]).flatMap cNat).map HA.of)), .is (.tmp 0) (VP.eq v0 true true), .is (.tmp 4) (VP.nilS), .is (.tmp 6) (VP.int .u64 n), .is (.tmp 26) (VP.bool (decide (n > 9223372036854775807)))] [] [(0, .is (.tmp 28) (VP.int .u64 n)), (1, .is (.tmp 29) (VP.int .i64 n)), (2, .own 101 (.tmp 30) (HA.row 3 1 ((List.replicate n.toNat (0 : Nat)).length) (((List.replicate n.toNat (0 : Nat)).flatMap cNat).map HA.of))), (3, .eq 7 (.tmp 30))] [] [0, 1, 2, 3, 4] [] [[], [0], [0, 1], [0, 1, 2]] [[1, 2, 3], [2, 3], [3], []] rfl rfl follow rfl ⟨
    .inl ⟨wants_plain rfl, does_move _ (.inl rfl) rfl rfl rfl rfl (ar_tmp (av_fs 3 rfl))⟩,
    .inl ⟨wants_plain rfl, does_conv (n := n) _ Try.underlying206 Try.underlying3 rfl rfl rfl rfl rfl (by rw [IntKind.wrap_i64]; first | omega | (simp only [List.length_cons, List.length_nil]; omega)) (ar_tmp (av_rs 0 0 rfl rfl))⟩,
    .inl ⟨wants_plain rfl, does_make (n := n.toNat) (ps := ((List.replicate n.toNat (0 : Nat))).flatMap cNat) ScopeA_el_nat rfl _ _ rfl rfl rfl rfl rfl (by simp) (by rw [flat_len cNat_len]; simp) (mk_zeros (f := cNat) (x := VP.int .i64 (((0 : Nat) : Nat) : Int)) (z := (.int .i64 0)) (a := (0 : Nat)) (fun _ _ => rfl) rfl rfl _) (by constructor <;> first | decide | omega) (ar_int_eq (by omega) (ar_tmp (av_rs 1 1 rfl rfl))) (ar_int_eq (by omega) (ar_tmp (av_rs 1 1 rfl rfl)))⟩,
    .inl ⟨wants_plain rfl, does_eqTmp (k := 30) _ rfl (.inr rfl) rfl rfl rfl rfl rfl⟩,
    trivial⟩ ?_
  refine nx_sub (fs' := [.bor (.val v0) (HA.row 3 1 (([x]).length) ((([x]).flatMap cNat).map HA.of)), .is (.tmp 0) (VP.eq v0 true true), .is (.tmp 4) (VP.nilS), .own 101 (.tmp 30) (HA.row 3 1 ((List.replicate n.toNat (0 : Nat)).length) (((List.replicate n.toNat (0 : Nat)).flatMap cNat).map HA.of)), .eq 7 (.tmp 30)]) [0, 1, 2, 7, 8] rfl ?_
  refine nx_then ?_
  refine t_sub (fs' := [.own 101 (.tmp 30) (HA.row 3 1 ((List.replicate n.toNat (0 : Nat)).length) (((List.replicate n.toNat (0 : Nat)).flatMap cNat).map HA.of)), .bor (.val v0) (HA.row 3 1 (([x]).length) ((([x]).flatMap cNat).map HA.of)), .is (.tmp 0) (VP.eq v0 true true), .is (.tmp 4) (VP.nilS), .eq 7 (.tmp 30)]) [3, 0, 1, 2, 4] rfl ?_
  refine t_name rfl fun v7 => ?_
  refine t_sub (fs' := [.own 101 (.val v7) (HA.row 3 1 ((List.replicate n.toNat (0 : Nat)).length) (((List.replicate n.toNat (0 : Nat)).flatMap cNat).map HA.of)), .is (.tmp 30) (VP.eq v7 true true), .bor (.val v0) (HA.row 3 1 (([x]).length) ((([x]).flatMap cNat).map HA.of)), .is (.tmp 0) (VP.eq v0 true true), .is (.tmp 4) (VP.nilS), .eq 7 (.tmp 30)]) [0, 1, 2, 3, 4, 5] rfl ?_
  refine t_sub (fs' := [.eq 7 (.tmp 30), .is (.tmp 30) (VP.eq v7 true true), .own 101 (.val v7) (HA.row 3 1 ((List.replicate n.toNat (0 : Nat)).length) (((List.replicate n.toNat (0 : Nat)).flatMap cNat).map HA.of)), .bor (.val v0) (HA.row 3 1 (([x]).length) ((([x]).flatMap cNat).map HA.of)), .is (.tmp 0) (VP.eq v0 true true), .is (.tmp 4) (VP.nilS)]) [5, 1, 0, 2, 3, 4] rfl ?_
  refine t_eq ?_
  refine t_sub (fs' := [.is (.tmp 7) (VP.eq v7 true true), .is (.tmp 30) (VP.eq v7 true true), .own 101 (.val v7) (HA.row 3 1 ((List.replicate n.toNat (0 : Nat)).length) (((List.replicate n.toNat (0 : Nat)).flatMap cNat).map HA.of)), .bor (.val v0) (HA.row 3 1 (([x]).length) ((([x]).flatMap cNat).map HA.of)), .is (.tmp 0) (VP.eq v0 true true), .is (.tmp 4) (VP.nilS)]) [0, 1, 2, 3, 4, 5] rfl ?_
  refine t_sub (fs' := [.is (.tmp 7) (VP.eq v7 true true), .own 101 (.val v7) (HA.row 3 1 ((List.replicate n.toNat (0 : Nat)).length) (((List.replicate n.toNat (0 : Nat)).flatMap cNat).map HA.of)), .bor (.val v0) (HA.row 3 1 (([x]).length) ((([x]).flatMap cNat).map HA.of)), .is (.tmp 0) (VP.eq v0 true true), .is (.tmp 4) (VP.nilS)]) [0, 2, 3, 4, 5] rfl ?_
  refine t_seq ?_
  refine t_region (F := ⟨_, _, _, _, _, _⟩) [.is (.tmp 7) (VP.eq v7 true true), .bor (.val v0) (HA.row 3 1 (([x]).length) ((([x]).flatMap cNat).map HA.of)), .is (.tmp 0) (VP.eq v0 true true), .is (.tmp 4) (VP.nilS)] [(2, .own 101 (.val v7) (HA.row 3 1 ((List.replicate n.toNat (0 : Nat)).length) (((List.replicate n.toNat (0 : Nat)).flatMap cNat).map HA.of)))] [(0, .is (.tmp 31) (VP.eq v7 true true)), (1, .is (.tmp 32) (VP.eq v0 true true)), (2, .is (.tmp 33) (VP.int .i64 ((min 1 n.toNat : Nat) : Int))), (2, .own 101 (.val v7) (HA.row 3 1 ((List.replicate (min 1 n.toNat) x ++ List.replicate (n.toNat - (min 1 n.toNat)) (0 : Nat)).length) (((List.replicate (min 1 n.toNat) x ++ List.replicate (n.toNat - (min 1 n.toNat)) (0 : Nat)).flatMap cNat).map HA.of))), (3, .is (.tmp 8) (VP.int .i64 ((min 1 n.toNat : Nat) : Int)))] [] [0, 2, 3, 4] [1] [[], [], [0, 1], [0, 1, 2]] [[2, 3], [2, 3], [3], []] rfl rfl follow rfl ⟨
    .inl ⟨wants_plain rfl, does_move _ (.inl rfl) rfl rfl rfl rfl (ar_tmp (av_fs 0 rfl))⟩,
    .inl ⟨wants_plain rfl, does_move _ (.inl rfl) rfl rfl rfl rfl (ar_tmp (av_fs 2 rfl))⟩,
    .inl ⟨wants_plain rfl, does_copy (m := min 1 n.toNat) (nd := (List.replicate n.toNat (0 : Nat)).length) (ns := ([x]).length) (Qs := (([x]).flatMap cNat).map HA.of) [0, 1] _ _ Try.underlying35 ScopeA_size_int rfl rfl rfl rfl rfl (by simp; omega) (by simp) (flat_copy cNat_len (rep_copy0 x n.toNat)) (by rw [flat_lenH cNat_len]; simp; omega) (flat_lenH cNat_len _) (flat_allH (fun _ => rfl) cNat_one _) (flat_allH (fun _ => rfl) cNat_nu _) (sl_own (av_os 0 2 rfl rfl) (ar_tmp (av_rs 0 0 rfl rfl))) (av_os 0 2 rfl rfl) (src_look (sit_bor (av_fs 1 rfl)) (ar_tmp (av_rs 1 1 rfl rfl)))⟩,
    .inl ⟨wants_plain rfl, does_move _ (.inr rfl) rfl rfl rfl rfl (ar_tmp (av_rs 2 2 rfl rfl))⟩,
    trivial⟩ ?_
  refine nx_sub (fs' := [.is (.tmp 7) (VP.eq v7 true true), .bor (.val v0) (HA.row 3 1 (([x]).length) ((([x]).flatMap cNat).map HA.of)), .is (.tmp 4) (VP.nilS), .own 101 (.val v7) (HA.row 3 1 ((List.replicate (min 1 n.toNat) x ++ List.replicate (n.toNat - (min 1 n.toNat)) (0 : Nat)).length) (((List.replicate (min 1 n.toNat) x ++ List.replicate (n.toNat - (min 1 n.toNat)) (0 : Nat)).flatMap cNat).map HA.of)), .is (.tmp 8) (VP.int .i64 ((min 1 n.toNat : Nat) : Int))]) [0, 1, 3, 7, 8] rfl ?_
  refine nx_then ?_
  refine t_seq ?_
  refine t_block ?_
  refine t_loop (τ := {j : Nat // j ≤ n.toNat ∧ (0 < n.toNat → 0 < j)}) (fun ⟨j, _⟩ => [.is (.tmp 7) (VP.eq v7 true true), .is (.tmp 8) (VP.int .i64 ((j : Nat) : Int)), .own 101 (.val v7) (HA.row 3 1 ((List.replicate j x ++ List.replicate (n.toNat - j) (0 : Nat)).length) (((List.replicate j x ++ List.replicate (n.toNat - j) (0 : Nat)).flatMap cNat).map HA.of))]) (fun ⟨j, _⟩ => n.toNat - j) (⟨min 1 n.toNat, by omega, by omega⟩) [0, 4, 3] rfl ?_
  rintro ⟨j, hj1, hj2⟩
  have hL : ((List.replicate j x ++ List.replicate (n.toNat - j) (0 : Nat))).length = n.toNat := by simp; omega
  refine t_sub (fs' := [.is (.tmp 7) (VP.eq v7 true true), .is (.tmp 8) (VP.int .i64 ((j : Nat) : Int)), .own 101 (.val v7) (HA.row 3 1 ((List.replicate j x ++ List.replicate (n.toNat - j) (0 : Nat)).length) (((List.replicate j x ++ List.replicate (n.toNat - j) (0 : Nat)).flatMap cNat).map HA.of))]) [0, 1, 2] rfl ?_
  refine t_seq ?_
  refine t_seq ?_
  refine t_region (F := ⟨_, _, _, _, _, _⟩) [.is (.tmp 7) (VP.eq v7 true true), .is (.tmp 8) (VP.int .i64 ((j : Nat) : Int)), .own 101 (.val v7) (HA.row 3 1 ((List.replicate j x ++ List.replicate (n.toNat - j) (0 : Nat)).length) (((List.replicate j x ++ List.replicate (n.toNat - j) (0 : Nat)).flatMap cNat).map HA.of))] [] [(0, .is (.tmp 34) (VP.int .i64 ((j : Nat) : Int))), (1, .is (.tmp 35) (VP.eq v7 true true)), (2, .is (.tmp 36) (VP.int .i64 (((List.replicate j x ++ List.replicate (n.toNat - j) (0 : Nat)).length : Nat) : Int))), (3, .is (.tmp 37) (VP.bool (decide (((j : Nat) : Int) < (((List.replicate j x ++ List.replicate (n.toNat - j) (0 : Nat)).length : Nat) : Int)))))] [] [0, 1, 2] [] [[], [], [1], [0, 1, 2]] [[3], [2, 3], [3], []] rfl rfl follow rfl ⟨
    .inl ⟨wants_plain rfl, does_move _ (.inl rfl) rfl rfl rfl rfl (ar_tmp (av_fs 1 rfl))⟩,
    .inl ⟨wants_plain rfl, does_move _ (.inl rfl) rfl rfl rfl rfl (ar_tmp (av_fs 0 rfl))⟩,
    .inl ⟨wants_plain rfl, does_len _ _ (by kernel_rfl) rfl rfl rfl rfl rfl (sl_own (av_fs 2 rfl) (ar_tmp (av_rs 1 1 rfl rfl)))⟩,
    .inl ⟨wants_plain rfl, does_cmp (m := ((j : Nat) : Int)) (n := (((List.replicate j x ++ List.replicate (n.toNat - j) (0 : Nat)).length : Nat) : Int)) _ _ _ _ _ rfl rfl rfl rfl rfl rfl .i64 (ar_tmp (av_rs 0 0 rfl rfl)) (ar_tmp (av_rs 2 2 rfl rfl))⟩,
    trivial⟩ ?_
  refine nx_sub (fs' := [.is (.tmp 7) (VP.eq v7 true true), .is (.tmp 8) (VP.int .i64 ((j : Nat) : Int)), .own 101 (.val v7) (HA.row 3 1 ((List.replicate j x ++ List.replicate (n.toNat - j) (0 : Nat)).length) (((List.replicate j x ++ List.replicate (n.toNat - j) (0 : Nat)).flatMap cNat).map HA.of)), .is (.tmp 34) (VP.int .i64 ((j : Nat) : Int)), .is (.tmp 35) (VP.eq v7 true true), .is (.tmp 36) (VP.int .i64 (((List.replicate j x ++ List.replicate (n.toNat - j) (0 : Nat)).length : Nat) : Int)), .is (.tmp 37) (VP.bool (decide (((j : Nat) : Int) < (((List.replicate j x ++ List.replicate (n.toNat - j) (0 : Nat)).length : Nat) : Int))))]) [0, 1, 2, 3, 4, 5, 6] rfl ?_
  refine nx_then ?_
  refine t_split 6 rfl (fun hb1 => ?_) (fun hb1 => ?_)
  · have hc1 := of_decide_eq_true hb1
    refine t_skip ?_
    refine nx_then ?_
    refine t_block ?_
    refine t_region (F := ⟨_, _, _, _, _, _⟩) [.is (.tmp 7) (VP.eq v7 true true), .is (.tmp 34) (VP.int .i64 ((j : Nat) : Int)), .is (.tmp 35) (VP.eq v7 true true), .is (.tmp 36) (VP.int .i64 (((List.replicate j x ++ List.replicate (n.toNat - j) (0 : Nat)).length : Nat) : Int)), .is (.tmp 37) (VP.bool (decide (((j : Nat) : Int) < (((List.replicate j x ++ List.replicate (n.toNat - j) (0 : Nat)).length : Nat) : Int))))] [(9, .is (.tmp 8) (VP.int .i64 ((j : Nat) : Int))), (7, .own 101 (.val v7) (HA.row 3 1 ((List.replicate j x ++ List.replicate (n.toNat - j) (0 : Nat)).length) (((List.replicate j x ++ List.replicate (n.toNat - j) (0 : Nat)).flatMap cNat).map HA.of)))] [(0, .is (.tmp 38) (VP.int .i64 ((j : Nat) : Int))), (1, .is (.tmp 39) (VP.eq v7 true true)), (2, .is (.tmp 40) (VP.int .i64 ((j : Nat) : Int))), (3, .sub 41 (.val v7) j ((List.replicate j x ++ List.replicate (n.toNat - j) (0 : Nat)).length - j)), (4, .is (.tmp 42) (VP.eq v7 true true)), (5, .is (.tmp 43) (VP.int .i64 ((j : Nat) : Int))), (6, .sub 44 (.val v7) 0 j), (7, .is (.tmp 45) (VP.int .i64 ((min j (n.toNat - j) : Nat) : Int))), (7, .own 101 (.val v7) (HA.row 3 1 ((List.replicate (j + min j (n.toNat - j)) x ++ List.replicate (n.toNat - (j + min j (n.toNat - j))) (0 : Nat)).length) (((List.replicate (j + min j (n.toNat - j)) x ++ List.replicate (n.toNat - (j + min j (n.toNat - j))) (0 : Nat)).flatMap cNat).map HA.of))), (8, .is (.tmp 46) (VP.int .i64 (((j + min j (n.toNat - j)) : Nat) : Int))), (9, .is (.tmp 8) (VP.int .i64 (((j + min j (n.toNat - j)) : Nat) : Int)))] [] [0, 3, 4, 5, 6] [1, 2] [[], [], [], [1, 2], [], [], [4, 5], [1, 2, 3, 4, 5, 6], [0, 1, 2, 3, 4, 5, 6, 7], [0, 1, 2, 3, 4, 5, 6, 7, 8]] [[8, 9], [3, 7, 8, 9], [3, 7, 8, 9], [7, 8, 9], [6, 7, 8, 9], [6, 7, 8, 9], [7, 8, 9], [8, 9], [9], []] rfl rfl follow rfl ⟨
      .inl ⟨wants_plain rfl, does_move _ (.inl rfl) rfl rfl rfl rfl (ar_tmp (av_os 0 9 rfl rfl))⟩,
      .inl ⟨wants_plain rfl, does_move _ (.inl rfl) rfl rfl rfl rfl (ar_tmp (av_fs 0 rfl))⟩,
      .inl ⟨wants_plain rfl, does_move _ (.inl rfl) rfl rfl rfl rfl (ar_tmp (av_os 0 9 rfl rfl))⟩,
      .inl ⟨wants_plain rfl, does_cutSub (l := j) (h := (List.replicate j x ++ List.replicate (n.toNat - j) (0 : Nat)).length) _ Try.underlying35 ScopeA_size_int rfl rfl rfl rfl rfl j (by omega) rfl (by omega) (by omega) ⟨_, (ar_tmp (av_rs 2 2 rfl rfl))⟩ rfl (sl_own (av_os 1 7 rfl rfl) (ar_tmp (av_rs 1 1 rfl rfl)))⟩,
      .inl ⟨wants_plain rfl, does_move _ (.inl rfl) rfl rfl rfl rfl (ar_tmp (av_fs 0 rfl))⟩,
      .inl ⟨wants_plain rfl, does_move _ (.inl rfl) rfl rfl rfl rfl (ar_tmp (av_os 0 9 rfl rfl))⟩,
      .inl ⟨wants_plain rfl, does_cutSub (l := 0) (h := j) _ Try.underlying35 ScopeA_size_int rfl rfl rfl rfl rfl 0 (by omega) rfl (by omega) (by omega) rfl ⟨_, (ar_tmp (av_rs 5 5 rfl rfl))⟩ (sl_own (av_os 1 7 rfl rfl) (ar_tmp (av_rs 4 4 rfl rfl)))⟩,
      .inl ⟨wants_plain rfl, does_copy (m := min j (n.toNat - j)) (nd := ((List.replicate j x ++ List.replicate (n.toNat - j) (0 : Nat)).length - j)) (ns := j) (Qs := (((((List.replicate j x ++ List.replicate (n.toNat - j) (0 : Nat)).drop 0).take j)).flatMap cNat).map HA.of) [0, 1] _ _ Try.underlying35 ScopeA_size_int rfl rfl rfl rfl rfl (by simp; omega) (by simp only [List.length_append, List.length_replicate]; omega) (flat_copy cNat_len (rep_copy (x := x) (n := n.toNat) hj1 rfl)) (by rw [flat_lenH cNat_len]; simp only [List.length_append, List.length_replicate]; omega) (by rw [flat_lenH cNat_len]; simp only [List.length_take, List.length_append, List.length_replicate, List.length_drop]; omega) (flat_allH (fun _ => rfl) cNat_one _) (flat_allH (fun _ => rfl) cNat_nu _) (sl_sub (av_rs 3 3 rfl rfl)) (av_os 1 7 rfl rfl) (src_sub (b := 0) (av_rs 6 6 rfl rfl) (av_os 1 7 rfl rfl) (hq_part cNat_len (List.replicate j x ++ List.replicate (n.toNat - j) (0 : Nat)) 0 j (by omega)) (fun h => by rw [h]; simp) rfl)⟩,
      .inl ⟨wants_plain rfl, does_addE (m := ((j : Nat) : Int)) (n := ((min j (n.toNat - j) : Nat) : Int)) (x := (((j + min j (n.toNat - j)) : Nat) : Int)) (by omega) _ _ _ _ rfl rfl rfl rfl rfl (by omega) (ar_tmp (av_rs 0 0 rfl rfl)) (ar_tmp (av_rs 7 7 rfl rfl))⟩,
      .inl ⟨wants_plain rfl, does_move _ (.inr rfl) rfl rfl rfl rfl (ar_tmp (av_rs 9 8 rfl rfl))⟩,
      trivial⟩ ?_
    refine nx_sub (fs' := [.is (.tmp 7) (VP.eq v7 true true), .is (.tmp 34) (VP.int .i64 ((j : Nat) : Int)), .is (.tmp 35) (VP.eq v7 true true), .is (.tmp 36) (VP.int .i64 (((List.replicate j x ++ List.replicate (n.toNat - j) (0 : Nat)).length : Nat) : Int)), .is (.tmp 37) (VP.bool (decide (((j : Nat) : Int) < (((List.replicate j x ++ List.replicate (n.toNat - j) (0 : Nat)).length : Nat) : Int)))), .is (.tmp 38) (VP.int .i64 ((j : Nat) : Int)), .is (.tmp 39) (VP.eq v7 true true), .is (.tmp 40) (VP.int .i64 ((j : Nat) : Int)), .sub 41 (.val v7) j ((List.replicate j x ++ List.replicate (n.toNat - j) (0 : Nat)).length - j), .is (.tmp 42) (VP.eq v7 true true), .is (.tmp 43) (VP.int .i64 ((j : Nat) : Int)), .sub 44 (.val v7) 0 j, .is (.tmp 45) (VP.int .i64 ((min j (n.toNat - j) : Nat) : Int)), .own 101 (.val v7) (HA.row 3 1 ((List.replicate (j + min j (n.toNat - j)) x ++ List.replicate (n.toNat - (j + min j (n.toNat - j))) (0 : Nat)).length) (((List.replicate (j + min j (n.toNat - j)) x ++ List.replicate (n.toNat - (j + min j (n.toNat - j))) (0 : Nat)).flatMap cNat).map HA.of)), .is (.tmp 46) (VP.int .i64 (((j + min j (n.toNat - j)) : Nat) : Int)), .is (.tmp 8) (VP.int .i64 (((j + min j (n.toNat - j)) : Nat) : Int))]) [0, 1, 2, 3, 4, 5, 6, 7, 8, 9, 10, 11, 12, 13, 14, 15] rfl ?_
    refine nx_block ?_
    refine nx_round (τ := {j : Nat // j ≤ n.toNat ∧ (0 < n.toNat → 0 < j)}) (I := fun ⟨j, _⟩ => [.is (.tmp 7) (VP.eq v7 true true), .is (.tmp 8) (VP.int .i64 ((j : Nat) : Int)), .own 101 (.val v7) (HA.row 3 1 ((List.replicate j x ++ List.replicate (n.toNat - j) (0 : Nat)).length) (((List.replicate j x ++ List.replicate (n.toNat - j) (0 : Nat)).flatMap cNat).map HA.of))]) (μ := fun ⟨j, _⟩ => n.toNat - j) (s := ⟨j, hj1, hj2⟩) (⟨j + min j (n.toNat - j), by omega, by omega⟩) ?_ [0, 15, 13] ?_
    · exact (show n.toNat - (j + min j (n.toNat - j)) < n.toNat - j by omega)
    · exact rfl
  · have hc1 := of_decide_eq_false hb1
    refine t_exit ?_
    refine ex_then ?_
    refine ex_then ?_
    refine ex_block ?_
    refine nx_then ?_
    refine t_sub (fs' := [.is (.tmp 7) (VP.eq v7 true true), .own 101 (.val v7) (HA.row 3 1 ((List.replicate j x ++ List.replicate (n.toNat - j) (0 : Nat)).length) (((List.replicate j x ++ List.replicate (n.toNat - j) (0 : Nat)).flatMap cNat).map HA.of))]) [0, 2] rfl ?_
    refine t_seq ?_
    refine t_region (F := ⟨_, _, _, _, _, _⟩) [.is (.tmp 7) (VP.eq v7 true true), .own 101 (.val v7) (HA.row 3 1 ((List.replicate j x ++ List.replicate (n.toNat - j) (0 : Nat)).length) (((List.replicate j x ++ List.replicate (n.toNat - j) (0 : Nat)).flatMap cNat).map HA.of))] [] [(0, .is (.tmp 47) (VP.eq v7 true true)), (1, .is (.tmp 4) (VP.eq v7 true true))] [] [0, 1] [] [[], [0]] [[1], []] rfl rfl follow rfl ⟨
      .inl ⟨wants_plain rfl, does_move _ (.inl rfl) rfl rfl rfl rfl (ar_tmp (av_fs 0 rfl))⟩,
      .inl ⟨wants_plain rfl, does_move _ (.inr rfl) rfl rfl rfl rfl (ar_tmp (av_rs 0 0 rfl rfl))⟩,
      trivial⟩ ?_
    refine nx_sub (fs' := [.own 101 (.val v7) (HA.row 3 1 ((List.replicate j x ++ List.replicate (n.toNat - j) (0 : Nat)).length) (((List.replicate j x ++ List.replicate (n.toNat - j) (0 : Nat)).flatMap cNat).map HA.of)), .is (.tmp 4) (VP.eq v7 true true)]) [1, 3] rfl ?_
    refine nx_then ?_
    refine t_ret ?_
    exact rt_post [HA.row 3 1 ((List.replicate n.toNat x).length) (((List.replicate n.toNat x).flatMap cNat).map HA.of)] [[101]] [] [] rfl ⟨(rv_eq (congrArg (fun l => HA.row 3 1 l.length ((l.flatMap cNat).map HA.of)) (show (List.replicate j x ++ List.replicate (n.toNat - j) (0 : Nat)) = List.replicate n.toNat x from rep_end (by omega))) (rv_ownv 0 1 rfl rfl)), trivial⟩ (by decide) rfl rfl

end O
end Go.Proofs.Ytogodjiemgilaaa

/- The table of scopes of the document. -/
namespace Go.Proofs.Ytogodjiemgilaaa
open Go.RowKit
namespace O

/-- the document's table: names, what they tell, their levels; how many levels there are -/
structure RefD where
  names : List ByteArray
  told : List Int
  at_ : List Int
  lv : Int
abbrev RefT (d : RefD) : HA := HA.cells 37 [HA.row 9 1 d.names.length ((d.names.flatMap cStr).map HA.of), HA.row 3 1 d.told.length ((d.told.flatMap cInt).map HA.of), HA.row 3 1 d.at_.length ((d.at_.flatMap cInt).map HA.of), HA.of (VP.int .i64 d.lv)]
def fidx (s : ByteArray) (l : List ByteArray) : Int := match l.findIdx? (fun y => y.toList == s.toList) with | some i => (i : Int) | none => -1
theorem fidx_hit {s x : ByteArray} {l : List ByteArray} {k : Nat} (h : ∀ j y, j < k → l[j]? = some y → (y.toList == s.toList) = false) (hx : l[k]? = some x) (he : (x.toList == s.toList) = true) : fidx s l = k := by
  unfold fidx
  obtain ⟨hk, rfl⟩ := List.getElem?_eq_some_iff.1 hx
  have : l.findIdx? (fun y => y.toList == s.toList) = some k := List.findIdx?_eq_some_iff_getElem.2 ⟨hk, he, fun j hj => by rw [h j _ hj (List.getElem?_eq_getElem (by omega))]; exact Bool.false_ne_true⟩
  rw [this]
theorem fidx_miss {s : ByteArray} {l : List ByteArray} {k : Nat} (h : ∀ j y, j < k → l[j]? = some y → (y.toList == s.toList) = false) (hk : l.length ≤ k) : fidx s l = -1 := by
  unfold fidx
  have : l.findIdx? (fun y => y.toList == s.toList) = none := by
    rw [List.findIdx?_eq_none_iff]
    intro x hx
    obtain ⟨j, hj, rfl⟩ := List.mem_iff_getElem.1 hx
    exact h j _ (by omega) (List.getElem?_eq_getElem hj)
  rw [this]
theorem fidx_step {s x : ByteArray} {l : List ByteArray} {k : Nat} (h : ∀ j y, j < k → l[j]? = some y → (y.toList == s.toList) = false) (hx : l[k]? = some x) (he : (x.toList == s.toList) = false) : ∀ j y, j < k + 1 → l[j]? = some y → (y.toList == s.toList) = false := fun j y hj hy => by
  by_cases e : j = k
  · subst e; rw [hx] at hy; injection hy with hy; subst hy; exact he
  · exact h j y (by omega) hy
def RefD.bind (d : RefD) (s : ByteArray) (x : Int) : RefD := if fidx s d.names ≥ 0 then d else ⟨d.names ++ [s], d.told ++ [x], d.at_ ++ [d.lv], d.lv⟩
def RefD.bindE (d : RefD) (s : ByteArray) : Int := if fidx s d.names ≥ 0 then 13 else 0
def RefD.push (d : RefD) (n : Int) : RefD := if 0 ≤ n ∧ n ≤ 1000 - d.lv then ⟨d.names, d.told, d.at_, d.lv + n⟩ else d
def RefD.pushE (d : RefD) (n : Int) : Int := if n < 0 then 1 else if n > 1000 - d.lv then 4 else 0
def RefD.cut (d : RefD) (n : Int) : Nat := (d.at_.takeWhile fun x => decide (x ≤ d.lv - n)).length
def RefD.pop (d : RefD) (n : Int) : RefD := if 0 ≤ n ∧ n ≤ d.lv then ⟨d.names.take (d.cut n), d.told.take (d.cut n), d.at_.take (d.cut n), d.lv - n⟩ else d
def RefD.popE (d : RefD) (n : Int) : Int := if n < 0 then 1 else if n > d.lv then 2 else 0
theorem tw_end {l : List Int} {c : Int} : ∀ {k : Nat}, (∀ j y, j < k → l[j]? = some y → y ≤ c) → (∀ y, l[k]? = some y → ¬ y ≤ c) → k ≤ l.length → (l.takeWhile fun x => decide (x ≤ c)).length = k := by
  induction l with
  | nil => intro k _ _ hk; simp at hk ⊢; omega
  | cons x l ih =>
    intro k h1 h2 hk
    cases k with
    | zero =>
      have := h2 x rfl
      rw [List.takeWhile_cons, decide_eq_false this]; rfl
    | succ k =>
      have := h1 0 x (by omega) rfl
      rw [List.takeWhile_cons, decide_eq_true this]
      show (List.takeWhile _ l).length + 1 = k + 1
      rw [ih (k := k) (fun j y hj hy => h1 (j + 1) y (by omega) (by simpa using hy)) (fun y hy => h2 y (by simpa using hy)) (by simpa using hk)]
theorem tw_step {l : List Int} {c x : Int} {k : Nat} (h : ∀ j y, j < k → l[j]? = some y → y ≤ c) (hx : l[k]? = some x) (he : x ≤ c) : ∀ j y, j < k + 1 → l[j]? = some y → y ≤ c := fun j y hj hy => by
  by_cases e : j = k
  · subst e; rw [hx] at hy; injection hy with hy; subst hy; exact he
  · exact h j y (by omega) hy
theorem ScopeR_f_collatorref08_Table_0 : fieldAt Try.prog 37 0 0 = true := by kernel_rfl
theorem ScopeR_one___string : oneTy Try.prog 31 = true := by kernel_rfl
theorem ScopeR_one_string : oneTy Try.prog 9 = true := by kernel_rfl
theorem ScopeR_size_string : ∀ w, (sizeOf 9).run Try.prog w = .ok 1 w := run_sizeOne ScopeR_one_string
theorem ScopeR_hb___collator_collatorref08_Table__Find : hasBody Try.prog 34 = true := by kernel_rfl
theorem ScopeR_el_str : Elem Try.prog 31 9 (.string (ByteArray.mk #[])) 1 16 := Elem.mk Try.underlying31 (by kernel_rfl) rfl (by decide)
theorem ScopeR_size___string : ∀ w, (sizeOf 31).run Try.prog w = .ok 1 w := run_sizeOne ScopeR_one___string
theorem ScopeR_f_collatorref08_Table_1 : fieldAt Try.prog 37 1 1 = true := by kernel_rfl
theorem ScopeR_one___int : oneTy Try.prog 35 = true := by kernel_rfl
theorem ScopeR_el_int : Elem Try.prog 35 3 (.int .i64 0) 1 8 := Elem.mk Try.underlying35 (by kernel_rfl) rfl (by decide)
theorem ScopeR_size___int : ∀ w, (sizeOf 35).run Try.prog w = .ok 1 w := run_sizeOne ScopeR_one___int
theorem ScopeR_f_collatorref08_Table_2 : fieldAt Try.prog 37 2 2 = true := by kernel_rfl
theorem ScopeR_f_collatorref08_Table_3 : fieldAt Try.prog 37 3 3 = true := by kernel_rfl
theorem ScopeR_one_int : oneTy Try.prog 3 = true := by kernel_rfl
theorem ScopeR_size_int : ∀ w, (sizeOf 3).run Try.prog w = .ok 1 w := run_sizeOne ScopeR_one_int
set_option maxRecDepth 100000 in
set_option maxHeartbeats 4000000 in
theorem rf_Find {v : Value} {d : RefD} (s : ByteArray) (hn : d.names.length ≤ 1000000) : SpecO Try.prog 34 [.vp (VP.ptr v), .vp (VP.str s)] [(v, RefT d)] [] [] (HA.of (VP.int .i64 (fidx s d.names))) := by
  refine spec_of 25 Try.func34 rfl Try.ntmps34 rfl fun w0 S0 Z0 Bf => ?_
  refine t_sub (fs' := [.is (.tmp 0) (VP.ptr v), .is (.tmp 1) (VP.str s), .bor (.val v) (RefT d)]) [0, 1, 2] rfl ?_
  refine t_sub (fs' := [.bor (.val v) (RefT d), .is (.tmp 0) (VP.ptr v), .is (.tmp 1) (VP.str s)]) [2, 0, 1] rfl ?_
  refine b_part (part_cells (T' := 37) (Rs := [HA.row 9 1 d.names.length ((d.names.flatMap cStr).map HA.of), HA.row 3 1 d.told.length ((d.told.flatMap cInt).map HA.of), HA.row 3 1 d.at_.length ((d.at_.flatMap cInt).map HA.of), HA.of (VP.int .i64 d.lv)]) 0 rfl) fun un => ?_
  refine t_sub (fs' := [.bor (.val v) (HA.cells 37 [HA.of (VP.eq un true true), HA.row 3 1 d.told.length ((d.told.flatMap cInt).map HA.of), HA.row 3 1 d.at_.length ((d.at_.flatMap cInt).map HA.of), HA.of (VP.int .i64 d.lv)]), .bor (.val un) (HA.row 9 1 d.names.length ((d.names.flatMap cStr).map HA.of)), .is (.tmp 0) (VP.ptr v), .is (.tmp 1) (VP.str s)]) [0, 1, 2, 3] rfl ?_
  refine t_sub (fs' := [.bor (.val v) (HA.cells 37 [HA.of (VP.eq un true true), HA.row 3 1 d.told.length ((d.told.flatMap cInt).map HA.of), HA.row 3 1 d.at_.length ((d.at_.flatMap cInt).map HA.of), HA.of (VP.int .i64 d.lv)]), .bor (.val un) (HA.row 9 1 d.names.length ((d.names.flatMap cStr).map HA.of)), .is (.tmp 0) (VP.ptr v), .is (.tmp 1) (VP.str s)]) [0, 1, 2, 3] rfl ?_
  refine b_part (part_cells (T' := 37) (Rs := [HA.of (VP.eq un true true), HA.row 3 1 d.told.length ((d.told.flatMap cInt).map HA.of), HA.row 3 1 d.at_.length ((d.at_.flatMap cInt).map HA.of), HA.of (VP.int .i64 d.lv)]) 1 rfl) fun ut => ?_
  refine t_sub (fs' := [.bor (.val v) (HA.cells 37 [HA.of (VP.eq un true true), HA.of (VP.eq ut true true), HA.row 3 1 d.at_.length ((d.at_.flatMap cInt).map HA.of), HA.of (VP.int .i64 d.lv)]), .bor (.val ut) (HA.row 3 1 d.told.length ((d.told.flatMap cInt).map HA.of)), .bor (.val un) (HA.row 9 1 d.names.length ((d.names.flatMap cStr).map HA.of)), .is (.tmp 0) (VP.ptr v), .is (.tmp 1) (VP.str s)]) [0, 1, 2, 3, 4] rfl ?_
  refine t_sub (fs' := [.bor (.val v) (HA.cells 37 [HA.of (VP.eq un true true), HA.of (VP.eq ut true true), HA.row 3 1 d.at_.length ((d.at_.flatMap cInt).map HA.of), HA.of (VP.int .i64 d.lv)]), .bor (.val ut) (HA.row 3 1 d.told.length ((d.told.flatMap cInt).map HA.of)), .bor (.val un) (HA.row 9 1 d.names.length ((d.names.flatMap cStr).map HA.of)), .is (.tmp 0) (VP.ptr v), .is (.tmp 1) (VP.str s)]) [0, 1, 2, 3, 4] rfl ?_
  refine b_part (part_cells (T' := 37) (Rs := [HA.of (VP.eq un true true), HA.of (VP.eq ut true true), HA.row 3 1 d.at_.length ((d.at_.flatMap cInt).map HA.of), HA.of (VP.int .i64 d.lv)]) 2 rfl) fun ua => ?_
  refine t_sub (fs' := [.bor (.val v) (HA.cells 37 [HA.of (VP.eq un true true), HA.of (VP.eq ut true true), HA.of (VP.eq ua true true), HA.of (VP.int .i64 d.lv)]), .bor (.val ua) (HA.row 3 1 d.at_.length ((d.at_.flatMap cInt).map HA.of)), .bor (.val ut) (HA.row 3 1 d.told.length ((d.told.flatMap cInt).map HA.of)), .bor (.val un) (HA.row 9 1 d.names.length ((d.names.flatMap cStr).map HA.of)), .is (.tmp 0) (VP.ptr v), .is (.tmp 1) (VP.str s)]) [0, 1, 2, 3, 4, 5] rfl ?_
  refine t_seq ?_
  refine t_region (F := ⟨_, _, _, _, _, _⟩) [.bor (.val v) (HA.cells 37 [HA.of (VP.eq un true true), HA.of (VP.eq ut true true), HA.of (VP.eq ua true true), HA.of (VP.int .i64 d.lv)]), .bor (.val ua) (HA.row 3 1 d.at_.length ((d.at_.flatMap cInt).map HA.of)), .bor (.val ut) (HA.row 3 1 d.told.length ((d.told.flatMap cInt).map HA.of)), .bor (.val un) (HA.row 9 1 d.names.length ((d.names.flatMap cStr).map HA.of)), .is (.tmp 0) (VP.ptr v), .is (.tmp 1) (VP.str s)] [] [(0, .is (.tmp 4) (VP.int .i64 0))] [] [0, 1, 2, 3, 4, 5] [] [[]] [[]] rfl rfl follow rfl ⟨
    .inl ⟨wants_plain rfl, does_move _ (.inr rfl) rfl rfl rfl rfl (ar_const (fun _ _ => rfl))⟩,
    trivial⟩ ?_
  refine nx_sub (fs' := [.bor (.val v) (HA.cells 37 [HA.of (VP.eq un true true), HA.of (VP.eq ut true true), HA.of (VP.eq ua true true), HA.of (VP.int .i64 d.lv)]), .bor (.val ua) (HA.row 3 1 d.at_.length ((d.at_.flatMap cInt).map HA.of)), .bor (.val ut) (HA.row 3 1 d.told.length ((d.told.flatMap cInt).map HA.of)), .bor (.val un) (HA.row 9 1 d.names.length ((d.names.flatMap cStr).map HA.of)), .is (.tmp 0) (VP.ptr v), .is (.tmp 1) (VP.str s), .is (.tmp 4) (VP.int .i64 0)]) [0, 1, 2, 3, 4, 5, 6] rfl ?_
  refine nx_then ?_
  refine t_seq ?_
  refine t_seq ?_
  refine t_region (F := ⟨_, _, _, _, _, _⟩) [.bor (.val v) (HA.cells 37 [HA.of (VP.eq un true true), HA.of (VP.eq ut true true), HA.of (VP.eq ua true true), HA.of (VP.int .i64 d.lv)]), .bor (.val ua) (HA.row 3 1 d.at_.length ((d.at_.flatMap cInt).map HA.of)), .bor (.val ut) (HA.row 3 1 d.told.length ((d.told.flatMap cInt).map HA.of)), .bor (.val un) (HA.row 9 1 d.names.length ((d.names.flatMap cStr).map HA.of)), .is (.tmp 0) (VP.ptr v), .is (.tmp 1) (VP.str s), .is (.tmp 4) (VP.int .i64 0)] [] [(0, .is (.tmp 5) (VP.int .i64 0))] [] [0, 1, 2, 3, 4, 5, 6] [] [[]] [[]] rfl rfl follow rfl ⟨
    .inl ⟨wants_plain rfl, does_move _ (.inr rfl) rfl rfl rfl rfl (ar_const (fun _ _ => rfl))⟩,
    trivial⟩ ?_
  refine nx_sub (fs' := [.bor (.val v) (HA.cells 37 [HA.of (VP.eq un true true), HA.of (VP.eq ut true true), HA.of (VP.eq ua true true), HA.of (VP.int .i64 d.lv)]), .bor (.val ua) (HA.row 3 1 d.at_.length ((d.at_.flatMap cInt).map HA.of)), .bor (.val ut) (HA.row 3 1 d.told.length ((d.told.flatMap cInt).map HA.of)), .bor (.val un) (HA.row 9 1 d.names.length ((d.names.flatMap cStr).map HA.of)), .is (.tmp 0) (VP.ptr v), .is (.tmp 1) (VP.str s), .is (.tmp 4) (VP.int .i64 0), .is (.tmp 5) (VP.int .i64 0)]) [0, 1, 2, 3, 4, 5, 6, 7] rfl ?_
  refine nx_then ?_
  refine t_block ?_
  refine t_sub (fs' := [.is (.tmp 5) (VP.int .i64 0), .bor (.val v) (HA.cells 37 [HA.of (VP.eq un true true), HA.of (VP.eq ut true true), HA.of (VP.eq ua true true), HA.of (VP.int .i64 d.lv)]), .bor (.val ua) (HA.row 3 1 d.at_.length ((d.at_.flatMap cInt).map HA.of)), .bor (.val ut) (HA.row 3 1 d.told.length ((d.told.flatMap cInt).map HA.of)), .bor (.val un) (HA.row 9 1 d.names.length ((d.names.flatMap cStr).map HA.of)), .is (.tmp 0) (VP.ptr v), .is (.tmp 1) (VP.str s), .is (.tmp 4) (VP.int .i64 0)]) [7, 0, 1, 2, 3, 4, 5, 6] rfl ?_
  refine t_slot (y := VP.int .i64 ((0 : Nat) : Int)) (fun _ _ _ h => h) ?_
  refine t_sub (fs' := [.is (.tmp 5) (VP.int .i64 ((0 : Nat) : Int)), .bor (.val v) (HA.cells 37 [HA.of (VP.eq un true true), HA.of (VP.eq ut true true), HA.of (VP.eq ua true true), HA.of (VP.int .i64 d.lv)]), .bor (.val ua) (HA.row 3 1 d.at_.length ((d.at_.flatMap cInt).map HA.of)), .bor (.val ut) (HA.row 3 1 d.told.length ((d.told.flatMap cInt).map HA.of)), .bor (.val un) (HA.row 9 1 d.names.length ((d.names.flatMap cStr).map HA.of)), .is (.tmp 0) (VP.ptr v), .is (.tmp 1) (VP.str s), .is (.tmp 4) (VP.int .i64 0)]) [0, 1, 2, 3, 4, 5, 6, 7] rfl ?_
  refine t_loop (τ := {k : Nat // k ≤ d.names.length ∧ ∀ j y, j < k → d.names[j]? = some y → (y.toList == s.toList) = false}) (fun ⟨k, _⟩ => [.is (.tmp 0) (VP.ptr v), .is (.tmp 1) (VP.str s), .is (.tmp 5) (VP.int .i64 ((k : Nat) : Int)), .bor (.val v) (HA.cells 37 [HA.of (VP.eq un true true), HA.of (VP.eq ut true true), HA.of (VP.eq ua true true), HA.of (VP.int .i64 d.lv)]), .bor (.val un) (HA.row 9 1 d.names.length ((d.names.flatMap cStr).map HA.of))]) (fun ⟨k, _⟩ => d.names.length - k) (⟨0, by omega, fun j y hj => by omega⟩) [5, 6, 0, 1, 4] rfl ?_
  rintro ⟨k, hk1, hk2⟩
  refine t_sub (fs' := [.is (.tmp 0) (VP.ptr v), .is (.tmp 1) (VP.str s), .is (.tmp 5) (VP.int .i64 ((k : Nat) : Int)), .bor (.val v) (HA.cells 37 [HA.of (VP.eq un true true), HA.of (VP.eq ut true true), HA.of (VP.eq ua true true), HA.of (VP.int .i64 d.lv)]), .bor (.val un) (HA.row 9 1 d.names.length ((d.names.flatMap cStr).map HA.of))]) [0, 1, 2, 3, 4] rfl ?_
  refine t_seq ?_
  refine t_seq ?_
  refine t_region (F := ⟨_, _, _, _, _, _⟩) [.is (.tmp 0) (VP.ptr v), .is (.tmp 1) (VP.str s), .is (.tmp 5) (VP.int .i64 ((k : Nat) : Int)), .bor (.val v) (HA.cells 37 [HA.of (VP.eq un true true), HA.of (VP.eq ut true true), HA.of (VP.eq ua true true), HA.of (VP.int .i64 d.lv)]), .bor (.val un) (HA.row 9 1 d.names.length ((d.names.flatMap cStr).map HA.of))] [] [(0, .is (.tmp 6) (VP.int .i64 ((k : Nat) : Int))), (1, .is (.tmp 7) (VP.ptr v)), (2, .is (.tmp 8) (VP.ptr v)), (3, .pt 9 (.blk (.val v) 0)), (4, .is (.tmp 10) (VP.eq un true true)), (5, .is (.tmp 11) (VP.int .i64 ((d.names.length : Nat) : Int))), (6, .is (.tmp 12) (VP.bool (decide (((k : Nat) : Int) < ((d.names.length : Nat) : Int)))))] [] [0, 1, 2, 3, 4] [] [[], [], [1], [1, 2], [1, 2, 3], [1, 2, 3, 4], [0, 1, 2, 3, 4, 5]] [[6], [2, 3, 4, 5, 6], [3, 4, 5, 6], [4, 5, 6], [5, 6], [6], []] rfl rfl follow rfl ⟨
    .inl ⟨wants_plain rfl, does_move _ (.inl rfl) rfl rfl rfl rfl (ar_tmp (av_fs 2 rfl))⟩,
    .inl ⟨wants_plain rfl, does_move _ (.inl rfl) rfl rfl rfl rfl (ar_tmp (av_fs 0 rfl))⟩,
    .inl ⟨wants_plain rfl, does_nil _ rfl rfl rfl rfl rfl (ar_tmp (av_rs 1 1 rfl rfl))⟩,
    .inl ⟨wants_plain rfl, does_field _ _ _ 0 ScopeR_f_collatorref08_Table_0 rfl rfl rfl rfl rfl rfl (pt_ptr (ar_tmp (av_rs 2 2 rfl rfl)))⟩,
    .inl ⟨wants_plain rfl, does_loadOne _ ScopeR_one___string rfl rfl rfl rfl rfl (pt_pt (av_rs 3 3 rfl rfl)) (rds_bbox (off := 0) (av_fs 3 rfl) (hq_one rfl))⟩,
    .inl ⟨wants_plain rfl, does_len _ _ (by kernel_rfl) rfl rfl rfl rfl rfl (sl_bor (av_fs 4 rfl) (ar_tmp (av_rs 4 4 rfl rfl)))⟩,
    .inl ⟨wants_plain rfl, does_cmp (m := ((k : Nat) : Int)) (n := ((d.names.length : Nat) : Int)) _ _ _ _ _ rfl rfl rfl rfl rfl rfl .i64 (ar_tmp (av_rs 0 0 rfl rfl)) (ar_tmp (av_rs 5 5 rfl rfl))⟩,
    trivial⟩ ?_
  refine nx_sub (fs' := [.is (.tmp 0) (VP.ptr v), .is (.tmp 1) (VP.str s), .is (.tmp 5) (VP.int .i64 ((k : Nat) : Int)), .bor (.val v) (HA.cells 37 [HA.of (VP.eq un true true), HA.of (VP.eq ut true true), HA.of (VP.eq ua true true), HA.of (VP.int .i64 d.lv)]), .bor (.val un) (HA.row 9 1 d.names.length ((d.names.flatMap cStr).map HA.of)), .is (.tmp 6) (VP.int .i64 ((k : Nat) : Int)), .is (.tmp 7) (VP.ptr v), .is (.tmp 8) (VP.ptr v), .pt 9 (.blk (.val v) 0), .is (.tmp 10) (VP.eq un true true), .is (.tmp 11) (VP.int .i64 ((d.names.length : Nat) : Int)), .is (.tmp 12) (VP.bool (decide (((k : Nat) : Int) < ((d.names.length : Nat) : Int))))]) [0, 1, 2, 3, 4, 5, 6, 7, 8, 9, 10, 11] rfl ?_
  refine nx_then ?_
  refine t_split 11 rfl (fun hb1 => ?_) (fun hb1 => ?_)
  · have hc1 := of_decide_eq_true hb1
    obtain ⟨x, hx⟩ : ∃ x, d.names[k]? = some x := ⟨_, List.getElem?_eq_getElem (by omega)⟩
    refine t_skip ?_
    refine nx_then ?_
    refine t_seq ?_
    refine t_block ?_
    refine t_seq ?_
    refine t_region (F := ⟨_, _, _, _, _, _⟩) [.is (.tmp 0) (VP.ptr v), .is (.tmp 1) (VP.str s), .is (.tmp 5) (VP.int .i64 ((k : Nat) : Int)), .bor (.val v) (HA.cells 37 [HA.of (VP.eq un true true), HA.of (VP.eq ut true true), HA.of (VP.eq ua true true), HA.of (VP.int .i64 d.lv)]), .bor (.val un) (HA.row 9 1 d.names.length ((d.names.flatMap cStr).map HA.of)), .is (.tmp 6) (VP.int .i64 ((k : Nat) : Int)), .is (.tmp 7) (VP.ptr v), .is (.tmp 8) (VP.ptr v), .pt 9 (.blk (.val v) 0), .is (.tmp 10) (VP.eq un true true), .is (.tmp 11) (VP.int .i64 ((d.names.length : Nat) : Int)), .is (.tmp 12) (VP.bool (decide (((k : Nat) : Int) < ((d.names.length : Nat) : Int))))] [] [(0, .is (.tmp 15) (VP.ptr v)), (1, .is (.tmp 16) (VP.ptr v)), (2, .pt 17 (.blk (.val v) 0)), (3, .is (.tmp 18) (VP.eq un true true)), (4, .is (.tmp 19) (VP.int .i64 ((k : Nat) : Int))), (5, .pt 20 (.row (.val un) (k * 1))), (6, .is (.tmp 21) (VP.str x)), (7, .is (.tmp 22) (VP.str s)), (8, .is (.tmp 23) (VP.bool (x.toList == s.toList)))] [] [0, 1, 2, 3, 4, 5, 6, 7, 8, 9, 10, 11] [] [[], [0], [0, 1], [0, 1, 2], [], [0, 1, 2, 3, 4], [0, 1, 2, 3, 4, 5], [], [0, 1, 2, 3, 4, 5, 6, 7]] [[1, 2, 3, 5, 6, 8], [2, 3, 5, 6, 8], [3, 5, 6, 8], [5, 6, 8], [5, 6, 8], [6, 8], [8], [8], []] rfl rfl follow rfl ⟨
      .inl ⟨wants_plain rfl, does_move _ (.inl rfl) rfl rfl rfl rfl (ar_tmp (av_fs 0 rfl))⟩,
      .inl ⟨wants_plain rfl, does_nil _ rfl rfl rfl rfl rfl (ar_tmp (av_rs 0 0 rfl rfl))⟩,
      .inl ⟨wants_plain rfl, does_field _ _ _ 0 ScopeR_f_collatorref08_Table_0 rfl rfl rfl rfl rfl rfl (pt_ptr (ar_tmp (av_rs 1 1 rfl rfl)))⟩,
      .inl ⟨wants_plain rfl, does_loadOne _ ScopeR_one___string rfl rfl rfl rfl rfl (pt_pt (av_rs 2 2 rfl rfl)) (rds_bbox (off := 0) (av_fs 3 rfl) (hq_one rfl))⟩,
      .inl ⟨wants_plain rfl, does_move _ (.inl rfl) rfl rfl rfl rfl (ar_tmp (av_fs 2 rfl))⟩,
      .inl ⟨wants_plain rfl, does_index (m := k) _ _ Try.underlying31 ScopeR_size_string rfl rfl rfl rfl rfl _ (by omega) rfl (by omega) (sl_bor (av_fs 4 rfl) (ar_tmp (av_rs 3 3 rfl rfl))) (ar_tmp (av_rs 4 4 rfl rfl))⟩,
      .inl ⟨wants_plain rfl, does_loadOne _ ScopeR_one_string rfl rfl rfl rfl rfl (pt_pt (av_rs 5 5 rfl rfl)) (rds_brow (av_fs 4 rfl) (hq_flat1 cStr_len hx 0 (by omega) rfl))⟩,
      .inl ⟨wants_plain rfl, does_move _ (.inl rfl) rfl rfl rfl rfl (ar_tmp (av_fs 1 rfl))⟩,
      .inl ⟨wants_plain rfl, does_eqStr (u := x) (v := s) _ _ _ _ _ rfl rfl rfl rfl rfl rfl (ar_tmp (av_rs 6 6 rfl rfl)) (ar_tmp (av_rs 7 7 rfl rfl))⟩,
      trivial⟩ ?_
    refine nx_sub (fs' := [.is (.tmp 0) (VP.ptr v), .is (.tmp 1) (VP.str s), .is (.tmp 5) (VP.int .i64 ((k : Nat) : Int)), .bor (.val v) (HA.cells 37 [HA.of (VP.eq un true true), HA.of (VP.eq ut true true), HA.of (VP.eq ua true true), HA.of (VP.int .i64 d.lv)]), .bor (.val un) (HA.row 9 1 d.names.length ((d.names.flatMap cStr).map HA.of)), .is (.tmp 6) (VP.int .i64 ((k : Nat) : Int)), .is (.tmp 7) (VP.ptr v), .is (.tmp 8) (VP.ptr v), .pt 9 (.blk (.val v) 0), .is (.tmp 10) (VP.eq un true true), .is (.tmp 11) (VP.int .i64 ((d.names.length : Nat) : Int)), .is (.tmp 12) (VP.bool (decide (((k : Nat) : Int) < ((d.names.length : Nat) : Int)))), .is (.tmp 15) (VP.ptr v), .is (.tmp 16) (VP.ptr v), .pt 17 (.blk (.val v) 0), .is (.tmp 18) (VP.eq un true true), .is (.tmp 19) (VP.int .i64 ((k : Nat) : Int)), .pt 20 (.row (.val un) (k * 1)), .is (.tmp 21) (VP.str x), .is (.tmp 22) (VP.str s), .is (.tmp 23) (VP.bool (x.toList == s.toList))]) [0, 1, 2, 3, 4, 5, 6, 7, 8, 9, 10, 11, 12, 13, 14, 15, 16, 17, 18, 19, 20] rfl ?_
    refine nx_then ?_
    refine t_split 20 rfl (fun hb2 => ?_) (fun hb2 => ?_)
    · refine t_seq ?_
      refine t_region (F := ⟨_, _, _, _, _, _⟩) [.is (.tmp 0) (VP.ptr v), .is (.tmp 1) (VP.str s), .is (.tmp 5) (VP.int .i64 ((k : Nat) : Int)), .bor (.val v) (HA.cells 37 [HA.of (VP.eq un true true), HA.of (VP.eq ut true true), HA.of (VP.eq ua true true), HA.of (VP.int .i64 d.lv)]), .bor (.val un) (HA.row 9 1 d.names.length ((d.names.flatMap cStr).map HA.of)), .is (.tmp 6) (VP.int .i64 ((k : Nat) : Int)), .is (.tmp 7) (VP.ptr v), .is (.tmp 8) (VP.ptr v), .pt 9 (.blk (.val v) 0), .is (.tmp 10) (VP.eq un true true), .is (.tmp 11) (VP.int .i64 ((d.names.length : Nat) : Int)), .is (.tmp 12) (VP.bool (decide (((k : Nat) : Int) < ((d.names.length : Nat) : Int)))), .is (.tmp 15) (VP.ptr v), .is (.tmp 16) (VP.ptr v), .pt 17 (.blk (.val v) 0), .is (.tmp 18) (VP.eq un true true), .is (.tmp 19) (VP.int .i64 ((k : Nat) : Int)), .pt 20 (.row (.val un) (k * 1)), .is (.tmp 21) (VP.str x), .is (.tmp 22) (VP.str s), .is (.tmp 23) (VP.bool (x.toList == s.toList))] [] [(0, .is (.tmp 24) (VP.int .i64 ((k : Nat) : Int))), (1, .is (.tmp 4) (VP.int .i64 ((k : Nat) : Int)))] [] [0, 1, 2, 3, 4, 5, 6, 7, 8, 9, 10, 11, 12, 13, 14, 15, 16, 17, 18, 19, 20] [] [[], [0]] [[1], []] rfl rfl follow rfl ⟨
        .inl ⟨wants_plain rfl, does_move _ (.inl rfl) rfl rfl rfl rfl (ar_tmp (av_fs 2 rfl))⟩,
        .inl ⟨wants_plain rfl, does_move _ (.inr rfl) rfl rfl rfl rfl (ar_tmp (av_rs 0 0 rfl rfl))⟩,
        trivial⟩ ?_
      refine nx_sub (fs' := [.is (.tmp 0) (VP.ptr v), .is (.tmp 1) (VP.str s), .is (.tmp 5) (VP.int .i64 ((k : Nat) : Int)), .bor (.val v) (HA.cells 37 [HA.of (VP.eq un true true), HA.of (VP.eq ut true true), HA.of (VP.eq ua true true), HA.of (VP.int .i64 d.lv)]), .bor (.val un) (HA.row 9 1 d.names.length ((d.names.flatMap cStr).map HA.of)), .is (.tmp 6) (VP.int .i64 ((k : Nat) : Int)), .is (.tmp 7) (VP.ptr v), .is (.tmp 8) (VP.ptr v), .pt 9 (.blk (.val v) 0), .is (.tmp 10) (VP.eq un true true), .is (.tmp 11) (VP.int .i64 ((d.names.length : Nat) : Int)), .is (.tmp 12) (VP.bool (decide (((k : Nat) : Int) < ((d.names.length : Nat) : Int)))), .is (.tmp 15) (VP.ptr v), .is (.tmp 16) (VP.ptr v), .pt 17 (.blk (.val v) 0), .is (.tmp 18) (VP.eq un true true), .is (.tmp 19) (VP.int .i64 ((k : Nat) : Int)), .pt 20 (.row (.val un) (k * 1)), .is (.tmp 21) (VP.str x), .is (.tmp 22) (VP.str s), .is (.tmp 23) (VP.bool (x.toList == s.toList)), .is (.tmp 24) (VP.int .i64 ((k : Nat) : Int)), .is (.tmp 4) (VP.int .i64 ((k : Nat) : Int))]) [0, 1, 2, 3, 4, 5, 6, 7, 8, 9, 10, 11, 12, 13, 14, 15, 16, 17, 18, 19, 20, 21, 22] rfl ?_
      refine nx_then ?_
      refine t_ret ?_
      refine rt_block ?_
      refine rt_then ?_
      refine rt_then ?_
      refine rt_block ?_
      refine rt_then ?_
      exact rt_post [HA.of (VP.int .i64 (fidx s d.names))] [[]] [] [] rfl ⟨(rv_eq (congrArg HA.of (congrArg (VP.int .i64) (fidx_hit hk2 hx hb2).symm)) (rv_vp 22 rfl)), trivial⟩ (by decide) rfl rfl
    · refine t_skip ?_
      refine nx_block ?_
      refine nx_then ?_
      refine t_region (F := ⟨_, _, _, _, _, _⟩) [.is (.tmp 0) (VP.ptr v), .is (.tmp 1) (VP.str s), .bor (.val v) (HA.cells 37 [HA.of (VP.eq un true true), HA.of (VP.eq ut true true), HA.of (VP.eq ua true true), HA.of (VP.int .i64 d.lv)]), .bor (.val un) (HA.row 9 1 d.names.length ((d.names.flatMap cStr).map HA.of)), .is (.tmp 6) (VP.int .i64 ((k : Nat) : Int)), .is (.tmp 7) (VP.ptr v), .is (.tmp 8) (VP.ptr v), .pt 9 (.blk (.val v) 0), .is (.tmp 10) (VP.eq un true true), .is (.tmp 11) (VP.int .i64 ((d.names.length : Nat) : Int)), .is (.tmp 12) (VP.bool (decide (((k : Nat) : Int) < ((d.names.length : Nat) : Int)))), .is (.tmp 15) (VP.ptr v), .is (.tmp 16) (VP.ptr v), .pt 17 (.blk (.val v) 0), .is (.tmp 18) (VP.eq un true true), .is (.tmp 19) (VP.int .i64 ((k : Nat) : Int)), .pt 20 (.row (.val un) (k * 1)), .is (.tmp 21) (VP.str x), .is (.tmp 22) (VP.str s), .is (.tmp 23) (VP.bool (x.toList == s.toList))] [(2, .is (.tmp 5) (VP.int .i64 ((k : Nat) : Int)))] [(0, .is (.tmp 13) (VP.int .i64 ((k : Nat) : Int))), (1, .is (.tmp 14) (VP.int .i64 (((k + 1) : Nat) : Int))), (2, .is (.tmp 5) (VP.int .i64 (((k + 1) : Nat) : Int)))] [] [0, 1, 3, 4, 5, 6, 7, 8, 9, 10, 11, 12, 13, 14, 15, 16, 17, 18, 19, 20] [2] [[], [0], [0, 1]] [[1, 2], [2], []] rfl rfl follow rfl ⟨
        .inl ⟨wants_plain rfl, does_move _ (.inl rfl) rfl rfl rfl rfl (ar_tmp (av_os 0 2 rfl rfl))⟩,
        .inl ⟨wants_plain rfl, does_addE (m := ((k : Nat) : Int)) (n := 1) (x := (((k + 1) : Nat) : Int)) (by omega) _ _ _ _ rfl rfl rfl rfl rfl (by omega) (ar_tmp (av_rs 0 0 rfl rfl)) (ar_const (fun _ _ => rfl))⟩,
        .inl ⟨wants_plain rfl, does_move _ (.inr rfl) rfl rfl rfl rfl (ar_tmp (av_rs 1 1 rfl rfl))⟩,
        trivial⟩ ?_
      refine nx_sub (fs' := [.is (.tmp 0) (VP.ptr v), .is (.tmp 1) (VP.str s), .bor (.val v) (HA.cells 37 [HA.of (VP.eq un true true), HA.of (VP.eq ut true true), HA.of (VP.eq ua true true), HA.of (VP.int .i64 d.lv)]), .bor (.val un) (HA.row 9 1 d.names.length ((d.names.flatMap cStr).map HA.of)), .is (.tmp 6) (VP.int .i64 ((k : Nat) : Int)), .is (.tmp 7) (VP.ptr v), .is (.tmp 8) (VP.ptr v), .pt 9 (.blk (.val v) 0), .is (.tmp 10) (VP.eq un true true), .is (.tmp 11) (VP.int .i64 ((d.names.length : Nat) : Int)), .is (.tmp 12) (VP.bool (decide (((k : Nat) : Int) < ((d.names.length : Nat) : Int)))), .is (.tmp 15) (VP.ptr v), .is (.tmp 16) (VP.ptr v), .pt 17 (.blk (.val v) 0), .is (.tmp 18) (VP.eq un true true), .is (.tmp 19) (VP.int .i64 ((k : Nat) : Int)), .pt 20 (.row (.val un) (k * 1)), .is (.tmp 21) (VP.str x), .is (.tmp 22) (VP.str s), .is (.tmp 23) (VP.bool (x.toList == s.toList)), .is (.tmp 13) (VP.int .i64 ((k : Nat) : Int)), .is (.tmp 14) (VP.int .i64 (((k + 1) : Nat) : Int)), .is (.tmp 5) (VP.int .i64 (((k + 1) : Nat) : Int))]) [0, 1, 2, 3, 4, 5, 6, 7, 8, 9, 10, 11, 12, 13, 14, 15, 16, 17, 18, 19, 20, 21, 22] rfl ?_
      refine nx_round (τ := {k : Nat // k ≤ d.names.length ∧ ∀ j y, j < k → d.names[j]? = some y → (y.toList == s.toList) = false}) (I := fun ⟨k, _⟩ => [.is (.tmp 0) (VP.ptr v), .is (.tmp 1) (VP.str s), .is (.tmp 5) (VP.int .i64 ((k : Nat) : Int)), .bor (.val v) (HA.cells 37 [HA.of (VP.eq un true true), HA.of (VP.eq ut true true), HA.of (VP.eq ua true true), HA.of (VP.int .i64 d.lv)]), .bor (.val un) (HA.row 9 1 d.names.length ((d.names.flatMap cStr).map HA.of))]) (μ := fun ⟨k, _⟩ => d.names.length - k) (s := ⟨k, hk1, hk2⟩) (⟨k + 1, by omega, fidx_step hk2 hx hb2⟩) ?_ [0, 1, 22, 2, 3] ?_
      · exact (show d.names.length - (k + 1) < d.names.length - k by omega)
      · exact rfl
  · have hc1 := of_decide_eq_false hb1
    refine t_exit ?_
    refine ex_then ?_
    refine ex_then ?_
    refine ex_block ?_
    refine nx_then ?_
    refine t_sub (fs' := [.bor (.val v) (HA.cells 37 [HA.of (VP.eq un true true), HA.of (VP.eq ut true true), HA.of (VP.eq ua true true), HA.of (VP.int .i64 d.lv)]), .bor (.val un) (HA.row 9 1 d.names.length ((d.names.flatMap cStr).map HA.of))]) [3, 4] rfl ?_
    refine t_seq ?_
    refine t_region (F := ⟨_, _, _, _, _, _⟩) [.bor (.val v) (HA.cells 37 [HA.of (VP.eq un true true), HA.of (VP.eq ut true true), HA.of (VP.eq ua true true), HA.of (VP.int .i64 d.lv)]), .bor (.val un) (HA.row 9 1 d.names.length ((d.names.flatMap cStr).map HA.of))] [] [(0, .is (.tmp 4) (VP.int .i64 (-1)))] [] [0, 1] [] [[]] [[]] rfl rfl follow rfl ⟨
      .inl ⟨wants_plain rfl, does_move _ (.inr rfl) rfl rfl rfl rfl (ar_const (fun _ _ => rfl))⟩,
      trivial⟩ ?_
    refine nx_sub (fs' := [.bor (.val v) (HA.cells 37 [HA.of (VP.eq un true true), HA.of (VP.eq ut true true), HA.of (VP.eq ua true true), HA.of (VP.int .i64 d.lv)]), .bor (.val un) (HA.row 9 1 d.names.length ((d.names.flatMap cStr).map HA.of)), .is (.tmp 4) (VP.int .i64 (-1))]) [0, 1, 2] rfl ?_
    refine nx_then ?_
    refine t_ret ?_
    exact rt_post [HA.of (VP.int .i64 (fidx s d.names))] [[]] [] [] rfl ⟨(rv_eq (congrArg HA.of (congrArg (VP.int .i64) (fidx_miss hk2 (by omega)).symm)) (rv_vp 2 rfl)), trivial⟩ (by decide) rfl rfl

set_option maxRecDepth 100000 in
set_option maxHeartbeats 4000000 in
theorem rf_Bind {v : Value} {d : RefD} (s : ByteArray) (x : Int) (hn : d.names.length ≤ 1000000) (ht : d.told.length ≤ 1000000) (ha : d.at_.length ≤ 1000000) : SpecO Try.prog 25 [.vp (VP.ptr v), .vp (VP.str s), .vp (VP.int .i64 x)] [] [(v, RefT d)] [(v, RefT (d.bind s x))] (HA.of (VP.int .i64 (d.bindE s))) := by
  refine spec_of 44 Try.func25 rfl Try.ntmps25 rfl fun w0 S0 Z0 Bf => ?_
  refine t_sub (fs' := [.is (.tmp 0) (VP.ptr v), .is (.tmp 1) (VP.str s), .is (.tmp 2) (VP.int .i64 x), .own 0 (.val v) (RefT d)]) [0, 1, 2, 3] rfl ?_
  refine t_seq ?_
  refine t_region (F := ⟨_, _, _, _, _, _⟩) [.is (.tmp 0) (VP.ptr v), .is (.tmp 1) (VP.str s), .is (.tmp 2) (VP.int .i64 x), .own 0 (.val v) (RefT d)] [] [(0, .is (.tmp 6) (VP.int .i64 0))] [] [0, 1, 2, 3] [] [[]] [[]] rfl rfl follow rfl ⟨
    .inl ⟨wants_plain rfl, does_move _ (.inr rfl) rfl rfl rfl rfl (ar_const (fun _ _ => rfl))⟩,
    trivial⟩ ?_
  refine nx_sub (fs' := [.is (.tmp 0) (VP.ptr v), .is (.tmp 1) (VP.str s), .is (.tmp 2) (VP.int .i64 x), .own 0 (.val v) (RefT d), .is (.tmp 6) (VP.int .i64 0)]) [0, 1, 2, 3, 4] rfl ?_
  refine nx_then ?_
  refine t_seq ?_
  refine t_seq ?_
  refine t_region (F := ⟨_, _, _, _, _, _⟩) [.is (.tmp 0) (VP.ptr v), .is (.tmp 1) (VP.str s), .is (.tmp 2) (VP.int .i64 x), .own 0 (.val v) (RefT d), .is (.tmp 6) (VP.int .i64 0)] [] [(0, .is (.tmp 7) (VP.ptr v)), (1, .is (.tmp 8) (VP.str s)), (2, .is (.tmp 9) (VP.int .i64 (fidx s d.names))), (3, .is (.tmp 10) (VP.bool (decide ((fidx s d.names) ≥ 0))))] [] [0, 1, 2, 3, 4] [] [[], [], [0, 1], [0, 1, 2]] [[2, 3], [2, 3], [3], []] rfl rfl follow rfl ⟨
    .inl ⟨wants_plain rfl, does_move _ (.inl rfl) rfl rfl rfl rfl (ar_tmp (av_fs 0 rfl))⟩,
    .inl ⟨wants_plain rfl, does_move _ (.inl rfl) rfl rfl rfl rfl (ar_tmp (av_fs 1 rfl))⟩,
    .inl ⟨wants_plain rfl, does_call (rf_Find (v := v) (d := d) s (by omega)) (fun _ _ _ _ h => h) rfl ScopeR_hb___collator_collatorref08_Table__Find rfl rfl rfl rfl ar_clo (ars_cons (pa_vp (ar_tmp (av_rs 0 0 rfl rfl))) (ars_cons (pa_vp (ar_tmp (av_rs 1 1 rfl rfl))) ars_nil)) ⟨(brw_own (av_fs 3 rfl) rfl), trivial⟩⟩,
    .inl ⟨wants_plain rfl, does_cmp (m := (fidx s d.names)) (n := 0) _ _ _ _ _ rfl rfl rfl rfl rfl rfl .i64 (ar_tmp (av_rs 2 2 rfl rfl)) (ar_const (fun _ _ => rfl))⟩,
    trivial⟩ ?_
  refine nx_sub (fs' := [.is (.tmp 0) (VP.ptr v), .is (.tmp 1) (VP.str s), .is (.tmp 2) (VP.int .i64 x), .own 0 (.val v) (RefT d), .is (.tmp 6) (VP.int .i64 0), .is (.tmp 10) (VP.bool (decide ((fidx s d.names) ≥ 0)))]) [0, 1, 2, 3, 4, 8] rfl ?_
  refine nx_then ?_
  refine t_split 5 rfl (fun hb1 => ?_) (fun hb1 => ?_)
  · have hc1 := of_decide_eq_true hb1
    refine t_seq ?_
    refine t_region (F := ⟨_, _, _, _, _, _⟩) [.is (.tmp 0) (VP.ptr v), .is (.tmp 1) (VP.str s), .is (.tmp 2) (VP.int .i64 x), .own 0 (.val v) (RefT d), .is (.tmp 10) (VP.bool (decide ((fidx s d.names) ≥ 0)))] [(0, .is (.tmp 6) (VP.int .i64 0))] [(0, .is (.tmp 6) (VP.int .i64 13))] [] [0, 1, 2, 3, 5] [4] [[]] [[]] rfl rfl follow rfl ⟨
      .inl ⟨wants_plain rfl, does_move _ (.inr rfl) rfl rfl rfl rfl (ar_const (fun _ _ => rfl))⟩,
      trivial⟩ ?_
    refine nx_sub (fs' := [.is (.tmp 0) (VP.ptr v), .is (.tmp 1) (VP.str s), .is (.tmp 2) (VP.int .i64 x), .own 0 (.val v) (RefT d), .is (.tmp 6) (VP.int .i64 13)]) [0, 1, 2, 3, 5] rfl ?_
    refine nx_then ?_
    refine t_sub (fs' := [.own 0 (.val v) (RefT d), .is (.tmp 0) (VP.ptr v), .is (.tmp 1) (VP.str s), .is (.tmp 2) (VP.int .i64 x), .is (.tmp 6) (VP.int .i64 13)]) [3, 0, 1, 2, 4] rfl ?_
    refine t_weak (R' := RefT (d.bind s x)) (fun Z v w S h => by rw [show d.bind s x = d from if_pos (of_decide_eq_true hb1)]; exact h) rfl ?_
    refine t_sub (fs' := [.own 0 (.val v) (RefT (d.bind s x)), .is (.tmp 0) (VP.ptr v), .is (.tmp 1) (VP.str s), .is (.tmp 2) (VP.int .i64 x), .is (.tmp 6) (VP.int .i64 13)]) [0, 1, 2, 3, 4] rfl ?_
    refine t_ret ?_
    refine rt_then ?_
    exact rt_post [HA.of (VP.int .i64 (d.bindE s))] [[]] [0] [0] rfl ⟨(rv_eq (congrArg HA.of (congrArg (VP.int .i64) (show (13 : Int) = d.bindE s from Eq.symm (if_pos (of_decide_eq_true hb1))))) (rv_vp 4 rfl)), trivial⟩ (by decide) rfl rfl
  · have hc1 := of_decide_eq_false hb1
    refine t_skip ?_
    refine nx_then ?_
    refine t_seq ?_
    refine t_sub (fs' := [.own 0 (.val v) (RefT d), .is (.tmp 0) (VP.ptr v), .is (.tmp 1) (VP.str s), .is (.tmp 2) (VP.int .i64 x), .is (.tmp 6) (VP.int .i64 0), .is (.tmp 10) (VP.bool (decide ((fidx s d.names) ≥ 0)))]) [3, 0, 1, 2, 4, 5] rfl ?_
    refine t_part 101 (part_cells (T' := 37) (Rs := [HA.row 9 1 d.names.length ((d.names.flatMap cStr).map HA.of), HA.row 3 1 d.told.length ((d.told.flatMap cInt).map HA.of), HA.row 3 1 d.at_.length ((d.at_.flatMap cInt).map HA.of), HA.of (VP.int .i64 d.lv)]) 0 rfl) rfl rfl fun u2 => ?_
    refine t_sub (fs' := [.own 0 (.val v) (HA.cells 37 [HA.of (VP.eq u2 true true), HA.row 3 1 d.told.length ((d.told.flatMap cInt).map HA.of), HA.row 3 1 d.at_.length ((d.at_.flatMap cInt).map HA.of), HA.of (VP.int .i64 d.lv)]), .own 101 (.val u2) (HA.row 9 1 d.names.length ((d.names.flatMap cStr).map HA.of)), .is (.tmp 0) (VP.ptr v), .is (.tmp 1) (VP.str s), .is (.tmp 2) (VP.int .i64 x), .is (.tmp 6) (VP.int .i64 0), .is (.tmp 10) (VP.bool (decide ((fidx s d.names) ≥ 0)))]) [0, 1, 2, 3, 4, 5, 6] rfl ?_
    refine t_sub (fs' := [.own 0 (.val v) (HA.cells 37 [HA.of (VP.eq u2 true true), HA.row 3 1 d.told.length ((d.told.flatMap cInt).map HA.of), HA.row 3 1 d.at_.length ((d.at_.flatMap cInt).map HA.of), HA.of (VP.int .i64 d.lv)]), .own 101 (.val u2) (HA.row 9 1 d.names.length ((d.names.flatMap cStr).map HA.of)), .is (.tmp 0) (VP.ptr v), .is (.tmp 1) (VP.str s), .is (.tmp 2) (VP.int .i64 x), .is (.tmp 6) (VP.int .i64 0), .is (.tmp 10) (VP.bool (decide ((fidx s d.names) ≥ 0)))]) [0, 1, 2, 3, 4, 5, 6] rfl ?_
    refine t_part 102 (part_cells (T' := 37) (Rs := [HA.of (VP.eq u2 true true), HA.row 3 1 d.told.length ((d.told.flatMap cInt).map HA.of), HA.row 3 1 d.at_.length ((d.at_.flatMap cInt).map HA.of), HA.of (VP.int .i64 d.lv)]) 1 rfl) rfl rfl fun u3 => ?_
    refine t_sub (fs' := [.own 0 (.val v) (HA.cells 37 [HA.of (VP.eq u2 true true), HA.of (VP.eq u3 true true), HA.row 3 1 d.at_.length ((d.at_.flatMap cInt).map HA.of), HA.of (VP.int .i64 d.lv)]), .own 102 (.val u3) (HA.row 3 1 d.told.length ((d.told.flatMap cInt).map HA.of)), .own 101 (.val u2) (HA.row 9 1 d.names.length ((d.names.flatMap cStr).map HA.of)), .is (.tmp 0) (VP.ptr v), .is (.tmp 1) (VP.str s), .is (.tmp 2) (VP.int .i64 x), .is (.tmp 6) (VP.int .i64 0), .is (.tmp 10) (VP.bool (decide ((fidx s d.names) ≥ 0)))]) [0, 1, 2, 3, 4, 5, 6, 7] rfl ?_
    refine t_sub (fs' := [.own 0 (.val v) (HA.cells 37 [HA.of (VP.eq u2 true true), HA.of (VP.eq u3 true true), HA.row 3 1 d.at_.length ((d.at_.flatMap cInt).map HA.of), HA.of (VP.int .i64 d.lv)]), .own 102 (.val u3) (HA.row 3 1 d.told.length ((d.told.flatMap cInt).map HA.of)), .own 101 (.val u2) (HA.row 9 1 d.names.length ((d.names.flatMap cStr).map HA.of)), .is (.tmp 0) (VP.ptr v), .is (.tmp 1) (VP.str s), .is (.tmp 2) (VP.int .i64 x), .is (.tmp 6) (VP.int .i64 0), .is (.tmp 10) (VP.bool (decide ((fidx s d.names) ≥ 0)))]) [0, 1, 2, 3, 4, 5, 6, 7] rfl ?_
    refine t_part 103 (part_cells (T' := 37) (Rs := [HA.of (VP.eq u2 true true), HA.of (VP.eq u3 true true), HA.row 3 1 d.at_.length ((d.at_.flatMap cInt).map HA.of), HA.of (VP.int .i64 d.lv)]) 2 rfl) rfl rfl fun u4 => ?_
    refine t_sub (fs' := [.own 0 (.val v) (HA.cells 37 [HA.of (VP.eq u2 true true), HA.of (VP.eq u3 true true), HA.of (VP.eq u4 true true), HA.of (VP.int .i64 d.lv)]), .own 103 (.val u4) (HA.row 3 1 d.at_.length ((d.at_.flatMap cInt).map HA.of)), .own 102 (.val u3) (HA.row 3 1 d.told.length ((d.told.flatMap cInt).map HA.of)), .own 101 (.val u2) (HA.row 9 1 d.names.length ((d.names.flatMap cStr).map HA.of)), .is (.tmp 0) (VP.ptr v), .is (.tmp 1) (VP.str s), .is (.tmp 2) (VP.int .i64 x), .is (.tmp 6) (VP.int .i64 0), .is (.tmp 10) (VP.bool (decide ((fidx s d.names) ≥ 0)))]) [0, 1, 2, 3, 4, 5, 6, 7, 8] rfl ?_
    refine t_region (F := ⟨_, _, _, _, _, _⟩) [.own 103 (.val u4) (HA.row 3 1 d.at_.length ((d.at_.flatMap cInt).map HA.of)), .own 102 (.val u3) (HA.row 3 1 d.told.length ((d.told.flatMap cInt).map HA.of)), .is (.tmp 0) (VP.ptr v), .is (.tmp 1) (VP.str s), .is (.tmp 2) (VP.int .i64 x), .is (.tmp 6) (VP.int .i64 0), .is (.tmp 10) (VP.bool (decide ((fidx s d.names) ≥ 0)))] [(10, .own 0 (.val v) (HA.cells 37 [HA.of (VP.eq u2 true true), HA.of (VP.eq u3 true true), HA.of (VP.eq u4 true true), HA.of (VP.int .i64 d.lv)])), (7, .own 101 (.val u2) (HA.row 9 1 d.names.length ((d.names.flatMap cStr).map HA.of)))] [(0, .is (.tmp 11) (VP.ptr v)), (1, .is (.tmp 12) (VP.ptr v)), (2, .is (.tmp 13) (VP.ptr v)), (3, .pt 14 (.blk (.val v) 0)), (4, .is (.tmp 15) (VP.eq u2 true true)), (5, .is (.tmp 16) (VP.str s)), (8, .is (.tmp 19) (VP.ptr v)), (9, .pt 20 (.blk (.val v) 0)), (10, .own 0 (.val v) (HA.cells 37 [HA.row 9 1 ((d.names ++ [s]).length) (((d.names ++ [s]).flatMap cStr).map HA.of), HA.of (VP.eq u3 true true), HA.of (VP.eq u4 true true), HA.of (VP.int .i64 d.lv)]))] [(6, 7, .own 104 (.tmp 17) (HA.row 9 1 (([s]).length) ((([s]).flatMap cStr).map HA.of))), (7, 10, .own 101 (.tmp 18) (HA.row 9 1 ((d.names ++ [s]).length) (((d.names ++ [s]).flatMap cStr).map HA.of)))] [1, 2, 4, 5, 6, 7, 8] [0, 3] [[], [], [1], [1, 2], [1, 2, 3], [], [5], [1, 2, 3, 4, 5, 6], [0, 1, 2, 3, 4, 5, 6, 7], [0, 1, 2, 3, 4, 5, 6, 7, 8], [0, 1, 2, 3, 4, 5, 6, 7, 8, 9]] [[8, 9, 10], [2, 3, 4, 7, 8, 9, 10], [3, 4, 7, 8, 9, 10], [4, 7, 8, 9, 10], [7, 8, 9, 10], [6, 7, 8, 9, 10], [7, 8, 9, 10], [8, 9, 10], [9, 10], [10], []] rfl rfl follow rfl ⟨
      .inl ⟨wants_plain rfl, does_move _ (.inl rfl) rfl rfl rfl rfl (ar_tmp (av_fs 2 rfl))⟩,
      .inl ⟨wants_plain rfl, does_move _ (.inl rfl) rfl rfl rfl rfl (ar_tmp (av_fs 2 rfl))⟩,
      .inl ⟨wants_plain rfl, does_nil _ rfl rfl rfl rfl rfl (ar_tmp (av_rs 1 1 rfl rfl))⟩,
      .inl ⟨wants_plain rfl, does_field _ _ _ 0 ScopeR_f_collatorref08_Table_0 rfl rfl rfl rfl rfl rfl (pt_ptr (ar_tmp (av_rs 2 2 rfl rfl)))⟩,
      .inl ⟨wants_plain rfl, does_loadOne _ ScopeR_one___string rfl rfl rfl rfl rfl (pt_pt (av_rs 3 3 rfl rfl)) (rds_box (off := 0) (av_os 0 10 rfl rfl) (hq_one rfl))⟩,
      .inl ⟨wants_plain rfl, does_move _ (.inl rfl) rfl rfl rfl rfl (ar_tmp (av_fs 3 rfl))⟩,
      .inl ⟨wants_plain rfl, does_sliceLit (n := 1) ScopeR_el_str rfl (List.replicate 1 (VP.str (ByteArray.mk #[]))) (z1_of (fun _ _ => rfl) rfl 1) rfl rfl rfl rfl rfl rfl rfl (.cons 0 [HA.of (VP.str s)] none rfl rfl (cv_one rfl (mv_vp (ar_tmp (av_rs 5 5 rfl rfl)))) (.nil _))⟩,
      .inl ⟨wants_plain rfl, does_append (n := d.names.length) (m := ([s]).length) ScopeR_el_str rfl _ _ rfl rfl rfl rfl rfl (by simp only [List.length_append, List.length_nil, List.length_cons, Nat.zero_add]) (flat_cat d.names ([s])) rfl (by constructor <;> first | decide | omega | (simp only [List.length_append, List.length_cons, List.length_nil] at *; omega)) (flat_lenH cStr_len _) (flat_allH (fun _ => rfl) cStr_one _) (flat_allH (fun _ => rfl) cStr_nu _) (mv_ownv (av_os 1 7 rfl rfl) (ar_tmp (av_rs 4 4 rfl rfl))) (src_row (av_ms 0 6 7 rfl rfl rfl))⟩,
      .inl ⟨wants_plain rfl, does_nil _ rfl rfl rfl rfl rfl (ar_tmp (av_rs 0 0 rfl rfl))⟩,
      .inl ⟨wants_plain rfl, does_field _ _ _ 0 ScopeR_f_collatorref08_Table_0 rfl rfl rfl rfl rfl rfl (pt_ptr (ar_tmp (av_rs 6 8 rfl rfl)))⟩,
      .inl ⟨wants_plain rfl, does_store (off := 0) (Qs := [HA.row 9 1 ((d.names ++ [s]).length) (((d.names ++ [s]).flatMap cStr).map HA.of)]) _ _ ScopeR_size___string rfl rfl rfl rfl rfl rfl (pt_pt (av_rs 7 9 rfl rfl)) (av_os 0 10 rfl rfl) (cv_one rfl (mv_own (av_ms 1 7 10 rfl rfl rfl)))⟩,
      trivial⟩ ?_
    refine nx_sub (fs' := [.own 103 (.val u4) (HA.row 3 1 d.at_.length ((d.at_.flatMap cInt).map HA.of)), .own 102 (.val u3) (HA.row 3 1 d.told.length ((d.told.flatMap cInt).map HA.of)), .is (.tmp 0) (VP.ptr v), .is (.tmp 2) (VP.int .i64 x), .is (.tmp 6) (VP.int .i64 0), .own 0 (.val v) (HA.cells 37 [HA.row 9 1 ((d.names ++ [s]).length) (((d.names ++ [s]).flatMap cStr).map HA.of), HA.of (VP.eq u3 true true), HA.of (VP.eq u4 true true), HA.of (VP.int .i64 d.lv)])]) [0, 1, 2, 4, 5, 15] rfl ?_
    refine nx_then ?_
    refine t_seq ?_
    refine t_region (F := ⟨_, _, _, _, _, _⟩) [.own 103 (.val u4) (HA.row 3 1 d.at_.length ((d.at_.flatMap cInt).map HA.of)), .is (.tmp 0) (VP.ptr v), .is (.tmp 2) (VP.int .i64 x), .is (.tmp 6) (VP.int .i64 0)] [(7, .own 102 (.val u3) (HA.row 3 1 d.told.length ((d.told.flatMap cInt).map HA.of))), (10, .own 0 (.val v) (HA.cells 37 [HA.row 9 1 ((d.names ++ [s]).length) (((d.names ++ [s]).flatMap cStr).map HA.of), HA.of (VP.eq u3 true true), HA.of (VP.eq u4 true true), HA.of (VP.int .i64 d.lv)]))] [(0, .is (.tmp 21) (VP.ptr v)), (1, .is (.tmp 22) (VP.ptr v)), (2, .is (.tmp 23) (VP.ptr v)), (3, .pt 24 (.blk (.val v) 1)), (4, .is (.tmp 25) (VP.eq u3 true true)), (5, .is (.tmp 26) (VP.int .i64 x)), (8, .is (.tmp 29) (VP.ptr v)), (9, .pt 30 (.blk (.val v) 1)), (10, .own 0 (.val v) (HA.cells 37 [HA.row 9 1 ((d.names ++ [s]).length) (((d.names ++ [s]).flatMap cStr).map HA.of), HA.row 3 1 ((d.told ++ [x]).length) (((d.told ++ [x]).flatMap cInt).map HA.of), HA.of (VP.eq u4 true true), HA.of (VP.int .i64 d.lv)]))] [(6, 7, .own 105 (.tmp 27) (HA.row 3 1 (([x]).length) ((([x]).flatMap cInt).map HA.of))), (7, 10, .own 102 (.tmp 28) (HA.row 3 1 ((d.told ++ [x]).length) (((d.told ++ [x]).flatMap cInt).map HA.of)))] [0, 2, 3, 4] [1, 5] [[], [], [1], [1, 2], [1, 2, 3], [], [5], [1, 2, 3, 4, 5, 6], [0, 1, 2, 3, 4, 5, 6, 7], [0, 1, 2, 3, 4, 5, 6, 7, 8], [0, 1, 2, 3, 4, 5, 6, 7, 8, 9]] [[8, 9, 10], [2, 3, 4, 7, 8, 9, 10], [3, 4, 7, 8, 9, 10], [4, 7, 8, 9, 10], [7, 8, 9, 10], [6, 7, 8, 9, 10], [7, 8, 9, 10], [8, 9, 10], [9, 10], [10], []] rfl rfl follow rfl ⟨
      .inl ⟨wants_plain rfl, does_move _ (.inl rfl) rfl rfl rfl rfl (ar_tmp (av_fs 1 rfl))⟩,
      .inl ⟨wants_plain rfl, does_move _ (.inl rfl) rfl rfl rfl rfl (ar_tmp (av_fs 1 rfl))⟩,
      .inl ⟨wants_plain rfl, does_nil _ rfl rfl rfl rfl rfl (ar_tmp (av_rs 1 1 rfl rfl))⟩,
      .inl ⟨wants_plain rfl, does_field _ _ _ 1 ScopeR_f_collatorref08_Table_1 rfl rfl rfl rfl rfl rfl (pt_ptr (ar_tmp (av_rs 2 2 rfl rfl)))⟩,
      .inl ⟨wants_plain rfl, does_loadOne _ ScopeR_one___int rfl rfl rfl rfl rfl (pt_pt (av_rs 3 3 rfl rfl)) (rds_box (off := 1) (av_os 1 10 rfl rfl) (hq_one rfl))⟩,
      .inl ⟨wants_plain rfl, does_move _ (.inl rfl) rfl rfl rfl rfl (ar_tmp (av_fs 2 rfl))⟩,
      .inl ⟨wants_plain rfl, does_sliceLit (n := 1) ScopeR_el_int rfl (List.replicate 1 (VP.int .i64 0)) (z1_of (fun _ _ => rfl) rfl 1) rfl rfl rfl rfl rfl rfl rfl (.cons 0 [HA.of (VP.int .i64 x)] none rfl rfl (cv_one rfl (mv_vp (ar_tmp (av_rs 5 5 rfl rfl)))) (.nil _))⟩,
      .inl ⟨wants_plain rfl, does_append (n := d.told.length) (m := ([x]).length) ScopeR_el_int rfl _ _ rfl rfl rfl rfl rfl (by simp only [List.length_append, List.length_nil, List.length_cons, Nat.zero_add]) (flat_cat d.told ([x])) rfl (by constructor <;> first | decide | omega | (simp only [List.length_append, List.length_cons, List.length_nil] at *; omega)) (flat_lenH cInt_len _) (flat_allH (fun _ => rfl) cInt_one _) (flat_allH (fun _ => rfl) cInt_nu _) (mv_ownv (av_os 0 7 rfl rfl) (ar_tmp (av_rs 4 4 rfl rfl))) (src_row (av_ms 0 6 7 rfl rfl rfl))⟩,
      .inl ⟨wants_plain rfl, does_nil _ rfl rfl rfl rfl rfl (ar_tmp (av_rs 0 0 rfl rfl))⟩,
      .inl ⟨wants_plain rfl, does_field _ _ _ 1 ScopeR_f_collatorref08_Table_1 rfl rfl rfl rfl rfl rfl (pt_ptr (ar_tmp (av_rs 6 8 rfl rfl)))⟩,
      .inl ⟨wants_plain rfl, does_store (off := 1) (Qs := [HA.row 3 1 ((d.told ++ [x]).length) (((d.told ++ [x]).flatMap cInt).map HA.of)]) _ _ ScopeR_size___int rfl rfl rfl rfl rfl rfl (pt_pt (av_rs 7 9 rfl rfl)) (av_os 1 10 rfl rfl) (cv_one rfl (mv_own (av_ms 1 7 10 rfl rfl rfl)))⟩,
      trivial⟩ ?_
    refine nx_sub (fs' := [.own 103 (.val u4) (HA.row 3 1 d.at_.length ((d.at_.flatMap cInt).map HA.of)), .is (.tmp 0) (VP.ptr v), .is (.tmp 6) (VP.int .i64 0), .own 0 (.val v) (HA.cells 37 [HA.row 9 1 ((d.names ++ [s]).length) (((d.names ++ [s]).flatMap cStr).map HA.of), HA.row 3 1 ((d.told ++ [x]).length) (((d.told ++ [x]).flatMap cInt).map HA.of), HA.of (VP.eq u4 true true), HA.of (VP.int .i64 d.lv)])]) [0, 1, 3, 12] rfl ?_
    refine nx_then ?_
    refine t_seq ?_
    refine t_region (F := ⟨_, _, _, _, _, _⟩) [.is (.tmp 0) (VP.ptr v), .is (.tmp 6) (VP.int .i64 0)] [(10, .own 103 (.val u4) (HA.row 3 1 d.at_.length ((d.at_.flatMap cInt).map HA.of))), (13, .own 0 (.val v) (HA.cells 37 [HA.row 9 1 ((d.names ++ [s]).length) (((d.names ++ [s]).flatMap cStr).map HA.of), HA.row 3 1 ((d.told ++ [x]).length) (((d.told ++ [x]).flatMap cInt).map HA.of), HA.of (VP.eq u4 true true), HA.of (VP.int .i64 d.lv)]))] [(0, .is (.tmp 31) (VP.ptr v)), (1, .is (.tmp 32) (VP.ptr v)), (2, .is (.tmp 33) (VP.ptr v)), (3, .pt 34 (.blk (.val v) 2)), (4, .is (.tmp 35) (VP.eq u4 true true)), (5, .is (.tmp 36) (VP.ptr v)), (6, .is (.tmp 37) (VP.ptr v)), (7, .pt 38 (.blk (.val v) 3)), (8, .is (.tmp 39) (VP.int .i64 d.lv)), (11, .is (.tmp 42) (VP.ptr v)), (12, .pt 43 (.blk (.val v) 2)), (13, .own 0 (.val v) (HA.cells 37 [HA.row 9 1 ((d.names ++ [s]).length) (((d.names ++ [s]).flatMap cStr).map HA.of), HA.row 3 1 ((d.told ++ [x]).length) (((d.told ++ [x]).flatMap cInt).map HA.of), HA.row 3 1 ((d.at_ ++ [d.lv]).length) (((d.at_ ++ [d.lv]).flatMap cInt).map HA.of), HA.of (VP.int .i64 d.lv)]))] [(9, 10, .own 106 (.tmp 40) (HA.row 3 1 (([d.lv]).length) ((([d.lv]).flatMap cInt).map HA.of))), (10, 13, .own 103 (.tmp 41) (HA.row 3 1 ((d.at_ ++ [d.lv]).length) (((d.at_ ++ [d.lv]).flatMap cInt).map HA.of)))] [1, 2] [0, 3] [[], [], [1], [1, 2], [1, 2, 3], [], [5], [5, 6], [5, 6, 7], [5, 6, 7, 8], [1, 2, 3, 4, 5, 6, 7, 8, 9], [0, 1, 2, 3, 4, 5, 6, 7, 8, 9, 10], [0, 1, 2, 3, 4, 5, 6, 7, 8, 9, 10, 11], [0, 1, 2, 3, 4, 5, 6, 7, 8, 9, 10, 11, 12]] [[11, 12, 13], [2, 3, 4, 10, 11, 12, 13], [3, 4, 10, 11, 12, 13], [4, 10, 11, 12, 13], [10, 11, 12, 13], [6, 7, 8, 9, 10, 11, 12, 13], [7, 8, 9, 10, 11, 12, 13], [8, 9, 10, 11, 12, 13], [9, 10, 11, 12, 13], [10, 11, 12, 13], [11, 12, 13], [12, 13], [13], []] rfl rfl follow rfl ⟨
      .inl ⟨wants_plain rfl, does_move _ (.inl rfl) rfl rfl rfl rfl (ar_tmp (av_fs 0 rfl))⟩,
      .inl ⟨wants_plain rfl, does_move _ (.inl rfl) rfl rfl rfl rfl (ar_tmp (av_fs 0 rfl))⟩,
      .inl ⟨wants_plain rfl, does_nil _ rfl rfl rfl rfl rfl (ar_tmp (av_rs 1 1 rfl rfl))⟩,
      .inl ⟨wants_plain rfl, does_field _ _ _ 2 ScopeR_f_collatorref08_Table_2 rfl rfl rfl rfl rfl rfl (pt_ptr (ar_tmp (av_rs 2 2 rfl rfl)))⟩,
      .inl ⟨wants_plain rfl, does_loadOne _ ScopeR_one___int rfl rfl rfl rfl rfl (pt_pt (av_rs 3 3 rfl rfl)) (rds_box (off := 2) (av_os 1 13 rfl rfl) (hq_one rfl))⟩,
      .inl ⟨wants_plain rfl, does_move _ (.inl rfl) rfl rfl rfl rfl (ar_tmp (av_fs 0 rfl))⟩,
      .inl ⟨wants_plain rfl, does_nil _ rfl rfl rfl rfl rfl (ar_tmp (av_rs 5 5 rfl rfl))⟩,
      .inl ⟨wants_plain rfl, does_field _ _ _ 3 ScopeR_f_collatorref08_Table_3 rfl rfl rfl rfl rfl rfl (pt_ptr (ar_tmp (av_rs 6 6 rfl rfl)))⟩,
      .inl ⟨wants_plain rfl, does_loadOne _ ScopeR_one_int rfl rfl rfl rfl rfl (pt_pt (av_rs 7 7 rfl rfl)) (rds_box (off := 3) (av_os 1 13 rfl rfl) (hq_one rfl))⟩,
      .inl ⟨wants_plain rfl, does_sliceLit (n := 1) ScopeR_el_int rfl (List.replicate 1 (VP.int .i64 0)) (z1_of (fun _ _ => rfl) rfl 1) rfl rfl rfl rfl rfl rfl rfl (.cons 0 [HA.of (VP.int .i64 d.lv)] none rfl rfl (cv_one rfl (mv_vp (ar_tmp (av_rs 8 8 rfl rfl)))) (.nil _))⟩,
      .inl ⟨wants_plain rfl, does_append (n := d.at_.length) (m := ([d.lv]).length) ScopeR_el_int rfl _ _ rfl rfl rfl rfl rfl (by simp only [List.length_append, List.length_nil, List.length_cons, Nat.zero_add]) (flat_cat d.at_ ([d.lv])) rfl (by constructor <;> first | decide | omega | (simp only [List.length_append, List.length_cons, List.length_nil] at *; omega)) (flat_lenH cInt_len _) (flat_allH (fun _ => rfl) cInt_one _) (flat_allH (fun _ => rfl) cInt_nu _) (mv_ownv (av_os 0 10 rfl rfl) (ar_tmp (av_rs 4 4 rfl rfl))) (src_row (av_ms 0 9 10 rfl rfl rfl))⟩,
      .inl ⟨wants_plain rfl, does_nil _ rfl rfl rfl rfl rfl (ar_tmp (av_rs 0 0 rfl rfl))⟩,
      .inl ⟨wants_plain rfl, does_field _ _ _ 2 ScopeR_f_collatorref08_Table_2 rfl rfl rfl rfl rfl rfl (pt_ptr (ar_tmp (av_rs 9 11 rfl rfl)))⟩,
      .inl ⟨wants_plain rfl, does_store (off := 2) (Qs := [HA.row 3 1 ((d.at_ ++ [d.lv]).length) (((d.at_ ++ [d.lv]).flatMap cInt).map HA.of)]) _ _ ScopeR_size___int rfl rfl rfl rfl rfl rfl (pt_pt (av_rs 10 12 rfl rfl)) (av_os 1 13 rfl rfl) (cv_one rfl (mv_own (av_ms 1 10 13 rfl rfl rfl)))⟩,
      trivial⟩ ?_
    refine nx_sub (fs' := [.is (.tmp 6) (VP.int .i64 0), .own 0 (.val v) (HA.cells 37 [HA.row 9 1 ((d.names ++ [s]).length) (((d.names ++ [s]).flatMap cStr).map HA.of), HA.row 3 1 ((d.told ++ [x]).length) (((d.told ++ [x]).flatMap cInt).map HA.of), HA.row 3 1 ((d.at_ ++ [d.lv]).length) (((d.at_ ++ [d.lv]).flatMap cInt).map HA.of), HA.of (VP.int .i64 d.lv)])]) [1, 13] rfl ?_
    refine nx_then ?_
    refine t_seq ?_
    refine t_region (F := ⟨_, _, _, _, _, _⟩) [.own 0 (.val v) (HA.cells 37 [HA.row 9 1 ((d.names ++ [s]).length) (((d.names ++ [s]).flatMap cStr).map HA.of), HA.row 3 1 ((d.told ++ [x]).length) (((d.told ++ [x]).flatMap cInt).map HA.of), HA.row 3 1 ((d.at_ ++ [d.lv]).length) (((d.at_ ++ [d.lv]).flatMap cInt).map HA.of), HA.of (VP.int .i64 d.lv)])] [(0, .is (.tmp 6) (VP.int .i64 0))] [(0, .is (.tmp 6) (VP.int .i64 0))] [] [1] [0] [[]] [[]] rfl rfl follow rfl ⟨
      .inl ⟨wants_plain rfl, does_move _ (.inr rfl) rfl rfl rfl rfl (ar_const (fun _ _ => rfl))⟩,
      trivial⟩ ?_
    refine nx_sub (fs' := [.own 0 (.val v) (HA.cells 37 [HA.row 9 1 ((d.names ++ [s]).length) (((d.names ++ [s]).flatMap cStr).map HA.of), HA.row 3 1 ((d.told ++ [x]).length) (((d.told ++ [x]).flatMap cInt).map HA.of), HA.row 3 1 ((d.at_ ++ [d.lv]).length) (((d.at_ ++ [d.lv]).flatMap cInt).map HA.of), HA.of (VP.int .i64 d.lv)]), .is (.tmp 6) (VP.int .i64 0)]) [0, 1] rfl ?_
    refine nx_then ?_
    refine t_sub (fs' := [.own 0 (.val v) (HA.cells 37 [HA.row 9 1 ((d.names ++ [s]).length) (((d.names ++ [s]).flatMap cStr).map HA.of), HA.row 3 1 ((d.told ++ [x]).length) (((d.told ++ [x]).flatMap cInt).map HA.of), HA.row 3 1 ((d.at_ ++ [d.lv]).length) (((d.at_ ++ [d.lv]).flatMap cInt).map HA.of), HA.of (VP.int .i64 d.lv)]), .is (.tmp 6) (VP.int .i64 0)]) [0, 1] rfl ?_
    refine t_sub (fs' := [.own 0 (.val v) (HA.cells 37 [HA.row 9 1 ((d.names ++ [s]).length) (((d.names ++ [s]).flatMap cStr).map HA.of), HA.row 3 1 ((d.told ++ [x]).length) (((d.told ++ [x]).flatMap cInt).map HA.of), HA.row 3 1 ((d.at_ ++ [d.lv]).length) (((d.at_ ++ [d.lv]).flatMap cInt).map HA.of), HA.of (VP.int .i64 d.lv)]), .is (.tmp 6) (VP.int .i64 0)]) [0, 1] rfl ?_
    refine t_weak (R' := RefT (d.bind s x)) (fun Z v w S h => by rw [show d.bind s x = ⟨d.names ++ [s], d.told ++ [x], d.at_ ++ [d.lv], d.lv⟩ from if_neg (of_decide_eq_false hb1)]; exact h) rfl ?_
    refine t_sub (fs' := [.own 0 (.val v) (RefT (d.bind s x)), .is (.tmp 6) (VP.int .i64 0)]) [0, 1] rfl ?_
    refine t_ret ?_
    exact rt_post [HA.of (VP.int .i64 (d.bindE s))] [[]] [0] [0] rfl ⟨(rv_eq (congrArg HA.of (congrArg (VP.int .i64) (show (0 : Int) = d.bindE s from Eq.symm (if_neg (of_decide_eq_false hb1))))) (rv_vp 1 rfl)), trivial⟩ (by decide) rfl rfl

set_option maxRecDepth 100000 in
set_option maxHeartbeats 4000000 in
theorem rf_Push {v : Value} {d : RefD} (n : Int) (h0 : 0 ≤ d.lv) (h1 : d.lv ≤ 1000) : SpecO Try.prog 27 [.vp (VP.ptr v), .vp (VP.int .i64 n)] [] [(v, RefT d)] [(v, RefT (d.push n))] (HA.of (VP.int .i64 (d.pushE n))) := by
  refine spec_of 22 Try.func27 rfl Try.ntmps27 rfl fun w0 S0 Z0 Bf => ?_
  refine t_sub (fs' := [.is (.tmp 0) (VP.ptr v), .is (.tmp 1) (VP.int .i64 n), .own 0 (.val v) (RefT d)]) [0, 1, 2] rfl ?_
  refine t_seq ?_
  refine t_region (F := ⟨_, _, _, _, _, _⟩) [.is (.tmp 0) (VP.ptr v), .is (.tmp 1) (VP.int .i64 n), .own 0 (.val v) (RefT d)] [] [(0, .is (.tmp 4) (VP.int .i64 0))] [] [0, 1, 2] [] [[]] [[]] rfl rfl follow rfl ⟨
    .inl ⟨wants_plain rfl, does_move _ (.inr rfl) rfl rfl rfl rfl (ar_const (fun _ _ => rfl))⟩,
    trivial⟩ ?_
  refine nx_sub (fs' := [.is (.tmp 0) (VP.ptr v), .is (.tmp 1) (VP.int .i64 n), .own 0 (.val v) (RefT d), .is (.tmp 4) (VP.int .i64 0)]) [0, 1, 2, 3] rfl ?_
  refine nx_then ?_
  refine t_seq ?_
  refine t_seq ?_
  refine t_region (F := ⟨_, _, _, _, _, _⟩) [.is (.tmp 0) (VP.ptr v), .is (.tmp 1) (VP.int .i64 n), .own 0 (.val v) (RefT d), .is (.tmp 4) (VP.int .i64 0)] [] [(0, .is (.tmp 5) (VP.int .i64 n)), (1, .is (.tmp 6) (VP.bool (decide (n < 0))))] [] [0, 1, 2, 3] [] [[], [0]] [[1], []] rfl rfl follow rfl ⟨
    .inl ⟨wants_plain rfl, does_move _ (.inl rfl) rfl rfl rfl rfl (ar_tmp (av_fs 1 rfl))⟩,
    .inl ⟨wants_plain rfl, does_cmp (m := n) (n := 0) _ _ _ _ _ rfl rfl rfl rfl rfl rfl .i64 (ar_tmp (av_rs 0 0 rfl rfl)) (ar_const (fun _ _ => rfl))⟩,
    trivial⟩ ?_
  refine nx_sub (fs' := [.is (.tmp 0) (VP.ptr v), .is (.tmp 1) (VP.int .i64 n), .own 0 (.val v) (RefT d), .is (.tmp 4) (VP.int .i64 0), .is (.tmp 6) (VP.bool (decide (n < 0)))]) [0, 1, 2, 3, 5] rfl ?_
  refine nx_then ?_
  refine t_split 4 rfl (fun hb1 => ?_) (fun hb1 => ?_)
  · have hc1 := of_decide_eq_true hb1
    refine t_seq ?_
    refine t_region (F := ⟨_, _, _, _, _, _⟩) [.is (.tmp 0) (VP.ptr v), .is (.tmp 1) (VP.int .i64 n), .own 0 (.val v) (RefT d), .is (.tmp 6) (VP.bool (decide (n < 0)))] [(0, .is (.tmp 4) (VP.int .i64 0))] [(0, .is (.tmp 4) (VP.int .i64 1))] [] [0, 1, 2, 4] [3] [[]] [[]] rfl rfl follow rfl ⟨
      .inl ⟨wants_plain rfl, does_move _ (.inr rfl) rfl rfl rfl rfl (ar_const (fun _ _ => rfl))⟩,
      trivial⟩ ?_
    refine nx_sub (fs' := [.is (.tmp 0) (VP.ptr v), .is (.tmp 1) (VP.int .i64 n), .own 0 (.val v) (RefT d), .is (.tmp 4) (VP.int .i64 1)]) [0, 1, 2, 4] rfl ?_
    refine nx_then ?_
    refine t_sub (fs' := [.own 0 (.val v) (RefT d), .is (.tmp 0) (VP.ptr v), .is (.tmp 1) (VP.int .i64 n), .is (.tmp 4) (VP.int .i64 1)]) [2, 0, 1, 3] rfl ?_
    refine t_weak (R' := RefT (d.push n)) (fun Z v w S h => by rw [show d.push n = d from if_neg (by omega)]; exact h) rfl ?_
    refine t_sub (fs' := [.own 0 (.val v) (RefT (d.push n)), .is (.tmp 0) (VP.ptr v), .is (.tmp 1) (VP.int .i64 n), .is (.tmp 4) (VP.int .i64 1)]) [0, 1, 2, 3] rfl ?_
    refine t_ret ?_
    refine rt_then ?_
    exact rt_post [HA.of (VP.int .i64 (d.pushE n))] [[]] [0] [0] rfl ⟨(rv_eq (congrArg HA.of (congrArg (VP.int .i64) (show (1 : Int) = d.pushE n from Eq.symm (if_pos (by omega))))) (rv_vp 3 rfl)), trivial⟩ (by decide) rfl rfl
  · have hc1 := of_decide_eq_false hb1
    refine t_skip ?_
    refine nx_then ?_
    refine t_seq ?_
    refine t_seq ?_
    refine t_region (F := ⟨_, _, _, _, _, _⟩) [.is (.tmp 0) (VP.ptr v), .is (.tmp 1) (VP.int .i64 n), .own 0 (.val v) (RefT d), .is (.tmp 4) (VP.int .i64 0), .is (.tmp 6) (VP.bool (decide (n < 0)))] [] [(0, .is (.tmp 7) (VP.int .i64 n)), (1, .is (.tmp 8) (VP.ptr v)), (2, .is (.tmp 9) (VP.ptr v)), (3, .pt 10 (.blk (.val v) 3)), (4, .is (.tmp 11) (VP.int .i64 d.lv)), (5, .is (.tmp 12) (VP.int .i64 (1000 - d.lv))), (6, .is (.tmp 13) (VP.bool (decide (n > (1000 - d.lv)))))] [] [0, 1, 2, 3, 4] [] [[], [], [1], [1, 2], [1, 2, 3], [1, 2, 3, 4], [0, 1, 2, 3, 4, 5]] [[6], [2, 3, 4, 5, 6], [3, 4, 5, 6], [4, 5, 6], [5, 6], [6], []] rfl rfl follow rfl ⟨
      .inl ⟨wants_plain rfl, does_move _ (.inl rfl) rfl rfl rfl rfl (ar_tmp (av_fs 1 rfl))⟩,
      .inl ⟨wants_plain rfl, does_move _ (.inl rfl) rfl rfl rfl rfl (ar_tmp (av_fs 0 rfl))⟩,
      .inl ⟨wants_plain rfl, does_nil _ rfl rfl rfl rfl rfl (ar_tmp (av_rs 1 1 rfl rfl))⟩,
      .inl ⟨wants_plain rfl, does_field _ _ _ 3 ScopeR_f_collatorref08_Table_3 rfl rfl rfl rfl rfl rfl (pt_ptr (ar_tmp (av_rs 2 2 rfl rfl)))⟩,
      .inl ⟨wants_plain rfl, does_loadOne _ ScopeR_one_int rfl rfl rfl rfl rfl (pt_pt (av_rs 3 3 rfl rfl)) (rds_box (off := 3) (av_fs 2 rfl) (hq_one rfl))⟩,
      .inl ⟨wants_plain rfl, does_subE (m := 1000) (n := d.lv) (x := (1000 - d.lv)) (by omega) _ _ _ _ rfl rfl rfl rfl rfl (by omega) (ar_const (fun _ _ => rfl)) (ar_tmp (av_rs 4 4 rfl rfl))⟩,
      .inl ⟨wants_plain rfl, does_cmp (m := n) (n := (1000 - d.lv)) _ _ _ _ _ rfl rfl rfl rfl rfl rfl .i64 (ar_tmp (av_rs 0 0 rfl rfl)) (ar_tmp (av_rs 5 5 rfl rfl))⟩,
      trivial⟩ ?_
    refine nx_sub (fs' := [.is (.tmp 0) (VP.ptr v), .is (.tmp 1) (VP.int .i64 n), .own 0 (.val v) (RefT d), .is (.tmp 4) (VP.int .i64 0), .is (.tmp 13) (VP.bool (decide (n > (1000 - d.lv))))]) [0, 1, 2, 3, 11] rfl ?_
    refine nx_then ?_
    refine t_split 4 rfl (fun hb2 => ?_) (fun hb2 => ?_)
    · have hc2 := of_decide_eq_true hb2
      refine t_seq ?_
      refine t_region (F := ⟨_, _, _, _, _, _⟩) [.is (.tmp 0) (VP.ptr v), .is (.tmp 1) (VP.int .i64 n), .own 0 (.val v) (RefT d), .is (.tmp 13) (VP.bool (decide (n > (1000 - d.lv))))] [(0, .is (.tmp 4) (VP.int .i64 0))] [(0, .is (.tmp 4) (VP.int .i64 4))] [] [0, 1, 2, 4] [3] [[]] [[]] rfl rfl follow rfl ⟨
        .inl ⟨wants_plain rfl, does_move _ (.inr rfl) rfl rfl rfl rfl (ar_const (fun _ _ => rfl))⟩,
        trivial⟩ ?_
      refine nx_sub (fs' := [.is (.tmp 0) (VP.ptr v), .is (.tmp 1) (VP.int .i64 n), .own 0 (.val v) (RefT d), .is (.tmp 4) (VP.int .i64 4)]) [0, 1, 2, 4] rfl ?_
      refine nx_then ?_
      refine t_sub (fs' := [.own 0 (.val v) (RefT d), .is (.tmp 0) (VP.ptr v), .is (.tmp 1) (VP.int .i64 n), .is (.tmp 4) (VP.int .i64 4)]) [2, 0, 1, 3] rfl ?_
      refine t_weak (R' := RefT (d.push n)) (fun Z v w S h => by rw [show d.push n = d from if_neg (by omega)]; exact h) rfl ?_
      refine t_sub (fs' := [.own 0 (.val v) (RefT (d.push n)), .is (.tmp 0) (VP.ptr v), .is (.tmp 1) (VP.int .i64 n), .is (.tmp 4) (VP.int .i64 4)]) [0, 1, 2, 3] rfl ?_
      refine t_ret ?_
      refine rt_then ?_
      exact rt_post [HA.of (VP.int .i64 (d.pushE n))] [[]] [0] [0] rfl ⟨(rv_eq (congrArg HA.of (congrArg (VP.int .i64) (show (4 : Int) = d.pushE n from Eq.symm ((if_neg (by omega)).trans (if_pos (by omega)))))) (rv_vp 3 rfl)), trivial⟩ (by decide) rfl rfl
    · have hc2 := of_decide_eq_false hb2
      refine t_skip ?_
      refine nx_then ?_
      refine t_seq ?_
      refine t_region (F := ⟨_, _, _, _, _, _⟩) [.is (.tmp 0) (VP.ptr v), .is (.tmp 1) (VP.int .i64 n), .is (.tmp 4) (VP.int .i64 0), .is (.tmp 13) (VP.bool (decide (n > (1000 - d.lv))))] [(8, .own 0 (.val v) (RefT d))] [(0, .is (.tmp 14) (VP.ptr v)), (1, .is (.tmp 15) (VP.ptr v)), (2, .pt 16 (.blk (.val v) 3)), (3, .is (.tmp 17) (VP.int .i64 d.lv)), (4, .is (.tmp 18) (VP.int .i64 n)), (5, .is (.tmp 19) (VP.int .i64 (d.lv + n))), (6, .is (.tmp 20) (VP.ptr v)), (7, .pt 21 (.blk (.val v) 3)), (8, .own 0 (.val v) (HA.cells 37 [HA.row 9 1 d.names.length ((d.names.flatMap cStr).map HA.of), HA.row 3 1 d.told.length ((d.told.flatMap cInt).map HA.of), HA.row 3 1 d.at_.length ((d.at_.flatMap cInt).map HA.of), HA.of (VP.int .i64 (d.lv + n))]))] [] [0, 1, 3, 4] [2] [[], [0], [0, 1], [0, 1, 2], [], [0, 1, 2, 3, 4], [0, 1, 2, 3, 4, 5], [0, 1, 2, 3, 4, 5, 6], [0, 1, 2, 3, 4, 5, 6, 7]] [[1, 2, 3, 5, 6, 7, 8], [2, 3, 5, 6, 7, 8], [3, 5, 6, 7, 8], [5, 6, 7, 8], [5, 6, 7, 8], [6, 7, 8], [7, 8], [8], []] rfl rfl follow rfl ⟨
        .inl ⟨wants_plain rfl, does_move _ (.inl rfl) rfl rfl rfl rfl (ar_tmp (av_fs 0 rfl))⟩,
        .inl ⟨wants_plain rfl, does_nil _ rfl rfl rfl rfl rfl (ar_tmp (av_rs 0 0 rfl rfl))⟩,
        .inl ⟨wants_plain rfl, does_field _ _ _ 3 ScopeR_f_collatorref08_Table_3 rfl rfl rfl rfl rfl rfl (pt_ptr (ar_tmp (av_rs 1 1 rfl rfl)))⟩,
        .inl ⟨wants_plain rfl, does_loadOne _ ScopeR_one_int rfl rfl rfl rfl rfl (pt_pt (av_rs 2 2 rfl rfl)) (rds_box (off := 3) (av_os 0 8 rfl rfl) (hq_one rfl))⟩,
        .inl ⟨wants_plain rfl, does_move _ (.inl rfl) rfl rfl rfl rfl (ar_tmp (av_fs 1 rfl))⟩,
        .inl ⟨wants_plain rfl, does_addE (m := d.lv) (n := n) (x := (d.lv + n)) (by omega) _ _ _ _ rfl rfl rfl rfl rfl (by omega) (ar_tmp (av_rs 3 3 rfl rfl)) (ar_tmp (av_rs 4 4 rfl rfl))⟩,
        .inl ⟨wants_plain rfl, does_nil _ rfl rfl rfl rfl rfl (ar_tmp (av_rs 0 0 rfl rfl))⟩,
        .inl ⟨wants_plain rfl, does_field _ _ _ 3 ScopeR_f_collatorref08_Table_3 rfl rfl rfl rfl rfl rfl (pt_ptr (ar_tmp (av_rs 6 6 rfl rfl)))⟩,
        .inl ⟨wants_plain rfl, does_store (off := 3) (Qs := [HA.of (VP.int .i64 (d.lv + n))]) _ _ ScopeR_size_int rfl rfl rfl rfl rfl rfl (pt_pt (av_rs 7 7 rfl rfl)) (av_os 0 8 rfl rfl) (cv_one rfl (mv_vp (ar_tmp (av_rs 5 5 rfl rfl))))⟩,
        trivial⟩ ?_
      refine nx_sub (fs' := [.is (.tmp 4) (VP.int .i64 0), .own 0 (.val v) (HA.cells 37 [HA.row 9 1 d.names.length ((d.names.flatMap cStr).map HA.of), HA.row 3 1 d.told.length ((d.told.flatMap cInt).map HA.of), HA.row 3 1 d.at_.length ((d.at_.flatMap cInt).map HA.of), HA.of (VP.int .i64 (d.lv + n))])]) [2, 12] rfl ?_
      refine nx_then ?_
      refine t_seq ?_
      refine t_region (F := ⟨_, _, _, _, _, _⟩) [.own 0 (.val v) (HA.cells 37 [HA.row 9 1 d.names.length ((d.names.flatMap cStr).map HA.of), HA.row 3 1 d.told.length ((d.told.flatMap cInt).map HA.of), HA.row 3 1 d.at_.length ((d.at_.flatMap cInt).map HA.of), HA.of (VP.int .i64 (d.lv + n))])] [(0, .is (.tmp 4) (VP.int .i64 0))] [(0, .is (.tmp 4) (VP.int .i64 0))] [] [1] [0] [[]] [[]] rfl rfl follow rfl ⟨
        .inl ⟨wants_plain rfl, does_move _ (.inr rfl) rfl rfl rfl rfl (ar_const (fun _ _ => rfl))⟩,
        trivial⟩ ?_
      refine nx_sub (fs' := [.own 0 (.val v) (HA.cells 37 [HA.row 9 1 d.names.length ((d.names.flatMap cStr).map HA.of), HA.row 3 1 d.told.length ((d.told.flatMap cInt).map HA.of), HA.row 3 1 d.at_.length ((d.at_.flatMap cInt).map HA.of), HA.of (VP.int .i64 (d.lv + n))]), .is (.tmp 4) (VP.int .i64 0)]) [0, 1] rfl ?_
      refine nx_then ?_
      refine t_sub (fs' := [.own 0 (.val v) (HA.cells 37 [HA.row 9 1 d.names.length ((d.names.flatMap cStr).map HA.of), HA.row 3 1 d.told.length ((d.told.flatMap cInt).map HA.of), HA.row 3 1 d.at_.length ((d.at_.flatMap cInt).map HA.of), HA.of (VP.int .i64 (d.lv + n))]), .is (.tmp 4) (VP.int .i64 0)]) [0, 1] rfl ?_
      refine t_weak (R' := RefT (d.push n)) (fun Z v w S h => by rw [show d.push n = ⟨d.names, d.told, d.at_, d.lv + n⟩ from if_pos (by omega)]; exact h) rfl ?_
      refine t_sub (fs' := [.own 0 (.val v) (RefT (d.push n)), .is (.tmp 4) (VP.int .i64 0)]) [0, 1] rfl ?_
      refine t_ret ?_
      exact rt_post [HA.of (VP.int .i64 (d.pushE n))] [[]] [0] [0] rfl ⟨(rv_eq (congrArg HA.of (congrArg (VP.int .i64) (show (0 : Int) = d.pushE n from Eq.symm ((if_neg (by omega)).trans (if_neg (by omega)))))) (rv_vp 1 rfl)), trivial⟩ (by decide) rfl rfl

set_option maxRecDepth 100000 in
set_option maxHeartbeats 4000000 in
theorem rf_Pop {v : Value} {d : RefD} (n : Int) (h0 : 0 ≤ d.lv) (h1 : d.lv ≤ 1000) (hn : d.names.length ≤ 1000000) (ht : d.told.length = d.names.length) (ha : d.at_.length = d.names.length) : SpecO Try.prog 29 [.vp (VP.ptr v), .vp (VP.int .i64 n)] [] [(v, RefT d)] [(v, RefT (d.pop n))] (HA.of (VP.int .i64 (d.popE n))) := by
  refine spec_of 72 Try.func29 rfl Try.ntmps29 rfl fun w0 S0 Z0 Bf => ?_
  refine t_sub (fs' := [.is (.tmp 0) (VP.ptr v), .is (.tmp 1) (VP.int .i64 n), .own 0 (.val v) (RefT d)]) [0, 1, 2] rfl ?_
  refine t_seq ?_
  refine t_region (F := ⟨_, _, _, _, _, _⟩) [.is (.tmp 0) (VP.ptr v), .is (.tmp 1) (VP.int .i64 n), .own 0 (.val v) (RefT d)] [] [(0, .is (.tmp 4) (VP.int .i64 0))] [] [0, 1, 2] [] [[]] [[]] rfl rfl follow rfl ⟨
    .inl ⟨wants_plain rfl, does_move _ (.inr rfl) rfl rfl rfl rfl (ar_const (fun _ _ => rfl))⟩,
    trivial⟩ ?_
  refine nx_sub (fs' := [.is (.tmp 0) (VP.ptr v), .is (.tmp 1) (VP.int .i64 n), .own 0 (.val v) (RefT d), .is (.tmp 4) (VP.int .i64 0)]) [0, 1, 2, 3] rfl ?_
  refine nx_then ?_
  refine t_seq ?_
  refine t_seq ?_
  refine t_region (F := ⟨_, _, _, _, _, _⟩) [.is (.tmp 0) (VP.ptr v), .is (.tmp 1) (VP.int .i64 n), .own 0 (.val v) (RefT d), .is (.tmp 4) (VP.int .i64 0)] [] [(0, .is (.tmp 6) (VP.int .i64 n)), (1, .is (.tmp 7) (VP.bool (decide (n < 0))))] [] [0, 1, 2, 3] [] [[], [0]] [[1], []] rfl rfl follow rfl ⟨
    .inl ⟨wants_plain rfl, does_move _ (.inl rfl) rfl rfl rfl rfl (ar_tmp (av_fs 1 rfl))⟩,
    .inl ⟨wants_plain rfl, does_cmp (m := n) (n := 0) _ _ _ _ _ rfl rfl rfl rfl rfl rfl .i64 (ar_tmp (av_rs 0 0 rfl rfl)) (ar_const (fun _ _ => rfl))⟩,
    trivial⟩ ?_
  refine nx_sub (fs' := [.is (.tmp 0) (VP.ptr v), .is (.tmp 1) (VP.int .i64 n), .own 0 (.val v) (RefT d), .is (.tmp 4) (VP.int .i64 0), .is (.tmp 7) (VP.bool (decide (n < 0)))]) [0, 1, 2, 3, 5] rfl ?_
  refine nx_then ?_
  refine t_split 4 rfl (fun hb1 => ?_) (fun hb1 => ?_)
  · have hc1 := of_decide_eq_true hb1
    refine t_seq ?_
    refine t_region (F := ⟨_, _, _, _, _, _⟩) [.is (.tmp 0) (VP.ptr v), .is (.tmp 1) (VP.int .i64 n), .own 0 (.val v) (RefT d), .is (.tmp 7) (VP.bool (decide (n < 0)))] [(0, .is (.tmp 4) (VP.int .i64 0))] [(0, .is (.tmp 4) (VP.int .i64 1))] [] [0, 1, 2, 4] [3] [[]] [[]] rfl rfl follow rfl ⟨
      .inl ⟨wants_plain rfl, does_move _ (.inr rfl) rfl rfl rfl rfl (ar_const (fun _ _ => rfl))⟩,
      trivial⟩ ?_
    refine nx_sub (fs' := [.is (.tmp 0) (VP.ptr v), .is (.tmp 1) (VP.int .i64 n), .own 0 (.val v) (RefT d), .is (.tmp 4) (VP.int .i64 1)]) [0, 1, 2, 4] rfl ?_
    refine nx_then ?_
    refine t_sub (fs' := [.own 0 (.val v) (RefT d), .is (.tmp 0) (VP.ptr v), .is (.tmp 1) (VP.int .i64 n), .is (.tmp 4) (VP.int .i64 1)]) [2, 0, 1, 3] rfl ?_
    refine t_weak (R' := RefT (d.pop n)) (fun Z v w S h => by rw [show d.pop n = d from if_neg (by omega)]; exact h) rfl ?_
    refine t_sub (fs' := [.own 0 (.val v) (RefT (d.pop n)), .is (.tmp 0) (VP.ptr v), .is (.tmp 1) (VP.int .i64 n), .is (.tmp 4) (VP.int .i64 1)]) [0, 1, 2, 3] rfl ?_
    refine t_ret ?_
    refine rt_then ?_
    exact rt_post [HA.of (VP.int .i64 (d.popE n))] [[]] [0] [0] rfl ⟨(rv_eq (congrArg HA.of (congrArg (VP.int .i64) (show (1 : Int) = d.popE n from Eq.symm (if_pos (by omega))))) (rv_vp 3 rfl)), trivial⟩ (by decide) rfl rfl
  · have hc1 := of_decide_eq_false hb1
    refine t_skip ?_
    refine nx_then ?_
    refine t_seq ?_
    refine t_seq ?_
    refine t_region (F := ⟨_, _, _, _, _, _⟩) [.is (.tmp 0) (VP.ptr v), .is (.tmp 1) (VP.int .i64 n), .own 0 (.val v) (RefT d), .is (.tmp 4) (VP.int .i64 0), .is (.tmp 7) (VP.bool (decide (n < 0)))] [] [(0, .is (.tmp 8) (VP.int .i64 n)), (1, .is (.tmp 9) (VP.ptr v)), (2, .is (.tmp 10) (VP.ptr v)), (3, .pt 11 (.blk (.val v) 3)), (4, .is (.tmp 12) (VP.int .i64 d.lv)), (5, .is (.tmp 13) (VP.bool (decide (n > d.lv))))] [] [0, 1, 2, 3, 4] [] [[], [], [1], [1, 2], [1, 2, 3], [0, 1, 2, 3, 4]] [[5], [2, 3, 4, 5], [3, 4, 5], [4, 5], [5], []] rfl rfl follow rfl ⟨
      .inl ⟨wants_plain rfl, does_move _ (.inl rfl) rfl rfl rfl rfl (ar_tmp (av_fs 1 rfl))⟩,
      .inl ⟨wants_plain rfl, does_move _ (.inl rfl) rfl rfl rfl rfl (ar_tmp (av_fs 0 rfl))⟩,
      .inl ⟨wants_plain rfl, does_nil _ rfl rfl rfl rfl rfl (ar_tmp (av_rs 1 1 rfl rfl))⟩,
      .inl ⟨wants_plain rfl, does_field _ _ _ 3 ScopeR_f_collatorref08_Table_3 rfl rfl rfl rfl rfl rfl (pt_ptr (ar_tmp (av_rs 2 2 rfl rfl)))⟩,
      .inl ⟨wants_plain rfl, does_loadOne _ ScopeR_one_int rfl rfl rfl rfl rfl (pt_pt (av_rs 3 3 rfl rfl)) (rds_box (off := 3) (av_fs 2 rfl) (hq_one rfl))⟩,
      .inl ⟨wants_plain rfl, does_cmp (m := n) (n := d.lv) _ _ _ _ _ rfl rfl rfl rfl rfl rfl .i64 (ar_tmp (av_rs 0 0 rfl rfl)) (ar_tmp (av_rs 4 4 rfl rfl))⟩,
      trivial⟩ ?_
    refine nx_sub (fs' := [.is (.tmp 0) (VP.ptr v), .is (.tmp 1) (VP.int .i64 n), .own 0 (.val v) (RefT d), .is (.tmp 4) (VP.int .i64 0), .is (.tmp 13) (VP.bool (decide (n > d.lv)))]) [0, 1, 2, 3, 10] rfl ?_
    refine nx_then ?_
    refine t_split 4 rfl (fun hb2 => ?_) (fun hb2 => ?_)
    · have hc2 := of_decide_eq_true hb2
      refine t_seq ?_
      refine t_region (F := ⟨_, _, _, _, _, _⟩) [.is (.tmp 0) (VP.ptr v), .is (.tmp 1) (VP.int .i64 n), .own 0 (.val v) (RefT d), .is (.tmp 13) (VP.bool (decide (n > d.lv)))] [(0, .is (.tmp 4) (VP.int .i64 0))] [(0, .is (.tmp 4) (VP.int .i64 2))] [] [0, 1, 2, 4] [3] [[]] [[]] rfl rfl follow rfl ⟨
        .inl ⟨wants_plain rfl, does_move _ (.inr rfl) rfl rfl rfl rfl (ar_const (fun _ _ => rfl))⟩,
        trivial⟩ ?_
      refine nx_sub (fs' := [.is (.tmp 0) (VP.ptr v), .is (.tmp 1) (VP.int .i64 n), .own 0 (.val v) (RefT d), .is (.tmp 4) (VP.int .i64 2)]) [0, 1, 2, 4] rfl ?_
      refine nx_then ?_
      refine t_sub (fs' := [.own 0 (.val v) (RefT d), .is (.tmp 0) (VP.ptr v), .is (.tmp 1) (VP.int .i64 n), .is (.tmp 4) (VP.int .i64 2)]) [2, 0, 1, 3] rfl ?_
      refine t_weak (R' := RefT (d.pop n)) (fun Z v w S h => by rw [show d.pop n = d from if_neg (by omega)]; exact h) rfl ?_
      refine t_sub (fs' := [.own 0 (.val v) (RefT (d.pop n)), .is (.tmp 0) (VP.ptr v), .is (.tmp 1) (VP.int .i64 n), .is (.tmp 4) (VP.int .i64 2)]) [0, 1, 2, 3] rfl ?_
      refine t_ret ?_
      refine rt_then ?_
      exact rt_post [HA.of (VP.int .i64 (d.popE n))] [[]] [0] [0] rfl ⟨(rv_eq (congrArg HA.of (congrArg (VP.int .i64) (show (2 : Int) = d.popE n from Eq.symm ((if_neg (by omega)).trans (if_pos (by omega)))))) (rv_vp 3 rfl)), trivial⟩ (by decide) rfl rfl
    · have hc2 := of_decide_eq_false hb2
      refine t_skip ?_
      refine nx_then ?_
      refine t_seq ?_
      refine t_region (F := ⟨_, _, _, _, _, _⟩) [.is (.tmp 0) (VP.ptr v), .is (.tmp 1) (VP.int .i64 n), .is (.tmp 4) (VP.int .i64 0), .is (.tmp 13) (VP.bool (decide (n > d.lv)))] [(8, .own 0 (.val v) (RefT d))] [(0, .is (.tmp 14) (VP.ptr v)), (1, .is (.tmp 15) (VP.ptr v)), (2, .pt 16 (.blk (.val v) 3)), (3, .is (.tmp 17) (VP.int .i64 d.lv)), (4, .is (.tmp 18) (VP.int .i64 n)), (5, .is (.tmp 19) (VP.int .i64 (d.lv - n))), (6, .is (.tmp 20) (VP.ptr v)), (7, .pt 21 (.blk (.val v) 3)), (8, .own 0 (.val v) (HA.cells 37 [HA.row 9 1 d.names.length ((d.names.flatMap cStr).map HA.of), HA.row 3 1 d.told.length ((d.told.flatMap cInt).map HA.of), HA.row 3 1 d.at_.length ((d.at_.flatMap cInt).map HA.of), HA.of (VP.int .i64 (d.lv - n))]))] [] [0, 1, 3, 4] [2] [[], [0], [0, 1], [0, 1, 2], [], [0, 1, 2, 3, 4], [0, 1, 2, 3, 4, 5], [0, 1, 2, 3, 4, 5, 6], [0, 1, 2, 3, 4, 5, 6, 7]] [[1, 2, 3, 5, 6, 7, 8], [2, 3, 5, 6, 7, 8], [3, 5, 6, 7, 8], [5, 6, 7, 8], [5, 6, 7, 8], [6, 7, 8], [7, 8], [8], []] rfl rfl follow rfl ⟨
        .inl ⟨wants_plain rfl, does_move _ (.inl rfl) rfl rfl rfl rfl (ar_tmp (av_fs 0 rfl))⟩,
        .inl ⟨wants_plain rfl, does_nil _ rfl rfl rfl rfl rfl (ar_tmp (av_rs 0 0 rfl rfl))⟩,
        .inl ⟨wants_plain rfl, does_field _ _ _ 3 ScopeR_f_collatorref08_Table_3 rfl rfl rfl rfl rfl rfl (pt_ptr (ar_tmp (av_rs 1 1 rfl rfl)))⟩,
        .inl ⟨wants_plain rfl, does_loadOne _ ScopeR_one_int rfl rfl rfl rfl rfl (pt_pt (av_rs 2 2 rfl rfl)) (rds_box (off := 3) (av_os 0 8 rfl rfl) (hq_one rfl))⟩,
        .inl ⟨wants_plain rfl, does_move _ (.inl rfl) rfl rfl rfl rfl (ar_tmp (av_fs 1 rfl))⟩,
        .inl ⟨wants_plain rfl, does_subE (m := d.lv) (n := n) (x := (d.lv - n)) (by omega) _ _ _ _ rfl rfl rfl rfl rfl (by omega) (ar_tmp (av_rs 3 3 rfl rfl)) (ar_tmp (av_rs 4 4 rfl rfl))⟩,
        .inl ⟨wants_plain rfl, does_nil _ rfl rfl rfl rfl rfl (ar_tmp (av_rs 0 0 rfl rfl))⟩,
        .inl ⟨wants_plain rfl, does_field _ _ _ 3 ScopeR_f_collatorref08_Table_3 rfl rfl rfl rfl rfl rfl (pt_ptr (ar_tmp (av_rs 6 6 rfl rfl)))⟩,
        .inl ⟨wants_plain rfl, does_store (off := 3) (Qs := [HA.of (VP.int .i64 (d.lv - n))]) _ _ ScopeR_size_int rfl rfl rfl rfl rfl rfl (pt_pt (av_rs 7 7 rfl rfl)) (av_os 0 8 rfl rfl) (cv_one rfl (mv_vp (ar_tmp (av_rs 5 5 rfl rfl))))⟩,
        trivial⟩ ?_
      refine nx_sub (fs' := [.is (.tmp 0) (VP.ptr v), .is (.tmp 4) (VP.int .i64 0), .own 0 (.val v) (HA.cells 37 [HA.row 9 1 d.names.length ((d.names.flatMap cStr).map HA.of), HA.row 3 1 d.told.length ((d.told.flatMap cInt).map HA.of), HA.row 3 1 d.at_.length ((d.at_.flatMap cInt).map HA.of), HA.of (VP.int .i64 (d.lv - n))])]) [0, 2, 12] rfl ?_
      refine nx_then ?_
      refine t_seq ?_
      refine t_sub (fs' := [.own 0 (.val v) (HA.cells 37 [HA.row 9 1 d.names.length ((d.names.flatMap cStr).map HA.of), HA.row 3 1 d.told.length ((d.told.flatMap cInt).map HA.of), HA.row 3 1 d.at_.length ((d.at_.flatMap cInt).map HA.of), HA.of (VP.int .i64 (d.lv - n))]), .is (.tmp 0) (VP.ptr v), .is (.tmp 4) (VP.int .i64 0)]) [2, 0, 1] rfl ?_
      refine t_part 101 (part_cells (T' := 37) (Rs := [HA.row 9 1 d.names.length ((d.names.flatMap cStr).map HA.of), HA.row 3 1 d.told.length ((d.told.flatMap cInt).map HA.of), HA.row 3 1 d.at_.length ((d.at_.flatMap cInt).map HA.of), HA.of (VP.int .i64 (d.lv - n))]) 0 rfl) rfl rfl fun un => ?_
      refine t_sub (fs' := [.own 0 (.val v) (HA.cells 37 [HA.of (VP.eq un true true), HA.row 3 1 d.told.length ((d.told.flatMap cInt).map HA.of), HA.row 3 1 d.at_.length ((d.at_.flatMap cInt).map HA.of), HA.of (VP.int .i64 (d.lv - n))]), .own 101 (.val un) (HA.row 9 1 d.names.length ((d.names.flatMap cStr).map HA.of)), .is (.tmp 0) (VP.ptr v), .is (.tmp 4) (VP.int .i64 0)]) [0, 1, 2, 3] rfl ?_
      refine t_sub (fs' := [.own 0 (.val v) (HA.cells 37 [HA.of (VP.eq un true true), HA.row 3 1 d.told.length ((d.told.flatMap cInt).map HA.of), HA.row 3 1 d.at_.length ((d.at_.flatMap cInt).map HA.of), HA.of (VP.int .i64 (d.lv - n))]), .own 101 (.val un) (HA.row 9 1 d.names.length ((d.names.flatMap cStr).map HA.of)), .is (.tmp 0) (VP.ptr v), .is (.tmp 4) (VP.int .i64 0)]) [0, 1, 2, 3] rfl ?_
      refine t_part 102 (part_cells (T' := 37) (Rs := [HA.of (VP.eq un true true), HA.row 3 1 d.told.length ((d.told.flatMap cInt).map HA.of), HA.row 3 1 d.at_.length ((d.at_.flatMap cInt).map HA.of), HA.of (VP.int .i64 (d.lv - n))]) 1 rfl) rfl rfl fun ut => ?_
      refine t_sub (fs' := [.own 0 (.val v) (HA.cells 37 [HA.of (VP.eq un true true), HA.of (VP.eq ut true true), HA.row 3 1 d.at_.length ((d.at_.flatMap cInt).map HA.of), HA.of (VP.int .i64 (d.lv - n))]), .own 102 (.val ut) (HA.row 3 1 d.told.length ((d.told.flatMap cInt).map HA.of)), .own 101 (.val un) (HA.row 9 1 d.names.length ((d.names.flatMap cStr).map HA.of)), .is (.tmp 0) (VP.ptr v), .is (.tmp 4) (VP.int .i64 0)]) [0, 1, 2, 3, 4] rfl ?_
      refine t_sub (fs' := [.own 0 (.val v) (HA.cells 37 [HA.of (VP.eq un true true), HA.of (VP.eq ut true true), HA.row 3 1 d.at_.length ((d.at_.flatMap cInt).map HA.of), HA.of (VP.int .i64 (d.lv - n))]), .own 102 (.val ut) (HA.row 3 1 d.told.length ((d.told.flatMap cInt).map HA.of)), .own 101 (.val un) (HA.row 9 1 d.names.length ((d.names.flatMap cStr).map HA.of)), .is (.tmp 0) (VP.ptr v), .is (.tmp 4) (VP.int .i64 0)]) [0, 1, 2, 3, 4] rfl ?_
      refine t_part 103 (part_cells (T' := 37) (Rs := [HA.of (VP.eq un true true), HA.of (VP.eq ut true true), HA.row 3 1 d.at_.length ((d.at_.flatMap cInt).map HA.of), HA.of (VP.int .i64 (d.lv - n))]) 2 rfl) rfl rfl fun ua => ?_
      refine t_sub (fs' := [.own 0 (.val v) (HA.cells 37 [HA.of (VP.eq un true true), HA.of (VP.eq ut true true), HA.of (VP.eq ua true true), HA.of (VP.int .i64 (d.lv - n))]), .own 103 (.val ua) (HA.row 3 1 d.at_.length ((d.at_.flatMap cInt).map HA.of)), .own 102 (.val ut) (HA.row 3 1 d.told.length ((d.told.flatMap cInt).map HA.of)), .own 101 (.val un) (HA.row 9 1 d.names.length ((d.names.flatMap cStr).map HA.of)), .is (.tmp 0) (VP.ptr v), .is (.tmp 4) (VP.int .i64 0)]) [0, 1, 2, 3, 4, 5] rfl ?_
      refine t_region (F := ⟨_, _, _, _, _, _⟩) [.own 0 (.val v) (HA.cells 37 [HA.of (VP.eq un true true), HA.of (VP.eq ut true true), HA.of (VP.eq ua true true), HA.of (VP.int .i64 (d.lv - n))]), .own 103 (.val ua) (HA.row 3 1 d.at_.length ((d.at_.flatMap cInt).map HA.of)), .own 102 (.val ut) (HA.row 3 1 d.told.length ((d.told.flatMap cInt).map HA.of)), .own 101 (.val un) (HA.row 9 1 d.names.length ((d.names.flatMap cStr).map HA.of)), .is (.tmp 0) (VP.ptr v), .is (.tmp 4) (VP.int .i64 0)] [] [(0, .is (.tmp 5) (VP.int .i64 0))] [] [0, 1, 2, 3, 4, 5] [] [[]] [[]] rfl rfl follow rfl ⟨
        .inl ⟨wants_plain rfl, does_move _ (.inr rfl) rfl rfl rfl rfl (ar_const (fun _ _ => rfl))⟩,
        trivial⟩ ?_
      refine nx_sub (fs' := [.own 0 (.val v) (HA.cells 37 [HA.of (VP.eq un true true), HA.of (VP.eq ut true true), HA.of (VP.eq ua true true), HA.of (VP.int .i64 (d.lv - n))]), .own 103 (.val ua) (HA.row 3 1 d.at_.length ((d.at_.flatMap cInt).map HA.of)), .own 102 (.val ut) (HA.row 3 1 d.told.length ((d.told.flatMap cInt).map HA.of)), .own 101 (.val un) (HA.row 9 1 d.names.length ((d.names.flatMap cStr).map HA.of)), .is (.tmp 0) (VP.ptr v), .is (.tmp 4) (VP.int .i64 0), .is (.tmp 5) (VP.int .i64 0)]) [0, 1, 2, 3, 4, 5, 6] rfl ?_
      refine nx_then ?_
      refine t_seq ?_
      refine t_block ?_
      refine t_sub (fs' := [.is (.tmp 5) (VP.int .i64 0), .own 0 (.val v) (HA.cells 37 [HA.of (VP.eq un true true), HA.of (VP.eq ut true true), HA.of (VP.eq ua true true), HA.of (VP.int .i64 (d.lv - n))]), .own 103 (.val ua) (HA.row 3 1 d.at_.length ((d.at_.flatMap cInt).map HA.of)), .own 102 (.val ut) (HA.row 3 1 d.told.length ((d.told.flatMap cInt).map HA.of)), .own 101 (.val un) (HA.row 9 1 d.names.length ((d.names.flatMap cStr).map HA.of)), .is (.tmp 0) (VP.ptr v), .is (.tmp 4) (VP.int .i64 0)]) [6, 0, 1, 2, 3, 4, 5] rfl ?_
      refine t_slot (y := VP.int .i64 ((0 : Nat) : Int)) (fun _ _ _ h => h) ?_
      refine t_sub (fs' := [.is (.tmp 5) (VP.int .i64 ((0 : Nat) : Int)), .own 0 (.val v) (HA.cells 37 [HA.of (VP.eq un true true), HA.of (VP.eq ut true true), HA.of (VP.eq ua true true), HA.of (VP.int .i64 (d.lv - n))]), .own 103 (.val ua) (HA.row 3 1 d.at_.length ((d.at_.flatMap cInt).map HA.of)), .own 102 (.val ut) (HA.row 3 1 d.told.length ((d.told.flatMap cInt).map HA.of)), .own 101 (.val un) (HA.row 9 1 d.names.length ((d.names.flatMap cStr).map HA.of)), .is (.tmp 0) (VP.ptr v), .is (.tmp 4) (VP.int .i64 0)]) [0, 1, 2, 3, 4, 5, 6] rfl ?_
      refine t_loop (τ := {k : Nat // k ≤ d.names.length ∧ ∀ j y, j < k → d.at_[j]? = some y → y ≤ d.lv - n}) (fun ⟨k, _⟩ => [.is (.tmp 0) (VP.ptr v), .is (.tmp 5) (VP.int .i64 ((k : Nat) : Int)), .own 0 (.val v) (HA.cells 37 [HA.of (VP.eq un true true), HA.of (VP.eq ut true true), HA.of (VP.eq ua true true), HA.of (VP.int .i64 (d.lv - n))]), .own 101 (.val un) (HA.row 9 1 d.names.length ((d.names.flatMap cStr).map HA.of)), .own 102 (.val ut) (HA.row 3 1 d.told.length ((d.told.flatMap cInt).map HA.of)), .own 103 (.val ua) (HA.row 3 1 d.at_.length ((d.at_.flatMap cInt).map HA.of))]) (fun ⟨k, _⟩ => d.names.length - k) (⟨0, by omega, fun j y hj => by omega⟩) [5, 0, 1, 4, 3, 2] rfl ?_
      rintro ⟨k, hk1, hk2⟩
      refine t_sub (fs' := [.is (.tmp 0) (VP.ptr v), .is (.tmp 5) (VP.int .i64 ((k : Nat) : Int)), .own 0 (.val v) (HA.cells 37 [HA.of (VP.eq un true true), HA.of (VP.eq ut true true), HA.of (VP.eq ua true true), HA.of (VP.int .i64 (d.lv - n))]), .own 101 (.val un) (HA.row 9 1 d.names.length ((d.names.flatMap cStr).map HA.of)), .own 102 (.val ut) (HA.row 3 1 d.told.length ((d.told.flatMap cInt).map HA.of)), .own 103 (.val ua) (HA.row 3 1 d.at_.length ((d.at_.flatMap cInt).map HA.of))]) [0, 1, 2, 3, 4, 5] rfl ?_
      refine t_seq ?_
      refine t_seq ?_
      rcases Bool.eq_false_or_eq_true (decide (((k : Nat) : Int) < ((d.names.length : Nat) : Int))) with hb3 | hb3
      · have hc3 := of_decide_eq_true hb3
        obtain ⟨x, hx⟩ : ∃ x, d.at_[k]? = some x := ⟨_, List.getElem?_eq_getElem (by omega)⟩
        refine t_region (F := ⟨_, _, _, _, _, _⟩) [.is (.tmp 0) (VP.ptr v), .is (.tmp 5) (VP.int .i64 ((k : Nat) : Int)), .own 0 (.val v) (HA.cells 37 [HA.of (VP.eq un true true), HA.of (VP.eq ut true true), HA.of (VP.eq ua true true), HA.of (VP.int .i64 (d.lv - n))]), .own 101 (.val un) (HA.row 9 1 d.names.length ((d.names.flatMap cStr).map HA.of)), .own 102 (.val ut) (HA.row 3 1 d.told.length ((d.told.flatMap cInt).map HA.of)), .own 103 (.val ua) (HA.row 3 1 d.at_.length ((d.at_.flatMap cInt).map HA.of))] [] [(0, .is (.tmp 22) (VP.int .i64 ((k : Nat) : Int))), (1, .is (.tmp 23) (VP.ptr v)), (2, .is (.tmp 24) (VP.ptr v)), (3, .pt 25 (.blk (.val v) 0)), (4, .is (.tmp 26) (VP.eq un true true)), (5, .is (.tmp 27) (VP.int .i64 ((d.names.length : Nat) : Int))), (6, .is (.tmp 28) (VP.bool (decide (((k : Nat) : Int) < ((d.names.length : Nat) : Int))))), (7, .is (.tmp 29) (VP.bool (decide (((k : Nat) : Int) < ((d.names.length : Nat) : Int))))), (8, .is (.tmp 30) (VP.ptr v)), (9, .is (.tmp 31) (VP.ptr v)), (10, .pt 32 (.blk (.val v) 2)), (11, .is (.tmp 33) (VP.eq ua true true)), (12, .is (.tmp 34) (VP.int .i64 ((k : Nat) : Int))), (13, .pt 35 (.row (.val ua) (k * 1))), (14, .is (.tmp 36) (VP.int .i64 x)), (15, .is (.tmp 37) (VP.ptr v)), (16, .is (.tmp 38) (VP.ptr v)), (17, .pt 39 (.blk (.val v) 3)), (18, .is (.tmp 40) (VP.int .i64 (d.lv - n))), (19, .is (.tmp 41) (VP.bool (decide (x ≤ (d.lv - n))))), (20, .is (.tmp 42) (VP.bool (decide (x ≤ (d.lv - n)))))] [] [0, 1, 2, 3, 4, 5] [] [[], [], [1], [1, 2], [1, 2, 3], [1, 2, 3, 4], [0, 1, 2, 3, 4, 5], [0, 1, 2, 3, 4, 5, 6], [0, 1, 2, 3, 4, 5, 6, 7], [0, 1, 2, 3, 4, 5, 6, 7, 8], [0, 1, 2, 3, 4, 5, 6, 7, 8, 9], [0, 1, 2, 3, 4, 5, 6, 7, 8, 9, 10], [0, 1, 2, 3, 4, 5, 6, 7], [0, 1, 2, 3, 4, 5, 6, 7, 8, 9, 10, 11, 12], [0, 1, 2, 3, 4, 5, 6, 7, 8, 9, 10, 11, 12, 13], [0, 1, 2, 3, 4, 5, 6, 7], [0, 1, 2, 3, 4, 5, 6, 7, 15], [0, 1, 2, 3, 4, 5, 6, 7, 15, 16], [0, 1, 2, 3, 4, 5, 6, 7, 15, 16, 17], [0, 1, 2, 3, 4, 5, 6, 7, 8, 9, 10, 11, 12, 13, 14, 15, 16, 17, 18], [0, 1, 2, 3, 4, 5, 6, 7, 8, 9, 10, 11, 12, 13, 14, 15, 16, 17, 18, 19]] [[6, 7, 8, 9, 10, 11, 12, 13, 14, 15, 16, 17, 18, 19, 20], [2, 3, 4, 5, 6, 7, 8, 9, 10, 11, 12, 13, 14, 15, 16, 17, 18, 19, 20], [3, 4, 5, 6, 7, 8, 9, 10, 11, 12, 13, 14, 15, 16, 17, 18, 19, 20], [4, 5, 6, 7, 8, 9, 10, 11, 12, 13, 14, 15, 16, 17, 18, 19, 20], [5, 6, 7, 8, 9, 10, 11, 12, 13, 14, 15, 16, 17, 18, 19, 20], [6, 7, 8, 9, 10, 11, 12, 13, 14, 15, 16, 17, 18, 19, 20], [7, 8, 9, 10, 11, 12, 13, 14, 15, 16, 17, 18, 19, 20], [8, 9, 10, 11, 12, 13, 14, 15, 16, 17, 18, 19, 20], [9, 10, 11, 13, 14, 19, 20], [10, 11, 13, 14, 19, 20], [11, 13, 14, 19, 20], [13, 14, 19, 20], [13, 14, 19, 20], [14, 19, 20], [19, 20], [16, 17, 18, 19, 20], [17, 18, 19, 20], [18, 19, 20], [19, 20], [20], []] rfl rfl follow rfl ⟨
          .inl ⟨wants_plain rfl, does_move _ (.inl rfl) rfl rfl rfl rfl (ar_tmp (av_fs 1 rfl))⟩,
          .inl ⟨wants_plain rfl, does_move _ (.inl rfl) rfl rfl rfl rfl (ar_tmp (av_fs 0 rfl))⟩,
          .inl ⟨wants_plain rfl, does_nil _ rfl rfl rfl rfl rfl (ar_tmp (av_rs 1 1 rfl rfl))⟩,
          .inl ⟨wants_plain rfl, does_field _ _ _ 0 ScopeR_f_collatorref08_Table_0 rfl rfl rfl rfl rfl rfl (pt_ptr (ar_tmp (av_rs 2 2 rfl rfl)))⟩,
          .inl ⟨wants_plain rfl, does_loadOne _ ScopeR_one___string rfl rfl rfl rfl rfl (pt_pt (av_rs 3 3 rfl rfl)) (rds_box (off := 0) (av_fs 2 rfl) (hq_one rfl))⟩,
          .inl ⟨wants_plain rfl, does_len _ _ (by kernel_rfl) rfl rfl rfl rfl rfl (sl_own (av_fs 3 rfl) (ar_tmp (av_rs 4 4 rfl rfl)))⟩,
          .inl ⟨wants_plain rfl, does_cmp (m := ((k : Nat) : Int)) (n := ((d.names.length : Nat) : Int)) _ _ _ _ _ rfl rfl rfl rfl rfl rfl .i64 (ar_tmp (av_rs 0 0 rfl rfl)) (ar_tmp (av_rs 5 5 rfl rfl))⟩,
          .inl ⟨wants_plain rfl, does_move _ (.inl rfl) rfl rfl rfl rfl (ar_tmp (av_rs 6 6 rfl rfl))⟩,
          .inl ⟨wants_guard true rfl rfl rfl (av_bool hb3 (av_rs 7 7 rfl rfl)), does_move _ (.inl rfl) rfl rfl rfl rfl (ar_tmp (av_fs 0 rfl))⟩,
          .inl ⟨wants_guard true rfl rfl rfl (av_bool hb3 (av_rs 7 7 rfl rfl)), does_nil _ rfl rfl rfl rfl rfl (ar_tmp (av_rs 8 8 rfl rfl))⟩,
          .inl ⟨wants_guard true rfl rfl rfl (av_bool hb3 (av_rs 7 7 rfl rfl)), does_field _ _ _ 2 ScopeR_f_collatorref08_Table_2 rfl rfl rfl rfl rfl rfl (pt_ptr (ar_tmp (av_rs 9 9 rfl rfl)))⟩,
          .inl ⟨wants_guard true rfl rfl rfl (av_bool hb3 (av_rs 7 7 rfl rfl)), does_loadOne _ ScopeR_one___int rfl rfl rfl rfl rfl (pt_pt (av_rs 10 10 rfl rfl)) (rds_box (off := 2) (av_fs 2 rfl) (hq_one rfl))⟩,
          .inl ⟨wants_guard true rfl rfl rfl (av_bool hb3 (av_rs 7 7 rfl rfl)), does_move _ (.inl rfl) rfl rfl rfl rfl (ar_tmp (av_fs 1 rfl))⟩,
          .inl ⟨wants_guard true rfl rfl rfl (av_bool hb3 (av_rs 7 7 rfl rfl)), does_index (m := k) _ _ Try.underlying35 ScopeR_size_int rfl rfl rfl rfl rfl _ (by omega) rfl (by omega) (sl_own (av_fs 5 rfl) (ar_tmp (av_rs 11 11 rfl rfl))) (ar_tmp (av_rs 12 12 rfl rfl))⟩,
          .inl ⟨wants_guard true rfl rfl rfl (av_bool hb3 (av_rs 7 7 rfl rfl)), does_loadOne _ ScopeR_one_int rfl rfl rfl rfl rfl (pt_pt (av_rs 13 13 rfl rfl)) (rds_row (av_fs 5 rfl) (hq_flat1 cInt_len hx 0 (by omega) rfl))⟩,
          .inl ⟨wants_guard true rfl rfl rfl (av_bool hb3 (av_rs 7 7 rfl rfl)), does_move _ (.inl rfl) rfl rfl rfl rfl (ar_tmp (av_fs 0 rfl))⟩,
          .inl ⟨wants_guard true rfl rfl rfl (av_bool hb3 (av_rs 7 7 rfl rfl)), does_nil _ rfl rfl rfl rfl rfl (ar_tmp (av_rs 15 15 rfl rfl))⟩,
          .inl ⟨wants_guard true rfl rfl rfl (av_bool hb3 (av_rs 7 7 rfl rfl)), does_field _ _ _ 3 ScopeR_f_collatorref08_Table_3 rfl rfl rfl rfl rfl rfl (pt_ptr (ar_tmp (av_rs 16 16 rfl rfl)))⟩,
          .inl ⟨wants_guard true rfl rfl rfl (av_bool hb3 (av_rs 7 7 rfl rfl)), does_loadOne _ ScopeR_one_int rfl rfl rfl rfl rfl (pt_pt (av_rs 17 17 rfl rfl)) (rds_box (off := 3) (av_fs 2 rfl) (hq_one rfl))⟩,
          .inl ⟨wants_guard true rfl rfl rfl (av_bool hb3 (av_rs 7 7 rfl rfl)), does_cmp (m := x) (n := (d.lv - n)) _ _ _ _ _ rfl rfl rfl rfl rfl rfl .i64 (ar_tmp (av_rs 14 14 rfl rfl)) (ar_tmp (av_rs 18 18 rfl rfl))⟩,
          .inl ⟨wants_plain rfl, does_pick true _ _ _ rfl rfl rfl rfl rfl (ar_tmp (av_bool hb3 (av_rs 7 7 rfl rfl))) (ar_tmp (av_rs 19 19 rfl rfl))⟩,
          trivial⟩ ?_
        refine nx_sub (fs' := [.is (.tmp 0) (VP.ptr v), .is (.tmp 5) (VP.int .i64 ((k : Nat) : Int)), .own 0 (.val v) (HA.cells 37 [HA.of (VP.eq un true true), HA.of (VP.eq ut true true), HA.of (VP.eq ua true true), HA.of (VP.int .i64 (d.lv - n))]), .own 101 (.val un) (HA.row 9 1 d.names.length ((d.names.flatMap cStr).map HA.of)), .own 102 (.val ut) (HA.row 3 1 d.told.length ((d.told.flatMap cInt).map HA.of)), .own 103 (.val ua) (HA.row 3 1 d.at_.length ((d.at_.flatMap cInt).map HA.of)), .is (.tmp 22) (VP.int .i64 ((k : Nat) : Int)), .is (.tmp 23) (VP.ptr v), .is (.tmp 24) (VP.ptr v), .pt 25 (.blk (.val v) 0), .is (.tmp 26) (VP.eq un true true), .is (.tmp 27) (VP.int .i64 ((d.names.length : Nat) : Int)), .is (.tmp 28) (VP.bool (decide (((k : Nat) : Int) < ((d.names.length : Nat) : Int)))), .is (.tmp 29) (VP.bool (decide (((k : Nat) : Int) < ((d.names.length : Nat) : Int)))), .is (.tmp 30) (VP.ptr v), .is (.tmp 31) (VP.ptr v), .pt 32 (.blk (.val v) 2), .is (.tmp 33) (VP.eq ua true true), .is (.tmp 34) (VP.int .i64 ((k : Nat) : Int)), .pt 35 (.row (.val ua) (k * 1)), .is (.tmp 36) (VP.int .i64 x), .is (.tmp 37) (VP.ptr v), .is (.tmp 38) (VP.ptr v), .pt 39 (.blk (.val v) 3), .is (.tmp 40) (VP.int .i64 (d.lv - n)), .is (.tmp 41) (VP.bool (decide (x ≤ (d.lv - n)))), .is (.tmp 42) (VP.bool (decide (x ≤ (d.lv - n))))]) [0, 1, 2, 3, 4, 5, 6, 7, 8, 9, 10, 11, 12, 13, 14, 15, 16, 17, 18, 19, 20, 21, 22, 23, 24, 25, 26] rfl ?_
        refine nx_then ?_
        refine t_split 26 rfl (fun hb4 => ?_) (fun hb4 => ?_)
        · have hc4 := of_decide_eq_true hb4
          refine t_skip ?_
          refine nx_then ?_
          refine t_block ?_
          refine t_region (F := ⟨_, _, _, _, _, _⟩) [.is (.tmp 0) (VP.ptr v), .own 0 (.val v) (HA.cells 37 [HA.of (VP.eq un true true), HA.of (VP.eq ut true true), HA.of (VP.eq ua true true), HA.of (VP.int .i64 (d.lv - n))]), .own 101 (.val un) (HA.row 9 1 d.names.length ((d.names.flatMap cStr).map HA.of)), .own 102 (.val ut) (HA.row 3 1 d.told.length ((d.told.flatMap cInt).map HA.of)), .own 103 (.val ua) (HA.row 3 1 d.at_.length ((d.at_.flatMap cInt).map HA.of)), .is (.tmp 22) (VP.int .i64 ((k : Nat) : Int)), .is (.tmp 23) (VP.ptr v), .is (.tmp 24) (VP.ptr v), .pt 25 (.blk (.val v) 0), .is (.tmp 26) (VP.eq un true true), .is (.tmp 27) (VP.int .i64 ((d.names.length : Nat) : Int)), .is (.tmp 28) (VP.bool (decide (((k : Nat) : Int) < ((d.names.length : Nat) : Int)))), .is (.tmp 29) (VP.bool (decide (((k : Nat) : Int) < ((d.names.length : Nat) : Int)))), .is (.tmp 30) (VP.ptr v), .is (.tmp 31) (VP.ptr v), .pt 32 (.blk (.val v) 2), .is (.tmp 33) (VP.eq ua true true), .is (.tmp 34) (VP.int .i64 ((k : Nat) : Int)), .pt 35 (.row (.val ua) (k * 1)), .is (.tmp 36) (VP.int .i64 x), .is (.tmp 37) (VP.ptr v), .is (.tmp 38) (VP.ptr v), .pt 39 (.blk (.val v) 3), .is (.tmp 40) (VP.int .i64 (d.lv - n)), .is (.tmp 41) (VP.bool (decide (x ≤ (d.lv - n)))), .is (.tmp 42) (VP.bool (decide (x ≤ (d.lv - n))))] [(2, .is (.tmp 5) (VP.int .i64 ((k : Nat) : Int)))] [(0, .is (.tmp 43) (VP.int .i64 ((k : Nat) : Int))), (1, .is (.tmp 44) (VP.int .i64 (((k + 1) : Nat) : Int))), (2, .is (.tmp 5) (VP.int .i64 (((k + 1) : Nat) : Int)))] [] [0, 2, 3, 4, 5, 6, 7, 8, 9, 10, 11, 12, 13, 14, 15, 16, 17, 18, 19, 20, 21, 22, 23, 24, 25, 26] [1] [[], [0], [0, 1]] [[1, 2], [2], []] rfl rfl follow rfl ⟨
            .inl ⟨wants_plain rfl, does_move _ (.inl rfl) rfl rfl rfl rfl (ar_tmp (av_os 0 2 rfl rfl))⟩,
            .inl ⟨wants_plain rfl, does_addE (m := ((k : Nat) : Int)) (n := 1) (x := (((k + 1) : Nat) : Int)) (by omega) _ _ _ _ rfl rfl rfl rfl rfl (by omega) (ar_tmp (av_rs 0 0 rfl rfl)) (ar_const (fun _ _ => rfl))⟩,
            .inl ⟨wants_plain rfl, does_move _ (.inr rfl) rfl rfl rfl rfl (ar_tmp (av_rs 1 1 rfl rfl))⟩,
            trivial⟩ ?_
          refine nx_sub (fs' := [.is (.tmp 0) (VP.ptr v), .own 0 (.val v) (HA.cells 37 [HA.of (VP.eq un true true), HA.of (VP.eq ut true true), HA.of (VP.eq ua true true), HA.of (VP.int .i64 (d.lv - n))]), .own 101 (.val un) (HA.row 9 1 d.names.length ((d.names.flatMap cStr).map HA.of)), .own 102 (.val ut) (HA.row 3 1 d.told.length ((d.told.flatMap cInt).map HA.of)), .own 103 (.val ua) (HA.row 3 1 d.at_.length ((d.at_.flatMap cInt).map HA.of)), .is (.tmp 22) (VP.int .i64 ((k : Nat) : Int)), .is (.tmp 23) (VP.ptr v), .is (.tmp 24) (VP.ptr v), .pt 25 (.blk (.val v) 0), .is (.tmp 26) (VP.eq un true true), .is (.tmp 27) (VP.int .i64 ((d.names.length : Nat) : Int)), .is (.tmp 28) (VP.bool (decide (((k : Nat) : Int) < ((d.names.length : Nat) : Int)))), .is (.tmp 29) (VP.bool (decide (((k : Nat) : Int) < ((d.names.length : Nat) : Int)))), .is (.tmp 30) (VP.ptr v), .is (.tmp 31) (VP.ptr v), .pt 32 (.blk (.val v) 2), .is (.tmp 33) (VP.eq ua true true), .is (.tmp 34) (VP.int .i64 ((k : Nat) : Int)), .pt 35 (.row (.val ua) (k * 1)), .is (.tmp 36) (VP.int .i64 x), .is (.tmp 37) (VP.ptr v), .is (.tmp 38) (VP.ptr v), .pt 39 (.blk (.val v) 3), .is (.tmp 40) (VP.int .i64 (d.lv - n)), .is (.tmp 41) (VP.bool (decide (x ≤ (d.lv - n)))), .is (.tmp 42) (VP.bool (decide (x ≤ (d.lv - n)))), .is (.tmp 43) (VP.int .i64 ((k : Nat) : Int)), .is (.tmp 44) (VP.int .i64 (((k + 1) : Nat) : Int)), .is (.tmp 5) (VP.int .i64 (((k + 1) : Nat) : Int))]) [0, 1, 2, 3, 4, 5, 6, 7, 8, 9, 10, 11, 12, 13, 14, 15, 16, 17, 18, 19, 20, 21, 22, 23, 24, 25, 26, 27, 28] rfl ?_
          refine nx_block ?_
          refine nx_round (τ := {k : Nat // k ≤ d.names.length ∧ ∀ j y, j < k → d.at_[j]? = some y → y ≤ d.lv - n}) (I := fun ⟨k, _⟩ => [.is (.tmp 0) (VP.ptr v), .is (.tmp 5) (VP.int .i64 ((k : Nat) : Int)), .own 0 (.val v) (HA.cells 37 [HA.of (VP.eq un true true), HA.of (VP.eq ut true true), HA.of (VP.eq ua true true), HA.of (VP.int .i64 (d.lv - n))]), .own 101 (.val un) (HA.row 9 1 d.names.length ((d.names.flatMap cStr).map HA.of)), .own 102 (.val ut) (HA.row 3 1 d.told.length ((d.told.flatMap cInt).map HA.of)), .own 103 (.val ua) (HA.row 3 1 d.at_.length ((d.at_.flatMap cInt).map HA.of))]) (μ := fun ⟨k, _⟩ => d.names.length - k) (s := ⟨k, hk1, hk2⟩) (⟨k + 1, by omega, tw_step hk2 hx (of_decide_eq_true hb4)⟩) ?_ [0, 28, 1, 2, 3, 4] ?_
          · exact (show d.names.length - (k + 1) < d.names.length - k by omega)
          · exact rfl
        · have hc4 := of_decide_eq_false hb4
          refine t_exit ?_
          refine ex_then ?_
          refine ex_then ?_
          refine ex_block ?_
          refine nx_then ?_
          refine t_sub (fs' := [.is (.tmp 0) (VP.ptr v), .is (.tmp 5) (VP.int .i64 ((k : Nat) : Int)), .own 0 (.val v) (HA.cells 37 [HA.of (VP.eq un true true), HA.of (VP.eq ut true true), HA.of (VP.eq ua true true), HA.of (VP.int .i64 (d.lv - n))]), .own 101 (.val un) (HA.row 9 1 d.names.length ((d.names.flatMap cStr).map HA.of)), .own 102 (.val ut) (HA.row 3 1 d.told.length ((d.told.flatMap cInt).map HA.of)), .own 103 (.val ua) (HA.row 3 1 d.at_.length ((d.at_.flatMap cInt).map HA.of))]) [0, 1, 2, 3, 4, 5] rfl ?_
          refine t_seq ?_
          have hcut : d.cut n = k := tw_end hk2 (fun y hy => by rw [hx] at hy; injection hy with hy; subst hy; exact of_decide_eq_false hb4) (by omega)
          refine t_region (F := ⟨_, _, _, _, _, _⟩) [.is (.tmp 0) (VP.ptr v), .is (.tmp 5) (VP.int .i64 ((k : Nat) : Int)), .own 102 (.val ut) (HA.row 3 1 d.told.length ((d.told.flatMap cInt).map HA.of)), .own 103 (.val ua) (HA.row 3 1 d.at_.length ((d.at_.flatMap cInt).map HA.of))] [(9, .own 0 (.val v) (HA.cells 37 [HA.of (VP.eq un true true), HA.of (VP.eq ut true true), HA.of (VP.eq ua true true), HA.of (VP.int .i64 (d.lv - n))])), (6, .own 101 (.val un) (HA.row 9 1 d.names.length ((d.names.flatMap cStr).map HA.of)))] [(0, .is (.tmp 45) (VP.ptr v)), (1, .is (.tmp 46) (VP.ptr v)), (2, .is (.tmp 47) (VP.ptr v)), (3, .pt 48 (.blk (.val v) 0)), (4, .is (.tmp 49) (VP.eq un true true)), (5, .is (.tmp 50) (VP.int .i64 ((k : Nat) : Int))), (7, .is (.tmp 52) (VP.ptr v)), (8, .pt 53 (.blk (.val v) 0)), (9, .own 0 (.val v) (HA.cells 37 [HA.row 9 1 ((d.names.take k).length) (((d.names.take k).flatMap cStr).map HA.of), HA.of (VP.eq ut true true), HA.of (VP.eq ua true true), HA.of (VP.int .i64 (d.lv - n))]))] [(6, 9, .own 101 (.tmp 51) (HA.row 9 1 ((d.names.take k).length) (((d.names.take k).flatMap cStr).map HA.of)))] [0, 1, 4, 5] [2, 3] [[], [], [1], [1, 2], [1, 2, 3], [], [1, 2, 3, 4, 5], [0, 1, 2, 3, 4, 5, 6], [0, 1, 2, 3, 4, 5, 6, 7], [0, 1, 2, 3, 4, 5, 6, 7, 8]] [[7, 8, 9], [2, 3, 4, 6, 7, 8, 9], [3, 4, 6, 7, 8, 9], [4, 6, 7, 8, 9], [6, 7, 8, 9], [6, 7, 8, 9], [7, 8, 9], [8, 9], [9], []] rfl rfl follow rfl ⟨
            .inl ⟨wants_plain rfl, does_move _ (.inl rfl) rfl rfl rfl rfl (ar_tmp (av_fs 0 rfl))⟩,
            .inl ⟨wants_plain rfl, does_move _ (.inl rfl) rfl rfl rfl rfl (ar_tmp (av_fs 0 rfl))⟩,
            .inl ⟨wants_plain rfl, does_nil _ rfl rfl rfl rfl rfl (ar_tmp (av_rs 1 1 rfl rfl))⟩,
            .inl ⟨wants_plain rfl, does_field _ _ _ 0 ScopeR_f_collatorref08_Table_0 rfl rfl rfl rfl rfl rfl (pt_ptr (ar_tmp (av_rs 2 2 rfl rfl)))⟩,
            .inl ⟨wants_plain rfl, does_loadOne _ ScopeR_one___string rfl rfl rfl rfl rfl (pt_pt (av_rs 3 3 rfl rfl)) (rds_box (off := 0) (av_os 0 9 rfl rfl) (hq_one rfl))⟩,
            .inl ⟨wants_plain rfl, does_move _ (.inl rfl) rfl rfl rfl rfl (ar_tmp (av_fs 1 rfl))⟩,
            .inl ⟨wants_plain rfl, does_cutOwn (h := k) _ Try.underlying31 ScopeR_size_string rfl rfl rfl rfl rfl (by simp only [List.length_take]; omega) (by omega) (flat_takeH cStr_len _ _) ⟨_, (ar_tmp (av_rs 5 5 rfl rfl))⟩ (mv_ownv (av_os 1 6 rfl rfl) (ar_tmp (av_rs 4 4 rfl rfl)))⟩,
            .inl ⟨wants_plain rfl, does_nil _ rfl rfl rfl rfl rfl (ar_tmp (av_rs 0 0 rfl rfl))⟩,
            .inl ⟨wants_plain rfl, does_field _ _ _ 0 ScopeR_f_collatorref08_Table_0 rfl rfl rfl rfl rfl rfl (pt_ptr (ar_tmp (av_rs 6 7 rfl rfl)))⟩,
            .inl ⟨wants_plain rfl, does_store (off := 0) (Qs := [HA.row 9 1 ((d.names.take k).length) (((d.names.take k).flatMap cStr).map HA.of)]) _ _ ScopeR_size___string rfl rfl rfl rfl rfl rfl (pt_pt (av_rs 7 8 rfl rfl)) (av_os 0 9 rfl rfl) (cv_one rfl (mv_own (av_ms 0 6 9 rfl rfl rfl)))⟩,
            trivial⟩ ?_
          refine nx_sub (fs' := [.is (.tmp 0) (VP.ptr v), .is (.tmp 5) (VP.int .i64 ((k : Nat) : Int)), .own 102 (.val ut) (HA.row 3 1 d.told.length ((d.told.flatMap cInt).map HA.of)), .own 103 (.val ua) (HA.row 3 1 d.at_.length ((d.at_.flatMap cInt).map HA.of)), .own 0 (.val v) (HA.cells 37 [HA.row 9 1 ((d.names.take k).length) (((d.names.take k).flatMap cStr).map HA.of), HA.of (VP.eq ut true true), HA.of (VP.eq ua true true), HA.of (VP.int .i64 (d.lv - n))])]) [0, 1, 2, 3, 12] rfl ?_
          refine nx_then ?_
          refine t_seq ?_
          refine t_region (F := ⟨_, _, _, _, _, _⟩) [.is (.tmp 0) (VP.ptr v), .is (.tmp 5) (VP.int .i64 ((k : Nat) : Int)), .own 103 (.val ua) (HA.row 3 1 d.at_.length ((d.at_.flatMap cInt).map HA.of))] [(6, .own 102 (.val ut) (HA.row 3 1 d.told.length ((d.told.flatMap cInt).map HA.of))), (9, .own 0 (.val v) (HA.cells 37 [HA.row 9 1 ((d.names.take k).length) (((d.names.take k).flatMap cStr).map HA.of), HA.of (VP.eq ut true true), HA.of (VP.eq ua true true), HA.of (VP.int .i64 (d.lv - n))]))] [(0, .is (.tmp 54) (VP.ptr v)), (1, .is (.tmp 55) (VP.ptr v)), (2, .is (.tmp 56) (VP.ptr v)), (3, .pt 57 (.blk (.val v) 1)), (4, .is (.tmp 58) (VP.eq ut true true)), (5, .is (.tmp 59) (VP.int .i64 ((k : Nat) : Int))), (7, .is (.tmp 61) (VP.ptr v)), (8, .pt 62 (.blk (.val v) 1)), (9, .own 0 (.val v) (HA.cells 37 [HA.row 9 1 ((d.names.take k).length) (((d.names.take k).flatMap cStr).map HA.of), HA.row 3 1 ((d.told.take k).length) (((d.told.take k).flatMap cInt).map HA.of), HA.of (VP.eq ua true true), HA.of (VP.int .i64 (d.lv - n))]))] [(6, 9, .own 102 (.tmp 60) (HA.row 3 1 ((d.told.take k).length) (((d.told.take k).flatMap cInt).map HA.of)))] [0, 1, 3] [2, 4] [[], [], [1], [1, 2], [1, 2, 3], [], [1, 2, 3, 4, 5], [0, 1, 2, 3, 4, 5, 6], [0, 1, 2, 3, 4, 5, 6, 7], [0, 1, 2, 3, 4, 5, 6, 7, 8]] [[7, 8, 9], [2, 3, 4, 6, 7, 8, 9], [3, 4, 6, 7, 8, 9], [4, 6, 7, 8, 9], [6, 7, 8, 9], [6, 7, 8, 9], [7, 8, 9], [8, 9], [9], []] rfl rfl follow rfl ⟨
            .inl ⟨wants_plain rfl, does_move _ (.inl rfl) rfl rfl rfl rfl (ar_tmp (av_fs 0 rfl))⟩,
            .inl ⟨wants_plain rfl, does_move _ (.inl rfl) rfl rfl rfl rfl (ar_tmp (av_fs 0 rfl))⟩,
            .inl ⟨wants_plain rfl, does_nil _ rfl rfl rfl rfl rfl (ar_tmp (av_rs 1 1 rfl rfl))⟩,
            .inl ⟨wants_plain rfl, does_field _ _ _ 1 ScopeR_f_collatorref08_Table_1 rfl rfl rfl rfl rfl rfl (pt_ptr (ar_tmp (av_rs 2 2 rfl rfl)))⟩,
            .inl ⟨wants_plain rfl, does_loadOne _ ScopeR_one___int rfl rfl rfl rfl rfl (pt_pt (av_rs 3 3 rfl rfl)) (rds_box (off := 1) (av_os 1 9 rfl rfl) (hq_one rfl))⟩,
            .inl ⟨wants_plain rfl, does_move _ (.inl rfl) rfl rfl rfl rfl (ar_tmp (av_fs 1 rfl))⟩,
            .inl ⟨wants_plain rfl, does_cutOwn (h := k) _ Try.underlying35 ScopeR_size_int rfl rfl rfl rfl rfl (by simp only [List.length_take]; omega) (by omega) (flat_takeH cInt_len _ _) ⟨_, (ar_tmp (av_rs 5 5 rfl rfl))⟩ (mv_ownv (av_os 0 6 rfl rfl) (ar_tmp (av_rs 4 4 rfl rfl)))⟩,
            .inl ⟨wants_plain rfl, does_nil _ rfl rfl rfl rfl rfl (ar_tmp (av_rs 0 0 rfl rfl))⟩,
            .inl ⟨wants_plain rfl, does_field _ _ _ 1 ScopeR_f_collatorref08_Table_1 rfl rfl rfl rfl rfl rfl (pt_ptr (ar_tmp (av_rs 6 7 rfl rfl)))⟩,
            .inl ⟨wants_plain rfl, does_store (off := 1) (Qs := [HA.row 3 1 ((d.told.take k).length) (((d.told.take k).flatMap cInt).map HA.of)]) _ _ ScopeR_size___int rfl rfl rfl rfl rfl rfl (pt_pt (av_rs 7 8 rfl rfl)) (av_os 1 9 rfl rfl) (cv_one rfl (mv_own (av_ms 0 6 9 rfl rfl rfl)))⟩,
            trivial⟩ ?_
          refine nx_sub (fs' := [.is (.tmp 0) (VP.ptr v), .is (.tmp 5) (VP.int .i64 ((k : Nat) : Int)), .own 103 (.val ua) (HA.row 3 1 d.at_.length ((d.at_.flatMap cInt).map HA.of)), .own 0 (.val v) (HA.cells 37 [HA.row 9 1 ((d.names.take k).length) (((d.names.take k).flatMap cStr).map HA.of), HA.row 3 1 ((d.told.take k).length) (((d.told.take k).flatMap cInt).map HA.of), HA.of (VP.eq ua true true), HA.of (VP.int .i64 (d.lv - n))])]) [0, 1, 2, 11] rfl ?_
          refine nx_then ?_
          refine t_seq ?_
          refine t_region (F := ⟨_, _, _, _, _, _⟩) [.is (.tmp 0) (VP.ptr v), .is (.tmp 5) (VP.int .i64 ((k : Nat) : Int))] [(6, .own 103 (.val ua) (HA.row 3 1 d.at_.length ((d.at_.flatMap cInt).map HA.of))), (9, .own 0 (.val v) (HA.cells 37 [HA.row 9 1 ((d.names.take k).length) (((d.names.take k).flatMap cStr).map HA.of), HA.row 3 1 ((d.told.take k).length) (((d.told.take k).flatMap cInt).map HA.of), HA.of (VP.eq ua true true), HA.of (VP.int .i64 (d.lv - n))]))] [(0, .is (.tmp 63) (VP.ptr v)), (1, .is (.tmp 64) (VP.ptr v)), (2, .is (.tmp 65) (VP.ptr v)), (3, .pt 66 (.blk (.val v) 2)), (4, .is (.tmp 67) (VP.eq ua true true)), (5, .is (.tmp 68) (VP.int .i64 ((k : Nat) : Int))), (7, .is (.tmp 70) (VP.ptr v)), (8, .pt 71 (.blk (.val v) 2)), (9, .own 0 (.val v) (HA.cells 37 [HA.row 9 1 ((d.names.take k).length) (((d.names.take k).flatMap cStr).map HA.of), HA.row 3 1 ((d.told.take k).length) (((d.told.take k).flatMap cInt).map HA.of), HA.row 3 1 ((d.at_.take k).length) (((d.at_.take k).flatMap cInt).map HA.of), HA.of (VP.int .i64 (d.lv - n))]))] [(6, 9, .own 103 (.tmp 69) (HA.row 3 1 ((d.at_.take k).length) (((d.at_.take k).flatMap cInt).map HA.of)))] [0, 1] [2, 3] [[], [], [1], [1, 2], [1, 2, 3], [], [1, 2, 3, 4, 5], [0, 1, 2, 3, 4, 5, 6], [0, 1, 2, 3, 4, 5, 6, 7], [0, 1, 2, 3, 4, 5, 6, 7, 8]] [[7, 8, 9], [2, 3, 4, 6, 7, 8, 9], [3, 4, 6, 7, 8, 9], [4, 6, 7, 8, 9], [6, 7, 8, 9], [6, 7, 8, 9], [7, 8, 9], [8, 9], [9], []] rfl rfl follow rfl ⟨
            .inl ⟨wants_plain rfl, does_move _ (.inl rfl) rfl rfl rfl rfl (ar_tmp (av_fs 0 rfl))⟩,
            .inl ⟨wants_plain rfl, does_move _ (.inl rfl) rfl rfl rfl rfl (ar_tmp (av_fs 0 rfl))⟩,
            .inl ⟨wants_plain rfl, does_nil _ rfl rfl rfl rfl rfl (ar_tmp (av_rs 1 1 rfl rfl))⟩,
            .inl ⟨wants_plain rfl, does_field _ _ _ 2 ScopeR_f_collatorref08_Table_2 rfl rfl rfl rfl rfl rfl (pt_ptr (ar_tmp (av_rs 2 2 rfl rfl)))⟩,
            .inl ⟨wants_plain rfl, does_loadOne _ ScopeR_one___int rfl rfl rfl rfl rfl (pt_pt (av_rs 3 3 rfl rfl)) (rds_box (off := 2) (av_os 1 9 rfl rfl) (hq_one rfl))⟩,
            .inl ⟨wants_plain rfl, does_move _ (.inl rfl) rfl rfl rfl rfl (ar_tmp (av_fs 1 rfl))⟩,
            .inl ⟨wants_plain rfl, does_cutOwn (h := k) _ Try.underlying35 ScopeR_size_int rfl rfl rfl rfl rfl (by simp only [List.length_take]; omega) (by omega) (flat_takeH cInt_len _ _) ⟨_, (ar_tmp (av_rs 5 5 rfl rfl))⟩ (mv_ownv (av_os 0 6 rfl rfl) (ar_tmp (av_rs 4 4 rfl rfl)))⟩,
            .inl ⟨wants_plain rfl, does_nil _ rfl rfl rfl rfl rfl (ar_tmp (av_rs 0 0 rfl rfl))⟩,
            .inl ⟨wants_plain rfl, does_field _ _ _ 2 ScopeR_f_collatorref08_Table_2 rfl rfl rfl rfl rfl rfl (pt_ptr (ar_tmp (av_rs 6 7 rfl rfl)))⟩,
            .inl ⟨wants_plain rfl, does_store (off := 2) (Qs := [HA.row 3 1 ((d.at_.take k).length) (((d.at_.take k).flatMap cInt).map HA.of)]) _ _ ScopeR_size___int rfl rfl rfl rfl rfl rfl (pt_pt (av_rs 7 8 rfl rfl)) (av_os 1 9 rfl rfl) (cv_one rfl (mv_own (av_ms 0 6 9 rfl rfl rfl)))⟩,
            trivial⟩ ?_
          refine nx_sub (fs' := [.own 0 (.val v) (HA.cells 37 [HA.row 9 1 ((d.names.take k).length) (((d.names.take k).flatMap cStr).map HA.of), HA.row 3 1 ((d.told.take k).length) (((d.told.take k).flatMap cInt).map HA.of), HA.row 3 1 ((d.at_.take k).length) (((d.at_.take k).flatMap cInt).map HA.of), HA.of (VP.int .i64 (d.lv - n))])]) [10] rfl ?_
          refine nx_then ?_
          refine t_seq ?_
          refine t_region (F := ⟨_, _, _, _, _, _⟩) [.own 0 (.val v) (HA.cells 37 [HA.row 9 1 ((d.names.take k).length) (((d.names.take k).flatMap cStr).map HA.of), HA.row 3 1 ((d.told.take k).length) (((d.told.take k).flatMap cInt).map HA.of), HA.row 3 1 ((d.at_.take k).length) (((d.at_.take k).flatMap cInt).map HA.of), HA.of (VP.int .i64 (d.lv - n))])] [] [(0, .is (.tmp 4) (VP.int .i64 0))] [] [0] [] [[]] [[]] rfl rfl follow rfl ⟨
            .inl ⟨wants_plain rfl, does_move _ (.inr rfl) rfl rfl rfl rfl (ar_const (fun _ _ => rfl))⟩,
            trivial⟩ ?_
          refine nx_sub (fs' := [.own 0 (.val v) (HA.cells 37 [HA.row 9 1 ((d.names.take k).length) (((d.names.take k).flatMap cStr).map HA.of), HA.row 3 1 ((d.told.take k).length) (((d.told.take k).flatMap cInt).map HA.of), HA.row 3 1 ((d.at_.take k).length) (((d.at_.take k).flatMap cInt).map HA.of), HA.of (VP.int .i64 (d.lv - n))]), .is (.tmp 4) (VP.int .i64 0)]) [0, 1] rfl ?_
          refine nx_then ?_
          refine t_sub (fs' := [.own 0 (.val v) (HA.cells 37 [HA.row 9 1 ((d.names.take k).length) (((d.names.take k).flatMap cStr).map HA.of), HA.row 3 1 ((d.told.take k).length) (((d.told.take k).flatMap cInt).map HA.of), HA.row 3 1 ((d.at_.take k).length) (((d.at_.take k).flatMap cInt).map HA.of), HA.of (VP.int .i64 (d.lv - n))]), .is (.tmp 4) (VP.int .i64 0)]) [0, 1] rfl ?_
          refine t_sub (fs' := [.own 0 (.val v) (HA.cells 37 [HA.row 9 1 ((d.names.take k).length) (((d.names.take k).flatMap cStr).map HA.of), HA.row 3 1 ((d.told.take k).length) (((d.told.take k).flatMap cInt).map HA.of), HA.row 3 1 ((d.at_.take k).length) (((d.at_.take k).flatMap cInt).map HA.of), HA.of (VP.int .i64 (d.lv - n))]), .is (.tmp 4) (VP.int .i64 0)]) [0, 1] rfl ?_
          refine t_weak (R' := RefT (d.pop n)) (fun Z v w S h => by rw [show d.pop n = ⟨d.names.take k, d.told.take k, d.at_.take k, d.lv - n⟩ from (if_pos (by omega)).trans (by rw [hcut])]; exact h) rfl ?_
          refine t_sub (fs' := [.own 0 (.val v) (RefT (d.pop n)), .is (.tmp 4) (VP.int .i64 0)]) [0, 1] rfl ?_
          refine t_ret ?_
          exact rt_post [HA.of (VP.int .i64 (d.popE n))] [[]] [0] [0] rfl ⟨(rv_eq (congrArg HA.of (congrArg (VP.int .i64) (show (0 : Int) = d.popE n from Eq.symm ((if_neg (by omega)).trans (if_neg (by omega)))))) (rv_vp 1 rfl)), trivial⟩ (by decide) rfl rfl
      · have hc3 := of_decide_eq_false hb3
        refine t_region (F := ⟨_, _, _, _, _, _⟩) [.is (.tmp 0) (VP.ptr v), .is (.tmp 5) (VP.int .i64 ((k : Nat) : Int)), .own 0 (.val v) (HA.cells 37 [HA.of (VP.eq un true true), HA.of (VP.eq ut true true), HA.of (VP.eq ua true true), HA.of (VP.int .i64 (d.lv - n))]), .own 101 (.val un) (HA.row 9 1 d.names.length ((d.names.flatMap cStr).map HA.of)), .own 102 (.val ut) (HA.row 3 1 d.told.length ((d.told.flatMap cInt).map HA.of)), .own 103 (.val ua) (HA.row 3 1 d.at_.length ((d.at_.flatMap cInt).map HA.of))] [] [(0, .is (.tmp 22) (VP.int .i64 ((k : Nat) : Int))), (1, .is (.tmp 23) (VP.ptr v)), (2, .is (.tmp 24) (VP.ptr v)), (3, .pt 25 (.blk (.val v) 0)), (4, .is (.tmp 26) (VP.eq un true true)), (5, .is (.tmp 27) (VP.int .i64 ((d.names.length : Nat) : Int))), (6, .is (.tmp 28) (VP.bool (decide (((k : Nat) : Int) < ((d.names.length : Nat) : Int))))), (7, .is (.tmp 29) (VP.bool (decide (((k : Nat) : Int) < ((d.names.length : Nat) : Int))))), (8, .is (.tmp 30) (VP.undef)), (9, .is (.tmp 31) (VP.undef)), (10, .is (.tmp 32) (VP.undef)), (11, .is (.tmp 33) (VP.undef)), (12, .is (.tmp 34) (VP.undef)), (13, .is (.tmp 35) (VP.undef)), (14, .is (.tmp 36) (VP.undef)), (15, .is (.tmp 37) (VP.undef)), (16, .is (.tmp 38) (VP.undef)), (17, .is (.tmp 39) (VP.undef)), (18, .is (.tmp 40) (VP.undef)), (19, .is (.tmp 41) (VP.undef)), (20, .is (.tmp 42) (VP.bool false))] [] [0, 1, 2, 3, 4, 5] [] [[], [], [1], [1, 2], [1, 2, 3], [1, 2, 3, 4], [0, 1, 2, 3, 4, 5], [0, 1, 2, 3, 4, 5, 6], [0, 1, 2, 3, 4, 5, 6, 7], [0, 1, 2, 3, 4, 5, 6, 7, 8], [0, 1, 2, 3, 4, 5, 6, 7, 8, 9], [0, 1, 2, 3, 4, 5, 6, 7, 8, 9, 10], [0, 1, 2, 3, 4, 5, 6, 7], [0, 1, 2, 3, 4, 5, 6, 7, 8, 9, 10, 11, 12], [0, 1, 2, 3, 4, 5, 6, 7, 8, 9, 10, 11, 12, 13], [0, 1, 2, 3, 4, 5, 6, 7], [0, 1, 2, 3, 4, 5, 6, 7, 15], [0, 1, 2, 3, 4, 5, 6, 7, 15, 16], [0, 1, 2, 3, 4, 5, 6, 7, 15, 16, 17], [0, 1, 2, 3, 4, 5, 6, 7, 8, 9, 10, 11, 12, 13, 14, 15, 16, 17, 18], [0, 1, 2, 3, 4, 5, 6, 7, 8, 9, 10, 11, 12, 13, 14, 15, 16, 17, 18, 19]] [[6, 7, 8, 9, 10, 11, 12, 13, 14, 15, 16, 17, 18, 19, 20], [2, 3, 4, 5, 6, 7, 8, 9, 10, 11, 12, 13, 14, 15, 16, 17, 18, 19, 20], [3, 4, 5, 6, 7, 8, 9, 10, 11, 12, 13, 14, 15, 16, 17, 18, 19, 20], [4, 5, 6, 7, 8, 9, 10, 11, 12, 13, 14, 15, 16, 17, 18, 19, 20], [5, 6, 7, 8, 9, 10, 11, 12, 13, 14, 15, 16, 17, 18, 19, 20], [6, 7, 8, 9, 10, 11, 12, 13, 14, 15, 16, 17, 18, 19, 20], [7, 8, 9, 10, 11, 12, 13, 14, 15, 16, 17, 18, 19, 20], [8, 9, 10, 11, 12, 13, 14, 15, 16, 17, 18, 19, 20], [9, 10, 11, 13, 14, 19, 20], [10, 11, 13, 14, 19, 20], [11, 13, 14, 19, 20], [13, 14, 19, 20], [13, 14, 19, 20], [14, 19, 20], [19, 20], [16, 17, 18, 19, 20], [17, 18, 19, 20], [18, 19, 20], [19, 20], [20], []] rfl rfl follow rfl ⟨
          .inl ⟨wants_plain rfl, does_move _ (.inl rfl) rfl rfl rfl rfl (ar_tmp (av_fs 1 rfl))⟩,
          .inl ⟨wants_plain rfl, does_move _ (.inl rfl) rfl rfl rfl rfl (ar_tmp (av_fs 0 rfl))⟩,
          .inl ⟨wants_plain rfl, does_nil _ rfl rfl rfl rfl rfl (ar_tmp (av_rs 1 1 rfl rfl))⟩,
          .inl ⟨wants_plain rfl, does_field _ _ _ 0 ScopeR_f_collatorref08_Table_0 rfl rfl rfl rfl rfl rfl (pt_ptr (ar_tmp (av_rs 2 2 rfl rfl)))⟩,
          .inl ⟨wants_plain rfl, does_loadOne _ ScopeR_one___string rfl rfl rfl rfl rfl (pt_pt (av_rs 3 3 rfl rfl)) (rds_box (off := 0) (av_fs 2 rfl) (hq_one rfl))⟩,
          .inl ⟨wants_plain rfl, does_len _ _ (by kernel_rfl) rfl rfl rfl rfl rfl (sl_own (av_fs 3 rfl) (ar_tmp (av_rs 4 4 rfl rfl)))⟩,
          .inl ⟨wants_plain rfl, does_cmp (m := ((k : Nat) : Int)) (n := ((d.names.length : Nat) : Int)) _ _ _ _ _ rfl rfl rfl rfl rfl rfl .i64 (ar_tmp (av_rs 0 0 rfl rfl)) (ar_tmp (av_rs 5 5 rfl rfl))⟩,
          .inl ⟨wants_plain rfl, does_move _ (.inl rfl) rfl rfl rfl rfl (ar_tmp (av_rs 6 6 rfl rfl))⟩,
          .inr (skips_guardU false rfl rfl rfl (av_bool hb3 (av_rs 7 7 rfl rfl)) rfl rfl rfl rfl),
          .inr (skips_guardU false rfl rfl rfl (av_bool hb3 (av_rs 7 7 rfl rfl)) rfl rfl rfl rfl),
          .inr (skips_guardU false rfl rfl rfl (av_bool hb3 (av_rs 7 7 rfl rfl)) rfl rfl rfl rfl),
          .inr (skips_guardU false rfl rfl rfl (av_bool hb3 (av_rs 7 7 rfl rfl)) rfl rfl rfl rfl),
          .inr (skips_guardU false rfl rfl rfl (av_bool hb3 (av_rs 7 7 rfl rfl)) rfl rfl rfl rfl),
          .inr (skips_guardU false rfl rfl rfl (av_bool hb3 (av_rs 7 7 rfl rfl)) rfl rfl rfl rfl),
          .inr (skips_guardU false rfl rfl rfl (av_bool hb3 (av_rs 7 7 rfl rfl)) rfl rfl rfl rfl),
          .inr (skips_guardU false rfl rfl rfl (av_bool hb3 (av_rs 7 7 rfl rfl)) rfl rfl rfl rfl),
          .inr (skips_guardU false rfl rfl rfl (av_bool hb3 (av_rs 7 7 rfl rfl)) rfl rfl rfl rfl),
          .inr (skips_guardU false rfl rfl rfl (av_bool hb3 (av_rs 7 7 rfl rfl)) rfl rfl rfl rfl),
          .inr (skips_guardU false rfl rfl rfl (av_bool hb3 (av_rs 7 7 rfl rfl)) rfl rfl rfl rfl),
          .inr (skips_guardU false rfl rfl rfl (av_bool hb3 (av_rs 7 7 rfl rfl)) rfl rfl rfl rfl),
          .inl ⟨wants_plain rfl, does_pick false _ _ _ rfl rfl rfl rfl rfl (ar_tmp (av_bool hb3 (av_rs 7 7 rfl rfl))) (ar_const (fun _ _ => rfl))⟩,
          trivial⟩ ?_
        refine nx_sub (fs' := [.is (.tmp 0) (VP.ptr v), .is (.tmp 5) (VP.int .i64 ((k : Nat) : Int)), .own 0 (.val v) (HA.cells 37 [HA.of (VP.eq un true true), HA.of (VP.eq ut true true), HA.of (VP.eq ua true true), HA.of (VP.int .i64 (d.lv - n))]), .own 101 (.val un) (HA.row 9 1 d.names.length ((d.names.flatMap cStr).map HA.of)), .own 102 (.val ut) (HA.row 3 1 d.told.length ((d.told.flatMap cInt).map HA.of)), .own 103 (.val ua) (HA.row 3 1 d.at_.length ((d.at_.flatMap cInt).map HA.of)), .is (.tmp 22) (VP.int .i64 ((k : Nat) : Int)), .is (.tmp 23) (VP.ptr v), .is (.tmp 24) (VP.ptr v), .pt 25 (.blk (.val v) 0), .is (.tmp 26) (VP.eq un true true), .is (.tmp 27) (VP.int .i64 ((d.names.length : Nat) : Int)), .is (.tmp 28) (VP.bool (decide (((k : Nat) : Int) < ((d.names.length : Nat) : Int)))), .is (.tmp 29) (VP.bool (decide (((k : Nat) : Int) < ((d.names.length : Nat) : Int)))), .is (.tmp 30) (VP.undef), .is (.tmp 31) (VP.undef), .is (.tmp 32) (VP.undef), .is (.tmp 33) (VP.undef), .is (.tmp 34) (VP.undef), .is (.tmp 35) (VP.undef), .is (.tmp 36) (VP.undef), .is (.tmp 37) (VP.undef), .is (.tmp 38) (VP.undef), .is (.tmp 39) (VP.undef), .is (.tmp 40) (VP.undef), .is (.tmp 41) (VP.undef), .is (.tmp 42) (VP.bool false)]) [0, 1, 2, 3, 4, 5, 6, 7, 8, 9, 10, 11, 12, 13, 14, 15, 16, 17, 18, 19, 20, 21, 22, 23, 24, 25, 26] rfl ?_
        refine nx_then ?_
        refine t_cond_f 26 rfl ?_
        refine t_exit ?_
        refine ex_then ?_
        refine ex_then ?_
        refine ex_block ?_
        refine nx_then ?_
        refine t_sub (fs' := [.is (.tmp 0) (VP.ptr v), .is (.tmp 5) (VP.int .i64 ((k : Nat) : Int)), .own 0 (.val v) (HA.cells 37 [HA.of (VP.eq un true true), HA.of (VP.eq ut true true), HA.of (VP.eq ua true true), HA.of (VP.int .i64 (d.lv - n))]), .own 101 (.val un) (HA.row 9 1 d.names.length ((d.names.flatMap cStr).map HA.of)), .own 102 (.val ut) (HA.row 3 1 d.told.length ((d.told.flatMap cInt).map HA.of)), .own 103 (.val ua) (HA.row 3 1 d.at_.length ((d.at_.flatMap cInt).map HA.of))]) [0, 1, 2, 3, 4, 5] rfl ?_
        refine t_seq ?_
        have hcut : d.cut n = k := tw_end hk2 (fun y hy => by rw [List.getElem?_eq_none (by omega)] at hy; cases hy) (by omega)
        refine t_region (F := ⟨_, _, _, _, _, _⟩) [.is (.tmp 0) (VP.ptr v), .is (.tmp 5) (VP.int .i64 ((k : Nat) : Int)), .own 102 (.val ut) (HA.row 3 1 d.told.length ((d.told.flatMap cInt).map HA.of)), .own 103 (.val ua) (HA.row 3 1 d.at_.length ((d.at_.flatMap cInt).map HA.of))] [(9, .own 0 (.val v) (HA.cells 37 [HA.of (VP.eq un true true), HA.of (VP.eq ut true true), HA.of (VP.eq ua true true), HA.of (VP.int .i64 (d.lv - n))])), (6, .own 101 (.val un) (HA.row 9 1 d.names.length ((d.names.flatMap cStr).map HA.of)))] [(0, .is (.tmp 45) (VP.ptr v)), (1, .is (.tmp 46) (VP.ptr v)), (2, .is (.tmp 47) (VP.ptr v)), (3, .pt 48 (.blk (.val v) 0)), (4, .is (.tmp 49) (VP.eq un true true)), (5, .is (.tmp 50) (VP.int .i64 ((k : Nat) : Int))), (7, .is (.tmp 52) (VP.ptr v)), (8, .pt 53 (.blk (.val v) 0)), (9, .own 0 (.val v) (HA.cells 37 [HA.row 9 1 ((d.names.take k).length) (((d.names.take k).flatMap cStr).map HA.of), HA.of (VP.eq ut true true), HA.of (VP.eq ua true true), HA.of (VP.int .i64 (d.lv - n))]))] [(6, 9, .own 101 (.tmp 51) (HA.row 9 1 ((d.names.take k).length) (((d.names.take k).flatMap cStr).map HA.of)))] [0, 1, 4, 5] [2, 3] [[], [], [1], [1, 2], [1, 2, 3], [], [1, 2, 3, 4, 5], [0, 1, 2, 3, 4, 5, 6], [0, 1, 2, 3, 4, 5, 6, 7], [0, 1, 2, 3, 4, 5, 6, 7, 8]] [[7, 8, 9], [2, 3, 4, 6, 7, 8, 9], [3, 4, 6, 7, 8, 9], [4, 6, 7, 8, 9], [6, 7, 8, 9], [6, 7, 8, 9], [7, 8, 9], [8, 9], [9], []] rfl rfl follow rfl ⟨
          .inl ⟨wants_plain rfl, does_move _ (.inl rfl) rfl rfl rfl rfl (ar_tmp (av_fs 0 rfl))⟩,
          .inl ⟨wants_plain rfl, does_move _ (.inl rfl) rfl rfl rfl rfl (ar_tmp (av_fs 0 rfl))⟩,
          .inl ⟨wants_plain rfl, does_nil _ rfl rfl rfl rfl rfl (ar_tmp (av_rs 1 1 rfl rfl))⟩,
          .inl ⟨wants_plain rfl, does_field _ _ _ 0 ScopeR_f_collatorref08_Table_0 rfl rfl rfl rfl rfl rfl (pt_ptr (ar_tmp (av_rs 2 2 rfl rfl)))⟩,
          .inl ⟨wants_plain rfl, does_loadOne _ ScopeR_one___string rfl rfl rfl rfl rfl (pt_pt (av_rs 3 3 rfl rfl)) (rds_box (off := 0) (av_os 0 9 rfl rfl) (hq_one rfl))⟩,
          .inl ⟨wants_plain rfl, does_move _ (.inl rfl) rfl rfl rfl rfl (ar_tmp (av_fs 1 rfl))⟩,
          .inl ⟨wants_plain rfl, does_cutOwn (h := k) _ Try.underlying31 ScopeR_size_string rfl rfl rfl rfl rfl (by simp only [List.length_take]; omega) (by omega) (flat_takeH cStr_len _ _) ⟨_, (ar_tmp (av_rs 5 5 rfl rfl))⟩ (mv_ownv (av_os 1 6 rfl rfl) (ar_tmp (av_rs 4 4 rfl rfl)))⟩,
          .inl ⟨wants_plain rfl, does_nil _ rfl rfl rfl rfl rfl (ar_tmp (av_rs 0 0 rfl rfl))⟩,
          .inl ⟨wants_plain rfl, does_field _ _ _ 0 ScopeR_f_collatorref08_Table_0 rfl rfl rfl rfl rfl rfl (pt_ptr (ar_tmp (av_rs 6 7 rfl rfl)))⟩,
          .inl ⟨wants_plain rfl, does_store (off := 0) (Qs := [HA.row 9 1 ((d.names.take k).length) (((d.names.take k).flatMap cStr).map HA.of)]) _ _ ScopeR_size___string rfl rfl rfl rfl rfl rfl (pt_pt (av_rs 7 8 rfl rfl)) (av_os 0 9 rfl rfl) (cv_one rfl (mv_own (av_ms 0 6 9 rfl rfl rfl)))⟩,
          trivial⟩ ?_
        refine nx_sub (fs' := [.is (.tmp 0) (VP.ptr v), .is (.tmp 5) (VP.int .i64 ((k : Nat) : Int)), .own 102 (.val ut) (HA.row 3 1 d.told.length ((d.told.flatMap cInt).map HA.of)), .own 103 (.val ua) (HA.row 3 1 d.at_.length ((d.at_.flatMap cInt).map HA.of)), .own 0 (.val v) (HA.cells 37 [HA.row 9 1 ((d.names.take k).length) (((d.names.take k).flatMap cStr).map HA.of), HA.of (VP.eq ut true true), HA.of (VP.eq ua true true), HA.of (VP.int .i64 (d.lv - n))])]) [0, 1, 2, 3, 12] rfl ?_
        refine nx_then ?_
        refine t_seq ?_
        refine t_region (F := ⟨_, _, _, _, _, _⟩) [.is (.tmp 0) (VP.ptr v), .is (.tmp 5) (VP.int .i64 ((k : Nat) : Int)), .own 103 (.val ua) (HA.row 3 1 d.at_.length ((d.at_.flatMap cInt).map HA.of))] [(6, .own 102 (.val ut) (HA.row 3 1 d.told.length ((d.told.flatMap cInt).map HA.of))), (9, .own 0 (.val v) (HA.cells 37 [HA.row 9 1 ((d.names.take k).length) (((d.names.take k).flatMap cStr).map HA.of), HA.of (VP.eq ut true true), HA.of (VP.eq ua true true), HA.of (VP.int .i64 (d.lv - n))]))] [(0, .is (.tmp 54) (VP.ptr v)), (1, .is (.tmp 55) (VP.ptr v)), (2, .is (.tmp 56) (VP.ptr v)), (3, .pt 57 (.blk (.val v) 1)), (4, .is (.tmp 58) (VP.eq ut true true)), (5, .is (.tmp 59) (VP.int .i64 ((k : Nat) : Int))), (7, .is (.tmp 61) (VP.ptr v)), (8, .pt 62 (.blk (.val v) 1)), (9, .own 0 (.val v) (HA.cells 37 [HA.row 9 1 ((d.names.take k).length) (((d.names.take k).flatMap cStr).map HA.of), HA.row 3 1 ((d.told.take k).length) (((d.told.take k).flatMap cInt).map HA.of), HA.of (VP.eq ua true true), HA.of (VP.int .i64 (d.lv - n))]))] [(6, 9, .own 102 (.tmp 60) (HA.row 3 1 ((d.told.take k).length) (((d.told.take k).flatMap cInt).map HA.of)))] [0, 1, 3] [2, 4] [[], [], [1], [1, 2], [1, 2, 3], [], [1, 2, 3, 4, 5], [0, 1, 2, 3, 4, 5, 6], [0, 1, 2, 3, 4, 5, 6, 7], [0, 1, 2, 3, 4, 5, 6, 7, 8]] [[7, 8, 9], [2, 3, 4, 6, 7, 8, 9], [3, 4, 6, 7, 8, 9], [4, 6, 7, 8, 9], [6, 7, 8, 9], [6, 7, 8, 9], [7, 8, 9], [8, 9], [9], []] rfl rfl follow rfl ⟨
          .inl ⟨wants_plain rfl, does_move _ (.inl rfl) rfl rfl rfl rfl (ar_tmp (av_fs 0 rfl))⟩,
          .inl ⟨wants_plain rfl, does_move _ (.inl rfl) rfl rfl rfl rfl (ar_tmp (av_fs 0 rfl))⟩,
          .inl ⟨wants_plain rfl, does_nil _ rfl rfl rfl rfl rfl (ar_tmp (av_rs 1 1 rfl rfl))⟩,
          .inl ⟨wants_plain rfl, does_field _ _ _ 1 ScopeR_f_collatorref08_Table_1 rfl rfl rfl rfl rfl rfl (pt_ptr (ar_tmp (av_rs 2 2 rfl rfl)))⟩,
          .inl ⟨wants_plain rfl, does_loadOne _ ScopeR_one___int rfl rfl rfl rfl rfl (pt_pt (av_rs 3 3 rfl rfl)) (rds_box (off := 1) (av_os 1 9 rfl rfl) (hq_one rfl))⟩,
          .inl ⟨wants_plain rfl, does_move _ (.inl rfl) rfl rfl rfl rfl (ar_tmp (av_fs 1 rfl))⟩,
          .inl ⟨wants_plain rfl, does_cutOwn (h := k) _ Try.underlying35 ScopeR_size_int rfl rfl rfl rfl rfl (by simp only [List.length_take]; omega) (by omega) (flat_takeH cInt_len _ _) ⟨_, (ar_tmp (av_rs 5 5 rfl rfl))⟩ (mv_ownv (av_os 0 6 rfl rfl) (ar_tmp (av_rs 4 4 rfl rfl)))⟩,
          .inl ⟨wants_plain rfl, does_nil _ rfl rfl rfl rfl rfl (ar_tmp (av_rs 0 0 rfl rfl))⟩,
          .inl ⟨wants_plain rfl, does_field _ _ _ 1 ScopeR_f_collatorref08_Table_1 rfl rfl rfl rfl rfl rfl (pt_ptr (ar_tmp (av_rs 6 7 rfl rfl)))⟩,
          .inl ⟨wants_plain rfl, does_store (off := 1) (Qs := [HA.row 3 1 ((d.told.take k).length) (((d.told.take k).flatMap cInt).map HA.of)]) _ _ ScopeR_size___int rfl rfl rfl rfl rfl rfl (pt_pt (av_rs 7 8 rfl rfl)) (av_os 1 9 rfl rfl) (cv_one rfl (mv_own (av_ms 0 6 9 rfl rfl rfl)))⟩,
          trivial⟩ ?_
        refine nx_sub (fs' := [.is (.tmp 0) (VP.ptr v), .is (.tmp 5) (VP.int .i64 ((k : Nat) : Int)), .own 103 (.val ua) (HA.row 3 1 d.at_.length ((d.at_.flatMap cInt).map HA.of)), .own 0 (.val v) (HA.cells 37 [HA.row 9 1 ((d.names.take k).length) (((d.names.take k).flatMap cStr).map HA.of), HA.row 3 1 ((d.told.take k).length) (((d.told.take k).flatMap cInt).map HA.of), HA.of (VP.eq ua true true), HA.of (VP.int .i64 (d.lv - n))])]) [0, 1, 2, 11] rfl ?_
        refine nx_then ?_
        refine t_seq ?_
        refine t_region (F := ⟨_, _, _, _, _, _⟩) [.is (.tmp 0) (VP.ptr v), .is (.tmp 5) (VP.int .i64 ((k : Nat) : Int))] [(6, .own 103 (.val ua) (HA.row 3 1 d.at_.length ((d.at_.flatMap cInt).map HA.of))), (9, .own 0 (.val v) (HA.cells 37 [HA.row 9 1 ((d.names.take k).length) (((d.names.take k).flatMap cStr).map HA.of), HA.row 3 1 ((d.told.take k).length) (((d.told.take k).flatMap cInt).map HA.of), HA.of (VP.eq ua true true), HA.of (VP.int .i64 (d.lv - n))]))] [(0, .is (.tmp 63) (VP.ptr v)), (1, .is (.tmp 64) (VP.ptr v)), (2, .is (.tmp 65) (VP.ptr v)), (3, .pt 66 (.blk (.val v) 2)), (4, .is (.tmp 67) (VP.eq ua true true)), (5, .is (.tmp 68) (VP.int .i64 ((k : Nat) : Int))), (7, .is (.tmp 70) (VP.ptr v)), (8, .pt 71 (.blk (.val v) 2)), (9, .own 0 (.val v) (HA.cells 37 [HA.row 9 1 ((d.names.take k).length) (((d.names.take k).flatMap cStr).map HA.of), HA.row 3 1 ((d.told.take k).length) (((d.told.take k).flatMap cInt).map HA.of), HA.row 3 1 ((d.at_.take k).length) (((d.at_.take k).flatMap cInt).map HA.of), HA.of (VP.int .i64 (d.lv - n))]))] [(6, 9, .own 103 (.tmp 69) (HA.row 3 1 ((d.at_.take k).length) (((d.at_.take k).flatMap cInt).map HA.of)))] [0, 1] [2, 3] [[], [], [1], [1, 2], [1, 2, 3], [], [1, 2, 3, 4, 5], [0, 1, 2, 3, 4, 5, 6], [0, 1, 2, 3, 4, 5, 6, 7], [0, 1, 2, 3, 4, 5, 6, 7, 8]] [[7, 8, 9], [2, 3, 4, 6, 7, 8, 9], [3, 4, 6, 7, 8, 9], [4, 6, 7, 8, 9], [6, 7, 8, 9], [6, 7, 8, 9], [7, 8, 9], [8, 9], [9], []] rfl rfl follow rfl ⟨
          .inl ⟨wants_plain rfl, does_move _ (.inl rfl) rfl rfl rfl rfl (ar_tmp (av_fs 0 rfl))⟩,
          .inl ⟨wants_plain rfl, does_move _ (.inl rfl) rfl rfl rfl rfl (ar_tmp (av_fs 0 rfl))⟩,
          .inl ⟨wants_plain rfl, does_nil _ rfl rfl rfl rfl rfl (ar_tmp (av_rs 1 1 rfl rfl))⟩,
          .inl ⟨wants_plain rfl, does_field _ _ _ 2 ScopeR_f_collatorref08_Table_2 rfl rfl rfl rfl rfl rfl (pt_ptr (ar_tmp (av_rs 2 2 rfl rfl)))⟩,
          .inl ⟨wants_plain rfl, does_loadOne _ ScopeR_one___int rfl rfl rfl rfl rfl (pt_pt (av_rs 3 3 rfl rfl)) (rds_box (off := 2) (av_os 1 9 rfl rfl) (hq_one rfl))⟩,
          .inl ⟨wants_plain rfl, does_move _ (.inl rfl) rfl rfl rfl rfl (ar_tmp (av_fs 1 rfl))⟩,
          .inl ⟨wants_plain rfl, does_cutOwn (h := k) _ Try.underlying35 ScopeR_size_int rfl rfl rfl rfl rfl (by simp only [List.length_take]; omega) (by omega) (flat_takeH cInt_len _ _) ⟨_, (ar_tmp (av_rs 5 5 rfl rfl))⟩ (mv_ownv (av_os 0 6 rfl rfl) (ar_tmp (av_rs 4 4 rfl rfl)))⟩,
          .inl ⟨wants_plain rfl, does_nil _ rfl rfl rfl rfl rfl (ar_tmp (av_rs 0 0 rfl rfl))⟩,
          .inl ⟨wants_plain rfl, does_field _ _ _ 2 ScopeR_f_collatorref08_Table_2 rfl rfl rfl rfl rfl rfl (pt_ptr (ar_tmp (av_rs 6 7 rfl rfl)))⟩,
          .inl ⟨wants_plain rfl, does_store (off := 2) (Qs := [HA.row 3 1 ((d.at_.take k).length) (((d.at_.take k).flatMap cInt).map HA.of)]) _ _ ScopeR_size___int rfl rfl rfl rfl rfl rfl (pt_pt (av_rs 7 8 rfl rfl)) (av_os 1 9 rfl rfl) (cv_one rfl (mv_own (av_ms 0 6 9 rfl rfl rfl)))⟩,
          trivial⟩ ?_
        refine nx_sub (fs' := [.own 0 (.val v) (HA.cells 37 [HA.row 9 1 ((d.names.take k).length) (((d.names.take k).flatMap cStr).map HA.of), HA.row 3 1 ((d.told.take k).length) (((d.told.take k).flatMap cInt).map HA.of), HA.row 3 1 ((d.at_.take k).length) (((d.at_.take k).flatMap cInt).map HA.of), HA.of (VP.int .i64 (d.lv - n))])]) [10] rfl ?_
        refine nx_then ?_
        refine t_seq ?_
        refine t_region (F := ⟨_, _, _, _, _, _⟩) [.own 0 (.val v) (HA.cells 37 [HA.row 9 1 ((d.names.take k).length) (((d.names.take k).flatMap cStr).map HA.of), HA.row 3 1 ((d.told.take k).length) (((d.told.take k).flatMap cInt).map HA.of), HA.row 3 1 ((d.at_.take k).length) (((d.at_.take k).flatMap cInt).map HA.of), HA.of (VP.int .i64 (d.lv - n))])] [] [(0, .is (.tmp 4) (VP.int .i64 0))] [] [0] [] [[]] [[]] rfl rfl follow rfl ⟨
          .inl ⟨wants_plain rfl, does_move _ (.inr rfl) rfl rfl rfl rfl (ar_const (fun _ _ => rfl))⟩,
          trivial⟩ ?_
        refine nx_sub (fs' := [.own 0 (.val v) (HA.cells 37 [HA.row 9 1 ((d.names.take k).length) (((d.names.take k).flatMap cStr).map HA.of), HA.row 3 1 ((d.told.take k).length) (((d.told.take k).flatMap cInt).map HA.of), HA.row 3 1 ((d.at_.take k).length) (((d.at_.take k).flatMap cInt).map HA.of), HA.of (VP.int .i64 (d.lv - n))]), .is (.tmp 4) (VP.int .i64 0)]) [0, 1] rfl ?_
        refine nx_then ?_
        refine t_sub (fs' := [.own 0 (.val v) (HA.cells 37 [HA.row 9 1 ((d.names.take k).length) (((d.names.take k).flatMap cStr).map HA.of), HA.row 3 1 ((d.told.take k).length) (((d.told.take k).flatMap cInt).map HA.of), HA.row 3 1 ((d.at_.take k).length) (((d.at_.take k).flatMap cInt).map HA.of), HA.of (VP.int .i64 (d.lv - n))]), .is (.tmp 4) (VP.int .i64 0)]) [0, 1] rfl ?_
        refine t_sub (fs' := [.own 0 (.val v) (HA.cells 37 [HA.row 9 1 ((d.names.take k).length) (((d.names.take k).flatMap cStr).map HA.of), HA.row 3 1 ((d.told.take k).length) (((d.told.take k).flatMap cInt).map HA.of), HA.row 3 1 ((d.at_.take k).length) (((d.at_.take k).flatMap cInt).map HA.of), HA.of (VP.int .i64 (d.lv - n))]), .is (.tmp 4) (VP.int .i64 0)]) [0, 1] rfl ?_
        refine t_weak (R' := RefT (d.pop n)) (fun Z v w S h => by rw [show d.pop n = ⟨d.names.take k, d.told.take k, d.at_.take k, d.lv - n⟩ from (if_pos (by omega)).trans (by rw [hcut])]; exact h) rfl ?_
        refine t_sub (fs' := [.own 0 (.val v) (RefT (d.pop n)), .is (.tmp 4) (VP.int .i64 0)]) [0, 1] rfl ?_
        refine t_ret ?_
        exact rt_post [HA.of (VP.int .i64 (d.popE n))] [[]] [0] [0] rfl ⟨(rv_eq (congrArg HA.of (congrArg (VP.int .i64) (show (0 : Int) = d.popE n from Eq.symm ((if_neg (by omega)).trans (if_neg (by omega)))))) (rv_vp 1 rfl)), trivial⟩ (by decide) rfl rfl

end O
end Go.Proofs.Ytogodjiemgilaaa

/- The table of the program and the document's one tell the same, whatever is done. No program stands in this text. -/
namespace Go.Proofs.Ytogodjiemgilaaa
open Go.RowKit
namespace O
theorem tl_iff (x s : ByteArray) : (x.toList == s.toList) = true ↔ x = s := by
  rw [beq_iff_eq]
  refine ⟨fun h => ?_, fun h => by rw [h]⟩
  simp only [ByteArray.toList_eq] at h
  cases x; cases s
  simp at h
  simpa using h
structure Rel (t : TabD Int) (r : RefD) : Prop where
  names : t.names = r.names
  told : t.told = r.names.zip r.told
  lt : r.told.length = r.names.length
  la : r.at_.length = r.names.length
  lv : r.lv = t.levels.length
  nd : r.names.Nodup
  le : ∀ x ∈ r.at_, x ≤ r.lv
  cnt : ∀ (j c : Nat), t.levels[j]? = some c → c = (r.at_.takeWhile fun x => decide (x ≤ (j : Int))).length
theorem rel_nil : Rel ⟨[], [], []⟩ ⟨[], [], [], 0⟩ := ⟨rfl, rfl, rfl, rfl, rfl, List.nodup_nil, fun _ h => (by cases h), fun j c h => by simp at h⟩
theorem tw_le (l : List Int) (p : Int → Bool) : (l.takeWhile p).length ≤ l.length := (List.takeWhile_prefix p).length_le
section
variable {t : TabD Int} {r : RefD}
theorem rel_lvl (h : Rel t r) : ∀ x ∈ t.levels, x ≤ t.names.length := fun x hx => by
  obtain ⟨j, hj, rfl⟩ := List.mem_iff_getElem.1 hx
  rw [h.cnt j _ (List.getElem?_eq_getElem hj), h.names, ← h.la]
  exact tw_le _ _
theorem mfind_zip {s : ByteArray} : ∀ {l : List ByteArray} {q : List Int}, q.length = l.length → (∀ i, l.findIdx? (fun y => y.toList == s.toList) = some i → ∃ x, q[i]? = some x ∧ mfind mkStr s (l.zip q) = some x) ∧ (l.findIdx? (fun y => y.toList == s.toList) = none → mfind mkStr s (l.zip q) = none)
  | [], [], _ => ⟨fun i h => by simp at h, fun _ => rfl⟩
  | y :: l, x :: q, h => by
    obtain ⟨i1, i2⟩ := mfind_zip (s := s) (l := l) (q := q) (by simpa using h)
    rw [List.findIdx?_cons, List.zip_cons_cons]
    unfold mfind
    by_cases e : y = s
    · subst e
      have h1 : (y.toList == y.toList) = true := (tl_iff y y).2 rfl
      have h2 : mkStr.eqv y y = true := (mkStr.eqv_iff y y).2 rfl
      simp only [h1, h2, if_true]
      exact ⟨fun i hi => by injection hi with hi; subst hi; exact ⟨x, rfl, rfl⟩, fun hi => by cases hi⟩
    · have h1 : (y.toList == s.toList) = false := Bool.eq_false_iff.2 fun h => e ((tl_iff y s).1 h)
      have h2 : mkStr.eqv s y = false := Bool.eq_false_iff.2 fun h => e ((mkStr.eqv_iff s y).1 h).symm
      simp only [h1, h2, Bool.false_eq_true, if_false]
      refine ⟨fun i hi => ?_, fun hi => ?_⟩
      · obtain ⟨j, hj, rfl⟩ := Option.map_eq_some_iff.1 hi
        obtain ⟨x', e1, e2⟩ := i1 j hj
        exact ⟨x', by simpa using e1, e2⟩
      · exact i2 (by simpa using hi)
  | [], _ :: _, h => by simp at h
  | _ :: _, [], h => by simp at h
theorem rel_is (h : Rel t r) (s : ByteArray) : (mfind mkStr s t.told).isSome = decide (fidx s r.names ≥ 0) := by
  obtain ⟨h1, h2⟩ := mfind_zip (s := s) h.lt
  rw [h.told]
  unfold fidx
  cases hf : r.names.findIdx? (fun y => y.toList == s.toList) with
  | none => rw [h2 hf]; rfl
  | some i => obtain ⟨x, _, e⟩ := h1 i hf; rw [e]; exact (decide_eq_true (show ((i : Nat) : Int) ≥ 0 by omega)).symm
theorem rel_val (h : Rel t r) {s : ByteArray} (hs : (mfind mkStr s t.told).isSome = true) : r.told[(fidx s r.names).toNat]? = some ((mfind mkStr s t.told).getD 0) := by
  obtain ⟨h1, h2⟩ := mfind_zip (s := s) h.lt
  rw [h.told] at hs ⊢
  unfold fidx
  cases hf : r.names.findIdx? (fun y => y.toList == s.toList) with
  | none => rw [h2 hf] at hs; cases hs
  | some i => obtain ⟨x, e1, e2⟩ := h1 i hf; rw [e2]; simpa using e1
theorem rel_lt (h : Rel t r) {s : ByteArray} (hs : (mfind mkStr s t.told).isSome = true) : (fidx s r.names).toNat < r.told.length := (List.getElem?_eq_some_iff.1 (rel_val h hs)).1
theorem rel_ge (h : Rel t r) {s : ByteArray} (hs : (mfind mkStr s t.told).isSome = true) : 0 ≤ fidx s r.names := by
  rw [rel_is h s] at hs; exact of_decide_eq_true hs
theorem rel_none {s : ByteArray} (hs : (mfind mkStr s t.told).isSome = false) : (mfind mkStr s t.told).getD 0 = 0 := by
  cases hm : mfind mkStr s t.told with
  | none => rfl
  | some x => rw [hm] at hs; cases hs
theorem rel_bindE (h : Rel t r) (s : ByteArray) : r.bindE s = t.bindE s := by
  unfold RefD.bindE TabD.bindE
  rw [rel_is h s]
  by_cases hc : fidx s r.names ≥ 0
  · rw [if_pos hc, decide_eq_true hc]; rfl
  · rw [if_neg hc, decide_eq_false hc]; rfl
theorem not_mem {s : ByteArray} {l : List ByteArray} (h : ¬ fidx s l ≥ 0) : s ∉ l := fun hm => by
  unfold fidx at h
  cases hf : l.findIdx? (fun y => y.toList == s.toList) with
  | some i => rw [hf] at h; exact h (by show ((i : Nat) : Int) ≥ 0; omega)
  | none =>
    rw [List.findIdx?_eq_none_iff] at hf
    have := hf s hm
    rw [(tl_iff s s).2 rfl] at this; cases this
theorem tw_snoc (l : List Int) (p : Int → Bool) {x : Int} (hx : p x = false) : (l ++ [x]).takeWhile p = l.takeWhile p := by
  induction l with
  | nil => rw [List.nil_append, List.takeWhile_cons, hx]; rfl
  | cons y l ih =>
    rw [List.cons_append, List.takeWhile_cons, List.takeWhile_cons, ih]
theorem rel_bind (h : Rel t r) (s : ByteArray) (x : Int) : Rel (t.bind s x) (r.bind s x) := by
  unfold RefD.bind TabD.bind
  rw [rel_is h s]
  by_cases hc : fidx s r.names ≥ 0
  · rw [if_pos hc, decide_eq_true hc]; exact h
  · rw [if_neg hc, decide_eq_false hc]
    have hno := not_mem hc
    have hput : mput mkStr s x t.told = t.told ++ [(s, x)] := by
      have h2 := (mfind_zip (s := s) h.lt).2
      rw [mput_idx]
      have : (t.told.map (·.1)).findIdx? (fun y => mkStr.eqv s y) = none := by
        rw [List.findIdx?_eq_none_iff]
        intro y hy
        refine Bool.eq_false_iff.2 fun e => hno ?_
        have := (mkStr.eqv_iff s y).1 e
        subst this
        rw [h.told] at hy
        obtain ⟨p, hp, rfl⟩ := List.mem_map.1 hy
        exact (List.of_mem_zip hp).1
      rw [this]
    refine ⟨by show t.names ++ [s] = r.names ++ [s]; rw [h.names], ?_, by simp [h.lt], by simp [h.la], h.lv, ?_, fun y hy => ?_, fun j c hj => ?_⟩
    · show mput mkStr s x t.told = (r.names ++ [s]).zip (r.told ++ [x])
      rw [hput, h.told, List.zip_append h.lt.symm]; rfl
    · show (r.names ++ [s]).Nodup
      exact List.nodup_append.2 ⟨h.nd, by simp, fun a ha b hb e => by simp only [List.mem_singleton] at hb; subst hb e; exact hno ha⟩
    · have hy : y ∈ r.at_ ++ [r.lv] := hy
      rcases List.mem_append.1 hy with hy | hy
      · exact h.le y hy
      · simp only [List.mem_singleton] at hy; rw [hy]; exact Int.le_refl _
    · have hj' : t.levels[j]? = some c := hj
      have hlt := (List.getElem?_eq_some_iff.1 hj').1
      show c = ((r.at_ ++ [r.lv]).takeWhile _).length
      rw [tw_snoc _ _ (decide_eq_false (by rw [h.lv]; omega))]
      exact h.cnt j c hj'
theorem rel_pushE (h : Rel t r) (n : Int) : r.pushE n = t.pushE n := by unfold RefD.pushE TabD.pushE; rw [h.lv]
theorem tw_all {p : Int → Bool} : ∀ {l : List Int}, (∀ x ∈ l, p x = true) → l.takeWhile p = l
  | [], _ => rfl
  | y :: l, h => by
    rw [List.takeWhile_cons, h y List.mem_cons_self, if_pos rfl, tw_all fun x hx => h x (List.mem_cons_of_mem _ hx)]
theorem tw_mem {p : Int → Bool} : ∀ {l : List Int} {x : Int}, x ∈ l.takeWhile p → p x = true
  | [], _, h => by cases h
  | y :: l, x, h => by
    rw [List.takeWhile_cons] at h
    by_cases e : p y = true
    · rw [if_pos e] at h
      rcases List.mem_cons.1 h with rfl | h
      · exact e
      · exact tw_mem h
    · rw [if_neg e] at h; cases h
theorem zip_take {α β : Type} : ∀ (n : Nat) (l : List α) (q : List β), (l.zip q).take n = (l.take n).zip (q.take n)
  | 0, _, _ => by simp
  | n + 1, [], _ => by simp
  | n + 1, _ :: _, [] => by simp
  | n + 1, a :: l, b :: q => by simp [zip_take n l q]
theorem rel_push (h : Rel t r) (n : Int) : Rel (t.push n) (r.push n) := by
  unfold RefD.push TabD.push
  rw [h.lv]
  by_cases hc : 0 ≤ n ∧ n ≤ 1000 - (t.levels.length : Int)
  · rw [if_pos hc, if_pos hc]
    refine ⟨h.names, h.told, h.lt, h.la, ?_, h.nd, fun y hy => ?_, fun j c hj => ?_⟩
    · show (t.levels.length : Int) + n = ((t.levels ++ List.replicate n.toNat t.names.length).length : Int)
      rw [List.length_append, List.length_replicate]; omega
    · have := h.le y hy
      show y ≤ (t.levels.length : Int) + n
      rw [h.lv] at this; omega
    · have hj' : (t.levels ++ List.replicate n.toNat t.names.length)[j]? = some c := hj
      by_cases hlt : j < t.levels.length
      · rw [List.getElem?_append_left hlt] at hj'
        exact h.cnt j c hj'
      · rw [List.getElem?_append_right (by omega)] at hj'
        have hc' : c = t.names.length := by
          have := List.mem_of_getElem? hj'
          exact (List.mem_replicate.1 this).2
        show c = (r.at_.takeWhile _).length
        rw [tw_all fun x hx => decide_eq_true (by have := h.le x hx; rw [h.lv] at this; omega), hc', h.names, h.la]
  · rw [if_neg hc, if_neg hc]; exact h
theorem rel_popE (h : Rel t r) (n : Int) : r.popE n = t.popE n := by unfold RefD.popE TabD.popE; rw [h.lv]
theorem mdel_app {κ β : Type} (K : MKey κ) {k : κ} {x : β} : ∀ {A B : List (κ × β)}, k ∉ A.map (·.1) → mdel K k (A ++ (k, x) :: B) = A ++ B
  | [], B, _ => by
    rw [List.nil_append]
    unfold mdel
    rw [(K.eqv_iff k k).2 rfl]; rfl
  | a :: A, B, h => by
    rw [List.map_cons, List.mem_cons, not_or] at h
    rw [List.cons_append]
    unfold mdel
    rw [Bool.eq_false_iff.2 fun e => h.1 ((K.eqv_iff k a.1).1 e)]
    simp only [Bool.false_eq_true, if_false]
    rw [mdel_app K h.2]; rfl
theorem dels_app {β : Type} : ∀ {B A : List (ByteArray × β)}, (∀ k ∈ B.map (·.1), k ∉ A.map (·.1)) → dels (B.map (·.1)) (A ++ B) = A
  | [], A, _ => by simp [dels]
  | b :: B, A, h => by
    unfold dels
    rw [List.map_cons, List.foldl_cons, show b = (b.1, b.2) from rfl, mdel_app mkStr (h b.1 (by simp))]
    exact dels_app fun k hk => h k (by simp at hk ⊢; exact .inr hk)
theorem take_tw {l : List Int} {p q : Int → Bool} (h : ∀ x, q x = true → p x = true) : (l.take (l.takeWhile p).length).takeWhile q = l.takeWhile q := by
  induction l with
  | nil => rfl
  | cons x l ih =>
    rw [List.takeWhile_cons]
    cases hp : p x with
    | true =>
      simp only [if_true, List.length_cons, List.take_succ_cons, List.takeWhile_cons, ih]
    | false =>
      have : q x = false := Bool.eq_false_iff.2 fun e => by rw [h x e] at hp; cases hp
      simp [this]
theorem rel_left (h : Rel t r) {n : Int} (h0 : 0 < n) (h1 : n ≤ t.levels.length) : t.left n = r.cut n := by
  have := h.cnt _ _ (t.left_get h0 h1)
  unfold RefD.cut
  rw [this, h.lv]
  have e : ((t.levels.length - n.toNat : Nat) : Int) = (t.levels.length : Int) - n := by omega
  rw [e]
theorem rel_pop (h : Rel t r) (n : Int) : Rel (t.pop n) (r.pop n) := by
  unfold RefD.pop TabD.pop
  rw [h.lv]
  by_cases h0 : n = 0
  · subst h0
    rw [if_neg (by omega), if_pos (by omega)]
    have hall : r.cut 0 = r.names.length := by
      unfold RefD.cut
      rw [tw_all fun x hx => decide_eq_true (by have := h.le x hx; omega), h.la]
    rw [hall, List.take_of_length_le (Nat.le_refl _), List.take_of_length_le (by rw [h.lt]; exact Nat.le_refl _), List.take_of_length_le (by rw [h.la]; exact Nat.le_refl _)]
    have : (⟨r.names, r.told, r.at_, (t.levels.length : Int) - 0⟩ : RefD) = r := by
      cases r
      have := h.lv
      simp at this
      simp [this]
    rw [this]; exact h
  by_cases hc : 0 < n ∧ n ≤ (t.levels.length : Int)
  · rw [if_pos hc, if_pos (by omega)]
    have hl := rel_left h hc.1 hc.2
    have hcl : r.cut n ≤ r.names.length := by rw [← h.la]; exact tw_le _ _
    rw [hl, h.names]
    have hz : (r.names.zip r.told).map (·.1) = r.names := by rw [List.map_fst_zip (by rw [h.lt]; exact Nat.le_refl _)]
    have hdel : dels (r.names.drop (r.cut n)) t.told = (r.names.take (r.cut n)).zip (r.told.take (r.cut n)) := by
      rw [h.told, ← zip_take]
      have e1 : r.names.drop (r.cut n) = ((r.names.zip r.told).drop (r.cut n)).map (·.1) := by rw [List.map_drop, hz]
      have e2 : r.names.zip r.told = (r.names.zip r.told).take (r.cut n) ++ (r.names.zip r.told).drop (r.cut n) := (List.take_append_drop _ _).symm
      rw [e1]
      conv => lhs; rw [e2]
      have e3 : (List.take (r.cut n) (r.names.zip r.told) ++ List.drop (r.cut n) (r.names.zip r.told)).drop (r.cut n) = (r.names.zip r.told).drop (r.cut n) := by rw [List.take_append_drop]
      rw [e3]
      refine dels_app fun k hk hk' => ?_
      rw [List.map_drop, hz] at hk
      rw [List.map_take, hz] at hk'
      have hnd := h.nd
      rw [← List.take_append_drop (r.cut n) r.names] at hnd
      exact (List.nodup_append.1 hnd).2.2 k hk' k hk rfl
    refine ⟨rfl, hdel, by simp [h.lt], by simp [h.la], ?_, ?_, fun y hy => ?_, fun j c hj => ?_⟩
    · show (t.levels.length : Int) - n = ((t.levels.take (t.levels.length - n.toNat)).length : Int)
      rw [List.length_take]; omega
    · exact h.nd.sublist (List.take_sublist _ _)
    · have hy : y ∈ r.at_.take (r.cut n) := hy
      have e : r.at_.take (r.cut n) = r.at_.takeWhile fun x => decide (x ≤ r.lv - n) := by
        have hp := List.takeWhile_prefix (l := r.at_) (fun x => decide (x ≤ r.lv - n))
        exact (List.prefix_iff_eq_take.1 hp).symm
      rw [e] at hy
      have := tw_mem hy
      have := of_decide_eq_true this
      rw [h.lv] at this; exact this
    · have hj' : (t.levels.take (t.levels.length - n.toNat))[j]? = some c := hj
      rw [List.getElem?_take] at hj'
      split at hj'
      · rename_i hlt
        show c = ((r.at_.take (r.cut n)).takeWhile _).length
        unfold RefD.cut
        rw [take_tw fun x hx => decide_eq_true (by have := of_decide_eq_true hx; rw [h.lv]; omega)]
        exact h.cnt j c hj'
      · cases hj'
  · rw [if_neg hc]
    have : ¬ (0 ≤ n ∧ n ≤ (t.levels.length : Int)) := by omega
    rw [if_neg this]; exact h
theorem rel_len_bind (s : ByteArray) (x : Int) : (t.bind s x).names.length ≤ t.names.length + 1 := by
  unfold TabD.bind; split
  · omega
  · simp
theorem rel_len_push (n : Int) : (t.push n).names = t.names := by unfold TabD.push; split <;> rfl
theorem rel_len_pop (n : Int) : (t.pop n).names.length ≤ t.names.length := by
  unfold TabD.pop; split
  · exact (List.take_sublist _ _).length_le
  · exact Nat.le_refl _
theorem rel_lv_push (n : Int) (h : t.levels.length ≤ 1000) : (t.push n).levels.length ≤ 1000 := by
  unfold TabD.push; split
  · simp only [List.length_append, List.length_replicate]; omega
  · exact h
theorem rel_lv_pop (n : Int) (h : t.levels.length ≤ 1000) : (t.pop n).levels.length ≤ 1000 := by
  unfold TabD.pop; split
  · exact Nat.le_trans (List.take_sublist _ _).length_le h
  · exact h
theorem rel_lv_bind (s : ByteArray) (x : Int) : (t.bind s x).levels = t.levels := by unfold TabD.bind; split <;> rfl
end
end O
end Go.Proofs.Ytogodjiemgilaaa
