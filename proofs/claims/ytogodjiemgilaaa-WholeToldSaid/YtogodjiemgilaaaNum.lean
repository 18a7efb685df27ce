/- Plain facts on numbers and their digits to some base. No program stands in this text. -/
import Derived.RowKit
namespace Go.Proofs.Ytogodjiemgilaaa

/-- the digits of n to the base B, the least one first, no nought at the end; with fuel -/
def dgF (B : Nat) : Nat → Nat → List Nat
  | 0, _ => []
  | f + 1, n => if n = 0 then [] else n % B :: dgF B f (n / B)
def dg (B n : Nat) : List Nat := dgF B n n
/-- the number of digits -/
def val (B : Nat) : List Nat → Nat
  | [] => 0
  | d :: l => d + B * val B l
/-- the i lowest digits of k -/
def fixd (B i k : Nat) : List Nat := (List.range i).map fun j => k / B ^ j % B

theorem dgF_fuel {B : Nat} (hB : 1 < B) : ∀ (f g n : Nat), n ≤ f → n ≤ g → dgF B f n = dgF B g n := by
  intro f
  induction f with
  | zero => intro g n h _; obtain rfl : n = 0 := by omega
            cases g <;> simp [dgF]
  | succ f ih =>
    intro g n h1 h2
    by_cases hn : n = 0
    · subst hn; cases g <;> simp [dgF]
    · cases g with
      | zero => omega
      | succ g =>
        have hd : n / B < n := Nat.div_lt_self (by omega) hB
        simp only [dgF, if_neg hn]
        rw [ih g (n / B) (by omega) (by omega)]
theorem dg_zero (B : Nat) : dg B 0 = [] := rfl
theorem dg_pos {B : Nat} (hB : 1 < B) {n : Nat} (hn : 0 < n) : dg B n = n % B :: dg B (n / B) := by
  unfold dg
  obtain ⟨m, rfl⟩ : ∃ m, n = m + 1 := ⟨n - 1, by omega⟩
  have hd : (m + 1) / B < m + 1 := Nat.div_lt_self (by omega) hB
  conv => lhs; unfold dgF
  rw [if_neg (by omega), dgF_fuel hB m ((m + 1) / B) ((m + 1) / B) (by omega) (Nat.le_refl _)]

theorem dg_get {B : Nat} (hB : 1 < B) : ∀ (i n : Nat), (dg B n)[i]? = if B ^ i ≤ n then some (n / B ^ i % B) else none := by
  intro i
  induction i with
  | zero =>
    intro n
    rcases Nat.eq_zero_or_pos n with rfl | hn
    · simp [dg_zero]
    · rw [dg_pos hB hn]; simp; omega
  | succ i ih =>
    intro n
    rcases Nat.eq_zero_or_pos n with rfl | hn
    · have : 0 < B ^ (i + 1) := Nat.pow_pos (by omega)
      simp [dg_zero]; omega
    · rw [dg_pos hB hn, List.getElem?_cons_succ, ih (n / B)]
      have e : B ^ i ≤ n / B ↔ B ^ (i + 1) ≤ n := by rw [Nat.le_div_iff_mul_le (by omega), Nat.pow_succ]
      simp only [e]
      rw [Nat.div_div_eq_div_mul, Nat.pow_succ, Nat.mul_comm B]

theorem dg_len_lt {B : Nat} (hB : 1 < B) (i n : Nat) : i < (dg B n).length ↔ B ^ i ≤ n := by
  have h := dg_get hB i n
  constructor
  · intro hl
    rw [List.getElem?_eq_getElem hl] at h
    split at h
    · assumption
    · cases h
  · intro hl
    rw [if_pos hl] at h
    exact (List.getElem?_eq_some_iff.1 h).1
theorem dg_len_le {B : Nat} (hB : 1 < B) (i n : Nat) : (dg B n).length ≤ i ↔ n < B ^ i := by
  have := dg_len_lt hB i n; omega
theorem lt_pow_len {B : Nat} (hB : 1 < B) (n : Nat) : n < B ^ (dg B n).length := (dg_len_le hB _ n).1 (Nat.le_refl _)
theorem dg_at {B : Nat} (hB : 1 < B) {i n : Nat} (h : i < (dg B n).length) : (dg B n)[i] = n / B ^ i % B := by
  have := dg_get hB i n
  rw [List.getElem?_eq_getElem h, if_pos ((dg_len_lt hB i n).1 h)] at this
  exact Option.some.inj this
theorem dg_lt {B : Nat} (hB : 1 < B) {n d : Nat} (h : d ∈ dg B n) : d < B := by
  obtain ⟨i, hi, rfl⟩ := List.mem_iff_getElem.1 h
  rw [dg_at hB hi]; exact Nat.mod_lt _ (by omega)

theorem val_dg {B : Nat} (hB : 1 < B) : ∀ (n : Nat), val B (dg B n) = n := by
  intro n
  induction n using Nat.strongRecOn with
  | _ n ih =>
    rcases Nat.eq_zero_or_pos n with rfl | hn
    · rfl
    · rw [dg_pos hB hn]
      have hd : n / B < n := Nat.div_lt_self (by omega) hB
      simp only [val]
      rw [ih _ hd]
      exact Nat.mod_add_div n B
theorem dg_inj {B : Nat} (hB : 1 < B) {n m : Nat} (h : dg B n = dg B m) : n = m := by rw [← val_dg hB n, h, val_dg hB m]
theorem dg_nil {B : Nat} (hB : 1 < B) (n : Nat) : dg B n = [] ↔ n = 0 := by
  constructor
  · intro h; have := val_dg hB n; rw [h] at this; exact this.symm
  · rintro rfl; rfl
theorem dg_len0 {B : Nat} (hB : 1 < B) (n : Nat) : (dg B n).length = 0 ↔ n = 0 := by rw [List.length_eq_zero_iff]; exact dg_nil hB n

/-! ### lists of digits that may end in noughts -/

theorem val_append (B : Nat) (a b : List Nat) : val B (a ++ b) = val B a + B ^ a.length * val B b := by
  induction a with
  | nil => simp [val]
  | cons d a ih => simp only [List.cons_append, val, ih, List.length_cons, Nat.pow_succ, Nat.mul_add]; rw [Nat.mul_comm (B ^ a.length) B, Nat.mul_assoc]; omega
theorem val_lt {B : Nat} (hB : 1 < B) {l : List Nat} (h : ∀ d ∈ l, d < B) : val B l < B ^ l.length := by
  induction l with
  | nil => simp [val]
  | cons d l ih =>
    have h1 := h d (by simp)
    have h2 := ih fun x hx => h x (by simp [hx])
    simp only [val, List.length_cons, Nat.pow_succ]
    have : B * (val B l + 1) ≤ B * B ^ l.length := Nat.mul_le_mul_left _ h2
    rw [Nat.mul_comm (B ^ l.length) B]; rw [Nat.mul_add] at this; omega
theorem val_zero {B : Nat} (l : List Nat) (h : ∀ d ∈ l, d = 0) : val B l = 0 := by
  induction l with
  | nil => rfl
  | cons d l ih => simp only [val]; rw [h d (by simp), ih fun x hx => h x (by simp [hx])]; simp
/-- a list with digits below B whose last one is not nought is what its number has -/
theorem dg_val {B : Nat} (hB : 1 < B) : ∀ (l : List Nat), (∀ d ∈ l, d < B) → (∀ h : l ≠ [], l.getLast h ≠ 0) → dg B (val B l) = l := by
  intro l
  induction l with
  | nil => intro _ _; rfl
  | cons d l ih =>
    intro h1 h2
    have hd := h1 d (by simp)
    have ih' := ih (fun x hx => h1 x (by simp [hx])) (fun hne => by have := h2 (by simp); rwa [List.getLast_cons hne] at this)
    have hpos : 0 < val B (d :: l) := by
      simp only [val]
      cases l with
      | nil => have := h2 (by simp); simp at this; omega
      | cons e l =>
        have : 0 < val B (e :: l) := by
          rcases Nat.eq_zero_or_pos (val B (e :: l)) with h0 | h0
          · rw [h0] at ih'; simp [dg_zero] at ih'
          · exact h0
        have := Nat.mul_pos (show 0 < B by omega) this
        omega
    rw [dg_pos hB hpos]
    simp only [val]
    rw [Nat.add_mul_mod_self_left, Nat.mod_eq_of_lt hd, Nat.add_mul_div_left _ _ (by omega), Nat.div_eq_of_lt hd, Nat.zero_add, ih']

/-- the list without noughts at its end: its number's digits -/
theorem dg_strip {B : Nat} (hB : 1 < B) (l : List Nat) (hl : ∀ d ∈ l, d < B) (n : Nat) (hn : n ≤ l.length) (hz : ∀ i, n ≤ i → l[i]?.getD 0 = 0) (hlast : n = 0 ∨ l[n - 1]?.getD 0 ≠ 0) : l.take n = dg B (val B l) := by
  have e : val B l = val B (l.take n) := by
    conv => lhs; rw [← List.take_append_drop n l]
    rw [val_append]
    have : val B (l.drop n) = 0 := val_zero _ fun d hd => by
      obtain ⟨i, hi, rfl⟩ := List.mem_iff_getElem.1 hd
      have := hz (n + i) (by omega)
      simp only [List.length_drop] at hi
      rw [List.getElem?_eq_getElem (by omega)] at this
      simpa using this
    rw [this]; simp
  rw [e]
  refine (dg_val hB _ (fun d hd => hl d (List.mem_of_mem_take hd)) ?_).symm
  intro hne
  have hn0 : n ≠ 0 := by rintro rfl; simp at hne
  rw [List.getLast_eq_getElem]
  rcases hlast with h | h
  · omega
  · rw [List.getElem?_eq_getElem (by omega)] at h
    simp only [Option.getD_some] at h
    simp only [List.length_take, List.getElem_take, show min n l.length = n by omega]
    exact h

/-! ### the i lowest digits -/

theorem fixd_zero (B k : Nat) : fixd B 0 k = [] := rfl
theorem fixd_succ (B i k : Nat) : fixd B (i + 1) k = fixd B i k ++ [k / B ^ i % B] := by simp [fixd, List.range_succ]
theorem fixd_len (B i k : Nat) : (fixd B i k).length = i := by simp [fixd]
theorem fixd_lt {B : Nat} (hB : 1 < B) {i k d : Nat} (h : d ∈ fixd B i k) : d < B := by
  simp only [fixd, List.mem_map] at h
  obtain ⟨j, _, rfl⟩ := h
  exact Nat.mod_lt _ (by omega)
theorem mod_pow_succ' {B : Nat} (k i : Nat) : k % B ^ (i + 1) = k % B ^ i + B ^ i * (k / B ^ i % B) := by
  rw [Nat.pow_succ, Nat.mod_mul]
theorem fixd_val {B : Nat} : ∀ (i k : Nat), val B (fixd B i k) = k % B ^ i := by
  intro i
  induction i with
  | zero => intro k; simp [fixd, val, Nat.mod_one]
  | succ i ih => intro k; rw [fixd_succ, val_append, ih, fixd_len, mod_pow_succ']; simp [val]
theorem fixd_get {B i k j : Nat} (h : j < i) : (fixd B i k)[j]? = some (k / B ^ j % B) := by simp [fixd, h]
/-- as many digits as there are: all -/
theorem fixd_dg {B : Nat} (hB : 1 < B) {i k : Nat} (h : k < B ^ i) (h' : i = 0 ∨ B ^ (i - 1) ≤ k) : fixd B i k = dg B k := by
  have hl : (dg B k).length = i := by
    have h1 := (dg_len_le hB i k).2 h
    rcases h' with rfl | h'
    · omega
    · have := (dg_len_lt hB (i - 1) k).2 h'
      omega
  apply List.ext_getElem?
  intro j
  by_cases hj : j < i
  · rw [fixd_get hj, dg_get hB, if_pos]
    exact (dg_len_lt hB j k).1 (by omega)
  · rw [List.getElem?_eq_none (by rw [fixd_len]; omega), List.getElem?_eq_none (by omega)]
theorem fixd_congr {B i a b : Nat} (h : a % B ^ i = b % B ^ i) : fixd B i a = fixd B i b := by
  apply List.ext_getElem?
  intro j
  by_cases hj : j < i
  · rw [fixd_get hj, fixd_get hj]
    have hd : B ^ (j + 1) ∣ B ^ i := Nat.pow_dvd_pow _ hj
    have e : ∀ x : Nat, x / B ^ j % B = x % B ^ (j + 1) / B ^ j := fun x => by
      rw [Nat.pow_succ]
      exact (Nat.mod_mul_right_div_self x (B ^ j) B).symm
    rw [e, e, ← Nat.mod_mod_of_dvd a hd, ← Nat.mod_mod_of_dvd b hd, h]
  · rw [List.getElem?_eq_none (by rw [fixd_len]; omega), List.getElem?_eq_none (by rw [fixd_len]; omega)]
/-- i digits below B: what their number has -/
theorem fixd_of_val {B : Nat} (hB : 1 < B) : ∀ (l : List Nat), (∀ d ∈ l, d < B) → fixd B l.length (val B l) = l := by
  intro l
  induction l with
  | nil => intro _; rfl
  | cons d l ih =>
    intro h
    have hd := h d (by simp)
    have ih' := ih fun x hx => h x (by simp [hx])
    apply List.ext_getElem?
    intro j
    by_cases hj : j < (d :: l).length
    · rw [fixd_get hj]
      cases j with
      | zero => simp [val, Nat.mod_eq_of_lt hd]
      | succ j =>
        rw [List.getElem?_cons_succ]
        conv => rhs; rw [← ih']
        rw [fixd_get (by simpa using hj)]
        simp only [val]
        rw [Nat.pow_succ, Nat.mul_comm (B ^ j) B, ← Nat.div_div_eq_div_mul, Nat.add_mul_div_left _ _ (by omega), Nat.div_eq_of_lt hd, Nat.zero_add]
    · rw [List.getElem?_eq_none (by rw [fixd_len]; omega), List.getElem?_eq_none (by omega)]

/-! ### sums -/

/-- the carry behind i digits -/
def carry (B n m i : Nat) : Nat := (n % B ^ i + m % B ^ i) / B ^ i
theorem carry_zero (B n m : Nat) : carry B n m 0 = 0 := by simp [carry, Nat.mod_one]
theorem carry_lt {B : Nat} (hB : 1 < B) (n m i : Nat) : carry B n m i ≤ 1 := by
  have hp : 0 < B ^ i := Nat.pow_pos (by omega)
  have h1 := Nat.mod_lt n hp
  have h2 := Nat.mod_lt m hp
  have : carry B n m i < 2 := by unfold carry; rw [Nat.div_lt_iff_lt_mul hp]; omega
  omega
theorem carry_succ {B : Nat} (hB : 1 < B) (n m i : Nat) : carry B n m (i + 1) = (carry B n m i + n / B ^ i % B + m / B ^ i % B) / B := by
  have hp : 0 < B ^ i := Nat.pow_pos (by omega)
  unfold carry
  rw [mod_pow_succ', mod_pow_succ', Nat.pow_succ, ← Nat.div_div_eq_div_mul]
  congr 1
  rw [show n % B ^ i + B ^ i * (n / B ^ i % B) + (m % B ^ i + B ^ i * (m / B ^ i % B)) = (n % B ^ i + m % B ^ i) + B ^ i * (n / B ^ i % B + m / B ^ i % B) by rw [Nat.mul_add]; omega, Nat.add_mul_div_left _ _ hp, Nat.add_assoc]
theorem add_digit {B : Nat} (hB : 1 < B) (n m i : Nat) : (n + m) / B ^ i % B = (carry B n m i + n / B ^ i % B + m / B ^ i % B) % B := by
  have hp : 0 < B ^ i := Nat.pow_pos (by omega)
  have e : (n + m) / B ^ i = carry B n m i + n / B ^ i + m / B ^ i := by
    unfold carry
    have h1 := Nat.mod_add_div n (B ^ i)
    have h2 := Nat.mod_add_div m (B ^ i)
    generalize n % B ^ i = r at *
    generalize m % B ^ i = s at *
    rw [show n + m = (r + s) + B ^ i * (n / B ^ i + m / B ^ i) by rw [Nat.mul_add]; omega, Nat.add_mul_div_left _ _ hp]
    omega
  rw [e, Nat.add_mod, Nat.add_mod (carry B n m i) (n / B ^ i), Nat.add_mod (carry B n m i + n / B ^ i % B), Nat.add_mod (carry B n m i) (n / B ^ i % B)]
  simp only [Nat.mod_mod]
theorem carry_end {B : Nat} (n m i : Nat) (hn : n < B ^ i) (hm : m < B ^ i) : carry B n m i = 0 ↔ n + m < B ^ i := by
  have hp : 0 < B ^ i := by omega
  unfold carry
  rw [Nat.mod_eq_of_lt hn, Nat.mod_eq_of_lt hm, Nat.div_eq_zero_iff]
  omega

/-! ### differences -/

def borrow (B n m i : Nat) : Nat := if n % B ^ i < m % B ^ i then 1 else 0
theorem borrow_zero (B n m : Nat) : borrow B n m 0 = 0 := by simp [borrow, Nat.mod_one]
theorem borrow_le (B n m i : Nat) : borrow B n m i ≤ 1 := by unfold borrow; split <;> omega
theorem sub_parts1 (r s p M k : Nat) (h1 : r < s) (h2 : s < p) : (r + p * (M + 1 + k)) - (s + p * M) = (r + p - s) + p * k := by
  rw [Nat.mul_add, Nat.mul_add, Nat.mul_one]; omega
theorem sub_parts2 (r s p M k : Nat) (h1 : s ≤ r) : (r + p * (M + k)) - (s + p * M) = (r - s) + p * k := by
  rw [Nat.mul_add]; omega
theorem lt_parts1 (r s p x k : Nat) (h2 : r < p) : r + p * x < s + p * (x + 1 + k) := by
  rw [Nat.mul_add, Nat.mul_add, Nat.mul_one]; omega
theorem lt_parts2 (r s p x k : Nat) (h2 : s < p) : ¬ r + p * (x + 1 + k) < s + p * x := by
  rw [Nat.mul_add, Nat.mul_add, Nat.mul_one]; omega
theorem sub_digit {B : Nat} (hB : 1 < B) (n m i : Nat) (h : m ≤ n) :
    ((n - m) / B ^ i % B : Nat) = (n / B ^ i % B + B - m / B ^ i % B - borrow B n m i) % B ∧
    borrow B n m (i + 1) = (if n / B ^ i % B < m / B ^ i % B + borrow B n m i then 1 else 0) := by
  have hp : 0 < B ^ i := Nat.pow_pos (by omega)
  have hmod := mod_pow_succ' (B := B) n i
  have hmod' := mod_pow_succ' (B := B) m i
  have h1 := Nat.mod_add_div n (B ^ i)
  have h2 := Nat.mod_add_div m (B ^ i)
  have l1 := Nat.mod_lt n hp
  have l2 := Nat.mod_lt m hp
  have d1 := Nat.mod_lt (n / B ^ i) (show B > 0 by omega)
  have d2 := Nat.mod_lt (m / B ^ i) (show B > 0 by omega)
  have hle : m / B ^ i ≤ n / B ^ i := Nat.div_le_div_right h
  have q1 := Nat.mod_add_div (n / B ^ i) B
  have q2 := Nat.mod_add_div (m / B ^ i) B
  constructor
  · have e : (n - m) / B ^ i = n / B ^ i - m / B ^ i - borrow B n m i := by
      unfold borrow
      split
      · rename_i hb
        have hlt : m / B ^ i < n / B ^ i := by
          rcases Nat.lt_or_ge (m / B ^ i) (n / B ^ i) with h' | h'
          · exact h'
          · have he : n / B ^ i = m / B ^ i := by omega
            rw [he] at h1; omega
        obtain ⟨k, hk⟩ : ∃ k, n / B ^ i = m / B ^ i + 1 + k := ⟨n / B ^ i - m / B ^ i - 1, by omega⟩
        rw [hk] at h1
        have : n - m = (n % B ^ i + B ^ i - m % B ^ i) + B ^ i * k := by
          have := sub_parts1 (n % B ^ i) (m % B ^ i) (B ^ i) (m / B ^ i) k hb l2
          rw [h1, h2] at this; exact this
        rw [this, Nat.add_mul_div_left _ _ hp, Nat.div_eq_of_lt (by omega), hk]; omega
      · rename_i hb
        obtain ⟨k, hk⟩ : ∃ k, n / B ^ i = m / B ^ i + k := ⟨n / B ^ i - m / B ^ i, by omega⟩
        rw [hk] at h1
        have : n - m = (n % B ^ i - m % B ^ i) + B ^ i * k := by
          have := sub_parts2 (n % B ^ i) (m % B ^ i) (B ^ i) (m / B ^ i) k (by omega)
          rw [h1, h2] at this; exact this
        rw [this, Nat.add_mul_div_left _ _ hp, Nat.div_eq_of_lt (by have := Nat.sub_le (n % B ^ i) (m % B ^ i); exact Nat.lt_of_le_of_lt this l1), hk]; omega
    rw [e]
    have hb := borrow_le B n m i
    have hb' : m / B ^ i + borrow B n m i ≤ n / B ^ i := by
      unfold borrow
      split
      · rename_i hb2
        rcases Nat.lt_or_ge (m / B ^ i) (n / B ^ i) with h' | h'
        · omega
        · have he : n / B ^ i = m / B ^ i := by omega
          rw [he] at h1; omega
      · omega
    generalize n / B ^ i = N at *
    generalize m / B ^ i = M at *
    generalize borrow B n m i = b at *
    have hq : M / B ≤ N / B := Nat.div_le_div_right hle
    obtain ⟨k, hk⟩ : ∃ k, N / B = M / B + k := ⟨N / B - M / B, by omega⟩
    have hp2 := sub_parts2 (N % B) (M % B) B (M / B) k
    rw [← hk, q1, q2] at hp2
    by_cases hc : M % B + b ≤ N % B
    · rw [show N - M - b = (N % B - M % B - b) + B * k by have := hp2 (by omega); omega, Nat.add_mul_mod_self_left, show N % B + B - M % B - b = (N % B - M % B - b) + B by omega, Nat.add_mod_right]
    · by_cases hs : N % B < M % B
      · have hk1 : 1 ≤ k := by
          rcases Nat.eq_zero_or_pos k with h0 | h0
          · subst h0; rw [Nat.add_zero] at hk; rw [hk] at q1; omega
          · exact h0
        obtain ⟨k', rfl⟩ : ∃ k', k = k' + 1 := ⟨k - 1, by omega⟩
        have hp1 := sub_parts1 (N % B) (M % B) B (M / B) k' hs d2
        rw [show M / B + 1 + k' = N / B by omega, q1, q2] at hp1
        rw [show N - M - b = (N % B + B - M % B - b) + B * k' by omega, Nat.add_mul_mod_self_left]
      · have he : N % B = M % B := by omega
        have hb1 : b = 1 := by omega
        have hk1 : 1 ≤ k := by
          rcases Nat.eq_zero_or_pos k with h0 | h0
          · subst h0; rw [Nat.add_zero] at hk; rw [hk] at q1; omega
          · exact h0
        obtain ⟨k', rfl⟩ : ∃ k', k = k' + 1 := ⟨k - 1, by omega⟩
        have := hp2 (by omega)
        rw [Nat.mul_add, Nat.mul_one] at this
        rw [show N - M - b = (N % B + B - M % B - b) + B * k' by omega, Nat.add_mul_mod_self_left]
  · show (if _ then _ else _) = _
    rw [hmod, hmod']
    have hb : borrow B n m i = if n % B ^ i < m % B ^ i then 1 else 0 := rfl
    rw [hb]
    generalize n % B ^ i = r at *
    generalize m % B ^ i = s at *
    generalize n / B ^ i % B = x at *
    generalize m / B ^ i % B = y at *
    generalize B ^ i = p at *
    rcases Nat.lt_trichotomy x y with hx | hx | hx
    · obtain ⟨k, rfl⟩ : ∃ k, y = x + 1 + k := ⟨y - x - 1, by omega⟩
      rw [if_pos (lt_parts1 r s p x k l1), if_pos (by omega)]
    · subst hx
      by_cases hrs : r < s
      · rw [if_pos (by omega), if_pos hrs, if_pos (by omega)]
      · rw [if_neg (by omega), if_neg hrs, if_neg (by omega)]
    · obtain ⟨k, rfl⟩ : ∃ k, x = y + 1 + k := ⟨x - y - 1, by omega⟩
      rw [if_neg (lt_parts2 r s p y k l2), if_neg (by split <;> omega)]

/-- how many of the first n there are without the noughts at their end -/
def stripN (l : List Nat) : Nat → Nat
  | 0 => 0
  | n + 1 => if l[n]?.getD 0 = 0 then stripN l n else n + 1
theorem stripN_le (l : List Nat) : ∀ n, stripN l n ≤ n
  | 0 => Nat.le_refl _
  | n + 1 => by unfold stripN; have := stripN_le l n; split <;> omega
theorem stripN_zero (l : List Nat) : ∀ n i, stripN l n ≤ i → i < n → l[i]?.getD 0 = 0
  | 0, i, _, h => by omega
  | n + 1, i, h1, h2 => by
    unfold stripN at h1
    split at h1
    · rename_i h
      by_cases hi : i = n
      · subst hi; exact h
      · exact stripN_zero l n i h1 (by omega)
    · omega
theorem stripN_last (l : List Nat) : ∀ n, stripN l n = 0 ∨ l[stripN l n - 1]?.getD 0 ≠ 0
  | 0 => .inl rfl
  | n + 1 => by
    unfold stripN
    split
    · exact stripN_last l n
    · rename_i h; right; simpa using h
/-- the list without the noughts at its end -/
def strip (l : List Nat) : List Nat := l.take (stripN l l.length)
theorem strip_dg {B : Nat} (hB : 1 < B) (l : List Nat) (h : ∀ d ∈ l, d < B) : strip l = dg B (val B l) :=
  dg_strip hB l h _ (stripN_le l _) (fun i hi => by
    by_cases hl : i < l.length
    · exact stripN_zero l _ i hi hl
    · rw [List.getElem?_eq_none (by omega)]; rfl) (stripN_last l _)
theorem strip_len (l : List Nat) : (strip l).length = stripN l l.length := by
  have := stripN_le l l.length
  simp [strip]; omega
theorem stripN_dg {B : Nat} (hB : 1 < B) (n : Nat) : stripN (dg B n) (dg B n).length = (dg B n).length := by
  rw [← strip_len, strip_dg hB _ (fun d hd => dg_lt hB hd), val_dg hB]

def sgn (n : Int) : Int := if n < 0 then -1 else if n = 0 then 0 else 1

theorem digit_0 {B n k : Nat} (h : n < B ^ k) : n / B ^ k % B = 0 := by rw [Nat.div_eq_of_lt h]; rfl
/-- a round of the sum -/
theorem add_round {B : Nat} (hB : 1 < B) (n m k : Nat) : carry B n m (k + 1) = (carry B n m k + n / B ^ k % B + m / B ^ k % B) / B ∧
    fixd B (k + 1) (n + m) = fixd B k (n + m) ++ [(carry B n m k + n / B ^ k % B + m / B ^ k % B) % B] :=
  ⟨carry_succ hB n m k, by rw [fixd_succ, add_digit hB]⟩
theorem add_more {B : Nat} (hB : 1 < B) (n m k : Nat) (h : B ^ k ≤ n ∨ B ^ k ≤ m ∨ 0 < carry B n m k) : B ^ k ≤ n + m := by
  have hp : 0 < B ^ k := Nat.pow_pos (by omega)
  rcases h with h | h | h
  · omega
  · omega
  · have h1 := Nat.mod_le n (B ^ k)
    have h2 := Nat.mod_le m (B ^ k)
    rcases Nat.lt_or_ge (n % B ^ k + m % B ^ k) (B ^ k) with h3 | h3
    · unfold carry at h; rw [Nat.div_eq_of_lt h3] at h; omega
    · omega
theorem add_done {B : Nat} (hB : 1 < B) (n m k : Nat) (h1 : n < B ^ k) (h2 : m < B ^ k) (h3 : carry B n m k = 0) (hp : k = 0 ∨ B ^ (k - 1) ≤ n + m) : fixd B k (n + m) = dg B (n + m) :=
  fixd_dg hB ((carry_end n m k h1 h2).1 h3) hp
theorem add_bound {B : Nat} (hB : 1 < B) (n m k : Nat) (ha : (dg B n).length ≤ k) (hb : (dg B m).length ≤ k) (hc : 0 < carry B n m k) : k ≤ (dg B n).length + (dg B m).length := by
  rcases Nat.lt_or_ge ((dg B n).length + (dg B m).length) k with h | h
  · exfalso
    obtain ⟨j, rfl⟩ : ∃ j, k = j + 1 := ⟨k - 1, by omega⟩
    have h1 := (dg_len_le hB j n).1 (by omega)
    have h2 := (dg_len_le hB j m).1 (by omega)
    have h4 : B ^ j * 2 ≤ B ^ (j + 1) := by rw [Nat.pow_succ]; exact Nat.mul_le_mul_left _ hB
    generalize hq : B ^ (j + 1) = q at h4
    have hcz := (carry_end n m (j + 1) (by rw [hq]; omega) (by rw [hq]; omega)).2 (by rw [hq]; omega)
    omega
  · exact h
/-- a round of the difference -/
theorem sub_round {B : Nat} (hB : 1 < B) (n m k : Nat) (h : m ≤ n) : borrow B n m (k + 1) = (if n / B ^ k % B < m / B ^ k % B + borrow B n m k then 1 else 0) ∧
    fixd B (k + 1) (n - m) = fixd B k (n - m) ++ [(n / B ^ k % B + B - m / B ^ k % B - borrow B n m k) % B] :=
  ⟨(sub_digit hB n m k h).2, by rw [fixd_succ, (sub_digit hB n m k h).1]⟩
theorem strip_fixd {B : Nat} (hB : 1 < B) (i k : Nat) (h : k < B ^ i) : strip (fixd B i k) = dg B k := by
  rw [strip_dg hB _ (fun d hd => fixd_lt hB hd), fixd_val, Nat.mod_eq_of_lt h]

/-! ### products -/

theorem val_set {B : Nat} : ∀ (l : List Nat) (p d : Nat) (h : p < l.length), val B (l.set p d) + l[p] * B ^ p = val B l + d * B ^ p := by
  intro l
  induction l with
  | nil => intro p d h; simp at h
  | cons e l ih =>
    intro p d h
    cases p with
    | zero => simp [val]; omega
    | succ p =>
      have hp : p < l.length := by simpa using h
      have := ih p d hp
      simp only [List.set_cons_succ, val, List.getElem_cons_succ, Nat.pow_succ]
      have e1 : l[p] * (B ^ p * B) = B * (l[p] * B ^ p) := by rw [← Nat.mul_assoc, Nat.mul_comm]
      have e2 : d * (B ^ p * B) = B * (d * B ^ p) := by rw [← Nat.mul_assoc, Nat.mul_comm]
      rw [e1, e2, Nat.add_assoc, ← Nat.mul_add, this, Nat.mul_add]
      omega
theorem val_replicate (B n : Nat) : val B (List.replicate n 0) = 0 := val_zero _ fun d hd => (List.mem_replicate.1 hd).2
/-- a step within the product with one digit -/
theorem mul_round {B : Nat} (n m x k j c : Nat) (out : List Nat) (hp : k + j < out.length)
    (h : val B out + c * B ^ (k + j) = (n % B ^ k) * m + B ^ k * (x * (m % B ^ j))) :
    val B (out.set (k + j) ((c + out[k + j] + x * (m / B ^ j % B)) % B)) + (c + out[k + j] + x * (m / B ^ j % B)) / B * B ^ (k + (j + 1)) = (n % B ^ k) * m + B ^ k * (x * (m % B ^ (j + 1))) := by
  have hs := val_set (B := B) out (k + j) ((c + out[k + j] + x * (m / B ^ j % B)) % B) hp
  have hd := Nat.mod_add_div (c + out[k + j] + x * (m / B ^ j % B)) B
  rw [mod_pow_succ']
  generalize m / B ^ j % B = y at *
  generalize out[k + j] = o at *
  generalize hq : (c + o + x * y) % B = r at *
  generalize (c + o + x * y) / B = q at *
  have e1 : q * B ^ (k + (j + 1)) = (B * q) * B ^ (k + j) := by rw [← Nat.add_assoc, Nat.pow_succ, Nat.mul_comm (B ^ (k + j)) B, ← Nat.mul_assoc, Nat.mul_comm q B]
  have e2 : B ^ k * (x * (m % B ^ j + B ^ j * y)) = B ^ k * (x * (m % B ^ j)) + (x * y) * B ^ (k + j) := by
    rw [Nat.mul_add, Nat.mul_add, Nat.pow_add]
    congr 1
    rw [Nat.mul_left_comm x, ← Nat.mul_assoc, Nat.mul_comm]
  rw [e1, e2]
  have e3 : r * B ^ (k + j) + B * q * B ^ (k + j) = c * B ^ (k + j) + o * B ^ (k + j) + x * y * B ^ (k + j) := by rw [← Nat.add_mul, hd, Nat.add_mul, Nat.add_mul]
  generalize B ^ (k + j) = P at *
  omega
theorem mul_inside {B : Nat} (hB : 1 < B) (n m k j c na : Nat) (out : List Nat) (hk : k < na) (hna : na = (dg B n).length) (hl : out.length = na + (dg B m).length)
    (h : val B out + c * B ^ (k + j) = (n % B ^ k) * m + B ^ k * (n / B ^ k % B * (m % B ^ j))) (hc : j < (dg B m).length ∨ 0 < c) : k + j < out.length := by
  rcases hc with hc | hc
  · omega
  · have h1 : B ^ (k + j) ≤ c * B ^ (k + j) := Nat.le_mul_of_pos_left _ hc
    have h2 : (n % B ^ k) * m + B ^ k * (n / B ^ k % B * (m % B ^ j)) ≤ (n % B ^ (k + 1)) * m := by
      rw [mod_pow_succ', Nat.add_mul]
      apply Nat.add_le_add_left
      rw [← Nat.mul_assoc]
      exact Nat.mul_le_mul_left _ (Nat.mod_le _ _)
    have hp : 0 < B ^ (k + 1) := Nat.pow_pos (by omega)
    have h3 : (n % B ^ (k + 1)) * m < B ^ (k + 1) * B ^ (dg B m).length := by
      have := Nat.mod_lt n hp
      exact Nat.mul_lt_mul'' this (lt_pow_len hB m)
    rw [← Nat.pow_add] at h3
    have h4 : B ^ (k + j) < B ^ (k + 1 + (dg B m).length) := by omega
    have := (Nat.pow_lt_pow_iff_right hB).1 h4
    omega
theorem mul_row {B : Nat} (n m k j : Nat) (out : List Nat) (hj : m < B ^ j)
    (h : val B out + 0 * B ^ (k + j) = (n % B ^ k) * m + B ^ k * (n / B ^ k % B * (m % B ^ j))) : val B out = (n % B ^ (k + 1)) * m := by
  rw [Nat.zero_mul, Nat.add_zero, Nat.mod_eq_of_lt hj] at h
  rw [h, mod_pow_succ', Nat.add_mul, Nat.mul_assoc]
theorem mul_carry {B : Nat} (c o x y : Nat) (hc : c < B) (ho : o < B) (hx : x < B) (hy : y < B) : (c + o + x * y) / B < B ∧ x * y ≤ (B - 1) * (B - 1) := by
  have h1 : x * y ≤ (B - 1) * (B - 1) := Nat.mul_le_mul (by omega) (by omega)
  refine ⟨?_, h1⟩
  rw [Nat.div_lt_iff_lt_mul (by omega)]
  obtain ⟨b, rfl⟩ : ∃ b, B = b + 1 := ⟨B - 1, by omega⟩
  have : (b + 1) * (b + 1) = b * b + 2 * b + 1 := by rw [Nat.add_mul, Nat.mul_add]; omega
  simp only [Nat.add_sub_cancel] at h1
  omega
theorem set_lt {B : Nat} {l : List Nat} (h : ∀ d ∈ l, d < B) (p d : Nat) (hd : d < B) : ∀ x ∈ l.set p d, x < B := fun x hx => by
  rcases List.mem_or_eq_of_mem_set hx with h' | h'
  · exact h x h'
  · omega

/-! ### how two stand -/
def cmpN (n m : Nat) : Int := if n < m then -1 else if n = m then 0 else 1
theorem cmpN_len {B : Nat} (hB : 1 < B) (n m : Nat) (h : (dg B n).length ≠ (dg B m).length) : cmpN n m = sgn ((dg B n).length - (dg B m).length) := by
  rcases Nat.lt_or_ge (dg B n).length (dg B m).length with hl | hl
  · have h1 := lt_pow_len hB n
    have h2 := (dg_len_lt hB (dg B n).length m).1 hl
    unfold cmpN sgn
    rw [if_pos (by omega), if_pos (by omega)]
  · have h1 := lt_pow_len hB m
    have h2 := (dg_len_lt hB (dg B m).length n).1 (by omega)
    unfold cmpN sgn
    rw [if_neg (by omega), if_neg (by omega), if_neg (by omega), if_neg (by omega)]
theorem val_top {B : Nat} (hB : 1 < B) : ∀ (a b : List Nat) (k : Nat), a.length = b.length → k < a.length → (∀ d ∈ a, d < B) → (∀ d ∈ b, d < B) → (∀ i, k < i → a[i]?.getD 0 = b[i]?.getD 0) → a[k]?.getD 0 < b[k]?.getD 0 → val B a < val B b := by
  intro a
  induction a with
  | nil => intro b k _ h; simp at h
  | cons x a ih =>
    intro b k hl hk ha hb he hlt
    cases b with
    | nil => simp at hl
    | cons y b =>
      simp only [val]
      have hx := ha x (by simp)
      have hy := hb y (by simp)
      cases k with
      | zero =>
        have hab : a = b := by
          apply List.ext_getElem?
          intro i
          have := he (i + 1) (by omega)
          simp only [List.getElem?_cons_succ] at this
          by_cases hi : i < a.length
          · have hi' : i < b.length := by simp at hl; omega
            rw [List.getElem?_eq_getElem hi, List.getElem?_eq_getElem hi'] at this ⊢
            simpa using this
          · rw [List.getElem?_eq_none (by omega), List.getElem?_eq_none (by simp at hl; omega)]
        subst hab
        simp at hlt
        omega
      | succ k =>
        have := ih b k (by simpa using hl) (by simpa using hk) (fun d hd => ha d (by simp [hd])) (fun d hd => hb d (by simp [hd])) (fun i hi => by have := he (i + 1) (by omega); simpa using this) (by simpa using hlt)
        have h2 : B * (val B a + 1) ≤ B * val B b := Nat.mul_le_mul_left _ this
        rw [Nat.mul_add] at h2; omega
theorem cmpN_top {B : Nat} (hB : 1 < B) (n m k : Nat) (hl : (dg B n).length = (dg B m).length) (hk : k < (dg B n).length) (he : ∀ i, k < i → i < (dg B n).length → (dg B n)[i]?.getD 0 = (dg B m)[i]?.getD 0)
    (hne : (dg B n)[k]?.getD 0 ≠ (dg B m)[k]?.getD 0) : cmpN n m = sgn (((dg B n)[k]?.getD 0 : Nat) - ((dg B m)[k]?.getD 0 : Nat) : Int) := by
  have he' : ∀ i, k < i → (dg B n)[i]?.getD 0 = (dg B m)[i]?.getD 0 := fun i hi => by
    by_cases h : i < (dg B n).length
    · exact he i hi h
    · rw [List.getElem?_eq_none (by omega), List.getElem?_eq_none (by omega)]
  have la : ∀ d ∈ dg B n, d < B := fun d hd => dg_lt hB hd
  have lb : ∀ d ∈ dg B m, d < B := fun d hd => dg_lt hB hd
  rcases Nat.lt_or_ge ((dg B n)[k]?.getD 0) ((dg B m)[k]?.getD 0) with h | h
  · have := val_top hB _ _ k hl hk la lb he' h
    rw [val_dg hB, val_dg hB] at this
    unfold cmpN sgn; rw [if_pos this, if_pos (by omega)]
  · have := val_top hB _ _ k hl.symm (by omega) lb la (fun i hi => (he' i hi).symm) (by omega)
    rw [val_dg hB, val_dg hB] at this
    unfold cmpN sgn; rw [if_neg (by omega), if_neg (by omega), if_neg (by omega), if_neg (by omega)]
theorem cmpN_eq {B : Nat} (hB : 1 < B) (n m : Nat) (hl : (dg B n).length = (dg B m).length) (he : ∀ i, i < (dg B n).length → (dg B n)[i]?.getD 0 = (dg B m)[i]?.getD 0) : cmpN n m = 0 := by
  have : dg B n = dg B m := by
    apply List.ext_getElem?
    intro i
    by_cases hi : i < (dg B n).length
    · have := he i hi
      rw [List.getElem?_eq_getElem hi, List.getElem?_eq_getElem (by omega)] at this ⊢
      simpa using this
    · rw [List.getElem?_eq_none (by omega), List.getElem?_eq_none (by omega)]
  have := dg_inj hB this
  unfold cmpN; rw [if_neg (by omega), if_pos this]
theorem dg_one {B : Nat} (hB : 1 < B) {t : Nat} (h0 : 0 < t) (h : t < B) : dg B t = [t] := by
  rw [dg_pos hB h0, Nat.mod_eq_of_lt h, Nat.div_eq_of_lt h]; rfl
theorem dg_len_mul {B : Nat} (hB : 1 < B) (n m : Nat) : (dg B (n * m)).length ≤ (dg B n).length + (dg B m).length := by
  rw [dg_len_le hB, Nat.pow_add]
  have h1 := lt_pow_len hB n
  have h2 := lt_pow_len hB m
  exact Nat.mul_lt_mul'' h1 h2
theorem dg_len_mono {B : Nat} (hB : 1 < B) {n m : Nat} (h : n ≤ m) : (dg B n).length ≤ (dg B m).length := by
  rw [dg_len_le hB]; exact Nat.lt_of_le_of_lt h (lt_pow_len hB m)
theorem dg_len_add {B : Nat} (hB : 1 < B) (n m : Nat) : (dg B (n + m)).length ≤ (dg B n).length + (dg B m).length + 1 := by
  rw [dg_len_le hB, Nat.pow_succ, Nat.pow_add]
  have h1 := lt_pow_len hB n
  have h2 := lt_pow_len hB m
  have p1 : 0 < B ^ (dg B n).length := Nat.pow_pos (by omega)
  have p2 : 0 < B ^ (dg B m).length := Nat.pow_pos (by omega)
  generalize B ^ (dg B n).length = x at *
  generalize B ^ (dg B m).length = y at *
  have h3 : x + y ≤ x * y * 2 := by
    have a1 : x ≤ x * y := Nat.le_mul_of_pos_right _ p2
    have a2 : y ≤ x * y := Nat.le_mul_of_pos_left _ p1
    omega
  have h4 : x * y * 2 ≤ x * y * B := Nat.mul_le_mul_left _ hB
  omega
theorem dg_len_small {B : Nat} (hB : 1 < B) {t : Nat} (h : t < B) : (dg B t).length ≤ 1 := by rw [dg_len_le hB]; simpa using h
theorem cmpN_le (n m : Nat) : (cmpN n m ≤ 0) ↔ n ≤ m := by unfold cmpN; (repeat' split) <;> omega
theorem cmpN_lt (n m : Nat) : (cmpN n m < 0) ↔ n < m := by unfold cmpN; (repeat' split) <;> omega
theorem cmpN_ge (n m : Nat) : (0 ≤ cmpN n m) ↔ m ≤ n := by unfold cmpN; (repeat' split) <;> omega
/-- a number between: the quotient -/
theorem quot_of {n m q : Nat} (h1 : q * m ≤ n) (h2 : n < (q + 1) * m) : q = n / m := by
  have hm : 0 < m := by
    rcases Nat.eq_zero_or_pos m with h | h
    · subst h; simp at h2
    · exact h
  have a1 := (Nat.le_div_iff_mul_le hm).2 h1
  have a2 := (Nat.div_lt_iff_lt_mul hm).2 h2
  omega

/-! ### quotients, digit by digit -/

def dvStep (B n m : Nat) (s : List Nat × Nat) (i : Nat) : List Nat × Nat :=
  if n / B ^ i % B + B * s.2 < m then (s.1, n / B ^ i % B + B * s.2) else (s.1.set i ((n / B ^ i % B + B * s.2) / m), (n / B ^ i % B + B * s.2) % m)
def dvS (B n m L : Nat) (pre : List Nat) : List Nat × Nat := pre.foldl (dvStep B n m) (List.replicate L 0, 0)
theorem dvS_nil (B n m L : Nat) : dvS B n m L [] = (List.replicate L 0, 0) := rfl
theorem dvS_snoc (B n m L : Nat) (pre : List Nat) (i : Nat) : dvS B n m L (pre ++ [i]) = dvStep B n m (dvS B n m L pre) i := by simp [dvS]
theorem dvStep_len (B n m : Nat) (s : List Nat × Nat) (i : Nat) : (dvStep B n m s i).1.length = s.1.length := by unfold dvStep; split <;> simp
theorem dvStep_lt {m : Nat} (hm : 0 < m) (B n : Nat) (s : List Nat × Nat) (i : Nat) : (dvStep B n m s i).2 < m := by
  unfold dvStep; split
  · assumption
  · exact Nat.mod_lt _ hm
theorem dvS_len (B n m L : Nat) : ∀ pre : List Nat, (dvS B n m L pre).1.length = L := by
  intro pre
  unfold dvS
  suffices h : ∀ s : List Nat × Nat, s.1.length = L → (pre.foldl (dvStep B n m) s).1.length = L from h _ (by simp)
  induction pre with
  | nil => intro s h; exact h
  | cons i pre ih => intro s h; exact ih _ (by rw [dvStep_len]; exact h)
theorem dvS_lt {m : Nat} (hm : 0 < m) (B n L : Nat) : ∀ pre : List Nat, (dvS B n m L pre).2 < m := by
  intro pre
  unfold dvS
  suffices h : ∀ s : List Nat × Nat, s.2 < m → (pre.foldl (dvStep B n m) s).2 < m from h _ hm
  induction pre with
  | nil => intro s h; exact h
  | cons i pre ih => intro s h; exact ih _ (dvStep_lt hm B n s i)

/-- the quotient's digits from place L - k on -/
def dvQ (B n m L k : Nat) : List Nat := (List.range L).map fun j => if L - k ≤ j then n / m / B ^ j % B else 0
theorem dv_digit {B : Nat} (hB : 1 < B) (N m : Nat) (hm : 0 < m) : N % m = (N % B + B * (N / B % m)) % m ∧ N / m % B = (N % B + B * (N / B % m)) / m ∧ (N % B + B * (N / B % m)) / m < B := by
  have h1 := Nat.mod_add_div N B
  have h2 := Nat.mod_add_div (N / B) m
  have e : N = (N % B + B * (N / B % m)) + m * (B * (N / B / m)) := by
    conv => lhs; rw [← h1, ← h2]
    rw [Nat.mul_add, Nat.mul_left_comm B m]; omega
  have hlt : (N % B + B * (N / B % m)) / m < B := by
    rw [Nat.div_lt_iff_lt_mul hm]
    have a1 := Nat.mod_lt N (show 0 < B by omega)
    have a2 := Nat.mod_lt (N / B) hm
    have a3 : B * (N / B % m + 1) ≤ B * m := Nat.mul_le_mul_left _ a2
    rw [Nat.mul_add] at a3
    omega
  generalize hT : N % B + B * (N / B % m) = T at *
  generalize N / B / m = q at *
  refine ⟨?_, ?_, hlt⟩
  · rw [e, Nat.add_mul_mod_self_left]
  · rw [e, Nat.add_mul_div_left _ _ hm, Nat.add_mul_mod_self_left, Nat.mod_eq_of_lt hlt]
theorem dvS_down {B : Nat} (hB : 1 < B) (n m L : Nat) (hm : 0 < m) (hn : n < B ^ L) : ∀ k, k ≤ L → dvS B n m L ((List.range k).map fun j => L - 1 - j) = (dvQ B n m L k, n / B ^ (L - k) % m) := by
  intro k
  induction k with
  | zero =>
    intro _
    simp only [List.range_zero, List.map_nil, dvS_nil, Nat.sub_zero, Prod.mk.injEq]
    refine ⟨?_, by rw [Nat.div_eq_of_lt hn]; simp⟩
    apply List.ext_getElem
    · simp [dvQ]
    · intro i h1 h2
      simp [dvQ] at h2 ⊢
      omega
  | succ k ih =>
    intro hk
    rw [List.range_succ, List.map_append, List.map_cons, List.map_nil, dvS_snoc, ih (by omega)]
    obtain ⟨i, hi⟩ : ∃ i, i = L - 1 - k := ⟨_, rfl⟩
    have h1 : L - k = i + 1 := by omega
    have h2 : L - (k + 1) = i := by omega
    rw [← hi, h1, h2]
    have hd := dv_digit hB (n / B ^ i) m hm
    have e1 : n / B ^ i / B = n / B ^ (i + 1) := by rw [Nat.div_div_eq_div_mul, Nat.pow_succ]
    have e2 : n / B ^ i / m = n / m / B ^ i := by rw [Nat.div_div_eq_div_mul, Nat.div_div_eq_div_mul, Nat.mul_comm]
    rw [e1, e2] at hd
    obtain ⟨a1, a2, a3⟩ := hd
    unfold dvStep
    simp only []
    generalize hT : n / B ^ i % B + B * (n / B ^ (i + 1) % m) = T at *
    have hq : ∀ v, v = n / m / B ^ i % B → (dvQ B n m L k).set i v = dvQ B n m L (k + 1) := by
      intro v hv
      apply List.ext_getElem
      · simp [dvQ]
      · intro j j1 j2
        simp only [dvQ, List.getElem_set, List.getElem_map, List.getElem_range]
        split
        · rename_i hij; subst hij; rw [if_pos (by omega)]; exact hv
        · rw [h1, h2]
          by_cases hj : i + 1 ≤ j
          · rw [if_pos hj, if_pos (by omega)]
          · rw [if_neg hj, if_neg (by omega)]
    split
    · rename_i hlt
      rw [Nat.div_eq_of_lt hlt] at a2
      rw [a1, Nat.mod_eq_of_lt hlt]
      congr 1
      rw [← hq 0 a2.symm]
      apply List.ext_getElem
      · simp
      · intro j j1 j2
        rw [List.getElem_set]
        split
        · rename_i hij; subst hij
          simp only [dvQ, List.getElem_map, List.getElem_range]
          rw [if_neg (by omega)]
        · rfl
    · rw [hq _ a2.symm, a1]
theorem dvQ_all (B n m L : Nat) : dvQ B n m L L = fixd B L (n / m) := by simp [dvQ, fixd]
end Go.Proofs.Ytogodjiemgilaaa
