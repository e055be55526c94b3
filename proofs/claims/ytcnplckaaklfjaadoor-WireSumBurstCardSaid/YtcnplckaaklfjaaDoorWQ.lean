/- WireSumBurst: the law's function answers true. -/
import Derived.Test.YtcnplckaaklfjaaDoorWN
set_option linter.unusedSimpArgs false
set_option linter.unusedVariables false
namespace Go.Ev.W
open Go

/-- The number whose bytes these are. -/
def numB : List Nat → Nat
  | [] => 0
  | b :: r => b ^^^ (numB r <<< 8)
theorem iter1_xor : ∀ (k a b : Nat), iter1 k (a ^^^ b) = iter1 k a ^^^ iter1 k b
  | 0, _, _ => rfl
  | k + 1, a, b => by simp only [iter1]; rw [step1_xor]; exact iter1_xor k _ _
theorem step1_even (y : Nat) : step1 (2 * y) = y := by unfold step1; rw [if_neg (by omega)]; simp
theorem iter1_shift : ∀ (k y : Nat), iter1 k (y <<< k) = y
  | 0, y => by simp [iter1]
  | k + 1, y => by
    simp only [iter1]
    rw [show y <<< (k + 1) = 2 * (y <<< k) by rw [Nat.shiftLeft_eq, Nat.shiftLeft_eq, Nat.pow_succ]; rw [← Nat.mul_assoc, Nat.mul_comm]]
    rw [step1_even]; exact iter1_shift k y
theorem iter1_add : ∀ (j k a : Nat), iter1 (j + k) a = iter1 k (iter1 j a)
  | 0, k, a => by simp [iter1]
  | j + 1, k, a => by rw [show j + 1 + k = (j + k) + 1 by omega]; simp only [iter1]; exact iter1_add j k _
theorem crc_iter (r b : Nat) : crcN r b = iter1 8 (r ^^^ b) := by rw [crc_step]; rfl
theorem fold_iter : ∀ (s : List Nat) (r : Nat), s.foldl crcN r = iter1 (8 * s.length) (r ^^^ numB s)
  | [], r => by simp [numB, iter1]
  | b :: s, r => by
    rw [List.foldl_cons, fold_iter s, crc_iter, show 8 * (b :: s).length = 8 + 8 * s.length by simp [Nat.mul_add, Nat.add_comm], iter1_add, numB, ← Nat.xor_assoc, iter1_xor 8 (r ^^^ b), iter1_shift]
theorem step1_zero {r : Nat} (h : r < 4294967296) (h0 : step1 r = 0) : r = 0 := by
  unfold step1 at h0
  split at h0
  · exfalso
    have : r / 2 = 2197175160 := by
      have := congrArg (· ^^^ 2197175160) h0
      simpa [Nat.xor_assoc] using this
    omega
  · simp at h0; omega
theorem iter1_zero : ∀ {k r : Nat}, r < 4294967296 → iter1 k r = 0 → r = 0
  | 0, _, _, h => h
  | k + 1, r, hr, h => step1_zero hr (iter1_zero (step1_lt hr) h)
theorem iter1_nil : ∀ k, iter1 k 0 = 0
  | 0 => rfl
  | k + 1 => by simp only [iter1]; exact iter1_nil k
/-- One bit of one byte. -/
theorem numB_flip : ∀ (s : List Nat) (q t : Nat), q < s.length → numB (s.set q (s.getD q 0 ^^^ 2 ^ t)) = numB s ^^^ (2 ^ t <<< (8 * q))
  | [], q, _, h => by simp at h
  | b :: s, 0, t, _ => by
    simp only [List.set_cons_zero, numB, List.getD_cons_zero, Nat.mul_zero, Nat.shiftLeft_zero]
    rw [Nat.xor_assoc, Nat.xor_assoc, Nat.xor_comm (2 ^ t)]
  | b :: s, q + 1, t, h => by
    simp only [List.set_cons_succ, numB, List.getD_cons_succ]
    rw [numB_flip s q t (by simpa using h), Nat.shiftLeft_xor_distrib, ← Nat.shiftLeft_add, show 8 * q + 8 = 8 * (q + 1) by omega, Nat.xor_assoc]
theorem low_succ (W i : Nat) : W % 2 ^ (i + 1) = W % 2 ^ i ^^^ (if W / 2 ^ i % 2 = 1 then 2 ^ i else 0) := by
  apply Nat.eq_of_testBit_eq
  intro j
  have hb : W.testBit i = decide (W / 2 ^ i % 2 = 1) := by rw [Nat.testBit_eq_decide_div_mod_eq]
  rw [Nat.testBit_xor, Nat.testBit_mod_two_pow, Nat.testBit_mod_two_pow]
  by_cases h : W / 2 ^ i % 2 = 1
  · rw [if_pos h, Nat.testBit_two_pow]
    by_cases hj : j = i
    · subst hj; simp [hb, h]
    · by_cases hl : j < i
      · simp [hl, show j < i + 1 by omega, show ¬ i = j by omega]
      · simp [hl, show ¬ j < i + 1 by omega, show ¬ i = j by omega]
  · rw [if_neg h]
    by_cases hj : j = i
    · subst hj; simp [hb, h]
    · by_cases hl : j < i
      · simp [hl, show j < i + 1 by omega]
      · simp [hl, show ¬ j < i + 1 by omega]
theorem low_or (W i : Nat) : (W % 2 ^ (i + 1) ≠ 0) ↔ (W % 2 ^ i ≠ 0 ∨ W / 2 ^ i % 2 = 1) := by
  have h1 : W % 2 ^ (i + 1) = W % 2 ^ i + 2 ^ i * (W / 2 ^ i % 2) := by rw [Nat.pow_succ, Nat.mod_mul]
  have h2 : 0 < 2 ^ i := Nat.two_pow_pos i
  rcases Nat.mod_two_eq_zero_or_one (W / 2 ^ i) with h | h <;> rw [h1, h] <;> omega
/-- The bytes after some rounds. -/
def rowN (b : List Nat) (W p : Nat) : Nat → List Nat
  | 0 => b
  | i + 1 => let s := rowN b W p i
    if W / 2 ^ i % 2 = 1 then s.set ((p + i) / 8) (s.getD ((p + i) / 8) 0 ^^^ 2 ^ ((p + i) % 8)) else s
theorem rowN_len (b : List Nat) (W p : Nat) : ∀ i, (rowN b W p i).length = b.length
  | 0 => rfl
  | i + 1 => by simp only [rowN]; split <;> simp [rowN_len b W p i]
theorem rowN_lt {b : List Nat} (hb : ∀ x ∈ b, x < 256) (W p : Nat) : ∀ i, ∀ x ∈ rowN b W p i, x < 256
  | 0 => hb
  | i + 1 => by
    have ih := rowN_lt hb W p i
    intro x hx
    simp only [rowN] at hx
    split at hx
    · rcases List.mem_or_eq_of_mem_set hx with h | rfl
      · exact ih x h
      · refine Nat.xor_lt_two_pow (n := 8) ?_ ?_
        · rw [List.getD_eq_getElem?_getD]
          cases h : (rowN b W p i)[(p + i) / 8]? with
          | none => simp
          | some y => exact ih y (List.mem_of_getElem? h)
        · exact Nat.pow_lt_pow_right (by omega) (by omega)
    · exact ih x hx
theorem rowN_num {b : List Nat} {W p : Nat} : ∀ i, p + i ≤ 8 * b.length → numB (rowN b W p i) = numB b ^^^ ((W % 2 ^ i) <<< p)
  | 0, _ => by simp [rowN, Nat.mod_one]
  | i + 1, h => by
    have ih := rowN_num (b := b) (W := W) (p := p) i (by omega)
    simp only [rowN]
    rw [low_succ]
    split
    · rename_i hbit
      rw [numB_flip _ _ _ (by rw [rowN_len]; omega), ih, Nat.shiftLeft_xor_distrib, ← Nat.xor_assoc]
      congr 1
      rw [Nat.shiftLeft_eq, Nat.shiftLeft_eq, ← Nat.pow_add, ← Nat.pow_add]
      congr 1; omega
    · simpa using ih
def toI (s : List Nat) : List Int := s.map fun n => ((n : Nat) : Int)
theorem toI_getD (s : List Nat) (q : Nat) : (toI s).getD q 0 = ((s.getD q 0 : Nat) : Int) := by
  unfold toI
  simp only [List.getD_eq_getElem?_getD, List.getElem?_map]
  cases s[q]? <;> simp
theorem toI_set (s : List Nat) (q n : Nat) : (toI s).set q (n : Int) = toI (s.set q n) := by unfold toI; rw [List.map_set]
theorem u8_pow {t : Nat} (h : t < 8) : IntKind.u8.wrap ((1 : Int) * 2 ^ min t IntKind.u8.bits) = ((2 ^ t : Nat) : Int) := by
  have e : min t IntKind.u8.bits = t := by simp [IntKind.bits]; omega
  rw [e, wrap_u8]
  have h2 : (2 : Nat) ^ t < 2 ^ 8 := Nat.pow_lt_pow_right (by omega) h
  rw [Int.one_mul]
  have e2 : ((2 : Int) ^ t) = ((2 ^ t : Nat) : Int) := by simp
  rw [e2]
  generalize 2 ^ t = q at h2
  omega
theorem u32_bit {W i : Nat} (hi : i < 32) : Int.tmod (Int.fdiv (W : Int) (2 ^ min (Int.toNat (i : Int)) IntKind.u32.bits)) 2 = ((W / 2 ^ i % 2 : Nat) : Int) := by
  have e : min (Int.toNat (i : Int)) IntKind.u32.bits = i := by simp [IntKind.bits]; omega
  rw [e, fdiv_pow, Int.tmod_eq_emod_of_nonneg (Int.natCast_nonneg _)]
  rfl
theorem burst_round {x0 : List UInt8} {ok : Bool} {b : List Nat} {W p i : Nat} {ch : Bool} (hb : ∀ x ∈ b, x < 256) (hl : b.length ≤ 300) (hi : i < 32) (hp : p + i < 8 * b.length) :
    L8_8_r x0 (W : Int) ok (toI (rowN b W p i)) (p : Int) ch (i : Int) = some (.inl (x0, (W : Int), ok, toI (rowN b W p (i + 1)), (p : Int), ch || decide (W / 2 ^ i % 2 = 1), ((i + 1 : Nat) : Int))) := by
  have hlen : (toI (rowN b W p i)).length = b.length := by unfold toI; rw [List.length_map, rowN_len]
  have t1 : decide ((i : Int) < 32) = true := by simp; omega
  have t2 : IntKind.i64.wrap ((p : Int) + (i : Int)) = ((p + i : Nat) : Int) := by rw [wrap_i64 (by omega) (by omega)]; omega
  have t3 : IntKind.i64.wrap ((8 : Int) * ((b.length : Nat) : Int)) = ((8 * b.length : Nat) : Int) := by rw [wrap_i64 (by omega) (by omega)]; omega
  have t4 : decide ((((p + i : Nat) : Int)) < ((8 * b.length : Nat) : Int)) = true := by simp; omega
  have t5 : decide (0 ≤ (i : Int)) = true := by simp
  have t6 : IntKind.i64.wrap ((i : Int) + 1) = ((i + 1 : Nat) : Int) := by rw [wrap_i64 (by omega) (by omega)]; omega
  unfold L8_8_r
  simp only [t1, t2, hlen, t3, t4, t5, t6, cond_true, u32_bit hi]
  by_cases hbit : W / 2 ^ i % 2 = 1
  · have e1 : (((1 : Nat) : Int) == 1) = true := rfl
    have t7 : IntKind.i64.wrap (Int.tdiv (((p + i : Nat) : Int)) 8) = (((p + i) / 8 : Nat) : Int) := by
      rw [Int.tdiv_eq_ediv_of_nonneg (by omega), wrap_i64 (by omega) (by omega)]; omega
    have t8 : (decide (0 ≤ (((p + i) / 8 : Nat) : Int)) && decide ((((p + i) / 8 : Nat) : Int) < ((b.length : Nat) : Int))) = true := by simp; omega
    have t9 : decide ((p + i) / 8 < b.length) = true := by simp; omega
    have ta : Int.tmod (((p + i : Nat) : Int)) 8 = (((p + i) % 8 : Nat) : Int) := by rw [Int.tmod_eq_emod_of_nonneg (by omega)]; rfl
    have tb : decide (0 ≤ (((p + i) % 8 : Nat) : Int)) = true := decide_eq_true (Int.natCast_nonneg _)
    have hby : (rowN b W p i).getD ((p + i) / 8) 0 < 256 := by
      rw [List.getD_eq_getElem?_getD]
      cases h : (rowN b W p i)[(p + i) / 8]? with
      | none => simp
      | some y => exact rowN_lt hb W p i y (List.mem_of_getElem? h)
    have tc : bits .xor .u8 (((rowN b W p i).getD ((p + i) / 8) 0 : Nat) : Int) ((2 ^ ((p + i) % 8) : Nat) : Int) = (((rowN b W p i).getD ((p + i) / 8) 0 ^^^ 2 ^ ((p + i) % 8) : Nat) : Int) :=
      bits_xor_u8 _ _ hby (by have : (2 : Nat) ^ ((p + i) % 8) < 2 ^ 8 := Nat.pow_lt_pow_right (by omega) (by omega); omega)
    have hrow : rowN b W p (i + 1) = (rowN b W p i).set ((p + i) / 8) ((rowN b W p i).getD ((p + i) / 8) 0 ^^^ 2 ^ ((p + i) % 8)) := by simp only [rowN]; rw [if_pos hbit]
    simp only [hbit, e1, cond_true, t7, t8, t9, Int.toNat_natCast, ta, tb, u8_pow (show (p + i) % 8 < 8 by omega), toI_getD, tc, toI_set, hrow, decide_true, Bool.or_true]
  · have e1 : (((W / 2 ^ i % 2 : Nat) : Int) == 1) = false := beq_false_of_ne (by omega)
    have hrow : rowN b W p (i + 1) = rowN b W p i := by simp only [rowN]; rw [if_neg hbit]
    simp only [e1, cond_false, hrow, hbit, decide_false, Bool.or_false]
theorem burst_end {x0 : List UInt8} {ok : Bool} {b : List Nat} {W p i : Nat} {ch : Bool} (hl : b.length ≤ 300) (hlen : b.length = b.length) (hi : i ≤ 32) (hp : p + i ≤ 8 * b.length) (he : i = 32 ∨ p + i = 8 * b.length) {s : List Int} (hs : s.length = b.length) :
    L8_8_r x0 (W : Int) ok s (p : Int) ch (i : Int) = some (.inr (x0, (W : Int), ok, s, (p : Int), ch, (i : Int))) := by
  have t2 : IntKind.i64.wrap ((p : Int) + (i : Int)) = ((p + i : Nat) : Int) := by rw [wrap_i64 (by omega) (by omega)]; omega
  have t3 : IntKind.i64.wrap ((8 : Int) * ((b.length : Nat) : Int)) = ((8 * b.length : Nat) : Int) := by rw [wrap_i64 (by omega) (by omega)]; omega
  have t : (bif decide ((i : Int) < 32) then decide ((((p + i : Nat) : Int)) < ((8 * b.length : Nat) : Int)) else false) = false := by
    rcases he with he | he
    · rw [show decide ((i : Int) < 32) = false by simp; omega]; rfl
    · rw [show decide ((((p + i : Nat) : Int)) < ((8 * b.length : Nat) : Int)) = false by simp; omega]; cases decide ((i : Int) < 32) <;> rfl
  unfold L8_8_r
  simp only [t2, hs, t3, t, cond_false]
theorem burst_loop {x0 : List UInt8} {ok : Bool} {b : List Nat} {W p m : Nat} (hb : ∀ x ∈ b, x < 256) (hl : b.length ≤ 300) (hm : m ≤ 32) (hp : p + m ≤ 8 * b.length) (he : m = 32 ∨ p + m = 8 * b.length) : ∀ (k i : Nat), i + k = m →
    L8_8 (x0, (W : Int), ok, toI (rowN b W p i), (p : Int), decide (W % 2 ^ i ≠ 0), (i : Int)) = some (x0, (W : Int), ok, toI (rowN b W p m), (p : Int), decide (W % 2 ^ m ≠ 0), (m : Int))
  | 0, i, h => by
    have : i = m := by omega
    subst this
    unfold L8_8
    rw [lim_step]
    simp only [burst_end (x0 := x0) (ok := ok) (W := W) (ch := decide (W % 2 ^ i ≠ 0)) hl rfl hm hp he (s := toI (rowN b W p i)) (by unfold toI; rw [List.length_map, rowN_len])]
  | k + 1, i, h => by
    unfold L8_8
    rw [lim_step]
    simp only [burst_round (x0 := x0) (ok := ok) (W := W) (ch := decide (W % 2 ^ i ≠ 0)) hb hl (by omega : i < 32) (by omega : p + i < 8 * b.length)]
    have := burst_loop (x0 := x0) (ok := ok) (W := W) hb hl hm hp he k (i + 1) (by omega)
    unfold L8_8 at this
    rw [show (decide (W % 2 ^ i ≠ 0) || decide (W / 2 ^ i % 2 = 1)) = decide (W % 2 ^ (i + 1) ≠ 0) by rw [← Bool.decide_or]; exact decide_eq_decide.2 (low_or W i).symm]
    exact this
theorem fold_u8 (s : List Nat) (hs : ∀ x ∈ s, x < 256) (r : Nat) : (s.map UInt8.ofNat).foldl (fun r b => crcN r b.toNat) r = s.foldl crcN r := by
  rw [List.foldl_map]
  induction s generalizing r with
  | nil => rfl
  | cons b s ih =>
    simp only [List.foldl_cons]
    have : (UInt8.ofNat b).toNat = b := by rw [UInt8.toNat_ofNat']; exact Nat.mod_eq_of_lt (hs b (by simp))
    rw [this]
    exact ih (fun x hx => hs x (by simp [hx])) _
/-- A change of at most 32 bits in a row. -/
theorem sum_burst {b : List Nat} {W p m : Nat} (hb : ∀ x ∈ b, x < 256) (hm : m ≤ 32) (hp : p + m ≤ 8 * b.length) :
    (sumN ((rowN b W p m).map UInt8.ofNat) ≠ sumN (b.map UInt8.ofNat)) ↔ W % 2 ^ m ≠ 0 := by
  unfold sumN
  rw [fold_u8 _ (rowN_lt hb W p m), fold_u8 _ hb, fold_iter, fold_iter, rowN_len, rowN_num m hp, ← Nat.xor_assoc, iter1_xor]
  have hlow : W % 2 ^ m < 4294967296 := Nat.lt_of_lt_of_le (Nat.mod_lt _ (Nat.two_pow_pos m)) (Nat.pow_le_pow_right (n := 2) (by omega) hm)
  have hit : iter1 (8 * b.length) ((W % 2 ^ m) <<< p) = iter1 (8 * b.length - p) (W % 2 ^ m) := by
    rw [show 8 * b.length = p + (8 * b.length - p) by omega, iter1_add, iter1_shift, show p + (8 * b.length - p) - p = 8 * b.length - p by omega]
  rw [hit]
  generalize iter1 (8 * b.length) (4294967295 ^^^ numB b) = R
  constructor
  · intro h h0
    rw [h0, iter1_nil] at h
    simp at h
  · intro h h1
    have h2 : iter1 (8 * b.length - p) (W % 2 ^ m) = 0 := by
      have h3 : R ^^^ iter1 (8 * b.length - p) (W % 2 ^ m) = R := by
        have := congrArg (4294967295 ^^^ ·) h1
        simpa [← Nat.xor_assoc] using this
      have := congrArg (R ^^^ ·) h3
      simpa [← Nat.xor_assoc] using this
    exact h (iter1_zero hlow h2)
theorem WireSumBurst_pure (x0 : List UInt8) (x1 x2 : Int) (g0 : x0.length ≤ 140737488351232) (g1 : (Lit.int .i64 x1).wf = true) (g2 : (Lit.int .u32 x2).wf = true) : G8 x0 x1 x2 = some true := by
  have i1 := i64_of_wf g1
  obtain ⟨W, rfl⟩ : ∃ W : Nat, x2 = (W : Int) := by
    refine ⟨x2.toNat, ?_⟩
    simp [Lit.wf, IntKind.min, IntKind.max, IntKind.signed, IntKind.bits] at g2
    omega
  have hW : W < 4294967296 := by
    simp [Lit.wf, IntKind.min, IntKind.max, IntKind.signed, IntKind.bits] at g2
    omega
  have c300 : ∀ s : List UInt8, (if (300 : Int) < (s.length : Int) then (300 : Int) else (s.length : Int)) = ((min s.length 300 : Nat) : Int) := fun s => clip 300 s
  obtain ⟨s, hs⟩ : ∃ s, s = x0.take 300 := ⟨_, rfl⟩
  have hsl : s.length = min 300 x0.length := by rw [hs]; simp
  have l1 : decide (s.length ≤ 9223372036854775807) = true := decide_eq_true (by omega)
  obtain ⟨b, hbd⟩ : ∃ b : List Nat, b = s.map (·.toNat) := ⟨_, rfl⟩
  have hbl : b.length = s.length := by rw [hbd]; simp
  have hb : ∀ x ∈ b, x < 256 := by
    intro x hx
    rw [hbd] at hx
    obtain ⟨y, _, rfl⟩ := List.mem_map.1 hx
    exact y.toNat_lt
  have hbs : b.map UInt8.ofNat = s := by
    rw [hbd, List.map_map]
    conv => rhs; rw [← List.map_id s]
    apply List.map_congr_left
    intro x _
    simp
  have hI : List.map (fun (b : UInt8) => (b.toNat : Int)) s = toI b := by rw [hbd]; unfold toI; rw [List.map_map]; rfl
  have hIl : (toI b).length = b.length := by unfold toI; simp
  unfold G8
  simp only [P10_eq, cond_true, c300, sliceTest0 (Nat.min_le_left _ 300), cut0, take_min, ← hs, l1, hI, hIl]
  by_cases h0 : b.length = 0 ∨ W = 0
  · have : (bif (((b.length : Nat) : Int) == 0) then true else ((W : Int) == 0)) = true := by
      rcases h0 with h0 | h0
      · rw [h0]; rfl
      · rw [h0]; cases (((b.length : Nat) : Int) == 0) <;> rfl
    simp only [this, cond_true, F10_eq]
  · have hn : (bif (((b.length : Nat) : Int) == 0) then true else ((W : Int) == 0)) = false := by
      rw [show (((b.length : Nat) : Int) == 0) = false from beq_false_of_ne (by omega), show ((W : Int) == 0) = false from beq_false_of_ne (by omega)]; rfl
    have t3 : IntKind.i64.wrap ((8 : Int) * ((b.length : Nat) : Int)) = ((8 * b.length : Nat) : Int) := by rw [wrap_i64 (by omega) (by omega)]; omega
    obtain ⟨p, p1, p2⟩ := pick_nat i1 (n := 8 * b.length) (by omega)
    obtain ⟨m, hm⟩ : ∃ m, m = min 32 (8 * b.length - p) := ⟨_, rfl⟩
    have hloop := burst_loop (x0 := x0) (ok := F10) (b := b) (W := W) (p := p) (m := m) hb (by omega) (by omega) (by omega) (by omega) m 0 (by omega)
    have hz : decide (W % 2 ^ 0 ≠ 0) = false := by simp [Nat.mod_one]
    rw [hz] at hloop
    simp only [rowN, show ((0 : Nat) : Int) = 0 from rfl] at hloop
    simp only [hn, cond_false, t3, P14_eq i1 (show (0 : Int) < ((8 * b.length : Nat) : Int) by omega), F14_eq i1 (show (0 : Int) < ((8 * b.length : Nat) : Int) by omega), p1, cond_true]
    rw [hloop]
    have hrl : (toI (rowN b W p m)).length = b.length := by unfold toI; rw [List.length_map, rowN_len]
    have hfin : List.map (fun (n : Int) => UInt8.ofNat n.toNat) (List.take b.length (toI (rowN b W p m))) = (rowN b W p m).map UInt8.ofNat := by
      rw [← hrl, List.take_length]; unfold toI; rw [List.map_map]; rfl
    have htk : x0.take b.length = s := by rw [hbl, hsl, hs]; rw [List.take_eq_take_iff]; omega
    have hq1 : ((rowN b W p m).map UInt8.ofNat).length ≤ 140737488351232 := by rw [List.length_map, rowN_len]; omega
    have hq2 : s.length ≤ 140737488351232 := by omega
    simp only [Option.bind_some, hfin, hrl, P21_of _ (G21_eq hq1), F21_of _ (G21_eq hq1), cut0, htk, P21_of _ (G21_eq hq2), F21_of _ (G21_eq hq2), Bool.true_or, cond_true, sliceTest0 (show b.length ≤ x0.length by omega), F10_eq]
    have hkey := sum_burst (W := W) (p := p) (m := m) hb (by omega) (by omega)
    rw [hbs] at hkey
    by_cases hc : W % 2 ^ m ≠ 0
    · have h1 := hkey.2 hc
      have : (((sumN ((rowN b W p m).map UInt8.ofNat) : Nat) : Int) != ((sumN s : Nat) : Int)) = true := by simp; omega
      rw [this]; simp [hc, eqv]
    · have h1 : sumN ((rowN b W p m).map UInt8.ofNat) = sumN s := Classical.byContradiction fun q => hc (hkey.1 q)
      rw [h1]; simp [hc, eqv]
end Go.Ev.W
