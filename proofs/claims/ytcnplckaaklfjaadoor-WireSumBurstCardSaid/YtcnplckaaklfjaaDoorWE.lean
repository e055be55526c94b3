/- The reference's checksum. -/
import Derived.Test.YtcnplckaaklfjaaDoorWD
set_option linter.unusedSimpArgs false
set_option linter.unusedVariables false
namespace Go.Ev.W
open Go

def step1 (r : Nat) : Nat := r / 2 ^^^ (if r % 2 = 1 then 2197175160 else 0)
theorem step1_lt {r : Nat} (h : r < 4294967296) : step1 r < 4294967296 := by
  unfold step1
  split
  · exact Nat.xor_lt_two_pow (n := 32) (by omega) (by omega)
  · exact Nat.xor_lt_two_pow (n := 32) (by omega) (by omega)
theorem half2_xor (a b : Nat) : (a ^^^ b) / 2 = a / 2 ^^^ b / 2 := by
  have : ∀ n : Nat, n / 2 = n >>> 1 := fun n => by rw [Nat.shiftRight_eq_div_pow]
  rw [this, this, this, Nat.shiftRight_xor_distrib]
theorem step1_xor (a b : Nat) : step1 (a ^^^ b) = step1 a ^^^ step1 b := by
  unfold step1
  have e : (a ^^^ b) % 2 = (a % 2) ^^^ (b % 2) := Nat.xor_mod_two_pow (n := 1)
  rw [half2_xor, e]
  rcases Nat.mod_two_eq_zero_or_one a with h1 | h1 <;> rcases Nat.mod_two_eq_zero_or_one b with h2 | h2 <;> rw [h1, h2] <;> simp
  · ac_rfl
  · rw [show a / 2 ^^^ 2197175160 ^^^ (b / 2) = a / 2 ^^^ b / 2 ^^^ 2197175160 from by ac_rfl]
  · rw [show a / 2 ^^^ 2197175160 ^^^ (b / 2 ^^^ 2197175160) = a / 2 ^^^ b / 2 ^^^ (2197175160 ^^^ 2197175160) from by ac_rfl, Nat.xor_self, Nat.xor_zero]
def step4 (r : Nat) : Nat := step1 (step1 (step1 (step1 r)))
theorem step4_high (y : Nat) : step4 (16 * y) = y := by
  unfold step4 step1
  have h : ∀ k : Nat, (2 * k) / 2 ^^^ (if (2 * k) % 2 = 1 then 2197175160 else 0) = k := fun k => by
    rw [if_neg (by omega), Nat.xor_zero]; omega
  rw [show 16 * y = 2 * (2 * (2 * (2 * y))) by omega, h, h, h, h]
theorem split16 (y b : Nat) (hb : b < 16) : 16 * y + b = 16 * y ^^^ b := by
  apply Nat.eq_of_testBit_eq
  intro j
  have h1 := Nat.testBit_two_pow_mul_add (i := 4) y (b := b) hb j
  have h2 := Nat.testBit_two_pow_mul_add (i := 4) y (b := 0) (by omega) j
  simp only [Nat.zero_testBit, Nat.add_zero] at h2
  rw [Nat.testBit_xor]
  rw [show (16 : Nat) = 2 ^ 4 from rfl, h1, h2]
  split
  · simp
  · rw [Nat.testBit_lt_two_pow (x := b) (i := j) (Nat.lt_of_lt_of_le hb (by rw [show (16 : Nat) = 2 ^ 4 from rfl]; exact Nat.pow_le_pow_right (by omega) (by omega)))]
    simp
theorem half_step4 (r : Nat) : halfN r = step4 r := by
  have e : r = 16 * (r / 16) ^^^ (r % 16) := by
    rw [← split16 _ _ (Nat.mod_lt _ (by omega))]; omega
  have h16 : ∀ i : Fin 16, nibN i.1 = step4 i.1 := by decide +kernel
  have hx : ∀ a b : Nat, step4 (a ^^^ b) = step4 a ^^^ step4 b := fun a b => by
    unfold step4; rw [step1_xor, step1_xor, step1_xor, step1_xor]
  have ha : r &&& 15 = r % 16 := Nat.and_two_pow_sub_one_eq_mod r 4
  unfold halfN
  rw [ha]
  conv => rhs; rw [e, hx, step4_high]
  rw [h16 ⟨r % 16, Nat.mod_lt _ (by omega)⟩]
theorem crc_step (r b : Nat) : crcN r b = step4 (step4 (r ^^^ b)) := by
  unfold crcN; rw [half_step4, half_step4]
def iter1 : Nat → Nat → Nat
  | 0, r => r
  | k + 1, r => iter1 k (step1 r)
theorem iter1_lt : ∀ {k r : Nat}, r < 4294967296 → iter1 k r < 4294967296
  | 0, _, h => h
  | k + 1, _, h => iter1_lt (k := k) (step1_lt h)
theorem ref_bit {s : List UInt8} {r : Nat} (hr : r < 4294967296) {i : Int} {k : Nat} (hk : k < 8) : L22_7_r s (r : Int) i (k : Int) = some (.inl (s, ((step1 r : Nat) : Int), i, ((k + 1 : Nat) : Int))) := by
  have t : decide ((k : Int) < 8) = true := by simp; omega
  have e1 : Int.tmod (r : Int) 2 = ((r % 2 : Nat) : Int) := by rw [Int.tmod_eq_emod_of_nonneg (by omega)]; omega
  have e2 : IntKind.u32.wrap (Int.tdiv (r : Int) 2) = ((r / 2 : Nat) : Int) := by rw [Int.tdiv_eq_ediv_of_nonneg (by omega), wrap_u32]; omega
  have ei : IntKind.i64.wrap ((k : Int) + 1) = ((k + 1 : Nat) : Int) := by rw [wrap_i64 (by omega) (by omega)]; omega
  unfold L22_7_r
  simp only [t, e1, e2, ei, cond_true]
  unfold step1
  rcases Nat.mod_two_eq_zero_or_one r with h | h
  · have tb : (((r % 2 : Nat) : Int) == 1) = false := by rw [h]; rfl
    simp only [tb, cond_false, if_neg (by omega : ¬ r % 2 = 1), Nat.xor_zero]
  · have tb : (((r % 2 : Nat) : Int) == 1) = true := by rw [h]; rfl
    have ex : bits .xor .u32 ((r / 2 : Nat) : Int) (2197175160 : Int) = ((r / 2 ^^^ 2197175160 : Nat) : Int) := bits_xor_u32 _ 2197175160 (by omega) (by omega)
    simp only [tb, cond_true, if_pos h, ex]
theorem ref_bits {s : List UInt8} {i : Int} : ∀ (m k r : Nat), k + m = 8 → r < 4294967296 → L22_7 (s, (r : Int), i, (k : Int)) = some (s, ((iter1 m r : Nat) : Int), i, 8)
  | 0, k, r, hk, _ => by
    have : k = 8 := by omega
    subst this
    unfold L22_7
    rw [lim_step]
    simp [L22_7_r, iter1]
  | m + 1, k, r, hk, hr => by
    unfold L22_7
    rw [lim_step]
    simp only [ref_bit hr (by omega : k < 8)]
    have := ref_bits (s := s) (i := i) m (k + 1) (step1 r) (by omega) (step1_lt hr)
    unfold L22_7 at this
    rw [this]
    rfl
theorem ref_round {s : List UInt8} {r i : Nat} (hr : r < 4294967296) (hi : i < s.length) (hs : s.length ≤ 140737488351232) :
    L22_3_r s (r : Int) (i : Int) = some (.inl (s, ((crcN r (s[i]).toNat : Nat) : Int), ((i + 1 : Nat) : Int))) := by
  have hx : r ^^^ (s[i]).toNat < 4294967296 := Nat.xor_lt_two_pow (n := 32) (by omega) (by have := (s[i]).toNat_lt; omega)
  have eb : IntKind.u32.wrap ((List.getD s (Int.toNat (i : Int)) 0).toNat : Int) = (((s[i]).toNat : Nat) : Int) := by
    rw [wrap_u32, Int.toNat_natCast, List.getD_eq_getElem?_getD, List.getElem?_eq_getElem hi, Option.getD_some]
    have := (s[i]).toNat_lt
    omega
  have ex : bits .xor .u32 (r : Int) (((s[i]).toNat : Nat) : Int) = ((r ^^^ (s[i]).toNat : Nat) : Int) := bits_xor_u32 _ _ hr (by have := (s[i]).toNat_lt; omega)
  have ei : IntKind.i64.wrap ((i : Int) + 1) = ((i + 1 : Nat) : Int) := by rw [wrap_i64 (by omega) (by omega)]; omega
  have t1 : decide ((i : Int) < (s.length : Int)) = true := by simp; omega
  have t2 : (decide ((0 : Int) ≤ (i : Int)) && decide ((i : Int) < (s.length : Int))) = true := by simp; omega
  have hb := ref_bits (s := s) (i := (i : Int)) 8 0 (r ^^^ (s[i]).toNat) rfl hx
  have hb' : L22_7 (s, ((r ^^^ (s[i]).toNat : Nat) : Int), (i : Int), (0 : Int)) = _ := hb
  unfold L22_3_r
  simp only [t1, t2, cond_true, eb, ex, hb', Option.bind_some, ei]
  rw [crc_step]
  rfl
theorem ref_loop {s : List UInt8} (hs : s.length ≤ 140737488351232) : ∀ (m i r : Nat), i + m = s.length → r < 4294967296 → L22_3 (s, (r : Int), (i : Int)) = some (s, (((s.drop i).foldl (fun r b => crcN r b.toNat) r : Nat) : Int), (s.length : Int))
  | 0, i, r, him, hr => by
    have hi : i = s.length := by omega
    subst hi
    unfold L22_3
    rw [lim_step]
    simp [L22_3_r]
  | m + 1, i, r, him, hr => by
    have hi : i < s.length := by omega
    unfold L22_3
    rw [lim_step]
    simp only [ref_round hr hi hs]
    have := ref_loop hs m (i + 1) (crcN r (s[i]).toNat) (by omega) (crc_lt hr (s[i]).toNat_lt)
    unfold L22_3 at this
    rw [this, List.drop_eq_getElem_cons hi]
    rfl
/-- **The reference's Sum.** -/
theorem G22_eq {s : List UInt8} (hs : s.length ≤ 140737488351232) : G22 s = some ((sumN s : Nat) : Int) := by
  unfold G22
  have h := ref_loop hs s.length 0 4294967295 (by omega) (by omega)
  simp only [List.drop_zero] at h
  have h' : L22_3 (s, (4294967295 : Int), (0 : Int)) = _ := h
  simp only [h', Option.bind_some]
  have e1 : (if IntKind.u32.signed then (-1 : Int) else IntKind.u32.max) = ((4294967295 : Nat) : Int) := by decide
  rw [e1, bits_xor_u32 _ _ (by omega) (fold_lt (by omega))]
  have := sum_lt s
  unfold sumN at this ⊢
  rw [wrap_i64 (by omega) (by omega)]
end Go.Ev.W
