/- Numbers of the machine and their bits; the checksum as a fold. -/
import Derived.Test.YtcnplckaaklfjaaDoorW
import Derived.Laws.Bits64b
set_option linter.unusedSimpArgs false
set_option linter.unusedVariables false
namespace Go.Ev.W
open Go

theorem wrap_u8 (n : Int) : IntKind.u8.wrap n = n % 256 := by simp [IntKind.wrap, IntKind.bits, IntKind.signed]
theorem wrap_u32 (n : Int) : IntKind.u32.wrap n = n % 4294967296 := by simp [IntKind.wrap, IntKind.bits, IntKind.signed]
theorem wrap_i64 {n : Int} (h1 : -9223372036854775808 ≤ n) (h2 : n < 9223372036854775808) : IntKind.i64.wrap n = n := by
  simp only [IntKind.wrap, IntKind.bits, IntKind.signed]
  by_cases h : 0 ≤ n
  · have : n % (2 ^ 64 : Int) = n := by omega
    simp only [this]
    rw [if_neg (by simp; omega)]
  · have : n % (2 ^ 64 : Int) = n + 18446744073709551616 := by omega
    simp only [this]
    rw [if_pos (by simp; omega)]
    omega
theorem bits_xor_u32 (a b : Nat) (ha : a < 4294967296) (hb : b < 4294967296) : bits .xor .u32 (a : Int) (b : Int) = ((a ^^^ b : Nat) : Int) := by
  have hx : a ^^^ b < 2 ^ 32 := Nat.xor_lt_two_pow (by omega) (by omega)
  have h1 : (BitVec.ofInt 32 (a : Int)).toNat = a := by
    rw [BitVec.ofInt_natCast, BitVec.toNat_ofNat]; exact Nat.mod_eq_of_lt (by omega)
  have h2 : (BitVec.ofInt 32 (b : Int)).toNat = b := by
    rw [BitVec.ofInt_natCast, BitVec.toNat_ofNat]; exact Nat.mod_eq_of_lt (by omega)
  show IntKind.u32.wrap ((BitVec.ofInt 32 (a : Int) ^^^ BitVec.ofInt 32 (b : Int)).toNat : Int) = _
  rw [BitVec.toNat_xor, h1, h2, wrap_u32]
  omega
theorem bits_and_u32 (a b : Nat) (ha : a < 4294967296) (hb : b < 4294967296) : bits .and .u32 (a : Int) (b : Int) = ((a &&& b : Nat) : Int) := by
  have hx : a &&& b < 2 ^ 32 := Nat.and_lt_two_pow _ (by omega)
  have h1 : (BitVec.ofInt 32 (a : Int)).toNat = a := by
    rw [BitVec.ofInt_natCast, BitVec.toNat_ofNat]; exact Nat.mod_eq_of_lt (by omega)
  have h2 : (BitVec.ofInt 32 (b : Int)).toNat = b := by
    rw [BitVec.ofInt_natCast, BitVec.toNat_ofNat]; exact Nat.mod_eq_of_lt (by omega)
  show IntKind.u32.wrap ((BitVec.ofInt 32 (a : Int) &&& BitVec.ofInt 32 (b : Int)).toNat : Int) = _
  rw [BitVec.toNat_and, h1, h2, wrap_u32]
  omega
theorem bits_xor_u8 (a b : Nat) (ha : a < 256) (hb : b < 256) : bits .xor .u8 (a : Int) (b : Int) = ((a ^^^ b : Nat) : Int) := by
  have hx : a ^^^ b < 2 ^ 8 := Nat.xor_lt_two_pow (by omega) (by omega)
  have h1 : (BitVec.ofInt 8 (a : Int)).toNat = a := by
    rw [BitVec.ofInt_natCast, BitVec.toNat_ofNat]; exact Nat.mod_eq_of_lt (by omega)
  have h2 : (BitVec.ofInt 8 (b : Int)).toNat = b := by
    rw [BitVec.ofInt_natCast, BitVec.toNat_ofNat]; exact Nat.mod_eq_of_lt (by omega)
  show IntKind.u8.wrap ((BitVec.ofInt 8 (a : Int) ^^^ BitVec.ofInt 8 (b : Int)).toNat : Int) = _
  rw [BitVec.toNat_xor, h1, h2, wrap_u8]
  omega
theorem bits_xor_i64 (a b : Nat) (ha : a < 9223372036854775808) (hb : b < 9223372036854775808) : bits .xor .i64 (a : Int) (b : Int) = ((a ^^^ b : Nat) : Int) := by
  have hx : a ^^^ b < 2 ^ 63 := Nat.xor_lt_two_pow (by omega) (by omega)
  have h1 : (BitVec.ofInt 64 (a : Int)).toNat = a := by
    rw [BitVec.ofInt_natCast, BitVec.toNat_ofNat]; exact Nat.mod_eq_of_lt (by omega)
  have h2 : (BitVec.ofInt 64 (b : Int)).toNat = b := by
    rw [BitVec.ofInt_natCast, BitVec.toNat_ofNat]; exact Nat.mod_eq_of_lt (by omega)
  show IntKind.i64.wrap ((BitVec.ofInt 64 (a : Int) ^^^ BitVec.ofInt 64 (b : Int)).toNat : Int) = _
  rw [BitVec.toNat_xor, h1, h2, wrap_i64 (by omega) (by omega)]
theorem fdiv_pow (a k : Nat) : Int.fdiv (a : Int) (2 ^ k : Int) = ((a / 2 ^ k : Nat) : Int) := by
  have : (2 ^ k : Int) = ((2 ^ k : Nat) : Int) := by norm_cast
  rw [this]
  exact (Int.ofNat_fdiv a (2 ^ k)).symm

/-! ### The checksum -/
def nibN (i : Nat) : Nat := (nibbles.getD i 0).toNat
def halfN (r : Nat) : Nat := r / 16 ^^^ nibN (r &&& 15)
def crcN (r b : Nat) : Nat := halfN (halfN (r ^^^ b))
def sumN (s : List UInt8) : Nat := 4294967295 ^^^ s.foldl (fun r b => crcN r b.toNat) 4294967295
theorem nib_lt : ∀ i, nibN i < 4294967296 := by
  intro i
  by_cases h : i < 16
  · have : ∀ i : Fin 16, nibN i.1 < 4294967296 := by decide
    exact this ⟨i, h⟩
  · unfold nibN
    rw [List.getD_eq_getElem?_getD, List.getElem?_eq_none (by show 16 ≤ i; omega)]; decide
theorem nib_cast (i : Nat) : nibbles.getD i 0 = ((nibN i : Nat) : Int) := by
  by_cases h : i < 16
  · have : ∀ i : Fin 16, nibbles.getD i.1 0 = ((nibN i.1 : Nat) : Int) := by decide
    exact this ⟨i, h⟩
  · unfold nibN
    rw [List.getD_eq_getElem?_getD, List.getElem?_eq_none (by show 16 ≤ i; omega)]; rfl
theorem half_lt {r : Nat} (h : r < 4294967296) : halfN r < 4294967296 := Nat.xor_lt_two_pow (n := 32) (by omega) (nib_lt _)
theorem crc_lt {r b : Nat} (h : r < 4294967296) (hb : b < 256) : crcN r b < 4294967296 := half_lt (half_lt (Nat.xor_lt_two_pow (n := 32) (by omega) (by omega)))
theorem fold_lt : ∀ {s : List UInt8} {r : Nat}, r < 4294967296 → s.foldl (fun r b => crcN r b.toNat) r < 4294967296
  | [], _, h => h
  | b :: s, r, h => fold_lt (s := s) (crc_lt h b.toNat_lt)
theorem half_step {v : Nat} (h : v < 4294967296) : bits .xor .u32 (Int.fdiv (v : Int) (2 ^ min (Int.toNat (4 : Int)) (IntKind.u32.bits))) (List.getD nibbles (Int.toNat (bits .and .u32 (v : Int) (15 : Int))) (0 : Int)) = ((halfN v : Nat) : Int) := by
  have e1 : (2 ^ min (Int.toNat (4 : Int)) (IntKind.u32.bits) : Int) = 2 ^ 4 := rfl
  have e2 : bits .and .u32 (v : Int) (15 : Int) = ((v &&& 15 : Nat) : Int) := bits_and_u32 v 15 h (by omega)
  rw [e1, fdiv_pow, e2, Int.toNat_natCast, nib_cast, bits_xor_u32 _ _ (by omega) (nib_lt _)]
  rfl
theorem and15 {v : Nat} (h : v < 4294967296) : (decide (0 ≤ bits .and .u32 (v : Int) (15 : Int)) && decide (bits .and .u32 (v : Int) (15 : Int) < (16 : Nat))) = true := by
  have e2 : bits .and .u32 (v : Int) (15 : Int) = ((v &&& 15 : Nat) : Int) := bits_and_u32 v 15 h (by omega)
  rw [e2]
  have : v &&& 15 < 16 := Nat.and_lt_two_pow (n := 4) v (by omega)
  simp; omega
theorem sum_round {s : List UInt8} {r i : Nat} (hr : r < 4294967296) (hi : i < s.length) (hs : s.length ≤ 140737488351232) :
    L21_3_r s (r : Int) (s.length : Int) (i : Int) = some (.inl (s, ((crcN r (s[i]).toNat : Nat) : Int), (s.length : Int), ((i + 1 : Nat) : Int))) := by
  have hx : r ^^^ (s[i]).toNat < 4294967296 := Nat.xor_lt_two_pow (n := 32) (by omega) (by have := (s[i]).toNat_lt; omega)
  have eb : IntKind.u32.wrap ((List.getD s (Int.toNat (i : Int)) 0).toNat : Int) = (((s[i]).toNat : Nat) : Int) := by
    rw [wrap_u32, Int.toNat_natCast, List.getD_eq_getElem?_getD, List.getElem?_eq_getElem hi, Option.getD_some]
    have := (s[i]).toNat_lt
    omega
  have ex : bits .xor .u32 (r : Int) (((s[i]).toNat : Nat) : Int) = ((r ^^^ (s[i]).toNat : Nat) : Int) := bits_xor_u32 _ _ hr (by have := (s[i]).toNat_lt; omega)
  have ei : IntKind.i64.wrap ((i : Int) + 1) = ((i + 1 : Nat) : Int) := by rw [wrap_i64 (by omega) (by omega)]; omega
  have t1 : decide ((i : Int) < (s.length : Int)) = true := by simp; omega
  have t2 : (decide ((0 : Int) ≤ (i : Int)) && decide ((i : Int) < (s.length : Int))) = true := by simp; omega
  unfold L21_3_r
  simp only [t1, t2, cond_true, eb, ex, and15 hx, half_step hx, and15 (half_lt hx), half_step (half_lt hx), ei]
  rfl
theorem sum_end {s : List UInt8} {r : Int} {n : Int} : L21_3_r s r n n = some (.inr (s, r, n, n)) := by
  unfold L21_3_r
  simp
theorem sum_loop {s : List UInt8} (hs : s.length ≤ 140737488351232) : ∀ (m i r : Nat), i + m = s.length → r < 4294967296 → L21_3 (s, (r : Int), (s.length : Int), (i : Int)) = some (s, (((s.drop i).foldl (fun r b => crcN r b.toNat) r : Nat) : Int), (s.length : Int), (s.length : Int))
  | 0, i, r, him, hr => by
    have hi : i = s.length := by omega
    subst hi
    unfold L21_3
    rw [lim_step]
    simp only [sum_end, List.drop_length, List.foldl_nil]
  | m + 1, i, r, him, hr => by
    have hi : i < s.length := by omega
    unfold L21_3
    rw [lim_step]
    simp only [sum_round hr hi hs]
    have := sum_loop hs m (i + 1) (crcN r (s[i]).toNat) (by omega) (crc_lt hr (s[i]).toNat_lt)
    unfold L21_3 at this
    rw [this, List.drop_eq_getElem_cons hi]
    rfl
theorem sum_lt (s : List UInt8) : sumN s < 4294967296 := Nat.xor_lt_two_pow (n := 32) (by omega) (fold_lt (by omega))
/-- **Sum.** -/
theorem G21_eq {s : List UInt8} (hs : s.length ≤ 140737488351232) : G21 s = some ((sumN s : Nat) : Int) := by
  unfold G21
  have h := sum_loop hs s.length 0 4294967295 (by omega) (by omega)
  simp only [List.drop_zero] at h
  have h' : L21_3 (s, (4294967295 : Int), ((s.length : Nat) : Int), (0 : Int)) = _ := h
  simp only [h', Option.bind_some]
  have e1 : (if IntKind.u32.signed then (-1 : Int) else IntKind.u32.max) = ((4294967295 : Nat) : Int) := by decide
  rw [e1, bits_xor_u32 _ _ (by omega) (fold_lt (by omega))]
  have := sum_lt s
  unfold sumN at this ⊢
  rw [wrap_i64 (by omega) (by omega)]

/-! ### The checksum is affine -/
theorem nib_xor (a b : Nat) (ha : a < 16) (hb : b < 16) : nibN (a ^^^ b) = nibN a ^^^ nibN b := by
  have : ∀ a b : Fin 16, nibN (a.1 ^^^ b.1) = nibN a.1 ^^^ nibN b.1 := by decide +kernel
  exact this ⟨a, ha⟩ ⟨b, hb⟩
theorem xor_div (a b : Nat) : (a ^^^ b) / 16 = a / 16 ^^^ b / 16 := by
  have : ∀ n : Nat, n / 16 = n >>> 4 := fun n => by rw [Nat.shiftRight_eq_div_pow]
  rw [this, this, this, Nat.shiftRight_xor_distrib]
theorem half_xor (a b : Nat) : halfN (a ^^^ b) = halfN a ^^^ halfN b := by
  unfold halfN
  have e : (a ^^^ b) &&& 15 = (a &&& 15) ^^^ (b &&& 15) := Nat.and_xor_distrib_right ..
  rw [xor_div, e, nib_xor _ _ (Nat.and_lt_two_pow (n := 4) a (by omega)) (Nat.and_lt_two_pow (n := 4) b (by omega))]
  ac_rfl
theorem crc_xor (a b x y : Nat) : crcN (a ^^^ b) (x ^^^ y) = crcN a x ^^^ crcN b y := by
  unfold crcN
  rw [show (a ^^^ b) ^^^ (x ^^^ y) = (a ^^^ x) ^^^ (b ^^^ y) from by ac_rfl, half_xor, half_xor]
end Go.Ev.W
