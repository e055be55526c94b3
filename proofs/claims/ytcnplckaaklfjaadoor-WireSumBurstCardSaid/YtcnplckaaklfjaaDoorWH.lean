/- Encodings of integers: what is read is what was put. -/
import Derived.Test.YtcnplckaaklfjaaDoorWG
set_option linter.unusedSimpArgs false
set_option linter.unusedVariables false
namespace Go.Ev.W
open Go

/-- The number that bytes stand for. -/
def val : List UInt8 → Nat
  | [] => 0
  | b :: r => b.toNat % 128 + 128 * val r
/-- All bytes but the last say that more follow; the last one does not. -/
def chained : List UInt8 → Bool
  | [] => false
  | [b] => decide (b.toNat < 128)
  | b :: r => decide (128 ≤ b.toNat) && chained r
/-- No needless last byte. -/
def canon (l : List UInt8) : Prop := l.length = 1 ∨ l.getLastD 0 ≠ 0
theorem zz_unzz (z : Nat) : zz (unzz z) = z := by
  unfold zz unzz
  rcases Nat.mod_two_eq_zero_or_one z with h | h
  · rw [if_pos h, if_pos (by omega)]; omega
  · rw [if_neg (by omega : ¬ z % 2 = 0), if_neg (by omega)]; omega
theorem unzz_zz {n : Int} : unzz (zz n) = n := by
  unfold zz unzz
  split <;> split <;> omega
theorem val_lt : ∀ (l : List UInt8), val l < 128 ^ l.length
  | [] => by simp [val]
  | b :: r => by
    have := val_lt r
    simp only [val, List.length_cons, Nat.pow_succ]
    omega
theorem val_pos : ∀ {l : List UInt8}, chained l = true → l.getLastD 0 ≠ 0 → 0 < val l
  | [], h, _ => by simp [chained] at h
  | [b], h, hl => by
    simp only [chained, decide_eq_true_eq] at h
    have : b ≠ 0 := by simpa using hl
    have hb : b.toNat ≠ 0 := fun e => this (by
      apply UInt8.toNat_inj.1; simpa using e)
    simp only [val]; omega
  | b :: c :: r, h, hl => by
    simp only [chained, Bool.and_eq_true] at h
    have := val_pos (l := c :: r) h.2 (by simpa using hl)
    simp only [val] at this ⊢; omega
theorem byte_mod {b : UInt8} (h : 128 ≤ b.toNat) : UInt8.ofNat (b.toNat % 128 + 128) = b := by
  have := b.toNat_lt
  rw [show b.toNat % 128 + 128 = b.toNat by omega, UInt8.ofNat_toNat]
theorem enc_val : ∀ {l : List UInt8} {f : Nat}, chained l = true → l.length ≤ f → canon l → encF f (val l) = l
  | [], f, h, _, _ => by simp [chained] at h
  | [b], f, h, hl, _ => by
    simp only [chained, decide_eq_true_eq] at h
    obtain ⟨f', rfl⟩ : ∃ f', f = f' + 1 := ⟨f - 1, by simp at hl; omega⟩
    have hv : val [b] = b.toNat := by simp only [val]; omega
    simp only [encF, hv, if_pos h, UInt8.ofNat_toNat]
  | b :: c :: r, f, h, hl, hc => by
    simp only [chained, Bool.and_eq_true, decide_eq_true_eq] at h
    obtain ⟨f', rfl⟩ : ∃ f', f = f' + 1 := ⟨f - 1, by simp at hl; omega⟩
    have hlast : (c :: r).getLastD 0 ≠ 0 := by
      rcases hc with hc | hc
      · simp at hc
      · simpa using hc
    have hp := val_pos h.2 hlast
    have ih := enc_val (l := c :: r) (f := f') h.2 (by simp at hl ⊢; omega) (.inr hlast)
    have hv : val (b :: c :: r) = b.toNat % 128 + 128 * val (c :: r) := rfl
    have hn : ¬ val (b :: c :: r) < 128 := by rw [hv]; omega
    simp only [encF, if_neg hn]
    rw [hv, show (b.toNat % 128 + 128 * val (c :: r)) % 128 = b.toNat % 128 by omega, show (b.toNat % 128 + 128 * val (c :: r)) / 128 = val (c :: r) by omega, ih, byte_mod h.1]
end Go.Ev.W
