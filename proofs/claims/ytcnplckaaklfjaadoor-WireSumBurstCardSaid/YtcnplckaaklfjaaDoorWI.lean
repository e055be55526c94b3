/- Encodings of integers: what was put is read; what scan finds. -/
import Derived.Test.YtcnplckaaklfjaaDoorWH
set_option linter.unusedSimpArgs false
set_option linter.unusedVariables false
namespace Go.Ev.W
open Go

theorem enc_ne (f z : Nat) : encF (f + 1) z ≠ [] := by
  simp only [encF]; split <;> simp
theorem chained_cons {b : UInt8} {r : List UInt8} (hr : r ≠ []) : chained (b :: r) = (decide (128 ≤ b.toNat) && chained r) := by
  cases r with
  | nil => exact absurd rfl hr
  | cons c r => rfl
theorem enc_props : ∀ (f z : Nat), z < 128 ^ (f + 1) → chained (encF (f + 1) z) = true ∧ val (encF (f + 1) z) = z ∧ (z ≠ 0 → (encF (f + 1) z).getLastD 0 ≠ 0) ∧ (z = 0 → (encF (f + 1) z).length = 1) := by
  intro f
  induction f with
  | zero =>
    intro z h
    have hc : z < 128 := by simpa using h
    have hn : (UInt8.ofNat z).toNat = z := by rw [UInt8.toNat_ofNat']; omega
    simp only [encF, if_pos hc]
    refine ⟨by simp [chained, hn, hc], by simp only [val, hn]; omega, fun hz e => hz ?_, fun _ => rfl⟩
    have := congrArg UInt8.toNat e
    simpa [hn] using this
  | succ f ih =>
    intro z h
    by_cases hc : z < 128
    · have hn : (UInt8.ofNat z).toNat = z := by rw [UInt8.toNat_ofNat']; omega
      have he : encF (f + 1 + 1) z = [UInt8.ofNat z] := by simp [encF, hc]
      rw [he]
      refine ⟨by simp [chained, hn, hc], by simp only [val, hn]; omega, fun hz e => hz ?_, fun _ => rfl⟩
      have := congrArg UInt8.toNat e
      simpa [hn] using this
    · obtain ⟨h1, h2, h3, _⟩ := ih (z / 128) (by rw [Nat.pow_succ 128 (f + 1)] at h; exact Nat.div_lt_of_lt_mul (by omega))
      have he : encF (f + 1 + 1) z = UInt8.ofNat (z % 128 + 128) :: encF (f + 1) (z / 128) := by
        rw [encF]; rw [if_neg hc]
      have hn : (UInt8.ofNat (z % 128 + 128)).toNat = z % 128 + 128 := by rw [UInt8.toNat_ofNat']; omega
      rw [he]
      refine ⟨?_, ?_, fun hz => ?_, fun hz => by omega⟩
      · rw [chained_cons (enc_ne f _), h1, hn]; simp
      · simp only [val, hn, h2]; omega
      · have := h3 (by omega)
        cases hl : encF (f + 1) (z / 128) with
        | nil => exact absurd hl (enc_ne f _)
        | cons c r => rw [hl] at this; simpa using this
theorem enc_canon {f z : Nat} (h : z < 128 ^ (f + 1)) : canon (encF (f + 1) z) := by
  obtain ⟨_, _, h3, h4⟩ := enc_props f z h
  by_cases hz : z = 0
  · exact .inl (h4 hz)
  · exact .inr (h3 hz)
/-- Bytes are the encoding of what they stand for exactly if they have no needless last byte. -/
theorem enc_iff {l : List UInt8} (hc : chained l = true) (hl : l.length ≤ 9) : encN (val l) = l ↔ canon l := by
  constructor
  · intro h
    have := enc_canon (f := 9) (z := val l) (Nat.lt_of_lt_of_le (val_lt l) (Nat.pow_le_pow_right (by omega) (by omega)))
    rw [← h]; exact this
  · intro h
    exact enc_val hc (by omega) h
/-- What is scanned is a chain. -/
theorem scan_of {s : List UInt8} : ∀ {l : List UInt8} {a f i z : Nat}, chained l = true → l.length ≤ f → l <+: s.drop (a + i) → scan s a f i z = some (z + val l * 128 ^ i, i + l.length - 1, (l.getLastD 0).toNat)
  | [], _, _, _, _, h, _, _ => by simp [chained] at h
  | b :: r, a, f, i, z, h, hl, hp => by
    obtain ⟨f', rfl⟩ : ∃ f', f = f' + 1 := ⟨f - 1, by simp at hl; omega⟩
    obtain ⟨t, ht⟩ := hp
    have hlen : a + i < s.length := by
      have := congrArg List.length ht
      simp at this; omega
    have hb : s.getD (a + i) 0 = b := by
      have := congrArg (fun x : List UInt8 => x[0]?) ht
      simp only [List.cons_append, List.getElem?_cons_zero, List.getElem?_drop, Nat.add_zero] at this
      rw [List.getD_eq_getElem?_getD, ← this]; rfl
    simp only [scan, if_pos hlen, hb]
    cases r with
    | nil =>
      simp only [chained, decide_eq_true_eq] at h
      rw [if_neg (by omega)]
      simp [val]
    | cons c r =>
      simp only [chained, Bool.and_eq_true, decide_eq_true_eq] at h
      rw [if_pos h.1]
      have hp' : (c :: r) <+: s.drop (a + (i + 1)) := by
        refine ⟨t, ?_⟩
        have := congrArg (List.drop 1) ht
        simpa [List.drop_drop, Nat.add_assoc] using this
      rw [scan_of (l := c :: r) (a := a) (f := f') (i := i + 1) h.2 (by simp at hl ⊢; omega) hp']
      have hv : val (b :: c :: r) = b.toNat % 128 + 128 * val (c :: r) := rfl
      rw [hv, Nat.pow_succ]
      simp only [Option.some.injEq, Prod.mk.injEq]
      refine ⟨?_, by simp; omega, by simp⟩
      rw [Nat.add_mul, Nat.add_assoc]
      congr 2
      rw [Nat.mul_comm 128 (val (c :: r)), Nat.mul_assoc, Nat.mul_comm 128]
theorem scan_some {s : List UInt8} : ∀ {f a i z z' j b : Nat}, scan s a f i z = some (z', j, b) → ∃ l, chained l = true ∧ l.length ≤ f ∧ l <+: s.drop (a + i) ∧ z' = z + val l * 128 ^ i ∧ j = i + l.length - 1 ∧ b = (l.getLastD 0).toNat ∧ 1 ≤ l.length
  | 0, _, _, _, _, _, _, h => by simp [scan] at h
  | f + 1, a, i, z, z', j, b, h => by
    simp only [scan] at h
    split at h
    · rename_i hl
      have hd : s.drop (a + i) = s.getD (a + i) 0 :: s.drop (a + i + 1) := by
        rw [List.drop_eq_getElem_cons hl, List.getD_eq_getElem?_getD, List.getElem?_eq_getElem hl]; rfl
      split at h
      · rename_i hb
        obtain ⟨l, h1, h2, ⟨t, ht⟩, h4, h5, h6, h7⟩ := scan_some h
        have hne : l ≠ [] := by rintro rfl; simp at h7
        refine ⟨s.getD (a + i) 0 :: l, by rw [chained_cons hne, h1]; simp; exact hb, by simp; omega, ⟨t, ?_⟩, ?_, by simp; omega, ?_, by simp⟩
        · rw [hd, List.cons_append, ht]; rfl
        · rw [h4]
          have hv : val (s.getD (a + i) 0 :: l) = (s.getD (a + i) 0).toNat % 128 + 128 * val l := rfl
          rw [hv, Nat.pow_succ, Nat.add_mul, Nat.add_assoc]
          congr 2
          rw [Nat.mul_comm 128 (val l), Nat.mul_assoc, Nat.mul_comm 128]
        · rw [h6]
          cases l with
          | nil => exact absurd rfl hne
          | cons c r => simp
      · rename_i hb
        cases h
        refine ⟨[s.getD (a + i) 0], decide_eq_true (by omega), by simp, ⟨s.drop (a + i + 1), hd.symm⟩, ?_, by simp, by simp, by simp⟩
        simp [val]
    · cases h
end Go.Ev.W
