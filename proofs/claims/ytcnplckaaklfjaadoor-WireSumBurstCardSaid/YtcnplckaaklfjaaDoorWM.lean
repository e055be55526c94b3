/- Encodings: what Int and String accept, and nothing else. -/
import Derived.Test.YtcnplckaaklfjaaDoorWL
set_option linter.unusedSimpArgs false
set_option linter.unusedVariables false
namespace Go.Ev.W
open Go

def inR (n : Int) : Prop := -4611686018427387903 ≤ n ∧ n ≤ 4611686018427387903
/-- The encoding of an integer. -/
def enc (n : Int) : List UInt8 := encN (zz n)
theorem putInt_in {n : Int} (h : inR n) : putInt n = (enc n, 0) := by
  unfold putInt inR at *; rw [if_neg (by omega)]; rfl
theorem zz_lt {n : Int} (h : inR n) : zz n < 9223372036854775807 := by
  unfold zz inR at *; split <;> omega
theorem enc_chained {n : Int} (h : inR n) : chained (enc n) = true ∧ val (enc n) = zz n ∧ canon (enc n) := by
  have := zz_lt h
  have hz : zz n < 128 ^ (9 + 1) := Nat.lt_trans this (by decide)
  obtain ⟨h1, h2, _⟩ := enc_props 9 (zz n) hz
  exact ⟨h1, h2, enc_canon hz⟩
theorem val_lower : ∀ {l : List UInt8}, chained l = true → l.getLastD 0 ≠ 0 → 128 ^ (l.length - 1) ≤ val l
  | [], h, _ => by simp [chained] at h
  | [b], h, hl => by
    simp only [List.getLastD] at hl
    simp only [chained, decide_eq_true_eq] at h
    have : b.toNat ≠ 0 := fun q => hl (UInt8.toNat_inj.1 (by simpa using q))
    simp only [val, List.length_cons, List.length_nil]
    simp; omega
  | b :: c :: r, h, hl => by
    rw [chained_cons (by simp)] at h
    simp only [Bool.and_eq_true] at h
    have ih := val_lower (l := c :: r) h.2 (by simpa using hl)
    have e : (b :: c :: r).length - 1 = (c :: r).length - 1 + 1 := by simp
    rw [e, Nat.pow_succ]
    have : val (b :: c :: r) = b.toNat % 128 + 128 * val (c :: r) := rfl
    omega
theorem enc_short {n : Int} (h : inR n) : (enc n).length ≤ 9 := by
  obtain ⟨h1, h2, h3⟩ := enc_chained h
  rcases h3 with h3 | h3
  · omega
  · have := val_lower h1 h3
    rw [h2] at this
    have hz := zz_lt h
    apply Classical.byContradiction
    intro hc
    have : 128 ^ 9 ≤ 128 ^ ((enc n).length - 1) := Nat.pow_le_pow_right (by omega) (by omega)
    have e : (128 : Nat) ^ 9 = 9223372036854775808 := by decide
    omega
theorem enc_pos {n : Int} (_ : inR n) : 0 < (enc n).length := by
  have := enc_ne 9 (zz n)
  unfold enc encN
  cases he : encF 10 (zz n) with
  | nil => exact absurd he this
  | cons _ _ => simp
/-- Chains are no beginnings of one another. -/
theorem chained_pre : ∀ {l m : List UInt8}, chained l = true → chained m = true → l <+: m → l = m
  | [], _, h, _, _ => by simp [chained] at h
  | [b], m, h, hm, hp => by
    obtain ⟨t, rfl⟩ := hp
    cases t with
    | nil => rfl
    | cons c t =>
      simp only [List.cons_append, List.nil_append] at hm
      rw [chained_cons (by simp)] at hm
      simp [chained] at h hm
      omega
  | b :: c :: r, m, h, hm, hp => by
    obtain ⟨t, rfl⟩ := hp
    rw [chained_cons (by simp)] at h
    simp only [List.cons_append] at hm ⊢
    rw [chained_cons (by simp)] at hm
    simp only [Bool.and_eq_true] at h hm
    have := chained_pre (l := c :: r) (m := c :: (r ++ t)) h.2 hm.2 ⟨t, by simp⟩
    rw [this]
theorem pre_total {l a b : List UInt8} (ha : a <+: l) (hb : b <+: l) : a <+: b ∨ b <+: a := by
  rcases Nat.le_total a.length b.length with h | h
  · exact .inl (List.prefix_of_prefix_length_le ha hb h)
  · exact .inr (List.prefix_of_prefix_length_le hb ha h)
theorem enc_inj {l : List UInt8} {m n : Int} (hm : inR m) (hn : inR n) (h1 : enc m <+: l) (h2 : enc n <+: l) : m = n := by
  obtain ⟨a1, a2, _⟩ := enc_chained hm
  obtain ⟨b1, b2, _⟩ := enc_chained hn
  have : enc m = enc n := by
    rcases pre_total h1 h2 with h | h
    · exact chained_pre a1 b1 h
    · exact (chained_pre b1 a1 h).symm
  have hz : zz m = zz n := by rw [← a2, ← b2, this]
  have := congrArg unzz hz
  simpa [unzz_zz] using this
/-- Int accepts an encoding. -/
theorem int_accepts {s : List UInt8} {k : Nat} {n : Int} (hk : k ≤ s.length) (hn : inR n) (h : enc n <+: s.drop k) : intP s (k : Int) = (n, (k : Int) + (enc n).length, 0) := by
  obtain ⟨h1, h2, h3⟩ := enc_chained hn
  have hs := scan_of (s := s) (a := k) (f := 9) (i := 0) (z := 0) h1 (enc_short hn) (by simpa using h)
  have hp := enc_pos hn
  unfold intP
  rw [if_neg (by omega), Int.toNat_natCast, hs]
  have hv : val (enc n) * 128 ^ 0 = zz n := by rw [h2]; simp
  simp only [intTail, Nat.zero_add, hv, unzz_zz]
  have hb : ((enc n).getLastD 0).toNat = 0 ↔ (enc n).getLastD 0 = 0 := ⟨fun q => UInt8.toNat_inj.1 (by simpa using q), fun q => by rw [q]; rfl⟩
  rw [if_neg]
  · have : (k : Int) + ((enc n).length - 1 : Nat) + 1 = (k : Int) + (enc n).length := by omega
    rw [this]
  · rw [hb]
    rintro (⟨q1, q2⟩ | q)
    · rcases h3 with h3 | h3
      · omega
      · exact h3 q1
    · unfold inR at hn; omega
/-- What Int accepts is an encoding. -/
theorem int_cases (s : List UInt8) {k : Nat} (hk : k ≤ s.length) : (∃ n, inR n ∧ enc n <+: s.drop k ∧ intP s (k : Int) = (n, (k : Int) + (enc n).length, 0)) ∨ intP s (k : Int) = (0, 0, 10) := by
  cases hs : scan s k 9 0 0 with
  | none => right; unfold intP; rw [if_neg (by omega), Int.toNat_natCast, hs]; rfl
  | some p =>
    obtain ⟨z, j, b⟩ := p
    have ht : intP s (k : Int) = intTail (k : Int) (some (z, j, b)) := by unfold intP; rw [if_neg (by omega), Int.toNat_natCast, hs]
    by_cases hc : (b = 0 ∧ 0 < j) ∨ unzz z < -4611686018427387903
    · right; rw [ht]; exact if_pos hc
    · left
      obtain ⟨l, h1, h2, h3, h4, h5, h6, h7⟩ := scan_some hs
      simp only [Nat.pow_zero, Nat.mul_one, Nat.zero_add, Nat.add_zero] at h3 h4 h5
      have hv := val_lt l
      have hz : z < 9223372036854775808 := by
        have : 128 ^ l.length ≤ 128 ^ 9 := Nat.pow_le_pow_right (by omega) h2
        have e : (128 : Nat) ^ 9 = 9223372036854775808 := by decide
        omega
      have hup : unzz z ≤ 4611686018427387903 := by unfold unzz; split <;> omega
      have hcan : canon l := by
        unfold canon
        by_cases q1 : l.length = 1
        · exact .inl q1
        · refine .inr fun q2 => hc (.inl ⟨?_, by omega⟩)
          rw [h6, q2]; rfl
      have he : enc (unzz z) = l := by
        unfold enc; rw [zz_unzz, h4]; exact (enc_iff h1 h2).2 hcan
      have hin : inR (unzz z) := ⟨by omega, hup⟩
      refine ⟨unzz z, hin, by rw [he]; exact h3, ?_⟩
      rw [he, ht]
      have : intTail (k : Int) (some (z, j, b)) = (unzz z, (k : Int) + j + 1, 0) := if_neg hc
      rw [this]
      have : (k : Int) + (j : Int) + 1 = (k : Int) + l.length := by omega
      rw [this]
/-- The encoding of a string. -/
def encS (s : List UInt8) : List UInt8 := enc s.length ++ s
theorem inR_len {n : Nat} (h : n ≤ 65536) : inR (n : Int) := by unfold inR; omega
theorem putStr_in {s : List UInt8} (h : s.length ≤ 65536) : putStr s = (encS s, 0) := by
  unfold putStr; rw [if_neg (by omega)]; rfl
theorem cut_nat {α : Type} (s : List α) (a b : Nat) : cut s (a : Int) (b : Int) = (s.take b).drop a := by unfold cut; simp
/-- String accepts an encoding. -/
theorem str_accepts {s : List UInt8} {k : Nat} {t : List UInt8} (hk : k ≤ s.length) (ht : t.length ≤ 65536) (h : encS t <+: s.drop k) : strP s (k : Int) = (t, (k : Int) + (encS t).length, 0) := by
  have hp : enc t.length <+: s.drop k := List.IsPrefix.trans ⟨t, rfl⟩ h
  have hi := int_accepts hk (inR_len ht) hp
  have hl := h.length_le
  rw [List.length_drop, encS, List.length_append] at hl
  unfold strP
  rw [hi]
  simp only [ne_eq, not_true, if_false]
  rw [if_neg (by omega)]
  have e1 : (k : Int) + (enc (t.length : Int)).length = ((k + (enc (t.length : Int)).length : Nat) : Int) := by omega
  have e2 : (k : Int) + (enc (t.length : Int)).length + (t.length : Int) = ((k + (encS t).length : Nat) : Int) := by rw [encS, List.length_append]; omega
  rw [e2, e1, cut_nat]
  have hc := prefix_cut h
  have e3 : (s.take (k + (encS t).length)).drop (k + (enc (t.length : Int)).length) = t := by
    rw [← List.drop_drop, hc, encS, List.drop_left]
  rw [e3]
  simp
/-- What String accepts is an encoding. -/
theorem str_cases (s : List UInt8) {k : Nat} (hk : k ≤ s.length) : (∃ t : List UInt8, t.length ≤ 65536 ∧ encS t <+: s.drop k ∧ strP s (k : Int) = (t, (k : Int) + (encS t).length, 0)) ∨ strP s (k : Int) = ([], 0, 10) := by
  rcases int_cases s hk with ⟨n, hn, hp, hi⟩ | hi
  · by_cases hc : n < 0 ∨ n > 65536 ∨ n > s.length - ((k : Int) + (enc n).length)
    · right; unfold strP; rw [hi]; simp only [ne_eq, not_true, if_false]; rw [if_pos hc]
    · left
      obtain ⟨r, hr⟩ := hp
      have hl := congrArg List.length hr
      rw [List.length_append, List.length_drop] at hl
      obtain ⟨m, rfl⟩ : ∃ m : Nat, n = m := ⟨n.toNat, by omega⟩
      have htl : (r.take m).length = m := by rw [List.length_take]; omega
      have hpre : encS (r.take m) <+: s.drop k := by
        rw [← hr]
        refine ⟨r.drop m, ?_⟩
        unfold encS
        rw [htl, List.append_assoc, List.take_append_drop]
      refine ⟨r.take m, by omega, hpre, str_accepts hk (by omega) hpre⟩
  · right; unfold strP; rw [hi]; simp
theorem encS_inj {l a b : List UInt8} (ha : a.length ≤ 65536) (hb : b.length ≤ 65536) (h1 : encS a <+: l) (h2 : encS b <+: l) : a = b := by
  have h3 := enc_inj (inR_len ha) (inR_len hb) (List.IsPrefix.trans ⟨a, rfl⟩ h1) (List.IsPrefix.trans ⟨b, rfl⟩ h2)
  have hl : a.length = b.length := by omega
  have : encS a = encS b := by
    have e : (encS a).length = (encS b).length := by unfold encS; rw [List.length_append, List.length_append, h3, hl]
    rcases pre_total h1 h2 with h | h
    · exact h.eq_of_length e
    · exact (h.eq_of_length e.symm).symm
  unfold encS at this
  rw [h3] at this
  exact List.append_cancel_left this
end Go.Ev.W
