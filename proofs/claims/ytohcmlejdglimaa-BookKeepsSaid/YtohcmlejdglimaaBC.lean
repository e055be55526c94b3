/- The book: the reference's Valid (12) is the same. -/
import Derived.Test.YtohcmlejdglimaaBB
set_option linter.unusedSimpArgs false
set_option linter.unusedVariables false
namespace Go.Ev.B
open Go Go.Ev
theorem getD_take {l : List Po} {i j : Nat} (h : j < i) : (l.take i).getD j z26 = l.getD j z26 := by
  rw [List.getD_eq_getElem?_getD, List.getD_eq_getElem?_getD, List.getElem?_take_of_lt h]
theorem len_take {l : List Po} {i : Nat} (h : i ≤ l.length) : (l.take i).length = i := by rw [List.length_take]; omega
theorem L12_step (l : List Po) (hl : l.length ≤ 200) (a c : Int) (i : Nat) (hi : i < l.length) (b : List Bool) (hb : Back l.length (l.take i) b) :
    ∃ b', L12_5_r b (i : Int) a l c = some (bif okNext a (l.take i) (l.getD i z26) then .inl (b', ((i + 1 : Nat) : Int), a, l, c) else .inr (.inl false)) ∧ (okNext a (l.take i) (l.getD i z26) = true → Back l.length (l.take (i + 1)) b') := by
  unfold L12_5_r
  simp only [poEta, P31_eq, F31_eq]
  rw [show decide ((i : Int) < (l.length : Int)) = true by simpa using hi, show decide (0 ≤ (i : Int)) = true by simp, show ((i : Int)).toNat = i by simp, show IntKind.i64.wrap ((i : Int) + 1) = ((i + 1 : Nat) : Int) by rw [wrapI (by omega) (by omega)]; omega]
  simp only [Bool.and_true, cond_true]
  rw [← take_getD hi]
  generalize hp : l.getD i z26 = p
  have hlt := len_take (l := l) (i := i) (by omega)
  cases hf : formed p a
  · have h2 : okNext a (l.take i) p = false := by simp [okNext, hf]
    exact ⟨b, by simp [h2], fun h => absurd h (by simp [h2])⟩
  have hF := formed_iff.mp hf
  have hday : (bif decide ((i : Int) > 0) then decide (p.2.1 < (List.getD l (IntKind.i64.wrap ((i : Int) - 1)).toNat z26).2.1) else false) = !(decide (i = 0) || decide (((l.take i).getD (i - 1) z26).2.1 ≤ p.2.1)) := by
    by_cases h0 : i = 0
    · simp [h0]
    · have e1 : decide ((i : Int) > 0) = true := by simp; omega
      have e2 : (IntKind.i64.wrap ((i : Int) - 1)).toNat = i - 1 := by rw [wrapI (by omega) (by omega)]; omega
      rw [e1, e2, getD_take (by omega)]
      generalize (List.getD l (i - 1) z26).2.1 = d
      simp only [cond_true, h0, decide_false, Bool.false_or]
      by_cases hd : p.2.1 < d
      · simp [hd]
      · simp [hd]; omega
  have ht : ((decide (0 ≤ IntKind.i64.wrap ((i : Int) - 1)) && decide (IntKind.i64.wrap ((i : Int) - 1) < (List.length l : Int))) || !(decide ((i : Int) > 0) && !false)) = true := by
    by_cases h0 : i = 0
    · simp [h0]
    · rw [wrapI (by omega) (by omega)]; simp; omega
  simp only [Bool.true_or, cond_true, cond_false, Bool.not_true, hday, ht]
  cases hd : (decide (i = 0) || decide (((l.take i).getD (i - 1) z26).2.1 ≤ p.2.1))
  · have h2 : okNext a (l.take i) p = false := by simp only [okNext, hlt, hd]; simp
    exact ⟨b, by simp [h2], fun h => absurd h (by simp [h2])⟩
  simp only [Bool.not_true, cond_false]
  by_cases hk : p.1 = 1
  · have hk1 : p.2.2.2.2.2.2.1 = -1 := by rcases hF.2.2.2.2.2.2 with h | h; exact h.2; exact absurd h.1 (by omega)
    have h2 : okNext a (l.take i) p = true := by simp only [okNext, hlt, hd, hf, hk, show decide (i < 200) = true by simp; omega]; simp
    have hk' : (p.1 == (1 : Int)) = true := by simpa using hk
    exact ⟨b, by simp [hk', h2], fun _ => back_fee hb hk1⟩
  have ho : 0 ≤ p.2.2.2.2.2.2.1 ∧ p.2.2.2.2.2.2.1 ≤ 199 := by rcases hF.2.2.2.2.2.2 with h | h; exact absurd h.1 hk; exact h.2
  have hk' : (p.1 == (1 : Int)) = false := by simpa using hk
  simp only [hk', cond_false]
  by_cases hn : p.2.2.2.2.2.2.1 < (i : Int)
  rotate_left
  · have e : decide (p.2.2.2.2.2.2.1 ≥ (i : Int)) = true := by simp; omega
    have h2 : okNext a (l.take i) p = false := by simp only [okNext, hlt, hn, hk']; simp
    exact ⟨b, by simp [e, h2], fun h => absurd h (by simp [h2])⟩
  have e : decide (p.2.2.2.2.2.2.1 ≥ (i : Int)) = false := by simp; omega
  have o1 : decide (0 ≤ p.2.2.2.2.2.2.1) = true := by simpa using ho.1
  have o2 : decide (p.2.2.2.2.2.2.1 < (l.length : Int)) = true := by simp; omega
  have o2' : decide (p.2.2.2.2.2.2.1 < (b.length : Int)) = true := by rw [hb.1]; exact o2
  have o3 : decide (p.2.2.2.2.2.2.1.toNat < b.length) = true := by rw [hb.1]; simp; omega
  have hg : b.getD p.2.2.2.2.2.2.1.toNat false = (l.take i).any fun q => q.2.2.2.2.2.2.1 == p.2.2.2.2.2.2.1 := by
    rw [hb.2 _ (by omega)]; congr 1; funext q; rw [Int.toNat_of_nonneg ho.1]
  have o4 : decide (p.2.2.2.2.2.2.1 < (i : Int)) = true := by simpa using hn
  simp only [o1, o2, o2', o3, hg, e, cond_true, cond_false, Bool.true_or, Bool.and_true, Bool.true_and]
  cases ha : ((l.take i).any fun q => q.2.2.2.2.2.2.1 == p.2.2.2.2.2.2.1)
  rotate_left
  · have h2 : okNext a (l.take i) p = false := by simp only [okNext, ha, hk']; simp
    exact ⟨b, by simp [h2], fun h => absurd h (by simp [h2])⟩
  have hq' : (bif bif bif bif (l.getD p.2.2.2.2.2.2.1.toNat z26).1 != 1 then true else p.2.2.1 != (l.getD p.2.2.2.2.2.2.1.toNat z26).2.2.2.1 then true else p.2.2.2.1 != (l.getD p.2.2.2.2.2.2.1.toNat z26).2.2.1 then true else p.2.2.2.2.1 != (l.getD p.2.2.2.2.2.2.1.toNat z26).2.2.2.2.1 then true else p.2.2.2.2.2.1 != (l.getD p.2.2.2.2.2.2.1.toNat z26).2.2.2.2.2.1) = !backs p ((l.take i).getD p.2.2.2.2.2.2.1.toNat z26) := by
    rw [getD_take (by omega)]
    unfold backs bne
    generalize ((l.getD p.2.2.2.2.2.2.1.toNat z26).1 == (1 : Int)) = b1
    generalize (p.2.2.1 == (l.getD p.2.2.2.2.2.2.1.toNat z26).2.2.2.1) = b2
    generalize (p.2.2.2.1 == (l.getD p.2.2.2.2.2.2.1.toNat z26).2.2.1) = b3
    generalize (p.2.2.2.2.1 == (l.getD p.2.2.2.2.2.2.1.toNat z26).2.2.2.2.1) = b4
    generalize (p.2.2.2.2.2.1 == (l.getD p.2.2.2.2.2.2.1.toNat z26).2.2.2.2.2.1) = b5
    revert b1 b2 b3 b4 b5; decide
  simp only [cond_false, hq']
  cases hq : backs p ((l.take i).getD p.2.2.2.2.2.2.1.toNat z26)
  · have h2 : okNext a (l.take i) p = false := by simp only [okNext, hq, hk']; simp
    exact ⟨b, by simp [h2], fun h => absurd h (by simp [h2])⟩
  have h2 : okNext a (l.take i) p = true := by simp only [okNext, ha, hq, hd, hf, hlt, o4, show decide (i < 200) = true by simp; omega]; simp
  refine ⟨b.set p.2.2.2.2.2.2.1.toNat true, ?_, fun _ => back_rev hb ho.1 (by omega)⟩
  simp only [h2, cond_true, cond_false, Bool.not_true]
theorem L12_loop (l : List Po) (hl : l.length ≤ 200) (a c : Int) : ∀ (n i : Nat), n = l.length - i → i ≤ l.length → ∀ b, Back l.length (l.take i) b →
    (okAll a (l.take i) (l.drop i) = true → ∃ r, L12_5 (b, (i : Int), a, l, c) = some (.inr r)) ∧ (okAll a (l.take i) (l.drop i) = false → L12_5 (b, (i : Int), a, l, c) = some (.inl false)) := by
  intro n
  induction n with
  | zero =>
    intro i hn hi b hb
    have e : i = l.length := by omega
    subst e
    rw [List.drop_length]
    refine ⟨fun _ => ⟨(b, (l.length : Int), a, l, c), ?_⟩, fun h => absurd h (by simp [okAll])⟩
    unfold L12_5; rw [lim_step]; simp only [L12_5_r]
    rw [show decide ((l.length : Int) < (l.length : Int)) = false by simp]; rfl
  | succ n ih =>
    intro i hn hi b hb
    have hlt : i < l.length := by omega
    obtain ⟨b', hg, hb'⟩ := L12_step l hl a c i hlt b hb
    rw [getD_drop hlt]
    have hstep : L12_5 (b, (i : Int), a, l, c) = bif okNext a (l.take i) (l.getD i z26) then L12_5 (b', ((i + 1 : Nat) : Int), a, l, c) else some (.inl false) := by
      conv => lhs; unfold L12_5; rw [lim_step]
      simp only []
      rw [hg]
      cases h : okNext a (l.take i) (l.getD i z26) <;> rfl
    rw [hstep]
    cases h : okNext a (l.take i) (l.getD i z26)
    · simp only [okAll, h, cond_false, Bool.false_and]
      exact ⟨fun h => absurd h (by simp), fun _ => trivial⟩
    · simp only [okAll, h, cond_true, Bool.true_and]
      have := ih (i + 1) (by omega) (by omega) b' (hb' h)
      rw [take_getD hlt]
      exact this
theorem okAll_long (a : Int) : ∀ (r pre : List Po), 200 < pre.length + r.length → pre.length ≤ 200 → okAll a pre r = false := by
  intro r
  induction r with
  | nil => intro pre h1 h2; simp at h1; omega
  | cons p r ih =>
    intro pre h1 h2
    simp only [okAll]
    by_cases h : pre.length < 200
    · rw [ih (pre ++ [p]) (by simp at h1 ⊢; omega) (by simp; omega)]; simp
    · have : okNext a pre p = false := by simp [okNext, h]
      rw [this]; rfl
theorem G12_eq (x : Bk) : G12 x = some (valid x) := by
  unfold G12
  simp only [P30_eq, F30_eq]
  cases h1 : isIn x.1 2 12
  · simp [valid, h1]
  cases h2 : isIn x.2.2.1 0 12
  · simp [valid, h2]
  by_cases hl : x.2.1.length ≤ 200
  rotate_left
  · have e : decide ((x.2.1.length : Int) > 200) = true := by simp; omega
    have : valid x = false := by simp only [valid]; rw [okAll_long _ _ _ (by simp; omega) (by simp)]; rfl
    simp [e, this]
  have e : decide ((x.2.1.length : Int) > 200) = false := by simp; omega
  have h := L12_loop x.2.1 hl x.1 x.2.2.1 (x.2.1.length - 0) 0 rfl (by omega) (List.replicate x.2.1.length false) (by simpa using back_nil _)
  rw [List.drop_zero, List.take_zero, show ((0 : Nat) : Int) = 0 from rfl] at h
  have e2 : (decide (0 ≤ (x.2.1.length : Int)) && decide ((x.2.1.length : Int) ≤ (x.2.1.length : Int)) && decide ((x.2.1.length : Int) ≤ 100000000000)) = true := by simp; omega
  rw [e, e2]
  simp only [cond_true, cond_false, Bool.not_true, Bool.true_or, show ((x.2.1.length : Int)).toNat = x.2.1.length by simp]
  cases ho : okAll x.1 [] x.2.1
  · rw [h.2 ho]; simp [valid, ho]
  · obtain ⟨r, hr⟩ := h.1 ho
    rw [hr]; simp [valid, ho, h1, h2]
theorem P12_eq (x : Bk) : P12 x = true := P12_of _ (G12_eq x)
theorem F12_eq (x : Bk) : F12 x = valid x := F12_of _ (G12_eq x)
end Go.Ev.B
