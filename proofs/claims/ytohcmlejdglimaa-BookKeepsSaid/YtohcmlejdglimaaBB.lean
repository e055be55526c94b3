/- The book: one posting taken (38), a book opened (28), Valid (11, 12). -/
import Derived.Test.YtohcmlejdglimaaBA
set_option linter.unusedSimpArgs false
set_option linter.unusedVariables false
namespace Go.Ev.B
open Go Go.Ev
theorem G38_eq (p : Po) (a : Int) (l : List Po) (c : Int) (b : List Bool) (hb : Back 200 l b) :
    ∃ b', G38 p a l c b = some (okNext a l p, ((), (a, (bif okNext a l p then l ++ [p] else l, (c, (b', ())))))) ∧ Back 200 (bif okNext a l p then l ++ [p] else l) b' := by
  unfold G38
  simp only [poEta, P40_eq, F40_eq, P41_eq, F41_eq]
  by_cases hl : l.length < 200
  rotate_left
  · have h1 : decide ((List.length l : Int) ≥ 200) = true := by simp; omega
    have h2 : okNext a l p = false := by simp [okNext, hl]
    exact ⟨b, by simp [h1, h2], by simpa [h2] using hb⟩
  have h1 : decide ((List.length l : Int) ≥ 200) = false := by simp; omega
  simp only [h1]
  cases hf : formed p a
  · have h2 : okNext a l p = false := by simp [okNext, hf]
    exact ⟨b, by simp [h2], by simpa [h2] using hb⟩
  have hF := formed_iff.mp hf
  have hday : (bif decide ((List.length l : Int) > 0) then decide (p.2.1 < (List.getD l (IntKind.i64.wrap ((List.length l : Int) - 1)).toNat z26).2.1) else false) = !(decide (l.length = 0) || decide ((l.getD (l.length - 1) z26).2.1 ≤ p.2.1)) := by
    by_cases h0 : l.length = 0
    · simp [h0]
    · have e1 : decide ((List.length l : Int) > 0) = true := by simp; omega
      have e2 : (IntKind.i64.wrap ((List.length l : Int) - 1)).toNat = l.length - 1 := by rw [wrapI (by omega) (by omega)]; omega
      rw [e1, e2]
      generalize (List.getD l (l.length - 1) z26).2.1 = d
      simp only [cond_true, h0, decide_false, Bool.false_or]
      by_cases hd : p.2.1 < d
      · simp [hd]
      · simp [hd]; omega
  have ht : ((decide (0 ≤ IntKind.i64.wrap ((List.length l : Int) - 1)) && decide (IntKind.i64.wrap ((List.length l : Int) - 1) < (List.length l : Int))) || !(decide ((List.length l : Int) > 0) && (!false && true))) = true := by
    by_cases h0 : l.length = 0
    · simp [h0]
    · rw [wrapI (by omega) (by omega)]; simp; omega
  have ht2 : (decide ((IntKind.i64.wrap ((List.length l : Int) - 1)).toNat < List.length l) || !(decide ((List.length l : Int) > 0) && (!false && true))) = true := by
    by_cases h0 : l.length = 0
    · simp [h0]
    · rw [wrapI (by omega) (by omega)]; simp; omega
  simp only [Bool.true_or, cond_true, cond_false, Bool.not_true, hday, ht, ht2]
  cases hd : (decide (l.length = 0) || decide ((l.getD (l.length - 1) z26).2.1 ≤ p.2.1))
  · have h2 : okNext a l p = false := by simp only [okNext, hd]; simp
    exact ⟨b, by simp [h2], by simpa [h2] using hb⟩
  simp only [Bool.not_true, cond_false, List.set, List.replicate, tk_all, List.length_cons, List.length_nil]
  have hlen : decide (l.length + (0 + 1) ≤ 100000000000) = true := by simp; omega
  by_cases hk : p.1 = 2
  rotate_left
  · have hk1 : p.1 = 1 ∧ p.2.2.2.2.2.2.1 = -1 := by rcases hF.2.2.2.2.2.2 with h | h; exact h; exact absurd h.1 hk
    have h2 : okNext a l p = true := by simp only [okNext, hd, hf, hk1.1]; simp [hl]
    have hk' : (p.1 == (2 : Int)) = false := by simpa using hk
    refine ⟨b, ?_, by simpa [h2] using back_fee hb hk1.2⟩
    simp only [hk', hlen, h2, cond_true, cond_false]
  have ho : 0 ≤ p.2.2.2.2.2.2.1 ∧ p.2.2.2.2.2.2.1 ≤ 199 := by rcases hF.2.2.2.2.2.2 with h | h; exact absurd h.1 (by omega); exact h.2
  have hk' : (p.1 == (2 : Int)) = true := by simpa using hk
  have hk1 : (p.1 == (1 : Int)) = false := by simp [hk]
  have o1 : decide (0 ≤ p.2.2.2.2.2.2.1) = true := by simpa using ho.1
  have o2 : decide (p.2.2.2.2.2.2.1 < ((200 : Nat) : Int)) = true := by simp; omega
  have o3 : decide (p.2.2.2.2.2.2.1.toNat < b.length) = true := by rw [hb.1]; simp; omega
  have hg : b.getD p.2.2.2.2.2.2.1.toNat false = l.any fun q => q.2.2.2.2.2.2.1 == p.2.2.2.2.2.2.1 := by
    rw [hb.2 _ (by omega)]; congr 1; funext q; rw [Int.toNat_of_nonneg ho.1]
  simp only [hk', o1, o2, o3, hg, cond_true, Bool.true_or, Bool.and_true, Bool.true_and]
  by_cases hn : p.2.2.2.2.2.2.1 < (l.length : Int)
  rotate_left
  · have e : decide (p.2.2.2.2.2.2.1 ≥ (l.length : Int)) = true := by simp; omega
    have h2 : okNext a l p = false := by simp [okNext, hk1, hn]
    exact ⟨b, by simp [e, h2], by simpa [h2] using hb⟩
  have e : decide (p.2.2.2.2.2.2.1 ≥ (l.length : Int)) = false := by simp; omega
  have o4 : decide (p.2.2.2.2.2.2.1 < (l.length : Int)) = true := by simpa using hn
  have o5 : decide (p.2.2.2.2.2.2.1.toNat < l.length) = true := by simp; omega
  simp only [e, o4, o5, cond_false, Bool.true_or]
  cases ha : (l.any fun q => q.2.2.2.2.2.2.1 == p.2.2.2.2.2.2.1)
  rotate_left
  · have h2 : okNext a l p = false := by simp only [okNext, ha, hk1]; simp
    exact ⟨b, by simp [h2], by simpa [h2] using hb⟩
  cases hq : backs p (l.getD p.2.2.2.2.2.2.1.toNat z26)
  · have h2 : okNext a l p = false := by simp only [okNext, hq, hk1]; simp
    exact ⟨b, by simp [h2], by simpa [h2] using hb⟩
  have h2 : okNext a l p = true := by simp only [okNext, ha, hq, hd, hf, o4, decide_eq_true hl]; simp
  refine ⟨b.set p.2.2.2.2.2.2.1.toNat true, ?_, by simpa [h2] using back_rev hb ho.1 (by omega)⟩
  simp only [hlen, h2, cond_true, cond_false, Bool.not_true]
/-- Whether all postings of a list can follow one another. -/
def okAll (a : Int) (pre : List Po) : List Po → Bool
  | [] => true
  | p :: r => okNext a pre p && okAll a (pre ++ [p]) r
def valid (b : Bk) : Bool := okAll b.1 [] b.2.1 && isIn b.1 2 12 && isIn b.2.2.1 0 12
theorem getD_drop {l : List Po} {i : Nat} (h : i < l.length) : l.drop i = l.getD i z26 :: l.drop (i + 1) := by
  rw [List.drop_eq_getElem_cons h, List.getD_eq_getElem?_getD, List.getElem?_eq_getElem h]; rfl
theorem take_getD {l : List Po} {i : Nat} (h : i < l.length) : l.take i ++ [l.getD i z26] = l.take (i + 1) := by
  rw [List.take_succ_eq_append_getElem h, List.getD_eq_getElem?_getD, List.getElem?_eq_getElem h]; rfl
theorem open_loop (l : List Po) (hl : l.length ≤ 1000000000000000000) (a c : Int) : ∀ (n i : Nat), n = l.length - i → i ≤ l.length → ∀ b, Back 200 (l.take i) b →
    (okAll a (l.take i) (l.drop i) = true → ∃ b', L28_3 (l, (l.length : Int), (i : Int), a, l, c, a, l.take i, c, b) = some (.inr (l, (l.length : Int), (l.length : Int), a, l, c, a, l, c, b')) ∧ Back 200 l b')
    ∧ (okAll a (l.take i) (l.drop i) = false → ∃ r, L28_3 (l, (l.length : Int), (i : Int), a, l, c, a, l.take i, c, b) = some (.inl (false, r))) := by
  intro n
  induction n with
  | zero =>
    intro i hn hi b hb
    have e : i = l.length := by omega
    subst e
    have hr : L28_3 (l, (l.length : Int), (l.length : Int), a, l, c, a, l.take l.length, c, b) = some (.inr (l, (l.length : Int), (l.length : Int), a, l, c, a, l.take l.length, c, b)) := by
      unfold L28_3; rw [lim_step]; simp only [L28_3_r]
      rw [show decide ((l.length : Int) < (l.length : Int)) = false by simp]; rfl
    rw [List.drop_length] at *
    rw [List.take_length] at *
    exact ⟨fun _ => ⟨b, hr, hb⟩, fun h => absurd h (by simp [okAll])⟩
  | succ n ih =>
    intro i hn hi b hb
    have hlt : i < l.length := by omega
    obtain ⟨b', hg, hb'⟩ := G38_eq (l.getD i z26) a (l.take i) c b hb
    rw [getD_drop hlt]
    have hstep : L28_3 (l, (l.length : Int), (i : Int), a, l, c, a, l.take i, c, b) = bif okNext a (l.take i) (l.getD i z26) then L28_3 (l, (l.length : Int), ((i + 1 : Nat) : Int), a, l, c, a, l.take (i + 1), c, b') else some (.inl (false, a, l.take i, c, b')) := by
      conv => lhs; unfold L28_3; rw [lim_step]
      simp only [L28_3_r, poEta]
      rw [show decide ((i : Int) < (l.length : Int)) = true by simpa using hlt, show decide (0 ≤ (i : Int)) = true by simp]
      rw [show ((i : Int)).toNat = i by simp, P38_of _ _ _ _ _ hg, F38_of _ _ _ _ _ hg]
      cases h : okNext a (l.take i) (l.getD i z26)
      · rfl
      · simp only [h, cond_true, take_getD hlt, cond_false, Bool.not_true, Bool.and_true]
        rw [show IntKind.i64.wrap ((i : Int) + 1) = ((i + 1 : Nat) : Int) by rw [wrapI (by omega) (by omega)]; omega]
        rfl
    rw [hstep]
    cases h : okNext a (l.take i) (l.getD i z26)
    · simp only [okAll, h, cond_false, Bool.false_and]
      exact ⟨fun h => absurd h (by simp), fun _ => ⟨_, rfl⟩⟩
    · simp only [okAll, h, cond_true, Bool.true_and]
      rw [h, cond_true, take_getD hlt] at hb'
      have := ih (i + 1) (by omega) (by omega) b' hb'
      rw [take_getD hlt]
      exact this
theorem G28_eq (x : Bk) (hl : x.2.1.length ≤ 1000000000000000000) : ∃ t, G28 x = some t ∧ t.2.1 = valid x ∧ (valid x = true → ∃ b', t = (true, (true, ((), (x.1, (x.2.1, (x.2.2.1, (b', ()))))))) ∧ Back 200 x.2.1 b') := by
  have h := open_loop x.2.1 hl x.1 x.2.2.1 (x.2.1.length - 0) 0 rfl (by omega) (List.replicate 200 false) (by simpa using back_nil 200)
  rw [List.drop_zero, List.take_zero, show ((0 : Nat) : Int) = 0 from rfl] at h
  unfold G28
  simp only [P32_eq, F32_eq]
  cases ho : okAll x.1 [] x.2.1
  · obtain ⟨r, hr⟩ := h.2 ho
    have hv : valid x = false := by simp [valid, ho]
    refine ⟨(false, (false, ((), (r.1, (r.2.1, (r.2.2.1, (r.2.2.2, ()))))))), ?_, hv.symm, fun h => absurd h (by simp [hv])⟩
    rw [hr]; rfl
  · obtain ⟨b', hr, hb'⟩ := h.1 ho
    have hv : valid x = (isIn x.1 2 12 && isIn x.2.2.1 0 12) := by simp [valid, ho]
    refine ⟨(true, (valid x, ((), (x.1, (x.2.1, (x.2.2.1, (b', ()))))))), ?_, rfl, fun h => ⟨b', by rw [h], hb'⟩⟩
    rw [hr, hv]
    simp only [Option.bind_some, cond_true, Bool.true_or]
    cases isIn x.1 2 12 <;> rfl
theorem G11_eq (x : Bk) (hl : x.2.1.length ≤ 1000000000000000000) : G11 x = some (valid x) := by
  obtain ⟨t, ht, hv, _⟩ := G28_eq x hl
  unfold G11
  simp only [bkEta, P28_of _ ht, F28_of _ ht, cond_true, hv]
theorem P11_eq (x : Bk) (hl : x.2.1.length ≤ 1000000000000000000) : P11 x = true := P11_of _ (G11_eq x hl)
theorem F11_eq (x : Bk) (hl : x.2.1.length ≤ 1000000000000000000) : F11 x = valid x := F11_of _ (G11_eq x hl)
end Go.Ev.B
