/- BookDisputes: what a dispute does, plain. -/
import Derived.Test.YtohcmlejdglimaaBL
set_option linter.unusedSimpArgs false
set_option linter.unusedVariables false
namespace Go.Ev.B
open Go Go.Ev
def taken (l : List Po) (i : Nat) : Bool := l.any fun q => q.2.2.2.2.2.2.1 == (i : Int)
theorem valid_at {b : Bk} (h : valid b = true) {i : Nat} (hi : i < b.2.1.length) : formed (b.2.1.getD i z26) b.1 = true := okAll_formed (valid_iff.mp h).1 _ (getD_mem hi)
theorem w30 {c : Int} (h1 : 0 ≤ c) (h2 : c ≤ 12) : IntKind.i64.wrap (30 * c) = 30 * c := wrapI (by omega) (by omega)
theorem back_no {b : Bk} {i day amt : Int} (h : valid b = true) (h0 : 0 ≤ i) (hi : i < (b.2.1.length : Int)) (hd : day ≤ 359)
    (hbad : (b.2.1.getD i.toNat z26).1 ≠ 1 ∨ taken b.2.1 i.toNat = true ∨ b.2.2.1 = 12) : disputeM b i day amt = none := by
  unfold disputeM
  split
  · have : postM b (backP (b.2.1.getD i.toNat z26) i day) = none := by
      refine postM_no ?_
      unfold postOk
      rcases hbad with e | e | e
      · have : okNext b.1 b.2.1 (backP (b.2.1.getD i.toNat z26) i day) = false := by
          have e' : ((b.2.1.getD i.toNat z26).1 == (1 : Int)) = false := by simpa using e
          simp only [okNext, backP, backs, e']; simp
        rw [this]; simp
      · have : okNext b.1 b.2.1 (backP (b.2.1.getD i.toNat z26) i day) = false := by
          unfold taken at e
          rw [Int.toNat_of_nonneg h0] at e
          simp only [okNext, backP, e]; simp
        rw [this]; simp
      · have : decide ((backP (b.2.1.getD i.toNat z26) i day).2.1 ≥ IntKind.i64.wrap (30 * b.2.2.1)) = false := by
          rw [e, w30 (by omega) (by omega)]; exact decide_eq_false (by simp only [backP]; omega)
        rw [this]; rfl
    rw [this]; rfl
  · rfl
def dispD (b : Bk) (i day amt : Int) : Bk :=
  if amt = 0 then (b.1, (b.2.1 ++ [backP (b.2.1.getD i.toNat z26) i day], (b.2.2.1, ())))
  else (b.1, ((b.2.1 ++ [backP (b.2.1.getD i.toNat z26) i day]) ++ [newP (b.2.1.getD i.toNat z26) day amt], (b.2.2.1, ())))
theorem back_yes {b : Bk} {i day amt : Int} (h : valid b = true) (hl : b.2.1.length ≤ 100) (h0 : 0 ≤ i) (hi : i < (b.2.1.length : Int)) (hd0 : (b.2.1.getD (b.2.1.length - 1) z26).2.1 ≤ day) (hdc : 30 * b.2.2.1 ≤ day) (hd : day ≤ 359) (ha : 0 ≤ amt ∧ amt ≤ 999)
    (hk : (b.2.1.getD i.toNat z26).1 = 1) (ht : taken b.2.1 i.toNat = false) : disputeM b i day amt = some (dispD b i day amt) := by
  have hf := valid_at h (i := i.toNat) (by omega)
  have hf2 := valid_at h (i := b.2.1.length - 1) (by omega)
  obtain ⟨hok, ⟨ha1, ha2⟩, hc1, hc2⟩ := valid_iff.mp h
  have hday0 : 0 ≤ day := by have := (formed_iff.mp hf2).1; omega
  have ⟨f1, f2, f3, f4, f5, f6, f7⟩ := formed_iff.mp hf
  have hof : (b.2.1.getD i.toNat z26).2.2.2.2.2.2.1 = -1 := by rcases f7 with f7 | f7; exact f7.2; omega
  have hbk : postOk (backP (b.2.1.getD i.toNat z26) i day) b.1 b.2.1 b.2.2.1 = true := by
    unfold postOk
    rw [w30 hc1 hc2, Bool.and_eq_true]
    refine ⟨by simpa [backP] using hdc, ?_⟩
    have g1 : formed (backP (b.2.1.getD i.toNat z26) i day) b.1 = true := by
      rw [formed_iff]; simp only [backP]
      exact ⟨⟨hday0, hd⟩, f3, f2, fun e => f4 e.symm, f5, f6, .inr ⟨trivial, h0, by omega⟩⟩
    have g2 : (b.2.1.any fun q => q.2.2.2.2.2.2.1 == i) = false := by
      unfold taken at ht; rwa [Int.toNat_of_nonneg h0] at ht
    have g3 : backs (backP (b.2.1.getD i.toNat z26) i day) (b.2.1.getD i.toNat z26) = true := by simp only [backs, backP, hk, beq_self_eq_true, Bool.and_self]
    simp only [okNext, g1]
    simp only [backP, g2, show decide (b.2.1.length < 200) = true by simp; omega, show decide (i < (b.2.1.length : Int)) = true by simpa using hi, decide_eq_true hd0]
    rw [show (2, (day, ((b.2.1.getD i.toNat z26).2.2.2.1, ((b.2.1.getD i.toNat z26).2.2.1, ((b.2.1.getD i.toNat z26).2.2.2.2.1, ((b.2.1.getD i.toNat z26).2.2.2.2.2.1, (i, ()))))))) = backP (b.2.1.getD i.toNat z26) i day from rfl, g3]
    simp only [Bool.and_true, Bool.true_and, Bool.or_true, Bool.not_false]
    rw [Bool.and_eq_true, Bool.or_eq_true, Bool.or_eq_true]
    exact ⟨.inr (decide_eq_true hd0), .inr (decide_eq_true hi)⟩
  have hp := postM_yes h hbk
  have hv := (postM_valid hp).1
  unfold disputeM dispD
  rw [if_pos (by simp only [h, isIn, Bool.and_eq_true, decide_eq_true_eq]; exact ⟨⟨⟨trivial, h0⟩, hi⟩, by omega, by omega⟩), hp]
  simp only [Option.bind_some]
  by_cases h3 : amt = 0
  · rw [if_pos h3, if_pos h3]
  · rw [if_neg h3, if_neg h3]
    refine postM_yes (b := (b.1, (b.2.1 ++ [backP (b.2.1.getD i.toNat z26) i day], (b.2.2.1, ())))) hv ?_
    unfold postOk
    rw [w30 hc1 hc2, Bool.and_eq_true]
    refine ⟨by simpa [newP] using hdc, ?_⟩
    have g1 : formed (newP (b.2.1.getD i.toNat z26) day amt) b.1 = true := by
      rw [formed_iff]; simp only [newP]
      exact ⟨⟨hday0, hd⟩, f2, f3, f4, by omega, f6, .inl ⟨hk, hof⟩⟩
    simp only [okNext, g1]
    have e : ((b.2.1 ++ [backP (b.2.1.getD i.toNat z26) i day]).getD ((b.2.1 ++ [backP (b.2.1.getD i.toNat z26) i day]).length - 1) z26).2.1 = day := by
      rw [show (b.2.1 ++ [backP (b.2.1.getD i.toNat z26) i day]).length - 1 = b.2.1.length by simp, getD_app_eq]; rfl
    rw [e]
    simp only [newP, hk, List.length_append, List.length_singleton]
    rw [show decide (b.2.1.length + 1 < 200) = true by simp; omega]; simp
theorem dispD_twice {b : Bk} {i day amt : Int} (h : valid b = true) (h0 : 0 ≤ i) (hi : i < (b.2.1.length : Int)) (hv : valid (dispD b i day amt) = true) (hd : day ≤ 359) : disputeM (dispD b i day amt) i day amt = none := by
  have hl : b.2.1.length < (dispD b i day amt).2.1.length := by unfold dispD; split <;> simp
  refine back_no hv h0 (by omega) hd (.inr (.inl ?_))
  unfold dispD taken
  split
  · simp only [List.any_append]; rw [Int.toNat_of_nonneg h0]; simp [backP]
  · simp only [List.any_append]; rw [Int.toNat_of_nonneg h0]; simp [backP]
theorem sumK_app2 (u : Nat) (f : Po → Bool) (p q : Po) (l : List Po) : sumK u f ((l ++ [p]) ++ [q]) = sumK u f l + (bif f p then ent u p else 0) + bif f q then ent u q else 0 := by rw [sumK_app, sumK_app]
theorem ent_back (u : Nat) (p : Po) (i day : Int) : ent u (backP p i day) = - ent u p := by unfold ent backP; simp only; omega
/-- What changes: the amount is booked instead of the old one. -/
def delta (u : Nat) (p : Po) (n : Int) : Int := (if p.2.2.2.1 = (u : Int) then n - p.2.2.2.2.1 else 0) - (if p.2.2.1 = (u : Int) then n - p.2.2.2.2.1 else 0)
theorem dispD_sum (u : Nat) (f : Po → Bool) (b : Bk) (i day amt : Int) (hf : f (newP (b.2.1.getD i.toNat z26) day amt) = f (backP (b.2.1.getD i.toNat z26) i day)) :
    sumK u f (dispD b i day amt).2.1 = sumK u f b.2.1 + bif f (backP (b.2.1.getD i.toNat z26) i day) then delta u (b.2.1.getD i.toNat z26) amt else 0 := by
  unfold dispD
  generalize b.2.1.getD i.toNat z26 = p at *
  split
  · rename_i h0
    simp only; rw [sumK_app, ent_back]
    congr 1
    cases f (backP p i day)
    · rfl
    · simp only [cond_true, ent, delta]; split <;> split <;> omega
  · simp only; rw [sumK_app2, ent_back, hf]
    cases f (backP p i day)
    · simp only [cond_false]; omega
    · simp only [cond_true, ent, delta, newP]; split <;> split <;> omega
end Go.Ev.B
