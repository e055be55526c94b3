/- The book: equal lists and books, picks, the examples. -/
import Derived.Test.YtohcmlejdglimaaBG
set_option linter.unusedSimpArgs false
set_option linter.unusedVariables false
namespace Go.Ev.B
open Go Go.Ev
theorem ints_refl {l : List Int} (hl : l.length ≤ 1000000000000000000) : G23 l l = some true := by
  unfold G23
  have h := lim_inv (r := fun s => L23_4_r s.1 s.2.1 s.2.2) (fun i => (l, l, (i : Int))) (.inr (l, l, (l.length : Int))) l.length ?_ ?_ 0 (by omega)
  · have h' : L23_4 (l, l, 0) = some (.inr (l, l, (l.length : Int))) := h
    simp only [bne_self_eq_false, cond_false, h', Option.bind_some]
  · intro i hi
    simp only [L23_4_r]
    rw [show decide ((i : Int) < (l.length : Int)) = true by simpa using hi, show decide (0 ≤ (i : Int)) = true by simp, wsucc (by omega), bne_self_eq_false]; rfl
  · simp only [L23_4_r]
    rw [show decide ((l.length : Int) < (l.length : Int)) = false by simp]; rfl
theorem posts_refl {l : List Po} (hl : l.length ≤ 1000000000000000000) : G26 l l = some true := by
  unfold G26
  have h := lim_inv (r := fun s => L26_4_r s.1 s.2.1 s.2.2) (fun i => (l, l, (i : Int))) (.inr (l, l, (l.length : Int))) l.length ?_ ?_ 0 (by omega)
  · have h' : L26_4 (l, l, 0) = some (.inr (l, l, (l.length : Int))) := h
    simp only [bne_self_eq_false, cond_false, h', Option.bind_some]
  · intro i hi
    simp only [L26_4_r]
    rw [show decide ((i : Int) < (l.length : Int)) = true by simpa using hi, show decide (0 ≤ (i : Int)) = true by simp, wsucc (by omega)]
    generalize l.getD ((i : Int)).toNat z26 = p
    simp only [eqv, beq_self_eq_true, Bool.and_self]; rfl
  · simp only [L26_4_r]
    rw [show decide ((l.length : Int) < (l.length : Int)) = false by simp]; rfl
theorem same_refl {x : Bk} (hl : x.2.1.length ≤ 1000000000000000000) : G13 x x = some true := by
  unfold G13
  simp only [beq_self_eq_true, cond_true, P26_of _ _ (posts_refl hl), F26_of _ _ (posts_refl hl), Bool.true_or]
def I64 (n : Int) : Prop := -9223372036854775808 ≤ n ∧ n ≤ 9223372036854775807
def pickM (c n : Int) : Int := (if c < 0 then -(c + 1) else c) % n
theorem pickM_bound (c : Int) {n : Int} (h : 0 < n) : 0 ≤ pickM c n ∧ pickM c n < n := ⟨Int.emod_nonneg _ (by omega), Int.emod_lt_of_pos _ h⟩
theorem G27_eq {c : Int} (hc : I64 c) {n : Int} (hn : 0 < n) : G27 c n = some (pickM c n) := by
  unfold G27 pickM
  have e : (n == (0 : Int)) = false := beq_eq_false_iff_ne.mpr (by omega)
  obtain ⟨h1, h2⟩ := hc
  simp only [e, Bool.not_false, cond_true]
  by_cases h : c < 0
  · rw [show decide (c < 0) = true by simpa using h, if_pos h, wrapI (n := c + 1) (by omega) (by omega), wrapI (by omega) (by omega)]
    simp only [cond_true]; rw [Int.tmod_eq_emod_of_nonneg (by omega), show (0 : Int) - (c + 1) = -(c + 1) by omega]
  · rw [show decide (c < 0) = false by simpa using h, if_neg h]
    simp only [cond_false]; rw [Int.tmod_eq_emod_of_nonneg (by omega)]
theorem G14_eq {c : Int} (hc : I64 c) {n : Int} (hn : 0 < n) : G14 c n = some (pickM c n) := G27_eq hc hn
def p0 : Po := (1, (5, (0, (1, (90, (7, (-1, ())))))))
def p1 : Po := (2, (40, (1, (0, (90, (7, (0, ())))))))
def p2 : Po := (1, (40, (0, (1, (60, (7, (-1, ())))))))
def b1 : Bk := (3, ([p0], (0, ())))
def c1 : Bk := (3, ([p0, p1, p2], (0, ())))
theorem sane : G7 = some true := by
  have e1 : G9 (3, ([], (0, ()))) (1, (5, (0, (1, (90, (7, (-1, ()))))))) = some (b1, (0, (0, ()))) := (G9_eq _ _ (by decide)).trans (by kernel_rfl)
  have e2 : G19 b1 0 = some ([-90, 90, 0], 0) := (G19_eq _ _ (by decide)).trans (by kernel_rfl)
  have e3 : G15 b1 0 40 60 = some (c1, (0, ())) := (G15_eq _ _ _ _ (by decide)).trans (by kernel_rfl)
  have e4 : G19 c1 0 = some ([-90, 90, 0], 0) := (G19_eq _ _ (by decide)).trans (by kernel_rfl)
  have e5 : G19 c1 1 = some ([30, -30, 0], 0) := (G19_eq _ _ (by decide)).trans (by kernel_rfl)
  have e6 : G24 c1 7 = some ([-60, 60, 0], 0) := (G24_eq _ _ (by decide)).trans (by kernel_rfl)
  have e7 : G15 c1 0 50 1 = some (bk0, (310, ())) := (G15_eq _ _ _ _ (by decide)).trans (by kernel_rfl)
  have e8 : G9 c1 (1, (39, (0, (1, (1, (0, (-1, ()))))))) = some (bk0, (0, (310, ()))) := (G9_eq _ _ (by decide)).trans (by kernel_rfl)
  have e9 : G17 c1 0 = some ((3, ([p0, p1, p2], (1, ()))), (0, ())) := (G17_eq _ _ (by decide)).trans (by kernel_rfl)
  have e10 : G21 c1 1 1 = some (-30, 0) := (G21_eq _ _ _ (by decide)).trans (by kernel_rfl)
  have e11 : G11 (3, ([p0, p1, p2], (1, ()))) = some true := (G11_eq _ (by decide)).trans (by kernel_rfl)
  have e12 : G11 (0, ([], (0, ()))) = some false := (G11_eq _ (by decide)).trans (by kernel_rfl)
  have i1 : G23 [-90, 90, 0] [-90, 90, 0] = some true := ints_refl (by decide)
  have i2 : G23 [30, -30, 0] [30, -30, 0] = some true := ints_refl (by decide)
  have i3 : G23 [-60, 60, 0] [-60, 60, 0] = some true := ints_refl (by decide)
  unfold G7
  simp only [P9_of _ _ e1, F9_of _ _ e1, bkEta, P19_of _ _ e2, F19_of _ _ e2, P15_of _ _ _ _ e3, F15_of _ _ _ _ e3, P19_of _ _ e4, F19_of _ _ e4, P19_of _ _ e5, F19_of _ _ e5, P24_of _ _ e6, F24_of _ _ e6, P15_of _ _ _ _ e7, F15_of _ _ _ _ e7, P9_of _ _ e8, F9_of _ _ e8, P17_of _ _ e9, F17_of _ _ e9, P21_of _ _ _ e10, F21_of _ _ _ e10, P11_of _ e11, F11_of _ e11, P11_of _ e12, F11_of _ e12, cond_true, tk_all, List.replicate, List.set, P23_of _ _ i1, F23_of _ _ i1, P23_of _ _ i2, F23_of _ _ i2, P23_of _ _ i3, F23_of _ _ i3]
  decide +kernel
theorem P7_eq : P7 = true := P7_of sane
theorem F7_eq : F7 = true := F7_of sane
end Go.Ev.B
