/- The book: tables of balances; what is chosen; Statement, Balance, Owed. -/
import Derived.Test.YtohcmlejdglimaaBD
set_option linter.unusedSimpArgs false
set_option linter.unusedVariables false
namespace Go.Ev.B
open Go Go.Ev
/-- What a posting gives to an account. -/
def ent (t : Nat) (p : Po) : Int := (if p.2.2.2.1 = (t : Int) then p.2.2.2.2.1 else 0) - (if p.2.2.1 = (t : Int) then p.2.2.2.2.1 else 0)
def sumT (t : Nat) : List Po → Int
  | [] => 0
  | p :: l => ent t p + sumT t l
def tabl (n : Nat) (l : List Po) : List Int := (List.range n).map fun t => sumT t l
theorem sumT_app (t : Nat) (p : Po) : ∀ l : List Po, sumT t (l ++ [p]) = sumT t l + ent t p := by
  intro l; induction l with
  | nil => simp [sumT]
  | cons q l ih => simp only [List.cons_append, sumT, ih]; omega
theorem tabl_len (n : Nat) (l : List Po) : (tabl n l).length = n := by simp [tabl]
theorem tabl_get {n t : Nat} (l : List Po) (h : t < n) : (tabl n l).getD t 0 = sumT t l := by
  simp [tabl, List.getD_eq_getElem?_getD, h]
/-- A posting that a book of at most 12 accounts can have. -/
def PoOk (n : Nat) (p : Po) : Prop := 0 ≤ p.2.2.1 ∧ p.2.2.1 < (n : Int) ∧ 0 ≤ p.2.2.2.1 ∧ p.2.2.2.1 < (n : Int) ∧ p.2.2.1 ≠ p.2.2.2.1 ∧ 1 ≤ p.2.2.2.2.1 ∧ p.2.2.2.2.1 ≤ 1000000000
theorem ent_bound {n t : Nat} {p : Po} (h : PoOk n p) : -1000000000 ≤ ent t p ∧ ent t p ≤ 1000000000 := by
  obtain ⟨_, _, _, _, h1, h2, h3⟩ := h
  unfold ent; split <;> split <;> omega
theorem sumT_bound {n t : Nat} : ∀ l : List Po, (∀ p ∈ l, PoOk n p) → -(1000000000 * (l.length : Int)) ≤ sumT t l ∧ sumT t l ≤ 1000000000 * (l.length : Int) := by
  intro l; induction l with
  | nil => intro _; simp [sumT]
  | cons q l ih =>
    intro h
    have h1 := ent_bound (t := t) (h q (by simp)); have h2 := ih fun p hp => h p (by simp [hp])
    simp only [sumT, List.length_cons]; omega
theorem tabl_app {n : Nat} {l : List Po} {p : Po} (h : PoOk n p) : ((tabl n l).set p.2.2.2.1.toNat (sumT p.2.2.2.1.toNat l + p.2.2.2.2.1)).set p.2.2.1.toNat (sumT p.2.2.1.toNat l - p.2.2.2.2.1) = tabl n (l ++ [p]) := by
  obtain ⟨h1, h2, h3, h4, h5, _, _⟩ := h
  apply List.ext_getElem
  · simp [tabl]
  · intro i hi _
    have hi' : i < n := by simpa [tabl] using hi
    simp only [tabl, List.getElem_set, List.getElem_map, List.getElem_range, sumT_app]
    unfold ent
    by_cases e1 : p.2.2.1.toNat = i
    · have : p.2.2.1 = (i : Int) := by omega
      have e2 : ¬ p.2.2.2.1 = (i : Int) := by omega
      simp [e1, this, e2]; omega
    · have : ¬ p.2.2.1 = (i : Int) := by omega
      by_cases e2 : p.2.2.2.1.toNat = i
      · have e3 : p.2.2.2.1 = (i : Int) := by omega
        simp [e1, e2, this, e3]
      · have e3 : ¬ p.2.2.2.1 = (i : Int) := by omega
        simp [e1, e2, this, e3]
theorem add_eq {n : Nat} {l : List Po} {p : Po} (h : PoOk n p) (hl : ∀ q ∈ l, PoOk n q) (hn : l.length ≤ 1000) :
    (decide (0 ≤ p.2.2.2.1) = true ∧ decide (p.2.2.2.1 < (n : Int)) = true ∧ decide (p.2.2.2.1.toNat < (tabl n l).length) = true ∧ decide (0 ≤ p.2.2.1) = true ∧ decide (p.2.2.1 < (n : Int)) = true ∧ ∀ y, decide (p.2.2.1.toNat < ((tabl n l).set p.2.2.2.1.toNat y).length) = true)
    ∧ IntKind.i64.wrap ((tabl n l).getD p.2.2.2.1.toNat 0 + p.2.2.2.2.1) = sumT p.2.2.2.1.toNat l + p.2.2.2.2.1
    ∧ ∀ y, IntKind.i64.wrap (((tabl n l).set p.2.2.2.1.toNat y).getD p.2.2.1.toNat 0 - p.2.2.2.2.1) = sumT p.2.2.1.toNat l - p.2.2.2.2.1 := by
  obtain ⟨h1, h2, h3, h4, h5, h6, h7⟩ := h
  refine ⟨⟨by simpa using h3, by simpa using h4, by rw [tabl_len]; simp; omega, by simpa using h1, by simpa using h2, fun y => by rw [List.length_set, tabl_len]; simp; omega⟩, ?_, fun y => ?_⟩
  · have := sumT_bound (t := p.2.2.2.1.toNat) l hl
    rw [tabl_get l (by omega), wrapI (by omega) (by omega)]
  · have := sumT_bound (t := p.2.2.1.toNat) l hl
    have e : ((tabl n l).set p.2.2.2.1.toNat y).getD p.2.2.1.toNat 0 = sumT p.2.2.1.toNat l := by
      rw [← tabl_get (n := n) l (by omega), List.getD_eq_getElem?_getD, List.getElem?_set_ne (by omega), ← List.getD_eq_getElem?_getD]
    rw [e, wrapI (by omega) (by omega)]
theorem G35_eq {l : List Po} {p : Po} (h : PoOk 12 p) (hl : ∀ q ∈ l, PoOk 12 q) (hn : l.length ≤ 1000) : G35 p (tabl 12 l) = some ((), (tabl 12 (l ++ [p]), ())) := by
  obtain ⟨⟨a1, a2, a3, a4, a5, a6⟩, a7, a8⟩ := add_eq h hl hn
  unfold G35
  simp only [a1, a2, a3, a4, a5, a6, a7, a8, tabl_app h, Bool.and_true, cond_true]
theorem add_fold : ∀ (ys l : List Po) (a c : Int) (b : List Po), (∀ q ∈ l, PoOk 12 q) → (∀ q ∈ ys, PoOk 12 q) → l.length + ys.length ≤ 1000 →
    foldX R19_6_step ys (a, b, c, tabl 12 l) = some (.inl (a, b, c, tabl 12 (l ++ ys))) := by
  intro ys; induction ys with
  | nil => intros; simp [foldX]
  | cons p ys ih =>
    intro l a c b hl hy hn
    have hg := G35_eq (hy p (by simp)) hl (by simp at hn; omega)
    have hs : R19_6_step (a, b, c, tabl 12 l) p = some (.inl (a, b, c, tabl 12 (l ++ [p]))) := by
      unfold R19_6_step R19_6_r
      simp only [poEta, P35_of _ _ hg, F35_of _ _ hg, cond_true]
    simp only [foldX, hs]
    rw [ih (l ++ [p]) a c b (by intro q hq; rcases List.mem_append.mp hq with h | h; exact hl q h; simp at h; subst h; exact hy _ (by simp)) (fun q hq => hy q (by simp [hq])) (by simp at hn ⊢; omega)]
    simp
theorem add_fold' (ys : List Po) (s : Int × List Po × Int × List Int) : foldX R24_7_step ys s = foldX R19_6_step ys s := rfl
theorem eqv_ints : ∀ (n : Nat) (x y : List Int), x.length = n → y.length = n → eqv (.arr n (.int .i64)) x y = decide (x = y) := by
  intro n x y hx hy
  change (x.zip y).all (fun p => p.1 == p.2) = decide (x = y)
  have : ∀ (x y : List Int), x.length = y.length → (x.zip y).all (fun p => p.1 == p.2) = decide (x = y) := by
    intro x; induction x with
    | nil => intro y h; cases y with | nil => rfl | cons => simp at h
    | cons a x ih =>
      intro y h; cases y with
      | nil => simp at h
      | cons b y => simp only [List.zip_cons_cons, List.all_cons, ih y (by simpa using h), List.cons.injEq, Bool.decide_and]; rfl
  exact this x y (by omega)
theorem tabl_take (a : Nat) (h : a ≤ 12) (l : List Po) : (tabl 12 l).take a = tabl a l := by
  simp only [tabl, ← List.map_take, List.take_range, Nat.min_eq_left h]
theorem G36_eq {a : Nat} (h : a ≤ 12) (l : List Po) : G36 (tabl 12 l) (a : Int) = some (tabl a l) := by
  unfold G36
  simp only [eqv_ints 12 (tabl 12 l) (List.replicate 12 0) (tabl_len _ _) (by simp), List.replicate_zero, List.take_nil, List.nil_append, Int.toNat_natCast]
  rw [show (decide (0 ≤ (a : Int)) && decide ((a : Int) ≤ (a : Int)) && decide ((a : Int) ≤ 100000000000)) = true by simp; omega, show sliceTest 0 (a : Int) ((12 : Nat) : Int) = true by simp [sliceTest]; omega, tabl_take a h, tabl_len]
  rw [show (decide (a ≤ 12) && decide ((List.nil (α := Int)).length + a ≤ 100000000000)) = true by simp; omega]
  cases hz : decide (tabl 12 l = List.replicate 12 0)
  · rfl
  · have hz := of_decide_eq_true hz
    simp only [cond_true]
    rw [← tabl_take a h l, hz, List.take_replicate, Nat.min_eq_left h]
end Go.Ev.B
