/- The book: sums. -/
import Derived.Test.YtohcmlejdglimaaBK
set_option linter.unusedSimpArgs false
set_option linter.unusedVariables false
namespace Go.Ev.B
open Go Go.Ev
def isum (g : Nat → Int) : Nat → Int
  | 0 => 0
  | n + 1 => isum g n + g n
theorem isum_congr {g h : Nat → Int} : ∀ {n : Nat}, (∀ i, i < n → g i = h i) → isum g n = isum h n := by
  intro n; induction n with
  | zero => intro _; rfl
  | succ n ih => intro H; simp only [isum]; rw [ih fun i hi => H i (by omega), H n (by omega)]
theorem isum_zero : ∀ (n : Nat), isum (fun _ => 0) n = 0 := by
  intro n; induction n with
  | zero => rfl
  | succ n ih => simp only [isum, ih]; rfl
theorem isum_add (g h : Nat → Int) : ∀ n, isum (fun i => g i + h i) n = isum g n + isum h n := by
  intro n; induction n with
  | zero => rfl
  | succ n ih => simp only [isum, ih]; omega
theorem isum_one {g h : Nat → Int} {j : Nat} : ∀ {n : Nat}, j < n → (∀ i, i < n → i ≠ j → h i = g i) → isum h n = isum g n - g j + h j := by
  intro n; induction n with
  | zero => intro hj; omega
  | succ n ih =>
    intro hj H
    simp only [isum]
    by_cases e : j = n
    · subst e
      rw [isum_congr (g := h) (h := g) fun i hi => H i (by omega) (by omega)]; omega
    · rw [ih (by omega) fun i hi he => H i (by omega) he, H n (by omega) (by omega)]; omega
theorem isum_single {g : Nat → Int} {n j : Nat} (hj : j < n) (H : ∀ i, i < n → i ≠ j → g i = 0) : isum g n = g j := by
  have := isum_one (g := fun _ => 0) (h := g) hj fun i hi he => by rw [H i hi he]
  rw [this, isum_zero]; omega
theorem isum_bound {g : Nat → Int} {B : Int} : ∀ {n : Nat}, (∀ i, i < n → -B ≤ g i ∧ g i ≤ B) → -(B * n) ≤ isum g n ∧ isum g n ≤ B * n := by
  intro n; induction n with
  | zero => intro _; simp [isum]
  | succ n ih =>
    intro H
    have h1 := ih fun i hi => H i (by omega); have h2 := H n (by omega)
    simp only [isum, Int.natCast_add, Int.mul_add]; omega
theorem sumT_sel (u : Nat) (f : Nat → Po → Bool) : ∀ (n : Nat) (l : List Po), l.length = n → sumT u (sel f 0 l) = isum (fun i => bif f i (l.getD i z26) then ent u (l.getD i z26) else 0) n := by
  intro n; induction n with
  | zero => intro l h; have : l = [] := List.length_eq_zero_iff.mp h; subst this; rfl
  | succ n ih =>
    intro l h
    have e := sel_take f (l := l) (i := n) (by omega)
    rw [List.take_of_length_le (by omega)] at e
    rw [e]
    have h1 := ih (l.take n) (by rw [List.length_take]; omega)
    have h2 : isum (fun i => bif f i ((l.take n).getD i z26) then ent u ((l.take n).getD i z26) else 0) n = isum (fun i => bif f i (l.getD i z26) then ent u (l.getD i z26) else 0) n :=
      isum_congr fun i hi => by rw [getD_take hi]
    simp only [isum]
    cases hf : f n (l.getD n z26)
    · simp only [cond_false, List.append_nil]; rw [h1, h2]; omega
    · simp only [cond_true]; rw [sumT_app, h1, h2]
theorem sumT_append (u : Nat) (l m : List Po) : sumT u (l ++ m) = sumT u l + sumT u m := by
  induction l with
  | nil => simp [sumT]
  | cons p l ih => simp only [List.cons_append, sumT, ih]; omega
theorem getD_app_lt {l : List Po} {p : Po} {i : Nat} (h : i < l.length) : (l ++ [p]).getD i z26 = l.getD i z26 := by
  rw [List.getD_eq_getElem?_getD, List.getElem?_append_left h, ← List.getD_eq_getElem?_getD]
theorem getD_app_eq {l : List Po} {p : Po} : (l ++ [p]).getD l.length z26 = p := by
  rw [List.getD_eq_getElem?_getD, List.getElem?_append_right (Nat.le_refl _)]; simp
def sub (s : Int) (p : Po) : Bool := p.2.2.2.2.2.1 == s
theorem okNext_iff {a : Int} {l : List Po} {p : Po} (h : okNext a l p = true) : formed p a = true ∧ ((p.1 = 1 ∧ p.2.2.2.2.2.2.1 = -1) ∨ (p.1 = 2 ∧ 0 ≤ p.2.2.2.2.2.2.1 ∧ p.2.2.2.2.2.2.1 < (l.length : Int) ∧ (l.any fun q => q.2.2.2.2.2.2.1 == p.2.2.2.2.2.2.1) = false ∧ backs p (l.getD p.2.2.2.2.2.2.1.toNat z26) = true)) := by
  simp only [okNext, Bool.and_eq_true] at h
  have hf := h.1.1.2
  refine ⟨hf, ?_⟩
  rcases (formed_iff.mp hf).2.2.2.2.2.2 with h1 | h1
  · exact .inl h1
  · have h2 := h.2
    rw [show (p.1 == (1 : Int)) = false by rw [h1.1]; rfl] at h2
    simp only [Bool.false_or, Bool.and_eq_true, Bool.not_eq_true', decide_eq_true_eq] at h2
    exact .inr ⟨h1.1, h1.2.1, h2.1.1, h2.1.2, h2.2⟩
theorem owed_step {a : Int} {l : List Po} {p : Po} (hl : okAll a [] l = true) (hp : okNext a l p = true) (s : Int) (u : Nat) :
    sumT u (sel (stands s (l ++ [p])) 0 (l ++ [p])) = sumT u (sel (stands s l) 0 l) + bif sub s p then ent u p else 0 := by
  rw [sumT_sel u _ (l.length + 1) (l ++ [p]) (by simp), sumT_sel u _ l.length l rfl]
  simp only [isum, getD_app_eq]
  have hall : okAll a [] (l ++ [p]) = true := by rw [okAll_app, hl]; simpa using hp
  have hno := none_before hall (l.length + 1) l.length (by omega) (by simp)
  rw [List.take_of_length_le (by simp)] at hno
  obtain ⟨hf, hk⟩ := okNext_iff hp
  have hany : ∀ i, ((l ++ [p]).any fun q => q.2.2.2.2.2.2.1 == (i : Int)) = ((l.any fun q => q.2.2.2.2.2.2.1 == (i : Int)) || p.2.2.2.2.2.2.1 == (i : Int)) := fun i => by rw [List.any_append]; simp
  rcases hk with ⟨hk, ho⟩ | ⟨hk, ho1, ho2, ho3, hb⟩
  · have e1 : stands s (l ++ [p]) l.length p = sub s p := by
      simp only [stands, hno, sub, hk]; simp
    rw [e1]
    congr 1
    refine isum_congr fun i hi => ?_
    rw [getD_app_lt hi]
    have : stands s (l ++ [p]) i (l.getD i z26) = stands s l i (l.getD i z26) := by
      simp only [stands, hany, ho]; rw [show ((-1 : Int) == (i : Int)) = false from beq_eq_false_iff_ne.mpr (by omega), Bool.or_false]
    rw [this]
  · have e1 : stands s (l ++ [p]) l.length p = false := by simp only [stands, hk]; rfl
    rw [e1]
    simp only [cond_false]
    simp only [backs, Bool.and_eq_true] at hb
    obtain ⟨⟨⟨⟨c1, c2⟩, c3⟩, c4⟩, c5⟩ := hb
    have c1 := eq_of_beq c1; have c2 := eq_of_beq c2; have c3 := eq_of_beq c3; have c4 := eq_of_beq c4; have c5 := eq_of_beq c5
    have hj : p.2.2.2.2.2.2.1.toNat < l.length := by omega
    generalize hjj : p.2.2.2.2.2.2.1.toNat = j at *
    have hpj : p.2.2.2.2.2.2.1 = (j : Int) := by omega
    rw [isum_one (g := fun i => bif stands s l i (l.getD i z26) then ent u (l.getD i z26) else 0) hj]
    · have f1 : stands s l j (l.getD j z26) = sub s p := by
        simp only [stands, sub, c1, c5]; rw [← hpj, ho3]; simp
      have f2 : stands s (l ++ [p]) j ((l ++ [p]).getD j z26) = false := by
        simp only [stands, hany, hpj]; simp
      simp only [f1, f2, cond_false]
      have f3 : ent u p = - ent u (l.getD j z26) := by unfold ent; rw [c2, c3, c4]; omega
      cases sub s p
      · simp only [cond_false]; omega
      · simp only [cond_true]; omega
    · intro i hi he
      rw [getD_app_lt hi]
      have : stands s (l ++ [p]) i (l.getD i z26) = stands s l i (l.getD i z26) := by
        simp only [stands, hany, hpj]; rw [show ((j : Int) == (i : Int)) = false from beq_eq_false_iff_ne.mpr (by omega), Bool.or_false]
      rw [this]
/-- The sum over what bears a key. -/
def sumK (u : Nat) (f : Po → Bool) : List Po → Int
  | [] => 0
  | p :: l => (bif f p then ent u p else 0) + sumK u f l
theorem sumK_app (u : Nat) (f : Po → Bool) (p : Po) (l : List Po) : sumK u f (l ++ [p]) = sumK u f l + bif f p then ent u p else 0 := by
  induction l with
  | nil => simp [sumK]
  | cons q l ih => simp only [List.cons_append, sumK, ih]; omega
theorem okAll_pre {a : Int} {l : List Po} (h : okAll a [] l = true) : ∀ i, i ≤ l.length → okAll a [] (l.take i) = true := by
  have : ∀ (n i : Nat), n = l.length - i → i ≤ l.length → okAll a [] (l.take i) = true := by
    intro n; induction n with
    | zero => intro i hn hi; rw [List.take_of_length_le (by omega)]; exact h
    | succ n ih =>
      intro i hn hi
      have h1 := ih (i + 1) (by omega) (by omega)
      rw [← take_getD (by omega), okAll_app, Bool.and_eq_true] at h1
      exact h1.1
  intro i hi; exact this _ i rfl hi
theorem okNext_at {a : Int} {l : List Po} (h : okAll a [] l = true) {i : Nat} (hi : i < l.length) : okNext a (l.take i) (l.getD i z26) = true := by
  have := okAll_pre h (i + 1) (by omega)
  rw [← take_getD hi, okAll_app, Bool.and_eq_true] at this
  simpa using this.2
theorem owed_sum {a : Int} {l : List Po} (h : okAll a [] l = true) (s : Int) (u : Nat) : sumT u (sel (stands s l) 0 l) = sumK u (sub s) l := by
  have : ∀ i, i ≤ l.length → sumT u (sel (stands s (l.take i)) 0 (l.take i)) = sumK u (sub s) (l.take i) := by
    intro i; induction i with
    | zero => intro _; rfl
    | succ i ih =>
      intro hi
      have hlt : i < l.length := by omega
      rw [← take_getD hlt, owed_step (okAll_pre h i (by omega)) (okNext_at h hlt), ih (by omega), sumK_app]
  have h2 := this l.length (Nat.le_refl _)
  rwa [List.take_length] at h2
theorem stat_sum (m : Int) (u : Nat) : ∀ (l : List Po) (i : Nat), sumT u (sel (inM m) i l) = sumK u (inM m 0) l := by
  intro l; induction l with
  | nil => intro i; rfl
  | cons p l ih =>
    intro i; simp only [sel, sumK]
    have e : inM m i p = inM m 0 p := rfl
    rw [e]
    cases inM m 0 p
    · simp only [cond_false, ih]; omega
    · simp only [cond_true, sumT, ih]
/-- What bears each of n keys, together, is all. -/
theorem sumK_all (u n : Nat) (key : Po → Int) (f : Int → Po → Bool) (hf : ∀ k p, f k p = (key p == k)) : ∀ l : List Po, (∀ p ∈ l, 0 ≤ key p ∧ key p < n) → isum (fun k => sumK u (f (k : Int)) l) n = sumT u l := by
  intro l; induction l with
  | nil => intro _; simp only [sumK, sumT]; exact isum_zero n
  | cons p l ih =>
    intro h
    simp only [sumK, sumT, isum_add, ih fun q hq => h q (by simp [hq])]
    have ⟨h1, h2⟩ := h p (by simp)
    rw [isum_single (j := (key p).toNat) (by omega)]
    · rw [hf, show (key p == (((key p).toNat : Nat) : Int)) = true by simp; omega]; rfl
    · intro i hi he
      rw [hf, show (key p == (i : Int)) = false from beq_eq_false_iff_ne.mpr (by omega)]; rfl
/-- A posting gives nothing to all accounts together. -/
theorem ent_sum {n : Nat} {p : Po} (h : PoOk n p) : isum (fun t => ent t p) n = 0 := by
  obtain ⟨h1, h2, h3, h4, h5, _, _⟩ := h
  have e : isum (fun t => ent t p) n = isum (fun t => (if p.2.2.2.1 = (t : Int) then p.2.2.2.2.1 else 0)) n - isum (fun t => (if p.2.2.1 = (t : Int) then p.2.2.2.2.1 else 0)) n := by
    have := isum_add (fun t => ent t p) (fun t => (if p.2.2.1 = (t : Int) then p.2.2.2.2.1 else 0)) n
    have e2 : isum (fun i => ent i p + if p.2.2.1 = (i : Int) then p.2.2.2.2.1 else 0) n = isum (fun t => (if p.2.2.2.1 = (t : Int) then p.2.2.2.2.1 else 0)) n := isum_congr fun i _ => by unfold ent; omega
    omega
  rw [e, isum_single (j := p.2.2.2.1.toNat) (by omega), isum_single (j := p.2.2.1.toNat) (by omega)]
  · rw [if_pos (by omega), if_pos (by omega)]; omega
  · intro i hi he; rw [if_neg (by omega)]
  · intro i hi he; rw [if_neg (by omega)]
theorem sumT_all {n : Nat} : ∀ l : List Po, (∀ p ∈ l, PoOk n p) → isum (fun t => sumT t l) n = 0 := by
  intro l; induction l with
  | nil => intro _; exact isum_zero n
  | cons p l ih => intro h; simp only [sumT, isum_add]; rw [ent_sum (h p (by simp)), ih fun q hq => h q (by simp [hq])]; rfl
end Go.Ev.B
