/- The book, plain: formed postings, the next one, valid books. -/
import Derived.Test.YtohcmlejdglimaaB2
set_option linter.unusedSimpArgs false
set_option linter.unusedVariables false
namespace Go.Ev.B
open Go Go.Ev
abbrev Po := D26
abbrev Bk := D23
def bk0 : Bk := (0, ([], (0, ())))
theorem poEta (x : Po) : (x.1, (x.2.1, (x.2.2.1, (x.2.2.2.1, (x.2.2.2.2.1, (x.2.2.2.2.2.1, (x.2.2.2.2.2.2.1, ()))))))) = x := rfl
theorem bkEta (x : Bk) : (x.1, (x.2.1, (x.2.2.1, ()))) = x := rfl
theorem wrapI {n : Int} (h1 : -9223372036854775808 ≤ n) (h2 : n ≤ 9223372036854775807) : IntKind.i64.wrap n = n := by
  simp only [IntKind.wrap, IntKind.bits, IntKind.signed]
  by_cases h : 0 ≤ n
  · have : n % (2 ^ 64 : Int) = n := by omega
    simp only [this]
    rw [if_neg (by simp; omega)]
  · have : n % (2 ^ 64 : Int) = n + 18446744073709551616 := by omega
    simp only [this]
    rw [if_pos (by simp; omega)]
    omega
def isIn (n a b : Int) : Bool := decide (a ≤ n) && decide (n ≤ b)
theorem G30_eq (n a b : Int) : G30 n a b = some (isIn n a b) := by
  unfold G30 isIn; rw [show (decide (n ≥ a)) = decide (a ≤ n) from rfl]; cases decide (a ≤ n) <;> rfl
theorem P30_eq (n a b : Int) : P30 n a b = true := P30_of _ _ _ (G30_eq n a b)
theorem F30_eq (n a b : Int) : F30 n a b = isIn n a b := F30_of _ _ _ (G30_eq n a b)
theorem G32_eq (n a b : Int) : G32 n a b = some (isIn n a b) := by
  unfold G32 isIn; cases decide (a ≤ n) <;> rfl
theorem P32_eq (n a b : Int) : P32 n a b = true := P32_of _ _ _ (G32_eq n a b)
theorem F32_eq (n a b : Int) : F32 n a b = isIn n a b := F32_of _ _ _ (G32_eq n a b)
/-- A posting formed for a number of accounts. -/
def formed (p : Po) (a : Int) : Bool :=
  isIn p.2.1 0 359 && isIn p.2.2.1 0 (IntKind.i64.wrap (a - 1)) && isIn p.2.2.2.1 0 (IntKind.i64.wrap (a - 1)) && !(p.2.2.1 == p.2.2.2.1) && isIn p.2.2.2.2.1 1 1000000000 && isIn p.2.2.2.2.2.1 0 999
    && bif p.1 == 1 then p.2.2.2.2.2.2.1 == -1 else p.1 == 2 && isIn p.2.2.2.2.2.2.1 0 199
theorem G31_eq (p : Po) (a : Int) : G31 p a = some (formed p a) := by
  unfold G31 formed
  simp only [P30_eq, F30_eq]
  generalize isIn p.2.1 0 359 = b1
  generalize isIn p.2.2.1 0 _ = b2
  generalize isIn p.2.2.2.1 0 _ = b3
  generalize (p.2.2.1 == p.2.2.2.1) = b4
  generalize isIn p.2.2.2.2.1 _ _ = b5
  generalize isIn p.2.2.2.2.2.1 _ _ = b6
  generalize (p.1 == (1 : Int)) = b7
  generalize (p.2.2.2.2.2.2.1 == (-1 : Int)) = b8
  generalize (p.1 == (2 : Int)) = b9
  generalize isIn p.2.2.2.2.2.2.1 _ _ = b10
  revert b1 b2 b3 b4 b5 b6 b7 b8 b9 b10
  decide +kernel
theorem P31_eq (p : Po) (a : Int) : P31 p a = true := P31_of _ _ (G31_eq p a)
theorem F31_eq (p : Po) (a : Int) : F31 p a = formed p a := F31_of _ _ (G31_eq p a)
theorem G40_eq (p : Po) (a : Int) : G40 p a = some (formed p a) := by
  unfold G40 formed
  simp only [P32_eq, F32_eq]
  generalize isIn p.2.1 0 359 = b1
  generalize isIn p.2.2.1 0 _ = b2
  generalize isIn p.2.2.2.1 0 _ = b3
  generalize (p.2.2.1 == p.2.2.2.1) = b4
  generalize isIn p.2.2.2.2.1 _ _ = b5
  generalize isIn p.2.2.2.2.2.1 _ _ = b6
  generalize (p.1 == (1 : Int)) = b7
  generalize (p.2.2.2.2.2.2.1 == (-1 : Int)) = b8
  generalize (p.1 == (2 : Int)) = b9
  generalize isIn p.2.2.2.2.2.2.1 _ _ = b10
  revert b1 b2 b3 b4 b5 b6 b7 b8 b9 b10
  decide +kernel
theorem P40_eq (p : Po) (a : Int) : P40 p a = true := P40_of _ _ (G40_eq p a)
theorem F40_eq (p : Po) (a : Int) : F40 p a = formed p a := F40_of _ _ (G40_eq p a)
/-- Whether a posting takes another one back. -/
def backs (p q : Po) : Bool := q.1 == 1 && p.2.2.1 == q.2.2.2.1 && p.2.2.2.1 == q.2.2.1 && p.2.2.2.2.1 == q.2.2.2.2.1 && p.2.2.2.2.2.1 == q.2.2.2.2.2.1
theorem G41_eq (p q : Po) : G41 p q = some (backs p q) := by
  unfold G41 backs
  generalize (q.1 == (1 : Int)) = b1
  generalize (p.2.2.1 == q.2.2.2.1) = b2
  generalize (p.2.2.2.1 == q.2.2.1) = b3
  generalize (p.2.2.2.2.1 == q.2.2.2.2.1) = b4
  generalize (p.2.2.2.2.2.1 == q.2.2.2.2.2.1) = b5
  revert b1 b2 b3 b4 b5; decide
theorem P41_eq (p q : Po) : P41 p q = true := P41_of _ _ (G41_eq p q)
theorem F41_eq (p q : Po) : F41 p q = backs p q := F41_of _ _ (G41_eq p q)
theorem isIn_iff {n a b : Int} : isIn n a b = true ↔ a ≤ n ∧ n ≤ b := by simp [isIn]
theorem formed_iff {p : Po} {a : Int} : formed p a = true ↔ (0 ≤ p.2.1 ∧ p.2.1 ≤ 359) ∧ (0 ≤ p.2.2.1 ∧ p.2.2.1 ≤ IntKind.i64.wrap (a - 1)) ∧ (0 ≤ p.2.2.2.1 ∧ p.2.2.2.1 ≤ IntKind.i64.wrap (a - 1)) ∧ p.2.2.1 ≠ p.2.2.2.1 ∧ (1 ≤ p.2.2.2.2.1 ∧ p.2.2.2.2.1 ≤ 1000000000) ∧ (0 ≤ p.2.2.2.2.2.1 ∧ p.2.2.2.2.2.1 ≤ 999) ∧ ((p.1 = 1 ∧ p.2.2.2.2.2.2.1 = -1) ∨ (p.1 = 2 ∧ 0 ≤ p.2.2.2.2.2.2.1 ∧ p.2.2.2.2.2.2.1 ≤ 199)) := by
  unfold formed
  by_cases h1 : p.1 = 1
  · simp [h1, isIn_iff, and_assoc]
  · have : (p.1 == (1 : Int)) = false := by simpa using h1
    simp [this, h1, isIn_iff, and_assoc]
/-- Whether a posting can be the next one of a list. -/
def okNext (a : Int) (l : List Po) (p : Po) : Bool :=
  decide (l.length < 200) && formed p a && (decide (l.length = 0) || decide ((l.getD (l.length - 1) z26).2.1 ≤ p.2.1))
    && (p.1 == 1 || (decide (p.2.2.2.2.2.2.1 < (l.length : Int)) && !(l.any fun q => q.2.2.2.2.2.2.1 == p.2.2.2.2.2.2.1) && backs p (l.getD p.2.2.2.2.2.2.1.toNat z26)))
/-- What the table of postings taken back says. -/
def Back (n : Nat) (l : List Po) (b : List Bool) : Prop := b.length = n ∧ ∀ i : Nat, i < n → b.getD i false = l.any fun q => q.2.2.2.2.2.2.1 == (i : Int)
theorem back_nil (n : Nat) : Back n [] (List.replicate n false) := ⟨List.length_replicate, fun i hi => by simp [List.getD_eq_getElem?_getD, hi]⟩
theorem back_fee {n : Nat} {l : List Po} {b : List Bool} (h : Back n l b) {p : Po} (hp : p.2.2.2.2.2.2.1 = -1) : Back n (l ++ [p]) b := by
  refine ⟨h.1, fun i hi => ?_⟩
  rw [h.2 i hi, List.any_append]
  have : (p.2.2.2.2.2.2.1 == (i : Int)) = false := by rw [hp]; exact beq_eq_false_iff_ne.mpr (by omega)
  simp [this]
theorem back_rev {n : Nat} {l : List Po} {b : List Bool} (h : Back n l b) {p : Po} (h0 : 0 ≤ p.2.2.2.2.2.2.1) (h1 : p.2.2.2.2.2.2.1 < n) : Back n (l ++ [p]) (b.set p.2.2.2.2.2.2.1.toNat true) := by
  refine ⟨by rw [List.length_set]; exact h.1, fun i hi => ?_⟩
  rw [List.any_append]
  by_cases e : p.2.2.2.2.2.2.1.toNat = i
  · have : (p.2.2.2.2.2.2.1 == (i : Int)) = true := by simp; omega
    have hl : i < b.length := by rw [h.1]; exact hi
    simp [this, e, List.getD_eq_getElem?_getD, List.getElem?_set, hl]
  · have : (p.2.2.2.2.2.2.1 == (i : Int)) = false := by simp; omega
    have := h.2 i hi
    simp only [List.getD_eq_getElem?_getD, List.getElem?_set, e] at this ⊢
    simp_all
theorem tk_all {α : Type} (l : List α) : List.take (List.length l) l = l := List.take_length
end Go.Ev.B
