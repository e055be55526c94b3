/- What the functions of the program compute. -/
import Derived.Test.YtgjmlbldmmedgaaGreatDoorEv4
import Derived.Test.YtgjmlbldmmedgaaGreatDoorF
import Derived.Test.YtgjmlbldmmedgaaGreatDoorPa
import Derived.Test.YtgjmlbldmmedgaaGreatDoorRows
import Derived.LaidMore
import Derived.SevenTiedAt
import Derived.Carry
import Derived.Lib.LaidTab
import Derived.Stop.LaidErr
set_option linter.unusedSimpArgs false
set_option linter.unusedVariables false
set_option linter.deprecated false
namespace Go.Ev.I
theorem wrapI {n : Int} (h1 : -9223372036854775808 ≤ n) (h2 : n ≤ 9223372036854775807) : IntKind.i64.wrap n = n := by
  simp only [IntKind.wrap, IntKind.bits, IntKind.signed]
  by_cases h : 0 ≤ n
  · have : n % (2 ^ 64 : Int) = n := by omega
    simp only [this]
    rw [if_neg (by simp; omega)]
  · have : n % (2 ^ 64 : Int) = n + 18446744073709551616 := by omega
    simp only [this]
    rw [if_pos (by simp; omega)]
    omega
/-- The digits of n to the base 10000, the lowest one first. -/
def can (n : Nat) : List Int := if h : n = 0 then [] else ((n % 10000 : Nat) : Int) :: can (n / 10000)
termination_by n
decreasing_by omega
def val : List Int → Int
  | [] => 0
  | d :: l => d + 10000 * val l
def Dig (l : List Int) : Prop := ∀ d ∈ l, 0 ≤ d ∧ d < 10000
theorem can_zero : can 0 = [] := by rw [can]; rfl
theorem can_pos {n : Nat} (h : n ≠ 0) : can n = ((n % 10000 : Nat) : Int) :: can (n / 10000) := by rw [can, dif_neg h]
theorem val_can : ∀ n : Nat, val (can n) = n := by
  intro n
  induction n using Nat.strongRecOn with
  | ind n ih =>
    by_cases h : n = 0
    · subst h; rw [can_zero]; rfl
    · rw [can_pos h, val, ih (n / 10000) (by omega)]; omega
theorem dig_can : ∀ n : Nat, Dig (can n) := by
  intro n
  induction n using Nat.strongRecOn with
  | ind n ih =>
    by_cases h : n = 0
    · subst h; rw [can_zero]; intro d hd; simp at hd
    · rw [can_pos h]
      intro d hd
      rcases List.mem_cons.1 hd with rfl | hd
      · omega
      · exact ih (n / 10000) (by omega) d hd
theorem can_nil {n : Nat} : can n = [] ↔ n = 0 := by
  constructor
  · intro h
    have := val_can n
    rw [h] at this
    simp only [val] at this
    omega
  · rintro rfl; exact can_zero
theorem can_len_pos {n : Nat} : 0 < (can n).length ↔ n ≠ 0 := by
  rw [List.length_pos_iff]
  exact not_congr can_nil
theorem dig_nil : Dig [] := fun d hd => by simp at hd
theorem Dig.tail {d : Int} {l : List Int} (h : Dig (d :: l)) : Dig l := fun x hx => h x (by simp [hx])
theorem Dig.cons {d : Int} {l : List Int} (h : Dig l) (h1 : 0 ≤ d) (h2 : d < 10000) : Dig (d :: l) := fun x hx => by
  rcases List.mem_cons.1 hx with rfl | hx
  · exact ⟨h1, h2⟩
  · exact h x hx
theorem Dig.append {l m : List Int} (h : Dig l) (k : Dig m) : Dig (l ++ m) := fun x hx => by
  rcases List.mem_append.1 hx with hx | hx
  · exact h x hx
  · exact k x hx
theorem Dig.left {l m : List Int} (h : Dig (l ++ m)) : Dig l := fun x hx => h x (by simp [hx])
theorem Dig.right {l m : List Int} (h : Dig (l ++ m)) : Dig m := fun x hx => h x (by simp [hx])
theorem Dig.take {l : List Int} (h : Dig l) (k : Nat) : Dig (l.take k) := fun x hx => h x (List.mem_of_mem_take hx)
theorem Dig.getD {l : List Int} (h : Dig l) (i : Nat) : 0 ≤ l.getD i 0 ∧ l.getD i 0 < 10000 := by
  rw [List.getD_eq_getElem?_getD]
  cases hi : l[i]? with
  | none => simp
  | some x => exact h x (List.mem_of_getElem? hi)
theorem val_nonneg : ∀ {l : List Int}, Dig l → 0 ≤ val l
  | [], _ => by simp [val]
  | d :: l, h => by
    have := val_nonneg h.tail
    have := (h d (by simp)).1
    simp only [val]; omega
theorem val_append : ∀ (l m : List Int), val (l ++ m) = val l + 10000 ^ l.length * val m
  | [], m => by simp [val]
  | d :: l, m => by
    rw [List.cons_append, val, val, val_append l m, List.length_cons, Int.pow_succ, Int.mul_add]
    rw [show (10000 : Int) * (10000 ^ l.length * val m) = 10000 ^ l.length * 10000 * val m by rw [Int.mul_comm (10000 ^ l.length) 10000, Int.mul_assoc]]
    omega
theorem val_lt : ∀ {l : List Int}, Dig l → val l < 10000 ^ l.length
  | [], _ => by simp [val]
  | d :: l, h => by
    have h1 := val_lt h.tail
    have := (h d (by simp)).2
    simp only [val, List.length_cons, Int.pow_succ]
    omega
/-- Digits without a zero at the end are those of their value. -/
theorem can_of_dig : ∀ {l : List Int}, Dig l → (∀ d, l.getLast? = some d → d ≠ 0) → l = can (val l).toNat
  | [], _, _ => by simp [val, can_zero]
  | [d], h, hz => by
    have hd := h d (by simp)
    have h0 := hz d rfl
    obtain ⟨k, rfl⟩ := Int.eq_ofNat_of_zero_le hd.1
    have e : (val [(k : Int)]).toNat = k := by simp [val]
    rw [e, can_pos (by omega), show k % 10000 = k by omega, show k / 10000 = 0 by omega, can_zero]
  | d :: x :: l, h, hz => by
    have ih := can_of_dig h.tail (fun y hy => hz y (by simpa using hy))
    have hd := h d (by simp)
    have hv := val_nonneg h.tail
    obtain ⟨k, rfl⟩ := Int.eq_ofNat_of_zero_le hd.1
    obtain ⟨v, hv'⟩ := Int.eq_ofNat_of_zero_le hv
    have hv0 : v ≠ 0 := by
      rintro rfl
      rw [hv'] at ih
      simp [can_zero] at ih
    rw [hv'] at ih
    have e : (val ((k : Int) :: x :: l)).toNat = k + 10000 * v := by rw [val, hv']; omega
    rw [e, can_pos (by omega), show (k + 10000 * v) % 10000 = k by omega, show (k + 10000 * v) / 10000 = v by omega]
    rw [show ((v : Int)).toNat = v from rfl] at ih
    rw [← ih]
theorem can_len_le : ∀ (k n : Nat), n < 10000 ^ k → (can n).length ≤ k
  | 0, n, h => by
    have : n = 0 := by simpa using h
    subst this; rw [can_zero]; simp
  | k + 1, n, h => by
    by_cases h0 : n = 0
    · subst h0; rw [can_zero]; simp
    · rw [can_pos h0, List.length_cons]
      have := can_len_le k (n / 10000) (by rw [Nat.pow_succ] at h; exact Nat.div_lt_of_lt_mul (by omega))
      omega
theorem can_len_lt {k n : Nat} (h : (can n).length ≤ k) : n < 10000 ^ k := by
  have h1 := val_lt (dig_can n)
  rw [val_can] at h1
  have h2 : (10000 : Nat) ^ (can n).length ≤ 10000 ^ k := Nat.pow_le_pow_right (by decide) h
  have h3 : (n : Int) < ((10000 ^ (can n).length : Nat) : Int) := by simpa using h1
  omega
theorem can_len_mono {a b : Nat} (h : a ≤ b) : (can a).length ≤ (can b).length := can_len_le _ _ (Nat.lt_of_le_of_lt h (can_len_lt (Nat.le_refl _)))
/-! ### Folding -/
def cr (f : Nat → Int) : Nat → Int
  | 0 => 0
  | k + 1 => (f k + cr f k) / 10000
def ou (f : Nat → Int) : Nat → List Int
  | 0 => []
  | k + 1 => ou f k ++ [(f k + cr f k) % 10000]
def sm (f : Nat → Int) : Nat → Int
  | 0 => 0
  | k + 1 => sm f k + 10000 ^ k * f k
theorem ou_len (f : Nat → Int) : ∀ k, (ou f k).length = k
  | 0 => rfl
  | k + 1 => by simp [ou, ou_len f k]
theorem dig_ou (f : Nat → Int) : ∀ k, Dig (ou f k)
  | 0 => dig_nil
  | k + 1 => (dig_ou f k).append (dig_nil.cons (Int.emod_nonneg _ (by decide)) (Int.emod_lt_of_pos _ (by decide)))
theorem ou_val (f : Nat → Int) : ∀ k, val (ou f k) + 10000 ^ k * cr f k = sm f k
  | 0 => by simp [ou, cr, sm, val]
  | k + 1 => by
    have ih := ou_val f k
    rw [ou, val_append, ou_len, sm, ← ih, cr, Int.pow_succ]
    simp only [val, Int.mul_zero, Int.add_zero]
    have e := Int.emod_add_mul_ediv (f k + cr f k) 10000
    generalize (f k + cr f k) % 10000 = r at e ⊢
    generalize (f k + cr f k) / 10000 = q at e ⊢
    rw [show (10000 : Int) ^ k * f k = 10000 ^ k * (r + 10000 * q) - 10000 ^ k * cr f k by rw [e, Int.mul_add]; omega, Int.mul_add, Int.mul_assoc]
    omega
theorem sm_shift (f : Nat → Int) : ∀ k, sm f (k + 1) = f 0 + 10000 * sm (fun i => f (i + 1)) k
  | 0 => by simp [sm]
  | k + 1 => by
    rw [sm, sm_shift f k, sm, Int.pow_succ, Int.mul_add, Int.mul_comm (10000 ^ k) 10000, Int.mul_assoc]
    omega
theorem sm_zero : ∀ k, sm (fun _ => 0) k = 0
  | 0 => rfl
  | k + 1 => by rw [sm, sm_zero k]; simp
theorem sm_getD : ∀ (l : List Int) (k : Nat), l.length ≤ k → sm (fun i => l.getD i 0) k = val l
  | [], k, _ => by
    rw [show (fun i => ([] : List Int).getD i 0) = fun _ => 0 from funext fun i => by simp, sm_zero]; rfl
  | d :: l, 0, h => by simp at h
  | d :: l, k + 1, h => by
    rw [sm_shift, val, ← sm_getD l k (by simpa using h)]
    rfl
theorem sm_add (f g : Nat → Int) : ∀ k, sm (fun i => f i + g i) k = sm f k + sm g k
  | 0 => rfl
  | k + 1 => by simp only [sm, sm_add f g k, Int.mul_add]; omega
theorem sm_sub (f g : Nat → Int) : ∀ k, sm (fun i => f i - g i) k = sm f k - sm g k
  | 0 => rfl
  | k + 1 => by simp only [sm, sm_sub f g k, Int.mul_sub]; omega
theorem sm_mul (f : Nat → Int) (c : Int) : ∀ k, sm (fun i => f i * c) k = sm f k * c
  | 0 => by simp [sm]
  | k + 1 => by simp only [sm, sm_mul f c k, Int.add_mul, Int.mul_assoc]
/-- How the carries of a sum, of a product with a digit and of a difference go. -/
theorem cr_add {l m : List Int} (hl : Dig l) (hm : Dig m) : ∀ k, 0 ≤ cr (fun i => l.getD i 0 + m.getD i 0) k ∧ cr (fun i => l.getD i 0 + m.getD i 0) k ≤ 1
  | 0 => by simp [cr]
  | k + 1 => by
    have ih := cr_add hl hm k
    have := hl.getD k; have := hm.getD k
    simp only [cr]; omega
theorem cr_mul {l : List Int} (hl : Dig l) {c : Int} (h0 : 0 ≤ c) (h1 : c < 10000) : ∀ k, 0 ≤ cr (fun i => l.getD i 0 * c) k ∧ cr (fun i => l.getD i 0 * c) k ≤ 9998
  | 0 => by simp [cr]
  | k + 1 => by
    have ih := cr_mul hl h0 h1 k
    have a := hl.getD k
    have h2 : 0 ≤ l.getD k 0 * c := Int.mul_nonneg a.1 h0
    have h3 : l.getD k 0 * c ≤ 9999 * 9999 := Int.le_trans (Int.mul_le_mul_of_nonneg_right (by omega : l.getD k 0 ≤ 9999) h0) (Int.mul_le_mul_of_nonneg_left (by omega) (by decide))
    simp only [cr]; omega
theorem cr_sub {l m : List Int} (hl : Dig l) (hm : Dig m) : ∀ k, -1 ≤ cr (fun i => l.getD i 0 - m.getD i 0) k ∧ cr (fun i => l.getD i 0 - m.getD i 0) k ≤ 0
  | 0 => by simp [cr]
  | k + 1 => by
    have ih := cr_sub hl hm k
    have := hl.getD k; have := hm.getD k
    simp only [cr]; omega
theorem getD_out {l : List Int} {k : Nat} (h : l.length ≤ k) : l.getD k 0 = 0 := by rw [List.getD_eq_getElem?_getD, List.getElem?_eq_none h]; rfl
end Go.Ev.I

namespace Go.Ev.I
open Go Go.Proofs Go.Ev
theorem set_one (x : Int) : List.set (List.replicate 1 (0 : Int)) 0 x = [x] := rfl
theorem nn (n : Nat) : Int.toNat (n : Int) = n := rfl
theorem cut_pre {α : Type} (l : List α) (d : α) : cut (l ++ [d]) 0 (l.length : Int) = l := by simp [cut]
theorem L65_eq : ∀ (n : Nat) (l : List Int), l.length = n → l.length ≤ 1000000 → Dig l → L65_1 l = some (can (val l).toNat) := by
  intro n
  induction n with
  | zero =>
    intro l hl _ _
    have : l = [] := List.eq_nil_of_length_eq_zero hl
    subst this
    unfold L65_1
    refine lim_end (r := fun s => L65_1_r s) ?_
    show L65_1_r [] = _
    have e : IntKind.i64.wrap (((List.length ([] : List Int) : Nat) : Int) - 1) = -1 := wrapI (by decide) (by decide)
    unfold L65_1_r
    simp only [e]
    simp [val, can_zero]
  | succ n ih =>
    intro l hl hb hd
    obtain ⟨l', d, rfl⟩ := (List.eq_nil_or_concat l).resolve_left (fun h => by subst h; simp at hl)
    rw [List.concat_eq_append] at *
    have hlen : l'.length = n := by simpa using hl
    have hb' : l'.length ≤ 1000000 := by rw [List.length_append] at hb; omega
    have e : IntKind.i64.wrap (((List.length (l' ++ [d]) : Nat) : Int) - 1) = (l'.length : Int) := by
      rw [List.length_append, show ((l'.length + [d].length : Nat) : Int) - 1 = (l'.length : Int) by simp]
      exact wrapI (by omega) (by omega)
    have e0 : decide (((List.length (l' ++ [d]) : Nat) : Int) > 0) = true := by simp only [decide_eq_true_eq, List.length_append, List.length_cons, List.length_nil]; omega
    have e1 : (decide (0 ≤ (l'.length : Int)) && decide ((l'.length : Int) < ((List.length (l' ++ [d]) : Nat) : Int))) = true := by simp only [Bool.and_eq_true, decide_eq_true_eq, List.length_append, List.length_cons, List.length_nil]; omega
    have e2 : List.getD (l' ++ [d]) (Int.toNat (l'.length : Int)) 0 = d := by simp [List.getD_eq_getElem?_getD]
    have e3 : sliceTest 0 (l'.length : Int) (((l' ++ [d]).length : Nat) : Int) = true := by simp [sliceTest]; omega
    have hrun : L65_1_r (l' ++ [d]) = if d = 0 then some (.inl l') else some (.inr (l' ++ [d])) := by
      unfold L65_1_r
      simp only [e, e0, e1, e2, e3, cut_pre, Bool.true_or, cond_true]
      by_cases h : d = 0
      · subst h; rfl
      · rw [show (d == 0) = false by simpa using h, if_neg h]; rfl
    unfold L65_1 at *
    by_cases h : d = 0
    · subst h
      rw [if_pos rfl] at hrun
      rw [lim_go (r := fun s => L65_1_r s) hrun, ih l' hlen hb' hd.left]
      rw [val_append]; simp [val]
    · rw [if_neg h] at hrun
      rw [lim_end (r := fun s => L65_1_r s) hrun]
      rw [← can_of_dig hd (fun x hx => by simp at hx; subst hx; exact h)]
theorem G65_eq {l : List Int} (hb : l.length ≤ 1000000) (hd : Dig l) : G65 l = some (can (val l).toNat) := by
  unfold G65
  simp only [L65_eq _ l rfl hb hd, Option.bind_some]
theorem P65_eq {l : List Int} (hb : l.length ≤ 1000000) (hd : Dig l) : P65 l = true := P65_of _ (G65_eq hb hd)
theorem F65_eq {l : List Int} (hb : l.length ≤ 1000000) (hd : Dig l) : F65 l = can (val l).toNat := F65_of _ (G65_eq hb hd)
theorem G70_eq (l : List Int) (i : Nat) : G70 l (i : Int) = some (l.getD i 0) := by
  unfold G70
  by_cases h : i < l.length
  · have e0 : decide ((i : Int) < (l.length : Int)) = true := by simp; exact h
    simp only [e0, cond_true, nn, Bool.and_true, show decide (0 ≤ (i : Int)) = true by simp]
  · have e0 : decide ((i : Int) < (l.length : Int)) = false := by simp; omega
    simp only [e0, cond_false, getD_out (Nat.le_of_not_lt h)]
theorem P70_eq (l : List Int) (i : Nat) : P70 l (i : Int) = true := P70_of _ _ (G70_eq l i)
theorem F70_eq (l : List Int) (i : Nat) : F70 l (i : Int) = l.getD i 0 := F70_of _ _ (G70_eq l i)

theorem G69_eq (x : List Int) (y : List Int) (i : Nat) (h0 : -99990000 ≤ (x.getD i 0 + y.getD i 0)) (h1 : (x.getD i 0 + y.getD i 0) ≤ 99990000) : G69 (i : Int) x y = some ((x.getD i 0 + y.getD i 0), ((), (x, ((), (y, ()))))) := by
  unfold G69
  simp only [P70_eq, F70_eq, cond_true, wrapI (by omega : -9223372036854775808 ≤ (x.getD i 0 + y.getD i 0)) (by omega)]
theorem fold68_go (x : List Int) (y : List Int) (n i : Nat) (hi : i ≤ 1000000) (hc : i < n ∨ cr (fun i => (x.getD i 0 + y.getD i 0)) i ≠ 0) (h0 : -9999 ≤ (x.getD i 0 + y.getD i 0)) (h1 : (x.getD i 0 + y.getD i 0) ≤ 99980001) (c0 : -1 ≤ cr (fun i => (x.getD i 0 + y.getD i 0)) i) (c1 : cr (fun i => (x.getD i 0 + y.getD i 0)) i ≤ 10000) :
    L68_3_r (n : Int) (cr (fun i => (x.getD i 0 + y.getD i 0)) i) (ou (fun i => (x.getD i 0 + y.getD i 0)) i) (i : Int) x y = some (.inl ((n : Int), cr (fun i => (x.getD i 0 + y.getD i 0)) (i + 1), ou (fun i => (x.getD i 0 + y.getD i 0)) (i + 1), ((i + 1 : Nat) : Int), x, y)) := by
  have hcr : cr (fun i => (x.getD i 0 + y.getD i 0)) (i + 1) = ((x.getD i 0 + y.getD i 0) + cr (fun i => (x.getD i 0 + y.getD i 0)) i) / 10000 := rfl
  have hou : ou (fun i => (x.getD i 0 + y.getD i 0)) (i + 1) = ou (fun i => (x.getD i 0 + y.getD i 0)) i ++ [((x.getD i 0 + y.getD i 0) + cr (fun i => (x.getD i 0 + y.getD i 0)) i) % 10000] := rfl
  have hol := ou_len (fun i => (x.getD i 0 + y.getD i 0)) i
  rw [hcr, hou]
  generalize ou (fun i => (x.getD i 0 + y.getD i 0)) i = o at hol ⊢
  generalize cr (fun i => (x.getD i 0 + y.getD i 0)) i = c at hc c0 c1 ⊢
  have gf := G69_eq x y i (by omega) (by omega)
  generalize (x.getD i 0 + y.getD i 0) = d at h0 h1 gf ⊢
  have e0 : (bif decide ((i : Int) < (n : Int)) then true else (c != 0)) = true := by
    by_cases h : i < n
    · simp [h]
    · simp [hc.resolve_left h]
  have e1 : IntKind.i64.wrap (d + c) = d + c := wrapI (by omega) (by omega)
  have e2 : IntKind.i64.wrap ((i : Int) + 1) = ((i + 1 : Nat) : Int) := by rw [wrapI (by omega) (by omega)]; rfl
  have e3 : ∀ z : Int, decide (List.length o + List.length [z] ≤ 100000000000) = true := fun z => by simp; omega
  unfold L68_3_r
  simp only [e0, P69_of _ _ _ gf, F69_of _ _ _ gf, cond_true, e1, e2, set_one, e3, List.take_length]
  by_cases h2 : d + c < 0
  · have e4 : IntKind.i64.wrap (d + c + 10000) = d + c + 10000 := wrapI (by omega) (by omega)
    simp only [decide_eq_true h2, cond_true, e4]
    rw [show d + c + 10000 = (d + c) % 10000 by omega, show (-1 : Int) = (d + c) / 10000 by omega]
  · simp only [decide_eq_false h2, cond_false]
    by_cases h3 : d + c ≥ 10000
    · have e4 : IntKind.i64.wrap (Int.tdiv (d + c) 10000) = (d + c) / 10000 := by
        rw [Int.tdiv_eq_ediv_of_nonneg (by omega)]; exact wrapI (by omega) (by omega)
      have e5 : Int.tmod (d + c) 10000 = (d + c) % 10000 := Int.tmod_eq_emod_of_nonneg (by omega)
      simp only [decide_eq_true h3, cond_true, e4, e5]
    · simp only [decide_eq_false h3, cond_false]
      rw [show (d + c) % 10000 = d + c by omega, show (d + c) / 10000 = 0 by omega]
theorem fold68_eq (x : List Int) (y : List Int) (n N : Nat) (hn : n ≤ N) (hN : N ≤ 1000000) (hrun : ∀ i, i < N → i < n ∨ cr (fun i => (x.getD i 0 + y.getD i 0)) i ≠ 0) (hend : cr (fun i => (x.getD i 0 + y.getD i 0)) N = 0)
    (h0 : ∀ i, -9999 ≤ (x.getD i 0 + y.getD i 0)) (h1 : ∀ i, (x.getD i 0 + y.getD i 0) ≤ 99980001) (c0 : ∀ i, -1 ≤ cr (fun i => (x.getD i 0 + y.getD i 0)) i) (c1 : ∀ i, cr (fun i => (x.getD i 0 + y.getD i 0)) i ≤ 10000) : G68 (n : Int) 0 x y = some (ou (fun i => (x.getD i 0 + y.getD i 0)) N, ((), (x, ((), (y, ()))))) := by
  have hl : L68_3 ((n : Int), 0, [], 0, x, y) = some ((n : Int), 0, ou (fun i => (x.getD i 0 + y.getD i 0)) N, (N : Int), x, y) := by
    unfold L68_3
    have := lim_inv (r := fun s : Int × Int × List Int × Int × List Int × List Int => L68_3_r s.1 s.2.1 s.2.2.1 s.2.2.2.1 s.2.2.2.2.1 s.2.2.2.2.2) (fun i => ((n : Int), cr (fun i => (x.getD i 0 + y.getD i 0)) i, ou (fun i => (x.getD i 0 + y.getD i 0)) i, (i : Int), x, y)) ((n : Int), 0, ou (fun i => (x.getD i 0 + y.getD i 0)) N, (N : Int), x, y) N
      (fun i hi => fold68_go x y n i (by omega) (hrun i hi) (h0 i) (h1 i) (c0 i) (c1 i)) (by
        show L68_3_r (n : Int) (cr (fun i => (x.getD i 0 + y.getD i 0)) N) (ou (fun i => (x.getD i 0 + y.getD i 0)) N) (N : Int) x y = _
        rw [hend]
        have e0 : (bif decide ((N : Int) < (n : Int)) then true else ((0 : Int) != 0)) = false := by
          rw [decide_eq_false (by omega)]; rfl
        unfold L68_3_r
        simp only [e0, cond_false]) 0 (by omega)
    exact this
  have e : IntKind.i64.wrap ((n : Int) + 1) = (n : Int) + 1 := wrapI (by omega) (by omega)
  have e1 : (decide ((0 : Int) ≤ 0) && decide ((0 : Int) ≤ (n : Int) + 1) && decide ((n : Int) + 1 ≤ 100000000000)) = true := by simp; omega
  unfold G68
  simp only [e, e1, cond_true]
  rw [show List.replicate (Int.toNat 0) (0 : Int) = [] from rfl, hl]
  simp only [Option.bind_some, List.take_length]

theorem G71_eq (x : List Int) (y : List Int) (i : Nat) (h0 : -99990000 ≤ (x.getD i 0 - y.getD i 0)) (h1 : (x.getD i 0 - y.getD i 0) ≤ 99990000) : G71 (i : Int) x y = some ((x.getD i 0 - y.getD i 0), ((), (x, ((), (y, ()))))) := by
  unfold G71
  simp only [P70_eq, F70_eq, cond_true, wrapI (by omega : -9223372036854775808 ≤ (x.getD i 0 - y.getD i 0)) (by omega)]
theorem fold10068_go (x : List Int) (y : List Int) (n i : Nat) (hi : i ≤ 1000000) (hc : i < n ∨ cr (fun i => (x.getD i 0 - y.getD i 0)) i ≠ 0) (h0 : -9999 ≤ (x.getD i 0 - y.getD i 0)) (h1 : (x.getD i 0 - y.getD i 0) ≤ 99980001) (c0 : -1 ≤ cr (fun i => (x.getD i 0 - y.getD i 0)) i) (c1 : cr (fun i => (x.getD i 0 - y.getD i 0)) i ≤ 10000) :
    L10068_3_r (n : Int) (cr (fun i => (x.getD i 0 - y.getD i 0)) i) (ou (fun i => (x.getD i 0 - y.getD i 0)) i) (i : Int) x y = some (.inl ((n : Int), cr (fun i => (x.getD i 0 - y.getD i 0)) (i + 1), ou (fun i => (x.getD i 0 - y.getD i 0)) (i + 1), ((i + 1 : Nat) : Int), x, y)) := by
  have hcr : cr (fun i => (x.getD i 0 - y.getD i 0)) (i + 1) = ((x.getD i 0 - y.getD i 0) + cr (fun i => (x.getD i 0 - y.getD i 0)) i) / 10000 := rfl
  have hou : ou (fun i => (x.getD i 0 - y.getD i 0)) (i + 1) = ou (fun i => (x.getD i 0 - y.getD i 0)) i ++ [((x.getD i 0 - y.getD i 0) + cr (fun i => (x.getD i 0 - y.getD i 0)) i) % 10000] := rfl
  have hol := ou_len (fun i => (x.getD i 0 - y.getD i 0)) i
  rw [hcr, hou]
  generalize ou (fun i => (x.getD i 0 - y.getD i 0)) i = o at hol ⊢
  generalize cr (fun i => (x.getD i 0 - y.getD i 0)) i = c at hc c0 c1 ⊢
  have gf := G71_eq x y i (by omega) (by omega)
  generalize (x.getD i 0 - y.getD i 0) = d at h0 h1 gf ⊢
  have e0 : (bif decide ((i : Int) < (n : Int)) then true else (c != 0)) = true := by
    by_cases h : i < n
    · simp [h]
    · simp [hc.resolve_left h]
  have e1 : IntKind.i64.wrap (d + c) = d + c := wrapI (by omega) (by omega)
  have e2 : IntKind.i64.wrap ((i : Int) + 1) = ((i + 1 : Nat) : Int) := by rw [wrapI (by omega) (by omega)]; rfl
  have e3 : ∀ z : Int, decide (List.length o + List.length [z] ≤ 100000000000) = true := fun z => by simp; omega
  unfold L10068_3_r
  simp only [e0, P71_of _ _ _ gf, F71_of _ _ _ gf, cond_true, e1, e2, set_one, e3, List.take_length]
  by_cases h2 : d + c < 0
  · have e4 : IntKind.i64.wrap (d + c + 10000) = d + c + 10000 := wrapI (by omega) (by omega)
    simp only [decide_eq_true h2, cond_true, e4]
    rw [show d + c + 10000 = (d + c) % 10000 by omega, show (-1 : Int) = (d + c) / 10000 by omega]
  · simp only [decide_eq_false h2, cond_false]
    by_cases h3 : d + c ≥ 10000
    · have e4 : IntKind.i64.wrap (Int.tdiv (d + c) 10000) = (d + c) / 10000 := by
        rw [Int.tdiv_eq_ediv_of_nonneg (by omega)]; exact wrapI (by omega) (by omega)
      have e5 : Int.tmod (d + c) 10000 = (d + c) % 10000 := Int.tmod_eq_emod_of_nonneg (by omega)
      simp only [decide_eq_true h3, cond_true, e4, e5]
    · simp only [decide_eq_false h3, cond_false]
      rw [show (d + c) % 10000 = d + c by omega, show (d + c) / 10000 = 0 by omega]
theorem fold10068_eq (x : List Int) (y : List Int) (n N : Nat) (hn : n ≤ N) (hN : N ≤ 1000000) (hrun : ∀ i, i < N → i < n ∨ cr (fun i => (x.getD i 0 - y.getD i 0)) i ≠ 0) (hend : cr (fun i => (x.getD i 0 - y.getD i 0)) N = 0)
    (h0 : ∀ i, -9999 ≤ (x.getD i 0 - y.getD i 0)) (h1 : ∀ i, (x.getD i 0 - y.getD i 0) ≤ 99980001) (c0 : ∀ i, -1 ≤ cr (fun i => (x.getD i 0 - y.getD i 0)) i) (c1 : ∀ i, cr (fun i => (x.getD i 0 - y.getD i 0)) i ≤ 10000) : G10068 (n : Int) 0 x y = some (ou (fun i => (x.getD i 0 - y.getD i 0)) N, ((), (x, ((), (y, ()))))) := by
  have hl : L10068_3 ((n : Int), 0, [], 0, x, y) = some ((n : Int), 0, ou (fun i => (x.getD i 0 - y.getD i 0)) N, (N : Int), x, y) := by
    unfold L10068_3
    have := lim_inv (r := fun s : Int × Int × List Int × Int × List Int × List Int => L10068_3_r s.1 s.2.1 s.2.2.1 s.2.2.2.1 s.2.2.2.2.1 s.2.2.2.2.2) (fun i => ((n : Int), cr (fun i => (x.getD i 0 - y.getD i 0)) i, ou (fun i => (x.getD i 0 - y.getD i 0)) i, (i : Int), x, y)) ((n : Int), 0, ou (fun i => (x.getD i 0 - y.getD i 0)) N, (N : Int), x, y) N
      (fun i hi => fold10068_go x y n i (by omega) (hrun i hi) (h0 i) (h1 i) (c0 i) (c1 i)) (by
        show L10068_3_r (n : Int) (cr (fun i => (x.getD i 0 - y.getD i 0)) N) (ou (fun i => (x.getD i 0 - y.getD i 0)) N) (N : Int) x y = _
        rw [hend]
        have e0 : (bif decide ((N : Int) < (n : Int)) then true else ((0 : Int) != 0)) = false := by
          rw [decide_eq_false (by omega)]; rfl
        unfold L10068_3_r
        simp only [e0, cond_false]) 0 (by omega)
    exact this
  have e : IntKind.i64.wrap ((n : Int) + 1) = (n : Int) + 1 := wrapI (by omega) (by omega)
  have e1 : (decide ((0 : Int) ≤ 0) && decide ((0 : Int) ≤ (n : Int) + 1) && decide ((n : Int) + 1 ≤ 100000000000)) = true := by simp; omega
  unfold G10068
  simp only [e, e1, cond_true]
  rw [show List.replicate (Int.toNat 0) (0 : Int) = [] from rfl, hl]
  simp only [Option.bind_some, List.take_length]

theorem G84_eq (x : List Int) (y : Int) (i : Nat) (h0 : -99990000 ≤ (x.getD i 0 * y)) (h1 : (x.getD i 0 * y) ≤ 99990000) : G84 (i : Int) x y = some ((x.getD i 0 * y), ((), (x, ((), (y, ()))))) := by
  unfold G84
  simp only [P70_eq, F70_eq, cond_true, wrapI (by omega : -9223372036854775808 ≤ (x.getD i 0 * y)) (by omega)]
theorem fold20068_go (x : List Int) (y : Int) (n i : Nat) (hi : i ≤ 1000000) (hc : i < n ∨ cr (fun i => (x.getD i 0 * y)) i ≠ 0) (h0 : -9999 ≤ (x.getD i 0 * y)) (h1 : (x.getD i 0 * y) ≤ 99980001) (c0 : -1 ≤ cr (fun i => (x.getD i 0 * y)) i) (c1 : cr (fun i => (x.getD i 0 * y)) i ≤ 10000) :
    L20068_3_r (n : Int) (cr (fun i => (x.getD i 0 * y)) i) (ou (fun i => (x.getD i 0 * y)) i) (i : Int) x y = some (.inl ((n : Int), cr (fun i => (x.getD i 0 * y)) (i + 1), ou (fun i => (x.getD i 0 * y)) (i + 1), ((i + 1 : Nat) : Int), x, y)) := by
  have hcr : cr (fun i => (x.getD i 0 * y)) (i + 1) = ((x.getD i 0 * y) + cr (fun i => (x.getD i 0 * y)) i) / 10000 := rfl
  have hou : ou (fun i => (x.getD i 0 * y)) (i + 1) = ou (fun i => (x.getD i 0 * y)) i ++ [((x.getD i 0 * y) + cr (fun i => (x.getD i 0 * y)) i) % 10000] := rfl
  have hol := ou_len (fun i => (x.getD i 0 * y)) i
  rw [hcr, hou]
  generalize ou (fun i => (x.getD i 0 * y)) i = o at hol ⊢
  generalize cr (fun i => (x.getD i 0 * y)) i = c at hc c0 c1 ⊢
  have gf := G84_eq x y i (by omega) (by omega)
  generalize (x.getD i 0 * y) = d at h0 h1 gf ⊢
  have e0 : (bif decide ((i : Int) < (n : Int)) then true else (c != 0)) = true := by
    by_cases h : i < n
    · simp [h]
    · simp [hc.resolve_left h]
  have e1 : IntKind.i64.wrap (d + c) = d + c := wrapI (by omega) (by omega)
  have e2 : IntKind.i64.wrap ((i : Int) + 1) = ((i + 1 : Nat) : Int) := by rw [wrapI (by omega) (by omega)]; rfl
  have e3 : ∀ z : Int, decide (List.length o + List.length [z] ≤ 100000000000) = true := fun z => by simp; omega
  unfold L20068_3_r
  simp only [e0, P84_of _ _ _ gf, F84_of _ _ _ gf, cond_true, e1, e2, set_one, e3, List.take_length]
  by_cases h2 : d + c < 0
  · have e4 : IntKind.i64.wrap (d + c + 10000) = d + c + 10000 := wrapI (by omega) (by omega)
    simp only [decide_eq_true h2, cond_true, e4]
    rw [show d + c + 10000 = (d + c) % 10000 by omega, show (-1 : Int) = (d + c) / 10000 by omega]
  · simp only [decide_eq_false h2, cond_false]
    by_cases h3 : d + c ≥ 10000
    · have e4 : IntKind.i64.wrap (Int.tdiv (d + c) 10000) = (d + c) / 10000 := by
        rw [Int.tdiv_eq_ediv_of_nonneg (by omega)]; exact wrapI (by omega) (by omega)
      have e5 : Int.tmod (d + c) 10000 = (d + c) % 10000 := Int.tmod_eq_emod_of_nonneg (by omega)
      simp only [decide_eq_true h3, cond_true, e4, e5]
    · simp only [decide_eq_false h3, cond_false]
      rw [show (d + c) % 10000 = d + c by omega, show (d + c) / 10000 = 0 by omega]
theorem fold20068_eq (x : List Int) (y : Int) (n N : Nat) (hn : n ≤ N) (hN : N ≤ 1000000) (hrun : ∀ i, i < N → i < n ∨ cr (fun i => (x.getD i 0 * y)) i ≠ 0) (hend : cr (fun i => (x.getD i 0 * y)) N = 0)
    (h0 : ∀ i, -9999 ≤ (x.getD i 0 * y)) (h1 : ∀ i, (x.getD i 0 * y) ≤ 99980001) (c0 : ∀ i, -1 ≤ cr (fun i => (x.getD i 0 * y)) i) (c1 : ∀ i, cr (fun i => (x.getD i 0 * y)) i ≤ 10000) : G20068 (n : Int) 0 x y = some (ou (fun i => (x.getD i 0 * y)) N, ((), (x, ((), (y, ()))))) := by
  have hl : L20068_3 ((n : Int), 0, [], 0, x, y) = some ((n : Int), 0, ou (fun i => (x.getD i 0 * y)) N, (N : Int), x, y) := by
    unfold L20068_3
    have := lim_inv (r := fun s : Int × Int × List Int × Int × List Int × Int => L20068_3_r s.1 s.2.1 s.2.2.1 s.2.2.2.1 s.2.2.2.2.1 s.2.2.2.2.2) (fun i => ((n : Int), cr (fun i => (x.getD i 0 * y)) i, ou (fun i => (x.getD i 0 * y)) i, (i : Int), x, y)) ((n : Int), 0, ou (fun i => (x.getD i 0 * y)) N, (N : Int), x, y) N
      (fun i hi => fold20068_go x y n i (by omega) (hrun i hi) (h0 i) (h1 i) (c0 i) (c1 i)) (by
        show L20068_3_r (n : Int) (cr (fun i => (x.getD i 0 * y)) N) (ou (fun i => (x.getD i 0 * y)) N) (N : Int) x y = _
        rw [hend]
        have e0 : (bif decide ((N : Int) < (n : Int)) then true else ((0 : Int) != 0)) = false := by
          rw [decide_eq_false (by omega)]; rfl
        unfold L20068_3_r
        simp only [e0, cond_false]) 0 (by omega)
    exact this
  have e : IntKind.i64.wrap ((n : Int) + 1) = (n : Int) + 1 := wrapI (by omega) (by omega)
  have e1 : (decide ((0 : Int) ≤ 0) && decide ((0 : Int) ≤ (n : Int) + 1) && decide ((n : Int) + 1 ≤ 100000000000)) = true := by simp; omega
  unfold G20068
  simp only [e, e1, cond_true]
  rw [show List.replicate (Int.toNat 0) (0 : Int) = [] from rfl, hl]
  simp only [Option.bind_some, List.take_length]

theorem max_len (x y : List Int) : (if ((y.length : Nat) : Int) > ((x.length : Nat) : Int) then ((y.length : Nat) : Int) else ((x.length : Nat) : Int)) = ((max x.length y.length : Nat) : Int) := by
  split <;> omega
/-- **A sum.** -/
theorem G43_eq {x y : List Int} (hx : Dig x) (hy : Dig y) (lx : x.length ≤ 1000) (ly : y.length ≤ 1000) : G43 x y = some (can (val x + val y).toNat) := by
  have hb : ∀ i, 0 ≤ x.getD i 0 + y.getD i 0 ∧ x.getD i 0 + y.getD i 0 ≤ 19998 := fun i => by have := hx.getD i; have := hy.getD i; omega
  have hc := cr_add hx hy
  have hn1 : cr (fun i => x.getD i 0 + y.getD i 0) (max x.length y.length + 1) = 0 := by
    have := hc (max x.length y.length)
    simp only [cr, getD_out (Nat.le_max_left x.length y.length), getD_out (Nat.le_max_right x.length y.length)]
    omega
  obtain ⟨N, hN1, hN2, hN3, hN4⟩ : ∃ N, max x.length y.length ≤ N ∧ N ≤ max x.length y.length + 1 ∧ cr (fun i => x.getD i 0 + y.getD i 0) N = 0 ∧ ∀ i, i < N → i < max x.length y.length ∨ cr (fun i => x.getD i 0 + y.getD i 0) i ≠ 0 := by
    by_cases h : cr (fun i => x.getD i 0 + y.getD i 0) (max x.length y.length) = 0
    · exact ⟨_, Nat.le_refl _, Nat.le_succ _, h, fun i hi => .inl hi⟩
    · refine ⟨_, Nat.le_succ _, Nat.le_refl _, hn1, fun i hi => ?_⟩
      by_cases hi2 : i < max x.length y.length
      · exact .inl hi2
      · rw [show i = max x.length y.length by omega]; exact .inr h
  have hv := ou_val (fun i => x.getD i 0 + y.getD i 0) N
  rw [hN3, sm_add, sm_getD x N (by omega), sm_getD y N (by omega)] at hv
  have g := fold68_eq x y (max x.length y.length) N hN1 (by omega) hN4 hN3 (fun i => by have := hb i; omega) (fun i => by have := hb i; omega) (fun i => by have := hc i; omega) (fun i => by have := hc i; omega)
  have hl := ou_len (fun i => x.getD i 0 + y.getD i 0) N
  unfold G43
  simp only [max_len, P68_of _ _ _ _ g, F68_of _ _ _ _ g, cond_true, P65_eq (by omega : (ou (fun i => x.getD i 0 + y.getD i 0) N).length ≤ 1000000) (dig_ou _ _), F65_eq (by omega : (ou (fun i => x.getD i 0 + y.getD i 0) N).length ≤ 1000000) (dig_ou _ _)]
  rw [show val (ou (fun i => x.getD i 0 + y.getD i 0) N) = val x + val y by simpa using hv]
theorem plus_P {a b : Nat} (ha : (can a).length ≤ 1000) (hb : (can b).length ≤ 1000) : P43 (can a) (can b) = true := P43_of _ _ (G43_eq (dig_can a) (dig_can b) ha hb)
theorem plus_F {a b : Nat} (ha : (can a).length ≤ 1000) (hb : (can b).length ≤ 1000) : F43 (can a) (can b) = can (a + b) := by
  rw [F43_of _ _ (G43_eq (dig_can a) (dig_can b) ha hb), val_can, val_can]; rfl
/-- **A difference.** -/
theorem G45_eq {a b : Nat} (hab : b ≤ a) (la : (can a).length ≤ 1000) : G45 (can a) (can b) = some (can (a - b)) := by
  have hx := dig_can a; have hy := dig_can b
  have lb : (can b).length ≤ (can a).length := can_len_mono hab
  have hb : ∀ i, -9999 ≤ (can a).getD i 0 - (can b).getD i 0 ∧ (can a).getD i 0 - (can b).getD i 0 ≤ 9999 := fun i => by have := hx.getD i; have := hy.getD i; omega
  have hc := cr_sub hx hy
  have hv := ou_val (fun i => (can a).getD i 0 - (can b).getD i 0) (can a).length
  rw [sm_sub, sm_getD _ _ (Nat.le_refl _), sm_getD _ _ lb, val_can, val_can] at hv
  have hlt := val_lt (dig_ou (fun i => (can a).getD i 0 - (can b).getD i 0) (can a).length)
  have hl := ou_len (fun i => (can a).getD i 0 - (can b).getD i 0) (can a).length
  rw [hl] at hlt
  have h0 : cr (fun i => (can a).getD i 0 - (can b).getD i 0) (can a).length = 0 := by
    have := hc (can a).length
    have hp : (0 : Int) < 10000 ^ (can a).length := Int.pow_pos (by decide)
    apply Classical.byContradiction
    intro hne
    have : cr (fun i => (can a).getD i 0 - (can b).getD i 0) (can a).length = -1 := by omega
    rw [this] at hv
    omega
  rw [h0] at hv
  have g := fold10068_eq (can a) (can b) (can a).length (can a).length (Nat.le_refl _) (by omega) (fun i hi => .inl hi) h0 (fun i => by have := hb i; omega) (fun i => by have := hb i; omega) (fun i => by have := hc i; omega) (fun i => by have := hc i; omega)
  unfold G45
  simp only [P10068_of _ _ _ _ g, F10068_of _ _ _ _ g, cond_true, P65_eq (by omega : (ou (fun i => (can a).getD i 0 - (can b).getD i 0) (can a).length).length ≤ 1000000) (dig_ou _ _), F65_eq (by omega : (ou (fun i => (can a).getD i 0 - (can b).getD i 0) (can a).length).length ≤ 1000000) (dig_ou _ _)]
  rw [show (val (ou (fun i => (can a).getD i 0 - (can b).getD i 0) (can a).length)).toNat = a - b by omega]
theorem minus_P {a b : Nat} (hab : b ≤ a) (la : (can a).length ≤ 1000) : P45 (can a) (can b) = true := P45_of _ _ (G45_eq hab la)
theorem minus_F {a b : Nat} (hab : b ≤ a) (la : (can a).length ≤ 1000) : F45 (can a) (can b) = can (a - b) := F45_of _ _ (G45_eq hab la)
/-- **A product with a digit.** -/
theorem G64_eq {a d : Nat} (hd : d < 10000) (la : (can a).length ≤ 1000) : G64 (can a) (d : Int) = some (can (a * d)) := by
  have hx := dig_can a
  have hb : ∀ i, 0 ≤ (can a).getD i 0 * (d : Int) ∧ (can a).getD i 0 * (d : Int) ≤ 99980001 := fun i => by
    have a1 := hx.getD i
    exact ⟨Int.mul_nonneg a1.1 (by omega), Int.le_trans (Int.mul_le_mul_of_nonneg_right (by omega : (can a).getD i 0 ≤ 9999) (by omega)) (Int.le_trans (Int.mul_le_mul_of_nonneg_left (by omega : (d : Int) ≤ 9999) (by decide)) (by decide))⟩
  have hc := cr_mul hx (c := (d : Int)) (by omega) (by omega)
  have hn1 : cr (fun i => (can a).getD i 0 * (d : Int)) ((can a).length + 1) = 0 := by
    have := hc (can a).length
    simp only [cr, getD_out (Nat.le_refl (can a).length)]
    omega
  obtain ⟨N, hN1, hN2, hN3, hN4⟩ : ∃ N, (can a).length ≤ N ∧ N ≤ (can a).length + 1 ∧ cr (fun i => (can a).getD i 0 * (d : Int)) N = 0 ∧ ∀ i, i < N → i < (can a).length ∨ cr (fun i => (can a).getD i 0 * (d : Int)) i ≠ 0 := by
    by_cases h : cr (fun i => (can a).getD i 0 * (d : Int)) (can a).length = 0
    · exact ⟨_, Nat.le_refl _, Nat.le_succ _, h, fun i hi => .inl hi⟩
    · refine ⟨_, Nat.le_succ _, Nat.le_refl _, hn1, fun i hi => ?_⟩
      by_cases hi2 : i < (can a).length
      · exact .inl hi2
      · rw [show i = (can a).length by omega]; exact .inr h
  have hv := ou_val (fun i => (can a).getD i 0 * (d : Int)) N
  rw [hN3, sm_mul, sm_getD _ N (by omega), val_can] at hv
  have g := fold20068_eq (can a) (d : Int) (can a).length N hN1 (by omega) hN4 hN3 (fun i => by have := hb i; omega) (fun i => by have := hb i; omega) (fun i => by have := hc i; omega) (fun i => by have := hc i; omega)
  have hl := ou_len (fun i => (can a).getD i 0 * (d : Int)) N
  unfold G64
  simp only [P20068_of _ _ _ _ g, F20068_of _ _ _ _ g, cond_true, P65_eq (by omega : (ou (fun i => (can a).getD i 0 * (d : Int)) N).length ≤ 1000000) (dig_ou _ _), F65_eq (by omega : (ou (fun i => (can a).getD i 0 * (d : Int)) N).length ≤ 1000000) (dig_ou _ _)]
  rw [show val (ou (fun i => (can a).getD i 0 * (d : Int)) N) = ((a * d : Nat) : Int) by rw [Int.natCast_mul]; simpa using hv]
  rfl
theorem by_P {a d : Nat} (hd : d < 10000) (la : (can a).length ≤ 1000) : P64 (can a) (d : Int) = true := P64_of _ _ (G64_eq hd la)
theorem by_F {a d : Nat} (hd : d < 10000) (la : (can a).length ≤ 1000) : F64 (can a) (d : Int) = can (a * d) := F64_of _ _ (G64_eq hd la)
end Go.Ev.I

namespace Go.Ev.I
open Go Go.Proofs Go.Ev
/-! ### Backwards -/
def backw (l : List Int) : Nat → List (Int × Int)
  | 0 => []
  | k + 1 => ((k : Int), l.getD k 0) :: backw l k
theorem back_go {l : List Int} {i : Nat} (hi : i < l.length) (hl : l.length ≤ 1000000) : L78_1_r (i : Int) l = some ([((i : Int), l.getD i 0)], .inl ((i : Int) - 1, l)) := by
  have e0 : decide ((i : Int) ≥ 0) = true := by simp
  have e1 : decide ((i : Int) < (l.length : Int)) = true := by simp; omega
  have e2 : IntKind.i64.wrap ((i : Int) - 1) = (i : Int) - 1 := wrapI (by omega) (by omega)
  unfold L78_1_r
  simp only [e0, e1, Bool.and_self, cond_true, Int.toNat_natCast, e2]
  rfl
theorem back_end {l : List Int} : L78_1_r (-1) l = some ([], .inr (.inr (-1, l))) := by unfold L78_1_r; rfl
theorem back_loop {l : List Int} (hl : l.length ≤ 1000000) : ∀ n, n ≤ l.length → L78_1 ((n : Int) - 1, l) = some (backw l n, .inr (-1, l))
  | 0, _ => by
    unfold L78_1
    rw [show ((0 : Nat) : Int) - 1 = -1 from rfl, limW_end (r := fun s : Int × List Int => L78_1_r s.1 s.2) back_end]
    rfl
  | n + 1, hn => by
    have ih := back_loop hl n (by omega)
    unfold L78_1 at ih ⊢
    rw [show ((n + 1 : Nat) : Int) - 1 = (n : Int) by omega, limW_go (r := fun s : Int × List Int => L78_1_r s.1 s.2) (back_go (by omega) hl), ih]
    rfl
theorem W78_eq {l : List Int} (hl : l.length ≤ 1000000) : (W78 l).ys = some (backw l l.length) := by
  have e : IntKind.i64.wrap ((l.length : Int) - 1) = (l.length : Int) - 1 := wrapI (by omega) (by omega)
  unfold W78
  simp only [e, back_loop hl _ (Nat.le_refl _)]
  simp [YW.bind, YW.ys]
theorem P60_eq (l : List Int) : P60 l = true := P60_of l rfl
theorem F60_eq (l : List Int) : F60 l = ((), ((), (l, ()))) := F60_of l rfl
/-- The lowest k digits, with one more in front. -/
theorem val_take_succ {l : List Int} {k : Nat} (h : k < l.length) : val (l.take (k + 1)) = val (l.take k) + 10000 ^ k * l.getD k 0 := by
  rw [List.take_add_one, val_append, List.length_take, Nat.min_eq_left (by omega), List.getElem?_eq_getElem h]
  simp [val, List.getD_eq_getElem?_getD, List.getElem?_eq_getElem h]
/-! ### The order -/
def sgn (a b : Int) : Int := if a < b then -1 else if a > b then 1 else 0
theorem sgn_shift (a b c : Int) : sgn (a + c) (b + c) = sgn a b := by
  unfold sgn
  by_cases h : a < b
  · rw [if_pos h, if_pos (by omega)]
  · rw [if_neg h, if_neg (by omega)]
    by_cases h2 : a > b
    · rw [if_pos h2, if_pos (by omega)]
    · rw [if_neg h2, if_neg (by omega)]
theorem G85_eq (x : Int) : G85 x = some false := by unfold G85; simp
theorem G72_eq (x y : Int) : G72 x y = some (sgn x y) := by
  unfold G72
  simp only [P85_of _ (G85_eq x), P85_of _ (G85_eq y), F85_of _ (G85_eq x), F85_of _ (G85_eq y), cond_true, cond_false, sgn]
  by_cases h : x < y
  · simp only [decide_eq_true h, cond_true, if_pos h]
  · by_cases h2 : x > y
    · simp only [decide_eq_false h, decide_eq_true h2, cond_true, cond_false, if_neg h, if_pos h2]
    · simp only [decide_eq_false h, decide_eq_false h2, cond_false, if_neg h, if_neg h2]
theorem ord_fold {l m : List Int} (hl : Dig l) (hm : Dig m) (he : l.length = m.length) : ∀ k, k ≤ l.length → foldX R46_4_step (backw l k) (m, 0) = if val (l.take k) = val (m.take k) then some (.inl (m, 0)) else some (.inr (m, sgn (val (l.take k)) (val (m.take k))))
  | 0, _ => by simp [backw, foldX]
  | k + 1, hk => by
    have ih := ord_fold hl hm he k (by omega)
    have e0 : (decide (0 ≤ (k : Int)) && decide ((k : Int) < (m.length : Int))) = true := by simp; omega
    have h1 := val_take_succ (l := l) (k := k) (by omega)
    have h2 := val_take_succ (l := m) (k := k) (by omega)
    have a0 := val_nonneg (hl.take k)
    have b0 := val_nonneg (hm.take k)
    have a1 := val_lt (hl.take k)
    have b1 := val_lt (hm.take k)
    rw [List.length_take, Nat.min_eq_left (by omega)] at a1 b1
    have hs : R46_4_step (m, 0) ((k : Int), l.getD k 0) = if l.getD k 0 = m.getD k 0 then some (.inl (m, 0)) else some (.inr (m, sgn (l.getD k 0) (m.getD k 0))) := by
      show R46_4_r m 0 (k : Int) (l.getD k 0) = _
      unfold R46_4_r
      simp only [e0, cond_true, nn, P72_of _ _ (G72_eq _ _), F72_of _ _ (G72_eq _ _)]
      by_cases h : l.getD k 0 = m.getD k 0
      · rw [h, if_pos rfl, show (m.getD k 0 != m.getD k 0) = false by simp]; rfl
      · rw [if_neg h, show (l.getD k 0 != m.getD k 0) = true by simpa using h]; rfl
    simp only [backw, foldX, hs]
    generalize l.getD k 0 = x at h1 ⊢
    generalize m.getD k 0 = y at h2 ⊢
    have hp : (0 : Int) < 10000 ^ k := Int.pow_pos (by decide)
    by_cases h : x = y
    · subst h
      rw [if_pos rfl]
      simp only [ih, h1, h2]
      by_cases h3 : val (l.take k) = val (m.take k)
      · rw [if_pos h3, if_pos (by omega)]
      · rw [if_neg h3, if_neg (by omega)]
        rw [sgn_shift]
    · rw [if_neg h]
      rcases Int.lt_or_gt_of_ne h with h3 | h3
      · have h4 : (10000 : Int) ^ k * x + 10000 ^ k ≤ 10000 ^ k * y := by
          have := Int.mul_le_mul_of_nonneg_left (by omega : x + 1 ≤ y) (Int.le_of_lt hp)
          rw [Int.mul_add, Int.mul_one] at this; exact this
        have h5 : val (l.take (k + 1)) < val (m.take (k + 1)) := by omega
        rw [if_neg (by omega)]
        simp only [sgn, if_pos h5, if_pos h3]
      · have h4 : (10000 : Int) ^ k * y + 10000 ^ k ≤ 10000 ^ k * x := by
          have := Int.mul_le_mul_of_nonneg_left (by omega : y + 1 ≤ x) (Int.le_of_lt hp)
          rw [Int.mul_add, Int.mul_one] at this; exact this
        have h5 : val (m.take (k + 1)) < val (l.take (k + 1)) := by omega
        rw [if_neg (by omega)]
        simp only [sgn, if_neg (by omega : ¬ val (l.take (k + 1)) < val (m.take (k + 1))), if_pos h5, if_neg (by omega : ¬ x < y), if_pos h3]
theorem G46_eq {a b : Nat} (la : (can a).length ≤ 1000) : G46 (can a) (can b) = some (sgn a b, ()) := by
  unfold G46
  by_cases h : (can a).length = (can b).length
  · have e0 : (((can a).length : Int) != ((can b).length : Int)) = false := by simp [h]
    have hf := ord_fold (dig_can a) (dig_can b) h (can a).length (Nat.le_refl _)
    rw [List.take_length, show (can b).take (can a).length = can b by rw [h, List.take_length], val_can, val_can] at hf
    simp only [e0, cond_false, P60_eq, F60_eq, cond_true, W78_eq (by omega : (can a).length ≤ 1000000), Option.bind_some, hf]
    by_cases h2 : (a : Int) = b
    · rw [if_pos h2]
      simp [sgn, h2]
    · rw [if_neg h2]; rfl
  · have e0 : (((can a).length : Int) != ((can b).length : Int)) = true := by simp; omega
    simp only [e0, cond_true, P72_of _ _ (G72_eq _ _), F72_of _ _ (G72_eq _ _)]
    have key : ∀ {a b : Nat}, (can a).length < (can b).length → a < b := fun {a b} hlt => by
      apply Classical.byContradiction
      intro hn
      have := can_len_mono (Nat.le_of_not_lt hn)
      omega
    congr 2
    rcases Nat.lt_or_gt_of_ne h with h2 | h2
    · have := key h2
      simp only [sgn, if_pos (by omega : ((can a).length : Int) < (can b).length), if_pos (by omega : (a : Int) < b)]
    · have := key h2
      simp only [sgn, if_neg (by omega : ¬ ((can a).length : Int) < (can b).length), if_neg (by omega : ¬ (a : Int) < b), if_pos (by omega : ((can a).length : Int) > (can b).length), if_pos (by omega : (a : Int) > b)]
theorem cmp_P {a b : Nat} (la : (can a).length ≤ 1000) : P46 (can a) (can b) = true := P46_of _ _ (G46_eq la)
theorem cmp_F {a b : Nat} (la : (can a).length ≤ 1000) : F46 (can a) (can b) = (sgn a b, ()) := F46_of _ _ (G46_eq la)
/-! ### Products -/
theorem shift_can {v : Nat} (h : v ≠ 0) : (0 : Int) :: can v = can (10000 * v) := by
  rw [can_pos (n := 10000 * v) (by omega), show 10000 * v % 10000 = 0 by omega, show 10000 * v / 10000 = v by omega]; rfl
theorem natdig {l : List Int} (h : Dig l) (k : Nat) : ∃ d : Nat, d < 10000 ∧ l.getD k 0 = (d : Int) := by
  have := h.getD k
  exact ⟨(l.getD k 0).toNat, by omega, by omega⟩
theorem mul_fold {a : Nat} {m : List Int} (hm : Dig m) (C : Nat) (hC : ∀ v, v < 10000 ^ C → (can v).length ≤ 998) (la : (can a).length ≤ 900) : ∀ (k v : Nat), k ≤ m.length → v * 10000 ^ k + a * 10000 ^ k < 10000 ^ C →
    foldX R41_3_step (backw m k) (can a, can v) = some (.inl (can a, can (v * 10000 ^ k + a * (val (m.take k)).toNat)))
  | 0, v, _, _ => by simp [backw, foldX, val]
  | k + 1, v, hk, hv => by
    obtain ⟨d, hd, he⟩ := natdig hm k
    have hp : 0 < 10000 ^ k := Nat.pow_pos (by decide)
    have hlow : 10000 * v + a * d + a ≤ 10000 * (v + a) := by
      have : a * d ≤ a * 9999 := Nat.mul_le_mul_left _ (by omega)
      omega
    have hle : (10000 * v + a * d) * 10000 ^ k + a * 10000 ^ k ≤ v * 10000 ^ (k + 1) + a * 10000 ^ (k + 1) := by
      rw [← Nat.add_mul, ← Nat.add_mul, Nat.pow_succ, Nat.mul_comm (10000 ^ k) 10000, ← Nat.mul_assoc, Nat.mul_comm (v + a) 10000]
      exact Nat.mul_le_mul_right _ hlow
    have hX : ∀ z, z ≤ 10000 * v + a * d → (can z).length ≤ 1000 := fun z hz => by
      have : z < 10000 ^ C := Nat.lt_of_le_of_lt (Nat.le_trans hz (Nat.le_trans (Nat.le_mul_of_pos_right _ hp) (Nat.le_trans (Nat.le_add_right _ _) hle))) hv
      have := hC z this
      omega
    have hs : R41_3_step (can a, can v) ((k : Int), m.getD k 0) = some (.inl (can a, can (10000 * v + a * d))) := by
      rw [he]
      show R41_3_r (can a) (can v) (k : Int) (d : Int) = _
      unfold R41_3_r
      by_cases h0 : v = 0
      · subst h0
        have e0 : decide ((((can 0).length : Nat) : Int) > 0) = false := by rw [can_zero]; rfl
        simp only [e0, cond_false, by_P hd (by omega : (can a).length ≤ 1000), by_F hd (by omega : (can a).length ≤ 1000), cond_true, plus_P (hX 0 (by omega)) (hX (a * d) (by omega)), plus_F (hX 0 (by omega)) (hX (a * d) (by omega)), Nat.mul_zero]
      · have e0 : decide ((((can v).length : Nat) : Int) > 0) = true := by
          have := can_len_pos.2 h0
          simp; exact this
        have e1 : decide (List.length ([0] : List Int) + (can v).length ≤ 100000000000) = true := by
          have := hX v (by omega)
          simp; omega
        simp only [e0, cond_true, set_one, List.take_length, e1, List.cons_append, List.nil_append, shift_can h0, by_P hd (by omega : (can a).length ≤ 1000), by_F hd (by omega : (can a).length ≤ 1000), plus_P (hX (10000 * v) (by omega)) (hX (a * d) (by omega)), plus_F (hX (10000 * v) (by omega)) (hX (a * d) (by omega))]
    simp only [backw, foldX, hs]
    rw [mul_fold hm C hC la k (10000 * v + a * d) (by omega) (Nat.lt_of_le_of_lt hle hv)]
    have ht := val_take_succ (l := m) (k := k) (by omega)
    have h0 := val_nonneg (hm.take k)
    rw [he] at ht
    obtain ⟨t, ht0⟩ := Int.eq_ofNat_of_zero_le h0
    rw [ht0] at ht ⊢
    have e2 : (val (m.take (k + 1))).toNat = t + 10000 ^ k * d := by
      rw [ht, show ((t : Int) + 10000 ^ k * (d : Int)) = ((t + 10000 ^ k * d : Nat) : Int) by simp]
      rfl
    have e3 : (10000 * v + a * d) * 10000 ^ k + a * t = v * 10000 ^ (k + 1) + a * (t + 10000 ^ k * d) := by
      rw [Nat.add_mul, Nat.pow_succ, Nat.mul_add a t, Nat.mul_assoc a d, Nat.mul_comm d, Nat.mul_comm 10000 v, Nat.mul_assoc v 10000, Nat.mul_comm 10000 (10000 ^ k)]
      omega
    rw [e2, Int.toNat_natCast, e3]
theorem G41_eq {a b : Nat} (la : (can a).length ≤ 490) (lb : (can b).length ≤ 490) : G41 (can a) (can b) = some (can (a * b)) := by
  have ha := can_len_lt (Nat.le_refl (can a).length)
  have hf := mul_fold (a := a) (m := can b) (dig_can b) ((can a).length + (can b).length) (fun v hv => by have := can_len_le _ v hv; omega) (by omega) (can b).length 0 (Nat.le_refl _) (by
    rw [Nat.zero_mul, Nat.zero_add, Nat.pow_add]
    exact Nat.mul_lt_mul_of_pos_right ha (Nat.pow_pos (by decide)))
  rw [List.take_length, val_can, Nat.zero_mul, Nat.zero_add, can_zero] at hf
  unfold G41
  simp only [P60_eq, F60_eq, cond_true, W78_eq (by omega : (can b).length ≤ 1000000), Option.bind_some, hf]
  rfl
theorem times_P {a b : Nat} (la : (can a).length ≤ 490) (lb : (can b).length ≤ 490) : P41 (can a) (can b) = true := P41_of _ _ (G41_eq la lb)
theorem times_F {a b : Nat} (la : (can a).length ≤ 490) (lb : (can b).length ≤ 490) : F41 (can a) (can b) = can (a * b) := F41_of _ _ (G41_eq la lb)
end Go.Ev.I

namespace Go.Ev.I
open Go Go.Proofs Go.Ev
theorem G66_eq {m R d : Nat} (hd : d + 1 < 10000) (lm : (can m).length ≤ 900) : G66 (d : Int) (some (can m)) (can R) = some (decide (R < m * (d + 1)), ((), (some (can m), ((), (can R, ()))))) := by
  have e : IntKind.i64.wrap ((d : Int) + 1) = ((d + 1 : Nat) : Int) := by rw [wrapI (by omega) (by omega)]; rfl
  have hlen : (can (m * (d + 1))).length ≤ 1000 := by
    have h1 := can_len_lt (Nat.le_refl (can m).length)
    have : (can (m * (d + 1))).length ≤ (can m).length + 1 := can_len_le _ _ (by
      rw [Nat.pow_succ]
      exact Nat.lt_of_le_of_lt (Nat.mul_le_mul_left _ (by omega : d + 1 ≤ 10000)) (Nat.mul_lt_mul_of_pos_right h1 (by decide)))
    omega
  unfold G66
  simp only [e, Option.isSome_some, Option.getD_some, Bool.true_and, by_P hd (by omega : (can m).length ≤ 1000), by_F hd (by omega : (can m).length ≤ 1000), cond_true, cmp_P hlen, cmp_F hlen]
  congr 2
  unfold sgn
  by_cases h : R < m * (d + 1)
  · rw [if_neg (by omega), if_pos (by omega), decide_eq_true h]; rfl
  · rw [decide_eq_false h]
    by_cases h2 : ((m * (d + 1) : Nat) : Int) < (R : Int)
    · rw [if_pos h2]; rfl
    · rw [if_neg h2, if_neg (by omega)]; rfl
theorem G66_P {m R d : Nat} (hd : d + 1 < 10000) (lm : (can m).length ≤ 900) : P66 (d : Int) (some (can m)) (can R) = true := P66_of _ _ _ (G66_eq hd lm)
theorem G66_F {m R d : Nat} (hd : d + 1 < 10000) (lm : (can m).length ≤ 900) : F66 (d : Int) (some (can m)) (can R) = (decide (R < m * (d + 1)), ((), (some (can m), ((), (can R, ()))))) := F66_of _ _ _ (G66_eq hd lm)
theorem mid_eq {i j : Nat} (hi : i ≤ 9999) (hj : j ≤ 9999) : IntKind.i64.wrap (Int.fdiv (IntKind.u64.wrap (IntKind.i64.wrap ((i : Int) + (j : Int)))) (2 ^ min (Int.toNat 1) IntKind.u64.bits)) = (((i + j) / 2 : Nat) : Int) := by
  have e0 : IntKind.i64.wrap ((i : Int) + (j : Int)) = (i : Int) + (j : Int) := wrapI (by omega) (by omega)
  have e1 : IntKind.u64.wrap ((i : Int) + (j : Int)) = (i : Int) + (j : Int) := by
    simp only [IntKind.wrap, IntKind.bits, IntKind.signed]
    have : ((i : Int) + (j : Int)) % (2 ^ 64 : Int) = (i : Int) + (j : Int) := by omega
    simp only [this]
    simp
  have e2 : (2 : Int) ^ min (Int.toNat 1) IntKind.u64.bits = 2 := by decide
  rw [e0, e1, e2, Int.fdiv_eq_ediv_of_nonneg _ (by decide)]
  have e3 : ((i : Int) + (j : Int)) / 2 = (((i + j) / 2 : Nat) : Int) := by omega
  rw [e3, wrapI (by omega) (by omega)]
theorem search_loop {m R : Nat} (hm : 0 < m) (lm : (can m).length ≤ 900) : ∀ (n i j : Nat), j - i = n → i ≤ j → j ≤ 9999 → i ≤ R / m → R / m ≤ j →
    L67_2 ((i : Int), (j : Int), some (can m), can R) = some (((R / m : Nat) : Int), ((R / m : Nat) : Int), some (can m), can R) := by
  intro n
  induction n using Nat.strongRecOn with
  | ind n ih =>
    intro i j hn hij hj h1 h2
    unfold L67_2 at ih ⊢
    by_cases h : i < j
    · have hd : (i + j) / 2 + 1 < 10000 := by omega
      have hr : L67_2_r (i : Int) (j : Int) (some (can m)) (can R) = if R < m * ((i + j) / 2 + 1) then some (.inl ((i : Int), (((i + j) / 2 : Nat) : Int), some (can m), can R)) else some (.inl ((((i + j) / 2 + 1 : Nat) : Int), (j : Int), some (can m), can R)) := by
        have e0 : decide ((i : Int) < (j : Int)) = true := by simp; exact h
        have e1 : IntKind.i64.wrap ((((i + j) / 2 : Nat) : Int) + 1) = (((i + j) / 2 + 1 : Nat) : Int) := by rw [wrapI (by omega) (by omega)]; rfl
        unfold L67_2_r
        simp only [e0, mid_eq (by omega : i ≤ 9999) hj, G66_P hd lm, G66_F hd lm, cond_true, e1]
        by_cases h3 : R < m * ((i + j) / 2 + 1)
        · rw [if_pos h3, decide_eq_true h3]; rfl
        · rw [if_neg h3, decide_eq_false h3]; rfl
      by_cases h3 : R < m * ((i + j) / 2 + 1)
      · rw [if_pos h3] at hr
        have h4 : R / m ≤ (i + j) / 2 := by
          have := (Nat.div_lt_iff_lt_mul hm).2 (by rw [Nat.mul_comm]; exact h3 : R < ((i + j) / 2 + 1) * m)
          omega
        rw [lim_go (r := fun s : Int × Int × Option (List Int) × List Int => L67_2_r s.1 s.2.1 s.2.2.1 s.2.2.2) hr]
        exact ih ((i + j) / 2 - i) (by omega) i ((i + j) / 2) rfl (by omega) (by omega) h1 h4
      · rw [if_neg h3] at hr
        have h4 : (i + j) / 2 + 1 ≤ R / m := (Nat.le_div_iff_mul_le hm).2 (by rw [Nat.mul_comm]; omega)
        rw [lim_go (r := fun s : Int × Int × Option (List Int) × List Int => L67_2_r s.1 s.2.1 s.2.2.1 s.2.2.2) hr]
        exact ih (j - ((i + j) / 2 + 1)) (by omega) ((i + j) / 2 + 1) j rfl (by omega) (by omega) h4 h2
    · have : i = R / m := by omega
      have : j = R / m := by omega
      subst_vars
      refine lim_end (r := fun s : Int × Int × Option (List Int) × List Int => L67_2_r s.1 s.2.1 s.2.2.1 s.2.2.2) ?_
      show L67_2_r (((R / m : Nat) : Int)) (((R / m : Nat) : Int)) (some (can m)) (can R) = _
      unfold L67_2_r
      simp
theorem G67_eq {m R : Nat} (hm : 0 < m) (lm : (can m).length ≤ 900) (hR : R < 10000 * m) : G67 9999 (some (can m)) (can R) = some (((R / m : Nat) : Int), ((), (some (can m), ((), (can R, ()))))) := by
  have hd : R / m ≤ 9999 := by
    have := (Nat.div_lt_iff_lt_mul hm).2 hR
    omega
  have := search_loop (R := R) hm lm _ 0 9999 rfl (by omega) (by omega) (Nat.zero_le _) hd
  unfold G67
  rw [show ((0 : Int), (9999 : Int), some (can m), can R) = (((0 : Nat) : Int), ((9999 : Nat) : Int), some (can m), can R) from rfl, this]
  rfl
theorem search_P {m R : Nat} (hm : 0 < m) (lm : (can m).length ≤ 900) (hR : R < 10000 * m) : P67 9999 (some (can m)) (can R) = true := P67_of _ _ _ (G67_eq hm lm hR)
theorem search_F {m R : Nat} (hm : 0 < m) (lm : (can m).length ≤ 900) (hR : R < 10000 * m) : F67 9999 (some (can m)) (can R) = (((R / m : Nat) : Int), ((), (some (can m), ((), (can R, ()))))) := F67_of _ _ _ (G67_eq hm lm hR)
theorem set_mid (k d : Nat) (Q : List Int) : List.set (List.replicate (k + 1) (0 : Int) ++ Q) k (d : Int) = List.replicate k 0 ++ (d : Int) :: Q := by
  rw [List.replicate_succ', List.append_assoc, List.set_append_right _ _ (by simp)]
  simp
/-- **One digit after the other is divided.** -/
theorem over_fold {m : Nat} {l : List Int} (hl : Dig l) (hm : 0 < m) (lm : (can m).length ≤ 900) (ll : l.length ≤ 1000) : ∀ (k r : Nat) (Q : List Int), k ≤ l.length → r < m → Q.length + k ≤ 1000 →
    ∃ D : List Int, Dig D ∧ D.length = k ∧ val D = (((r * 10000 ^ k + (val (l.take k)).toNat) / m : Nat) : Int) ∧
      foldX R42_3_step (backw l k) (can m, List.replicate k 0 ++ Q, can r) = some (.inl (can m, D ++ Q, can ((r * 10000 ^ k + (val (l.take k)).toNat) % m)))
  | 0, r, Q, _, hr, _ => by
    refine ⟨[], dig_nil, rfl, ?_, ?_⟩
    · simp [val, Nat.div_eq_of_lt hr]
    · simp [backw, foldX, val, Nat.mod_eq_of_lt hr]
  | k + 1, r, Q, hk, hr, hQ => by
    obtain ⟨d, hd, he⟩ := natdig hl k
    obtain ⟨R, hRe⟩ : ∃ R, R = d + 10000 * r := ⟨_, rfl⟩
    have hR : R < 10000 * m := by omega
    have hRl : (can R).length ≤ 1000 := by
      have h1 := can_len_lt (Nat.le_refl (can m).length)
      have : (can R).length ≤ (can m).length + 1 := can_len_le _ _ (by rw [Nat.pow_succ]; omega)
      omega
    have hdig : R / m < 10000 := (Nat.div_lt_iff_lt_mul hm).2 hR
    have hmul : m * (R / m) ≤ R := Nat.mul_div_le R m
    have hsub : R - m * (R / m) = R % m := by have := Nat.div_add_mod R m; omega
    obtain ⟨D, hD, hDl, hDv, hDf⟩ := over_fold hl hm lm ll k (R % m) (((R / m : Nat) : Int) :: Q) (by omega) (Nat.mod_lt _ hm) (by simp; omega)
    have hs : R42_3_step (can m, List.replicate (k + 1) 0 ++ Q, can r) ((k : Int), l.getD k 0) = some (.inl (can m, List.replicate k 0 ++ ((R / m : Nat) : Int) :: Q, can (R % m))) := by
      rw [he]
      show R42_3_r (can m) (List.replicate (k + 1) 0 ++ Q) (can r) (k : Int) (d : Int) = _
      have hrl : (can r).length ≤ 1000 := by have := can_len_mono (Nat.le_of_lt hr); omega
      have e0 : decide (List.length ([(d : Int)] : List Int) + (can r).length ≤ 100000000000) = true := by simp; omega
      have e1 : Dig ((d : Int) :: can r) := (dig_can r).cons (by omega) (by omega)
      have e2 : (val ((d : Int) :: can r)).toNat = R := by rw [val, val_can, hRe]; omega
      have e3 : ((d : Int) :: can r).length ≤ 1000000 := by simp; omega
      have e4 : (decide (0 ≤ (k : Int)) && decide ((k : Int) < ((List.replicate (k + 1) (0 : Int) ++ Q).length : Int))) = true := by
        simp only [Bool.and_eq_true, decide_eq_true_eq, List.length_append, List.length_replicate]; omega
      have e5 : decide (k < (List.replicate (k + 1) (0 : Int) ++ Q).length) = true := by
        simp only [decide_eq_true_eq, List.length_append, List.length_replicate]; omega
      have e6 : (decide (0 ≤ (k : Int)) && decide ((k : Int) < ((List.replicate k (0 : Int) ++ ((R / m : Nat) : Int) :: Q).length : Int))) = true := by
        simp only [Bool.and_eq_true, decide_eq_true_eq, List.length_append, List.length_replicate, List.length_cons]; omega
      have e7 : decide (k < (List.replicate k (0 : Int) ++ ((R / m : Nat) : Int) :: Q).length) = true := by simp
      have e8 : List.getD (List.replicate k (0 : Int) ++ ((R / m : Nat) : Int) :: Q) k 0 = ((R / m : Nat) : Int) := by
        rw [List.getD_eq_getElem?_getD, List.getElem?_append_right (by simp)]; simp
      unfold R42_3_r
      simp only [set_one, List.take_length, List.cons_append, List.nil_append, e0, cond_true, P65_eq e3 e1, F65_eq e3 e1, e2, search_P hm lm hR, search_F hm lm hR, e4, e5, nn, set_mid, e6, e7, e8, Option.isSome_some, Option.getD_some, Bool.true_and,
        by_P hdig (by omega : (can m).length ≤ 1000), by_F hdig (by omega : (can m).length ≤ 1000), minus_P hmul hRl, minus_F hmul hRl, hsub]
    have hv0 := val_nonneg (hl.take k)
    obtain ⟨t, ht⟩ := Int.eq_ofNat_of_zero_le hv0
    have htk := val_take_succ (l := l) (k := k) (by omega)
    rw [he, ht] at htk
    rw [ht, Int.toNat_natCast] at hDv hDf
    have hT : (val (l.take (k + 1))).toNat = t + 10000 ^ k * d := by
      rw [htk, show ((t : Int) + 10000 ^ k * (d : Int)) = ((t + 10000 ^ k * d : Nat) : Int) by simp]
      rfl
    have hA : r * 10000 ^ (k + 1) + (t + 10000 ^ k * d) = R * 10000 ^ k + t := by
      rw [hRe, Nat.add_mul, Nat.pow_succ, Nat.mul_comm d, Nat.mul_comm 10000 r, Nat.mul_assoc r 10000, Nat.mul_comm 10000 (10000 ^ k)]; omega
    have hR2 : R * 10000 ^ k + t = ((R % m) * 10000 ^ k + t) + m * ((R / m) * 10000 ^ k) := by
      have h5 : R * 10000 ^ k = (m * (R / m) + R % m) * 10000 ^ k := by rw [Nat.div_add_mod]
      rw [h5, Nat.add_mul, Nat.mul_assoc]; omega
    rw [hT, hA]
    refine ⟨D ++ [((R / m : Nat) : Int)], hD.append (dig_nil.cons (Int.natCast_nonneg _) (Int.ofNat_lt.2 hdig)), by simp [hDl], ?_, ?_⟩
    · rw [val_append, hDv, hDl, hR2, Nat.add_mul_div_left _ _ hm]
      simp only [val, Int.mul_zero, Int.add_zero]
      rw [Int.natCast_add, Int.natCast_mul (R / m), Int.mul_comm (10000 ^ k), Int.natCast_pow]; rfl
    · simp only [backw, foldX, hs, hDf]
      rw [hR2, Nat.add_mul_mod_self_left, List.append_assoc]; rfl
theorem G42_eq {a m : Nat} (hm : 0 < m) (la : (can a).length ≤ 900) (lm : (can m).length ≤ 900) : G42 (can a) (can m) = some (can (a / m), (can (a % m), ())) := by
  obtain ⟨D, hD, hDl, hDv, hDf⟩ := over_fold (dig_can a) hm lm (by omega) (can a).length 0 [] (Nat.le_refl _) hm (by simp; omega)
  rw [List.take_length, val_can, Int.toNat_natCast, Nat.zero_mul, Nat.zero_add] at hDv hDf
  rw [List.append_nil, List.append_nil, can_zero] at hDf
  have e0 : (decide (0 ≤ (((can a).length : Nat) : Int)) && decide ((((can a).length : Nat) : Int) ≤ (((can a).length : Nat) : Int)) && decide ((((can a).length : Nat) : Int) ≤ 100000000000)) = true := by simp; omega
  unfold G42
  simp only [e0, cond_true, P60_eq, F60_eq, nn, W78_eq (by omega : (can a).length ≤ 1000000), Option.bind_some, hDf, List.take_length, P65_eq (by omega : D.length ≤ 1000000) hD, F65_eq (by omega : D.length ≤ 1000000) hD, hDv, Int.toNat_natCast]
theorem over_P {a m : Nat} (hm : 0 < m) (la : (can a).length ≤ 900) (lm : (can m).length ≤ 900) : P42 (can a) (can m) = true := P42_of _ _ (G42_eq hm la lm)
theorem over_F {a m : Nat} (hm : 0 < m) (la : (can a).length ≤ 900) (lm : (can m).length ≤ 900) : F42 (can a) (can m) = (can (a / m), (can (a % m), ())) := F42_of _ _ (G42_eq hm la lm)
end Go.Ev.I

namespace Go.Ev.I
open Go Go.Ev
abbrev Str := List UInt8
abbrev dd (n : Nat) : Str := Lib.decDigits n
abbrev ch (e : Nat) : UInt8 := UInt8.ofNat (48 + e)
theorem ch_nat {e : Nat} (h : e < 10) : (ch e).toNat = 48 + e := by
  unfold ch
  rw [UInt8.toNat_ofNat']
  omega
theorem dd_small {n : Nat} (h : n < 10) : dd n = [ch n] := by unfold dd; rw [Lib.decDigits, dif_pos h]
theorem dd_step {v e : Nat} (hv : 0 < v) (he : e < 10) : dd (v * 10 + e) = dd v ++ [ch e] := by
  show Lib.decDigits (v * 10 + e) = Lib.decDigits v ++ [ch e]
  rw [Lib.decDigits, dif_neg (by omega), show (v * 10 + e) / 10 = v by omega, show (v * 10 + e) % 10 = e by omega]
theorem dd_ind (P : Nat → Prop) (h0 : ∀ n, n < 10 → P n) (h1 : ∀ v e, 0 < v → e < 10 → P v → P (v * 10 + e)) : ∀ n, P n := by
  intro n
  induction n using Nat.strongRecOn with
  | ind n ih =>
    by_cases h : n < 10
    · exact h0 n h
    · have := h1 (n / 10) (n % 10) (by omega) (Nat.mod_lt _ (by decide)) (ih (n / 10) (by omega))
      rwa [show n / 10 * 10 + n % 10 = n by omega] at this
/-- Digits alone. -/
def AllD (l : Str) : Prop := ∀ b ∈ l, 48 ≤ b.toNat ∧ b.toNat ≤ 57
theorem AllD.append {l m : Str} (h : AllD l) (k : AllD m) : AllD (l ++ m) := fun b hb => by
  rcases List.mem_append.1 hb with hb | hb
  · exact h b hb
  · exact k b hb
theorem allD_ch {e : Nat} (h : e < 10) : AllD [ch e] := fun b hb => by
  simp only [List.mem_singleton] at hb
  rw [hb, ch_nat h]; omega
theorem allD_dd : ∀ n, AllD (dd n) := dd_ind _ (fun n h => by rw [dd_small h]; exact allD_ch h) (fun v e hv he ih => by rw [dd_step hv he]; exact ih.append (allD_ch he))
theorem dd_len_pos : ∀ n, 0 < (dd n).length := dd_ind _ (fun n h => by rw [dd_small h]; simp) (fun v e hv he ih => by rw [dd_step hv he]; simp)
theorem dd_ne (n : Nat) : dd n ≠ [] := fun h => by have := dd_len_pos n; rw [h] at this; simp at this
theorem dd_head : ∀ n, 0 < n → ∃ b r, dd n = b :: r ∧ b.toNat ≠ 48 := dd_ind _ (fun n h h0 => ⟨ch n, [], dd_small h, by rw [ch_nat h]; omega⟩) (fun v e hv he ih _ => by
  obtain ⟨b, r, h1, h2⟩ := ih hv
  exact ⟨b, r ++ [ch e], by rw [dd_step hv he, h1]; rfl, h2⟩)
theorem dd_len_le : ∀ n k, 0 < k → n < 10 ^ k → (dd n).length ≤ k := dd_ind _ (fun n h k hk _ => by rw [dd_small h]; exact hk) (fun v e hv he ih k hk hn => by
  rw [dd_step hv he, List.length_append]
  match k, hk with
  | 1, _ => omega
  | k + 2, _ =>
    have := ih (k + 1) (by omega) (by rw [Nat.pow_succ] at hn; omega)
    simp; omega)
theorem dd_len_ge : ∀ n k, (dd n).length ≤ k → n < 10 ^ k := dd_ind _ (fun n h k hk => by
  rw [dd_small h] at hk
  exact Nat.lt_of_lt_of_le h (Nat.le_trans (by decide) (Nat.pow_le_pow_right (by decide) (show 1 ≤ k from hk)))) (fun v e hv he ih k hk => by
  rw [dd_step hv he, List.length_append] at hk
  match k, hk with
  | 0, hk => simp at hk
  | k + 1, hk =>
    have := ih k (by simpa using hk)
    rw [Nat.pow_succ]; omega)
/-- What digits spell. -/
def decF (acc : Nat) : Str → Nat
  | [] => acc
  | b :: r => decF (acc * 10 + (b.toNat - 48)) r
theorem decF_append : ∀ (l m : Str) (acc : Nat), decF acc (l ++ m) = decF (decF acc l) m
  | [], _, _ => rfl
  | b :: l, m, acc => decF_append l m _
theorem decF_le : ∀ (l : Str) (acc : Nat), acc ≤ decF acc l
  | [], acc => Nat.le_refl _
  | b :: l, acc => Nat.le_trans (by omega) (decF_le l _)
theorem decF_ch {acc e : Nat} (h : e < 10) : decF acc [ch e] = acc * 10 + e := by
  show acc * 10 + ((ch e).toNat - 48) = _
  rw [ch_nat h]; omega
theorem decF_dd : ∀ n, decF 0 (dd n) = n := dd_ind _ (fun n h => by rw [dd_small h, decF_ch h]; omega) (fun v e hv he ih => by
  rw [dd_step hv he, decF_append, ih, decF_ch he])
theorem ch_of {b : UInt8} (h : 48 ≤ b.toNat ∧ b.toNat ≤ 57) : ch (b.toNat - 48) = b := by
  unfold ch
  rw [show 48 + (b.toNat - 48) = b.toNat by omega, UInt8.ofNat_toNat]
/-- Digits without a zero in front are the numeral of what they spell. -/
theorem dd_of : ∀ (n : Nat) (l : Str), l.length = n → AllD l → (∀ b r, l = b :: r → b.toNat ≠ 48) → l ≠ [] → 0 < decF 0 l ∧ l = dd (decF 0 l) := by
  intro n
  induction n with
  | zero => intro l hl _ _ hne; exact absurd (List.eq_nil_of_length_eq_zero hl) hne
  | succ n ih =>
    intro l hl hd hh hne
    obtain ⟨l', b, rfl⟩ := (List.eq_nil_or_concat l).resolve_left hne
    rw [List.concat_eq_append] at *
    have hb := hd b (by simp)
    rw [decF_append]
    by_cases h0 : l' = []
    · subst h0
      have h1 := hh b [] rfl
      have e : decF (decF 0 []) [b] = b.toNat - 48 := by show 0 * 10 + (b.toNat - 48) = _; omega
      rw [e, dd_small (by omega : b.toNat - 48 < 10), ch_of hb]
      refine ⟨by omega, ?_⟩
      rfl
    · obtain ⟨h1, h2⟩ := ih l' (by simpa using hl) (fun x hx => hd x (by simp [hx])) (fun x r hx => hh x (r ++ [b]) (by rw [hx]; rfl)) h0
      have e : decF (decF 0 l') [b] = decF 0 l' * 10 + (b.toNat - 48) := rfl
      rw [e, dd_step h1 (by omega), ← h2, ch_of hb]
      exact ⟨by omega, rfl⟩
/-! ### Reading -/
theorem parse_digits : ∀ (l : Str) (acc : Nat), AllD l → acc < 18446744073709551616 → Lib.parseUint10 acc l = if decF acc l < 18446744073709551616 then .ok (decF acc l) else .range
  | [], acc, _, h => by rw [show decF acc [] = acc from rfl, if_pos h]; rfl
  | b :: r, acc, hd, h => by
    have hb := hd b (by simp)
    have hle := decF_le r (acc * 10 + (b.toNat - 48))
    rw [show decF acc (b :: r) = decF (acc * 10 + (b.toNat - 48)) r from rfl]
    simp only [Lib.parseUint10, if_pos hb]
    by_cases h1 : 1844674407370955162 ≤ acc
    · rw [if_pos h1, if_neg (by omega)]
    · rw [if_neg h1]
      by_cases h2 : 18446744073709551616 ≤ acc * 10 + (b.toNat - 48)
      · rw [if_pos h2, if_neg (by omega)]
      · rw [if_neg h2]
        exact parse_digits r _ (fun x hx => hd x (by simp [hx])) (by omega)
theorem atoi_digits {l : Str} (hd : AllD l) (hne : l ≠ []) : Lib.atoiAll l = if decF 0 l < 9223372036854775808 then .ok (decF 0 l : Int) else .range := by
  match l, hne with
  | b :: r, _ =>
    have hb := hd b (by simp)
    simp only [Lib.atoiAll, Lib.parseMag]
    rw [if_neg (by omega : ¬ (b.toNat = 43 ∨ b.toNat = 45)), if_neg (by simp), parse_digits _ 0 hd (by decide)]
    by_cases h1 : decF 0 (b :: r) < 18446744073709551616
    · rw [if_pos h1]
      simp only [show ¬ b.toNat = 45 by omega, not_false_eq_true, true_and, false_and, if_false]
      by_cases h2 : decF 0 (b :: r) < 9223372036854775808
      · rw [if_pos h2, if_neg (by omega)]
      · rw [if_neg h2, if_pos (by omega)]
    · rw [if_neg h1, if_neg (by omega)]
theorem itoa_nat (n : Nat) : Lib.itoa (n : Int) = dd n := by unfold Lib.itoa; rw [if_neg (by omega)]; rfl
theorem itoa_neg {n : Nat} (h : 0 < n) : Lib.itoa (-(n : Int)) = 45 :: dd n := by unfold Lib.itoa; rw [if_pos (by omega)]; simp
/-! ### Four digits together -/
def pad4 (d : Nat) : Str := [ch (d / 1000), ch (d / 100 % 10), ch (d / 10 % 10), ch (d % 10)]
theorem dd_split {n : Nat} (h : 10000 ≤ n) : dd n = dd (n / 10000) ++ pad4 (n % 10000) := by
  have hv : 0 < n / 10000 := by omega
  have e : n = (((n / 10000 * 10 + n % 10000 / 1000) * 10 + n % 10000 / 100 % 10) * 10 + n % 10000 / 10 % 10) * 10 + n % 10000 % 10 := by omega
  conv => lhs; rw [e]
  rw [dd_step (by omega) (by omega), dd_step (by omega) (by omega), dd_step (by omega) (by omega), dd_step hv (by omega)]
  simp [pad4]
theorem pad4_eq {d : Nat} (h : d < 10000) : Lib.repeatL [48] (4 - (dd d).length) ++ dd d = pad4 d := by
  have e1 : ∀ {v e : Nat}, 0 < v → e < 10 → Lib.decDigits (v * 10 + e) = Lib.decDigits v ++ [ch e] := fun hv he => dd_step hv he
  unfold pad4
  by_cases h1 : d < 10
  · rw [dd_small h1, show d / 1000 = 0 by omega, show d / 100 % 10 = 0 by omega, show d / 10 % 10 = 0 by omega, show d % 10 = d by omega]; rfl
  · by_cases h2 : d < 100
    · have e : dd d = [ch (d / 10), ch (d % 10)] := by
        conv => lhs; rw [show d = d / 10 * 10 + d % 10 by omega]
        rw [dd_step (by omega) (by omega), dd_small (by omega)]; rfl
      rw [e, show d / 1000 = 0 by omega, show d / 100 % 10 = 0 by omega, show d / 10 % 10 = d / 10 by omega]; rfl
    · by_cases h3 : d < 1000
      · have e : dd d = [ch (d / 100), ch (d / 10 % 10), ch (d % 10)] := by
          conv => lhs; rw [show d = (d / 100 * 10 + d / 10 % 10) * 10 + d % 10 by omega]
          rw [dd_step (by omega) (by omega), dd_step (by omega) (by omega), dd_small (by omega)]; rfl
        rw [e, show d / 1000 = 0 by omega, show d / 100 % 10 = d / 100 by omega]; rfl
      · have e : dd d = [ch (d / 1000), ch (d / 100 % 10), ch (d / 10 % 10), ch (d % 10)] := by
          conv => lhs; rw [show d = ((d / 1000 * 10 + d / 100 % 10) * 10 + d / 10 % 10) * 10 + d % 10 by omega]
          rw [dd_step (by omega) (by omega), dd_step (by omega) (by omega), dd_step (by omega) (by omega), dd_small (by omega)]; rfl
        rw [e]; rfl
theorem pad4_all {d : Nat} (h : d < 10000) : AllD (pad4 d) := fun b hb => by
  simp only [pad4, List.mem_cons, List.not_mem_nil, or_false] at hb
  rcases hb with rfl | rfl | rfl | rfl <;> rw [ch_nat (by omega)] <;> omega
theorem pad4_val {d : Nat} (h : d < 10000) : decF 0 (pad4 d) = d := by
  rw [show pad4 d = [ch (d / 1000)] ++ ([ch (d / 100 % 10)] ++ ([ch (d / 10 % 10)] ++ [ch (d % 10)])) from rfl, decF_append, decF_append, decF_append, decF_ch (by omega), decF_ch (by omega), decF_ch (by omega), decF_ch (by omega)]
  omega
/-- A number's groups, as they are read. -/
def gr (n : Nat) : List Int := if h : n < 10000 then [(n : Int)] else ((n % 10000 : Nat) : Int) :: gr (n / 10000)
termination_by n
decreasing_by omega
theorem gr_small {n : Nat} (h : n < 10000) : gr n = [(n : Int)] := by rw [gr, dif_pos h]
theorem gr_big {n : Nat} (h : ¬ n < 10000) : gr n = ((n % 10000 : Nat) : Int) :: gr (n / 10000) := by rw [gr, dif_neg h]
theorem gr_facts : ∀ n : Nat, Dig (gr n) ∧ val (gr n) = n ∧ (gr n).length ≤ (dd n).length := by
  intro n
  induction n using Nat.strongRecOn with
  | ind n ih =>
    by_cases h : n < 10000
    · rw [gr_small h]
      refine ⟨dig_nil.cons (by omega) (by omega), by simp [val], ?_⟩
      have := dd_len_pos n
      simp; omega
    · obtain ⟨h1, h2, h3⟩ := ih (n / 10000) (by omega)
      rw [gr_big h]
      refine ⟨h1.cons (by omega) (by omega), by rw [val, h2]; omega, ?_⟩
      rw [dd_split (by omega), List.length_append, List.length_cons]
      simp [pad4]; omega
end Go.Ev.I

namespace Go.Ev.I
open Go Go.Proofs Go.Ev
def lim : Nat := 10 ^ 200
theorem lim_len {n : Nat} : (dd n).length ≤ 200 ↔ n < lim := ⟨fun h => dd_len_ge n 200 h, fun h => dd_len_le n 200 (by decide) h⟩
abbrev digs : Str := [48, 49, 50, 51, 52, 53, 54, 55, 56, 57]
theorem digs_fin : ∀ n : Fin 256, digs.contains (UInt8.ofNat n.val) = decide (48 ≤ n.val ∧ n.val ≤ 57) := by decide +kernel
theorem digs_iff (b : UInt8) : digs.contains b = decide (48 ≤ b.toNat ∧ b.toNat ≤ 57) := by
  have h : b.toNat < 256 := UInt8.toNat_lt b
  have := digs_fin ⟨b.toNat, h⟩
  rw [UInt8.ofNat_toNat] at this
  exact this
theorem mem_dropWhile {p : UInt8 → Bool} {b : UInt8} (hb : p b = false) : ∀ {l : Str}, b ∈ l → b ∈ l.dropWhile p
  | [], h => by simp at h
  | x :: l, h => by
    rw [List.dropWhile_cons]
    cases hx : p x with
    | false => simpa using h
    | true =>
      simp only [if_true]
      rcases List.mem_cons.1 h with rfl | h
      · rw [hb] at hx; cases hx
      · exact mem_dropWhile hb h
theorem all_dropWhile {p : UInt8 → Bool} : ∀ {l : Str}, (∀ b ∈ l, p b = true) → l.dropWhile p = []
  | [], _ => rfl
  | x :: l, h => by rw [List.dropWhile_cons, h x (by simp)]; exact all_dropWhile fun b hb => h b (by simp [hb])
theorem trim_nil {l : Str} : F74 l digs = [] ↔ AllD l := by
  unfold F74 Lib.trimS Lib.trimLeftS Lib.trimRightS
  constructor
  · intro h b hb
    apply Classical.byContradiction
    intro hn
    have hc : digs.contains b = false := by rw [digs_iff]; exact decide_eq_false hn
    have h1 : b ∈ (l.reverse.dropWhile (digs.contains ·)).reverse := List.mem_reverse.2 (mem_dropWhile (p := (digs.contains ·)) hc (List.mem_reverse.2 hb))
    have h2 := mem_dropWhile (p := (digs.contains ·)) hc h1
    rw [h] at h2
    simp at h2
  · intro h
    have e : l.reverse.dropWhile (digs.contains ·) = [] := all_dropWhile fun b hb => by
      rw [digs_iff]; exact decide_eq_true (h b (List.mem_reverse.1 hb))
    rw [e]; rfl
theorem tp_minus (r : Str) : F73 (45 :: r) [45] = r := by simp [F73, Lib.trimPrefix, Lib.hasPrefix]
theorem tp_other {c : UInt8} (h : c ≠ 45) (r : Str) : F73 (c :: r) [45] = c :: r := by
  have : ((45 : UInt8) == c) = false := by simpa using Ne.symm h
  simp [F73, Lib.trimPrefix, Lib.hasPrefix, List.isPrefixOf, this]
theorem tp_dd (n : Nat) : F73 (dd n) [45] = dd n := by
  cases h : dd n with
  | nil => rfl
  | cons b r =>
    refine tp_other (fun hb => ?_) r
    have := allD_dd n b (by rw [h]; simp)
    rw [hb] at this
    exact absurd this.1 (by decide)
theorem tp_itoa (z : Int) : F73 (Lib.itoa z) [45] = dd z.natAbs := by
  by_cases h : z < 0
  · obtain ⟨n, rfl⟩ : ∃ n : Nat, z = -(n : Int) := ⟨z.natAbs, by omega⟩
    rw [itoa_neg (by omega), tp_minus]; simp
  · obtain ⟨n, rfl⟩ : ∃ n : Nat, z = (n : Int) := ⟨z.natAbs, by omega⟩
    rw [itoa_nat, tp_dd]; simp
theorem P73_true (a b : Str) : P73 a b = true := rfl
theorem P74_true {l : Str} (h : l.length ≤ 9223372036854775807) : P74 l digs = true := by
  unfold P74
  rw [decide_eq_true h]; decide
/-- **What is valid.** -/
def ok47 (s : Str) : Bool := decide (F73 s [45] ≠ [] ∧ (F73 s [45]).length ≤ 200 ∧ F74 (F73 s [45]) digs = [] ∧ (s = [48] ∨ ((F73 s [45]).getD 0 0).toNat ≠ 48))
theorem G47_eq {s : Str} (hs : s.length ≤ 140737488355328) : G47 s = some (ok47 s) := by
  have hl : (F73 s [45]).length ≤ s.length := by
    unfold F73 Lib.trimPrefix
    split
    · simp
    · exact Nat.le_refl _
  have hP := P74_true (l := F73 s [45]) (by omega)
  unfold G47 ok47
  simp only [P73_true, cond_true, hP, Bool.true_or]
  generalize F73 s [45] = v at hl
  generalize F74 v digs = t
  by_cases h1 : v = []
  · subst h1; simp
  · have e1 : (v == ([] : Str)) = false := by simpa using h1
    have e2 : decide ((0 : Int) < (v.length : Int)) = true := by
      have := List.length_pos_iff.2 h1
      simp; omega
    simp only [e1, cond_false, e2, Bool.and_true, show decide ((0 : Int) ≤ 0) = true from rfl, Bool.true_or, cond_true, show Int.toNat 0 = 0 from rfl]
    by_cases h2 : v.length ≤ 200
    · have e3 : decide ((v.length : Int) > 200) = false := decide_eq_false (by omega)
      simp only [e3, cond_false]
      by_cases h3 : t = []
      · subst h3
        by_cases h4 : s = [48]
        · subst h4; simp [h1, h2]
        · have e4 : (s == ([48] : Str)) = false := by simpa using h4
          simp only [e4, cond_false]
          have e5 : ((((v.getD 0 0).toNat : Nat) : Int) != 48) = decide ((v.getD 0 0).toNat ≠ 48) := by
            by_cases h5 : (v.getD 0 0).toNat = 48
            · rw [h5]; rfl
            · rw [decide_eq_true h5]; simp only [bne_iff_ne, ne_eq]; omega
          rw [e5]
          simp [h1, h2, h4]
      · have e4 : (t == ([] : Str)) = false := by simpa using h3
        simp [e4, h3]
    · have e3 : decide ((v.length : Int) > 200) = true := decide_eq_true (by omega)
      simp [e3, h2]
theorem itoa_len (z : Int) : (Lib.itoa z).length ≤ (dd z.natAbs).length + 1 := by
  unfold Lib.itoa
  split
  · simp
  · have : z.toNat = z.natAbs := by omega
    rw [this]; exact Nat.le_succ _
theorem small_len {z : Int} (h : z.natAbs < lim) : (Lib.itoa z).length ≤ 201 := by have := itoa_len z; have := lim_len.2 h; omega
theorem ok_itoa {z : Int} (h : z.natAbs < lim) : ok47 (Lib.itoa z) = true := by
  unfold ok47
  rw [tp_itoa]
  refine decide_eq_true ⟨dd_ne _, lim_len.2 h, trim_nil.2 (allD_dd _), ?_⟩
  by_cases h0 : z = 0
  · subst h0; exact .inl (by decide +kernel)
  · obtain ⟨b, r, h1, h2⟩ := dd_head z.natAbs (by omega)
    right
    rw [h1]; exact h2
theorem P47_eq {s : Str} (hs : s.length ≤ 140737488355328) : P47 s = true := P47_of _ (G47_eq hs)
theorem F47_eq {s : Str} (hs : s.length ≤ 140737488355328) : F47 s = ok47 s := F47_of _ (G47_eq hs)
/-! ### Reading -/
theorem F57_chunk {l : Str} (hd : AllD l) (hne : l ≠ []) (hv : decF 0 l < 10000) : F57 l = (((decF 0 l : Nat) : Int), false) := by
  unfold F57
  rw [atoi_digits hd hne, if_pos (by omega)]
theorem read_loop (a b c : Bool) (X : List Int) : ∀ (n : Nat) (s4 : List Int), (dd n).length ≤ 1000 → s4.length + (dd n).length ≤ 100000 → L59_3 (dd n, a, X, b, s4) = some ([], a, X, b, s4 ++ gr n) := by
  intro n
  induction n using Nat.strongRecOn with
  | ind n ih =>
    intro s4 hl hs
    have hend : ∀ t, L59_3 ([], a, X, b, t) = some ([], a, X, b, t) := fun t => by
      unfold L59_3
      refine lim_end (r := fun s : Str × Bool × List Int × Bool × List Int => L59_3_r s.1 s.2.1 s.2.2.1 s.2.2.2.1 s.2.2.2.2) ?_
      rfl
    have hpos := dd_len_pos n
    have go : ∀ (p q : Str) (v : Nat), dd n = p ++ q → AllD q → q ≠ [] → decF 0 q = v → v < 10000 → q.length ≤ 4 → (p = [] ∨ q.length = 4) → L59_3_r (dd n) a X b s4 = some (.inl (p, a, X, b, s4 ++ [(v : Int)])) := by
      intro p q v he hq hne hv hvs hql hp
      have e0 : decide (((dd n).length : Int) > 0) = true := decide_eq_true (by omega)
      have e1 : IntKind.i64.wrap (((dd n).length : Int) - 4) = ((dd n).length : Int) - 4 := wrapI (by omega) (by omega)
      have hlen : (dd n).length = p.length + q.length := by rw [he]; simp
      have e2 : (if ((dd n).length : Int) - 4 > 0 then ((dd n).length : Int) - 4 else 0) = (p.length : Int) := by
        rcases hp with rfl | hp
        · rw [if_neg (by simp at hlen; omega)]; rfl
        · split <;> omega
      have e3 : sliceTest (p.length : Int) ((dd n).length : Int) ((dd n).length : Int) = true := by
        simp only [sliceTest, Bool.and_eq_true, decide_eq_true_eq]; omega
      have e4 : cut (dd n) (p.length : Int) ((dd n).length : Int) = q := by
        simp only [cut, Int.toNat_natCast, List.take_length]
        rw [he, List.drop_left]
      have e5 : sliceTest 0 (p.length : Int) ((dd n).length : Int) = true := by
        simp only [sliceTest, Bool.and_eq_true, decide_eq_true_eq]; omega
      have e6 : cut (dd n) 0 (p.length : Int) = p := by
        simp only [cut, Int.toNat_natCast, Int.toNat_zero, List.drop_zero]
        rw [he, List.take_left]
      have e7 : P57 q = true := decide_eq_true (by omega)
      have e8 : F57 q = ((v : Int), false) := by have := F57_chunk hq hne (by omega); rw [hv] at this; exact this
      have e9 : decide (s4.length + List.length ([(v : Int)] : List Int) ≤ 100000000000) = true := decide_eq_true (by simp; omega)
      unfold L59_3_r
      simp only [e0, cond_true, e1, e2, e3, e4, e5, e6, e7, e8, set_one, List.take_length, e9]
    by_cases h : n < 10000
    · have h1 := go [] (dd n) n rfl (allD_dd n) (dd_ne n) (decF_dd n) h (dd_len_le n 4 (by decide) h) (.inl rfl)
      have h2 := hend (s4 ++ [(n : Int)])
      unfold L59_3 at h2 ⊢
      rw [lim_go (r := fun s : Str × Bool × List Int × Bool × List Int => L59_3_r s.1 s.2.1 s.2.2.1 s.2.2.2.1 s.2.2.2.2) h1, h2, gr_small h]
    · have hsp := dd_split (Nat.le_of_not_lt h)
      have hll : (dd n).length = (dd (n / 10000)).length + 4 := by rw [hsp]; simp [pad4]
      have h1 := go (dd (n / 10000)) (pad4 (n % 10000)) (n % 10000) hsp (pad4_all (by omega)) (by simp [pad4]) (pad4_val (by omega)) (by omega) (by simp [pad4]) (.inr rfl)
      have h2 := ih (n / 10000) (by omega) (s4 ++ [((n % 10000 : Nat) : Int)]) (by omega) (by simp; omega)
      unfold L59_3 at h2 ⊢
      rw [lim_go (r := fun s : Str × Bool × List Int × Bool × List Int => L59_3_r s.1 s.2.1 s.2.2.1 s.2.2.2.1 s.2.2.2.2) h1, h2, gr_big h, List.append_assoc]; rfl
theorem G59_eq {z : Int} (h : z.natAbs < lim) : G59 (Lib.itoa z) = some ((decide (z < 0), (can z.natAbs, ())), ()) := by
  have hl := lim_len.2 h
  have hr := read_loop false (decide (z < 0)) true [] z.natAbs [] (by omega) (by simp; omega)
  obtain ⟨g1, g2, g3⟩ := gr_facts z.natAbs
  have e : decide (((dd z.natAbs).length : Int) < ((Lib.itoa z).length : Int)) = decide (z < 0) := by
    by_cases hz : z < 0
    · obtain ⟨n, rfl⟩ : ∃ n : Nat, z = -(n : Int) := ⟨z.natAbs, by omega⟩
      rw [itoa_neg (by omega), decide_eq_true hz]
      exact decide_eq_true (by simp; omega)
    · obtain ⟨n, rfl⟩ : ∃ n : Nat, z = (n : Int) := ⟨z.natAbs, by omega⟩
      rw [itoa_nat, decide_eq_false hz]
      exact decide_eq_false (by simp)
  unfold G59
  simp only [P73_true, cond_true, tp_itoa, e, hr, Option.bind_some, List.nil_append, List.take_length, P65_eq (by omega : (gr z.natAbs).length ≤ 1000000) g1, F65_eq (by omega : (gr z.natAbs).length ≤ 1000000) g1, g2, Int.toNat_natCast]
/-- An integer, taken apart. -/
abbrev sg (z : Int) : D49 := (decide (z < 0), (can z.natAbs, ()))
theorem G38_eq {x y : Int} (hx : x.natAbs < lim) (hy : y.natAbs < lim) : G38 (Lib.itoa x) (Lib.itoa y) = some (sg x, (sg y, (true, ()))) := by
  have lx := small_len hx; have ly := small_len hy
  unfold G38
  simp only [P47_eq (by omega : (Lib.itoa x).length ≤ 140737488355328), F47_eq (by omega : (Lib.itoa x).length ≤ 140737488355328), P47_eq (by omega : (Lib.itoa y).length ≤ 140737488355328), F47_eq (by omega : (Lib.itoa y).length ≤ 140737488355328), ok_itoa hx, ok_itoa hy, Bool.not_true, cond_true, cond_false, Bool.true_or, Bool.or_true, P59_of _ (G59_eq hx), F59_of _ (G59_eq hx), P59_of _ (G59_eq hy), F59_of _ (G59_eq hy)]
theorem both_P {x y : Int} (hx : x.natAbs < lim) (hy : y.natAbs < lim) : P38 (Lib.itoa x) (Lib.itoa y) = true := P38_of _ _ (G38_eq hx hy)
theorem both_F {x y : Int} (hx : x.natAbs < lim) (hy : y.natAbs < lim) : F38 (Lib.itoa x) (Lib.itoa y) = (sg x, (sg y, (true, ()))) := F38_of _ _ (G38_eq hx hy)
theorem G38_no {s t : Str} (hs : s.length ≤ 140737488355328) (ht : t.length ≤ 140737488355328) (h : ok47 s = false ∨ ok47 t = false) : G38 s t = some ((false, ([], ())), ((false, ([], ())), (false, ()))) := by
  unfold G38
  rcases h with h | h
  · simp only [P47_eq hs, F47_eq hs, h, Bool.not_false, cond_true, Bool.not_true, Bool.false_and, Bool.or_true]
  · cases h2 : ok47 s with
    | false => simp only [P47_eq hs, F47_eq hs, h2, Bool.not_false, cond_true, Bool.not_true, Bool.false_and, Bool.or_true]
    | true => simp only [P47_eq hs, F47_eq hs, P47_eq ht, F47_eq ht, h, h2, Bool.not_false, cond_true, cond_false, Bool.not_true, Bool.true_or]
end Go.Ev.I

namespace Go.Ev.I
open Go Go.Proofs Go.Ev
def bytes (s : Str) : List Int := s.map fun c => (c.toNat : Int)
/-- What an operation returns. -/
def res (z : Int) : Str × Int := if z.natAbs < lim then (Lib.itoa z, 0) else ([], 30)
theorem P58_dig {d : Nat} (h : d < 10000) : P58 (d : Int) = true := by
  unfold P58
  rw [decide_eq_true (by omega), decide_eq_true (by omega)]; rfl
theorem F58_nat (d : Nat) : F58 (d : Int) = dd d := itoa_nat d
theorem text_fold {l : List Int} (hl : Dig l) (a : Bool) (hb : l.length ≤ 1000) : ∀ (k v : Nat), k < l.length → 0 < v → (dd v).length + 4 * k ≤ 100000 →
    foldX R40_5_step (backw l k) (a, l, true, bytes (dd v)) = some (.inl (a, l, true, bytes (dd (v * 10000 ^ k + (val (l.take k)).toNat))))
  | 0, v, _, _, _ => by simp [backw, foldX, val]
  | k + 1, v, hk, hv, hs => by
    obtain ⟨d, hd, he⟩ := natdig hl k
    have hdl := dd_len_le d 4 (by decide) hd
    have e0 : IntKind.i64.wrap ((l.length : Int) - 1) = (l.length : Int) - 1 := wrapI (by omega) (by omega)
    have e1 : decide ((k : Int) < (l.length : Int) - 1) = true := decide_eq_true (by omega)
    have e2 : IntKind.i64.wrap (4 - ((dd d).length : Int)) = ((4 - (dd d).length : Nat) : Int) := by rw [wrapI (by omega) (by omega)]; omega
    have e3 : P61 [48] ((4 - (dd d).length : Nat) : Int) = true := by
      unfold P61
      rw [decide_eq_true (by omega), decide_eq_true (by omega)]
      simp
      omega
    have e4 : F61 [48] ((4 - (dd d).length : Nat) : Int) = Lib.repeatL [48] (4 - (dd d).length) := rfl
    have hp4 : (pad4 d).length = 4 := rfl
    have e5 : decide ((Lib.repeatL [48] (4 - (dd d).length)).length + (dd d).length ≤ 9223372036854775807) = true := by
      have : (Lib.repeatL [48] (4 - (dd d).length) ++ dd d).length = 4 := by rw [pad4_eq hd]; rfl
      rw [List.length_append] at this
      exact decide_eq_true (by omega)
    have e6 : decide ((bytes (dd v)).length + (pad4 d).length ≤ 140737488355328) = true := by
      have : (bytes (dd v)).length = (dd v).length := by simp [bytes]
      exact decide_eq_true (by omega)
    have hn : v * 10000 + d ≥ 10000 := by omega
    have e7 : bytes (dd v) ++ List.map (fun c : UInt8 => (c.toNat : Int)) (pad4 d) = bytes (dd (v * 10000 + d)) := by
      rw [dd_split hn, show (v * 10000 + d) / 10000 = v by omega, show (v * 10000 + d) % 10000 = d by omega]
      simp [bytes]
    have hstep : R40_5_step (a, l, true, bytes (dd v)) ((k : Int), l.getD k 0) = some (.inl (a, l, true, bytes (dd (v * 10000 + d)))) := by
      rw [he]
      show R40_5_r a l true (bytes (dd v)) (k : Int) (d : Int) = _
      unfold R40_5_r
      simp only [P58_dig hd, F58_nat, cond_true, e0, e1, e2, e3, e4, e5, pad4_eq hd, e6, e7]
    simp only [backw, foldX, hstep]
    have hlen : (dd (v * 10000 + d)).length = (dd v).length + 4 := by
      rw [dd_split hn, show (v * 10000 + d) / 10000 = v by omega]; simp [pad4]
    rw [text_fold hl a hb k (v * 10000 + d) (by omega) (by omega) (by omega)]
    have hv0 := val_nonneg (hl.take k)
    obtain ⟨t, ht⟩ := Int.eq_ofNat_of_zero_le hv0
    have htk := val_take_succ (l := l) (k := k) (by omega)
    rw [he, ht] at htk
    have hT : (val (l.take (k + 1))).toNat = t + 10000 ^ k * d := by
      rw [htk, show ((t : Int) + 10000 ^ k * (d : Int)) = ((t + 10000 ^ k * d : Nat) : Int) by simp]
      rfl
    have hA : (v * 10000 + d) * 10000 ^ k + t = v * 10000 ^ (k + 1) + (t + 10000 ^ k * d) := by
      rw [Nat.add_mul, Nat.pow_succ, Nat.mul_comm d, Nat.mul_assoc v 10000, Nat.mul_comm 10000 (10000 ^ k)]; omega
    rw [hT, ht, Int.toNat_natCast, hA]
theorem bytes_all (s : Str) : (bytes s).all (fun n : Int => decide (0 ≤ n) && decide (n < 256)) = true := by
  rw [List.all_eq_true]
  intro n hn
  obtain ⟨c, _, rfl⟩ := List.mem_map.1 hn
  have := UInt8.toNat_lt c
  simp; omega
theorem bytes_back (s : Str) : (bytes s).map (fun n : Int => UInt8.ofNat n.toNat) = s := by
  unfold bytes
  rw [List.map_map]
  refine (List.map_congr_left fun c _ => ?_).trans (List.map_id s)
  show UInt8.ofNat (Int.toNat (c.toNat : Int)) = c
  rw [Int.toNat_natCast, UInt8.ofNat_toNat]
/-- All rounds: the first group as it is, the others padded. -/
theorem text_all {n : Nat} (a : Bool) (hn : 0 < n) (hl : (can n).length ≤ 1000) : foldX R40_5_step (backw (can n) (can n).length) (a, can n, false, []) = some (.inl (a, can n, true, bytes (dd n))) := by
  have hD := dig_can n
  have hpos := can_len_pos.2 (Nat.pos_iff_ne_zero.1 hn)
  obtain ⟨k, hk⟩ : ∃ k, (can n).length = k + 1 := ⟨(can n).length - 1, by omega⟩
  obtain ⟨d, hd, he⟩ := natdig hD k
  have htk := val_take_succ (l := can n) (k := k) (by omega)
  rw [show (can n).take (k + 1) = can n by rw [← hk, List.take_length], val_can, he] at htk
  have hv0 := val_nonneg (hD.take k)
  have hlt := val_lt (hD.take k)
  rw [List.length_take, Nat.min_eq_left (by omega)] at hlt
  obtain ⟨t, ht⟩ := Int.eq_ofNat_of_zero_le hv0
  rw [ht] at htk hlt
  have hN : n = t + 10000 ^ k * d := by
    have : ((n : Nat) : Int) = ((t + 10000 ^ k * d : Nat) : Int) := by rw [htk]; simp
    omega
  have hd0 : 0 < d := by
    apply Classical.byContradiction
    intro h0
    have : d = 0 := by omega
    subst this
    rw [Nat.mul_zero, Nat.add_zero] at hN
    have : n < 10000 ^ k := by
      have h1 : ((n : Nat) : Int) < ((10000 ^ k : Nat) : Int) := by rw [hN]; simpa using hlt
      omega
    have := can_len_le k n this
    omega
  have e0 : IntKind.i64.wrap (((can n).length : Int) - 1) = ((can n).length : Int) - 1 := wrapI (by omega) (by omega)
  have e1 : decide ((k : Int) < ((can n).length : Int) - 1) = false := decide_eq_false (by omega)
  have e6 : decide ((([] : List Int)).length + (dd d).length ≤ 140737488355328) = true := by
    have := dd_len_le d 4 (by decide) hd
    exact decide_eq_true (by simp; omega)
  have hstep : R40_5_step (a, can n, false, []) ((k : Int), (can n).getD k 0) = some (.inl (a, can n, true, bytes (dd d))) := by
    rw [he]
    show R40_5_r a (can n) false [] (k : Int) (d : Int) = _
    unfold R40_5_r
    simp only [P58_dig hd, F58_nat, cond_true, cond_false, e0, e1, e6, List.nil_append]
    rfl
  rw [hk]
  simp only [backw, foldX, hstep]
  rw [text_fold hD a hl k d (by omega) hd0 (by have := dd_len_le d 4 (by decide) hd; omega), ht, Int.toNat_natCast, hN, Nat.mul_comm d, Nat.add_comm]
/-- A number with its sign. -/
def sv (a : Bool) (n : Nat) : Int := bif a then -(n : Int) else n
theorem sv_abs (a : Bool) (n : Nat) : (sv a n).natAbs = n := by cases a <;> simp [sv]
theorem itoa_0 : Lib.itoa 0 = [48] := by decide +kernel
theorem G40_eq {n : Nat} (a : Bool) (hl : (can n).length ≤ 1000) : G40 (a, (can n, ())) = some (res (sv a n)) := by
  have hab := sv_abs a n
  unfold G40 res
  rw [hab]
  by_cases h0 : n = 0
  · subst h0
    have : (0 : Nat) < lim := by decide
    rw [if_pos this]
    simp only [can_zero]
    have e : sv a 0 = 0 := by cases a <;> rfl
    rw [e, itoa_0]
    rfl
  · have hn : 0 < n := by omega
    have e0 : ((((can n).length : Nat) : Int) == 0) = false := by
      have := can_len_pos.2 h0
      simp only [beq_eq_false_iff_ne, ne_eq]; omega
    simp only [e0, cond_false, P60_eq, F60_eq, cond_true, W78_eq (by omega : (can n).length ≤ 1000000), Option.bind_some, text_all a hn hl, bytes_all, bytes_back]
    by_cases h : n < lim
    · have e1 : decide (((dd n).length : Int) > 200) = false := decide_eq_false (by have := lim_len.2 h; omega)
      have e2 : decide (List.length ([45] : Str) + (dd n).length ≤ 9223372036854775807) = true := decide_eq_true (by have := lim_len.2 h; simp; omega)
      rw [if_pos h]
      simp only [e1, cond_false, e2, cond_true]
      cases a with
      | true => simp only [cond_true, sv, itoa_neg hn]; rfl
      | false => simp only [cond_false, sv, itoa_nat]
    · have e1 : decide (((dd n).length : Int) > 200) = true := decide_eq_true (by
        apply Classical.byContradiction
        intro hc
        exact h (lim_len.1 (by omega)))
      rw [if_neg h]
      simp only [e1, cond_true]
theorem text_P {n : Nat} (a : Bool) (hl : (can n).length ≤ 1000) : P40 (a, (can n, ())) = true := P40_of _ (G40_eq a hl)
theorem text_F {n : Nat} (a : Bool) (hl : (can n).length ≤ 1000) : F40 (a, (can n, ())) = res (sv a n) := F40_of _ (G40_eq a hl)
/-! ### The operations over integers -/
theorem lim_can {n : Nat} (h : n < lim) : (can n).length ≤ 50 := can_len_le 50 n (Nat.lt_of_lt_of_le h (by decide))
theorem sg_back (z : Int) : sv (decide (z < 0)) z.natAbs = z := by
  by_cases h : z < 0
  · rw [decide_eq_true h]; simp only [sv, cond_true]; omega
  · rw [decide_eq_false h]; simp only [sv, cond_false]; omega
/-- A signed sum. -/
theorem G39_eq (a b : Bool) {n m : Nat} (ln : (can n).length ≤ 990) (lm : (can m).length ≤ 990) : ∃ (c : Bool) (k : Nat), G39 (a, (can n, ())) (b, (can m, ())) = some ((c, (can k, ())), ()) ∧ sv c k = sv a n + sv b m ∧ k ≤ n + m := by
  unfold G39
  have e0 : eqv .bool a b = (a == b) := rfl
  simp only [e0]
  by_cases hs : a = b
  · subst hs
    refine ⟨a, n + m, ?_, ?_, Nat.le_refl _⟩
    · simp only [beq_self_eq_true, cond_true, plus_P (by omega : (can n).length ≤ 1000) (by omega : (can m).length ≤ 1000), plus_F (by omega : (can n).length ≤ 1000) (by omega : (can m).length ≤ 1000)]
    · cases a <;> simp [sv]; omega
  · have e1 : (a == b) = false := by simpa using hs
    simp only [e1, cond_false, cmp_P (by omega : (can n).length ≤ 1000), cmp_F (by omega : (can n).length ≤ 1000), cond_true]
    by_cases hc : m ≤ n
    · have e2 : decide (sgn (n : Int) (m : Int) ≥ 0) = true := decide_eq_true (by unfold sgn; rw [if_neg (by omega)]; split <;> omega)
      refine ⟨a, n - m, ?_, ?_, by omega⟩
      · simp only [e2, cond_true, minus_P hc (by omega : (can n).length ≤ 1000), minus_F hc (by omega : (can n).length ≤ 1000)]
      · cases a <;> cases b <;> simp [sv] at hs ⊢ <;> omega
    · have e2 : decide (sgn (n : Int) (m : Int) ≥ 0) = false := decide_eq_false (by unfold sgn; rw [if_pos (by omega)]; omega)
      refine ⟨b, m - n, ?_, ?_, by omega⟩
      · simp only [e2, cond_false, minus_P (by omega : n ≤ m) (by omega : (can m).length ≤ 1000), minus_F (by omega : n ≤ m) (by omega : (can m).length ≤ 1000), cond_true]
      · cases a <;> cases b <;> simp [sv] at hs ⊢ <;> omega
theorem can_sum {n m : Nat} (h : n ≤ m) (hm : m < lim + lim) : (can n).length ≤ 1000 := by
  have h1 : n < 10000 ^ 51 := Nat.lt_of_le_of_lt h (Nat.lt_trans hm (by decide))
  have := can_len_le 51 n h1
  omega
/-- **Sums, differences, products, the order, the numerals.** -/
theorem add_eq {x y : Int} (hx : x.natAbs < lim) (hy : y.natAbs < lim) : G14 (Lib.itoa x) (Lib.itoa y) = some (res (x + y)) := by
  have lx := lim_can hx; have ly := lim_can hy
  obtain ⟨a, n, h1, h2, h3⟩ := G39_eq (decide (x < 0)) (decide (y < 0)) (by omega : (can x.natAbs).length ≤ 990) (by omega : (can y.natAbs).length ≤ 990)
  rw [sg_back, sg_back] at h2
  unfold G14
  simp only [both_P hx hy, both_F hx hy, cond_true, cond_false, Bool.not_true, P39_of _ _ h1, F39_of _ _ h1, text_P a (can_sum h3 (by omega)), text_F a (can_sum h3 (by omega)), h2]
theorem sub_eq {x y : Int} (hx : x.natAbs < lim) (hy : y.natAbs < lim) : G16 (Lib.itoa x) (Lib.itoa y) = some (res (x - y)) := by
  have lx := lim_can hx; have ly := lim_can hy
  obtain ⟨a, n, h1, h2, h3⟩ := G39_eq (decide (x < 0)) (!decide (y < 0)) (by omega : (can x.natAbs).length ≤ 990) (by omega : (can y.natAbs).length ≤ 990)
  have hneg : sv (!decide (y < 0)) y.natAbs = -y := by
    by_cases h : y < 0
    · rw [decide_eq_true h]; simp only [sv, Bool.not_true, cond_false]; omega
    · rw [decide_eq_false h]; simp only [sv, Bool.not_false, cond_true]; omega
  rw [sg_back, hneg, show x + -y = x - y by omega] at h2
  unfold G16
  simp only [both_P hx hy, both_F hx hy, cond_true, cond_false, Bool.not_true, P39_of _ _ h1, F39_of _ _ h1, text_P a (can_sum h3 (by omega)), text_F a (can_sum h3 (by omega)), h2]
theorem eqv_sign (x y : Int) : (!(eqv .bool (decide (x < 0)) (decide (y < 0)))) = (decide (x < 0) != decide (y < 0)) := rfl
theorem prod_len {n m : Nat} (hn : n < lim) (hm : m < lim) : (can (n * m)).length ≤ 1000 := by
  have h1 : n * m < 10000 ^ 100 := Nat.lt_of_lt_of_le (Nat.mul_lt_mul'' hn hm) (by decide)
  have := can_len_le 100 _ h1
  omega
theorem mul_eq {x y : Int} (hx : x.natAbs < lim) (hy : y.natAbs < lim) : G15 (Lib.itoa x) (Lib.itoa y) = some (res (x * y)) := by
  have lx := lim_can hx; have ly := lim_can hy
  have hp := prod_len hx hy
  have hv : sv (decide (x < 0) != decide (y < 0)) (x.natAbs * y.natAbs) = x * y := by
    have key : ∀ (a b : Bool) (n m : Nat), sv (a != b) (n * m) = sv a n * sv b m := fun a b n m => by
      cases a <;> cases b <;> simp [sv, Int.natCast_mul, Int.neg_mul, Int.mul_neg]
    rw [key, sg_back, sg_back]
  unfold G15
  simp only [both_P hx hy, both_F hx hy, cond_true, cond_false, Bool.not_true, times_P (by omega : (can x.natAbs).length ≤ 490) (by omega : (can y.natAbs).length ≤ 490), times_F (by omega : (can x.natAbs).length ≤ 490) (by omega : (can y.natAbs).length ≤ 490), eqv_sign, text_P (decide (x < 0) != decide (y < 0)) hp, text_F (decide (x < 0) != decide (y < 0)) hp, hv]
theorem compare_eq {x y : Int} (hx : x.natAbs < lim) (hy : y.natAbs < lim) : G18 (Lib.itoa x) (Lib.itoa y) = some (sgn x y) := by
  have lx := lim_can hx; have ly := lim_can hy
  unfold G18
  simp only [both_P hx hy, both_F hx hy, cond_true, cond_false, Bool.not_true]
  by_cases h : x < 0
  · by_cases h2 : y < 0
    · simp only [decide_eq_true h, decide_eq_true h2, cond_true, cmp_P (by omega : (can y.natAbs).length ≤ 1000), cmp_F (by omega : (can y.natAbs).length ≤ 1000)]
      congr 1
      unfold sgn
      by_cases h3 : x < y
      · rw [if_pos (by omega), if_pos h3]
      · rw [if_neg h3]
        by_cases h4 : x > y
        · rw [if_neg (by omega), if_pos (by omega), if_pos h4]
        · rw [if_neg (by omega), if_neg (by omega), if_neg h4]
    · simp only [decide_eq_true h, decide_eq_false h2, cond_true, cond_false]
      unfold sgn; rw [if_pos (by omega)]
  · by_cases h2 : y < 0
    · simp only [decide_eq_false h, decide_eq_true h2, cond_true, cond_false]
      unfold sgn; rw [if_neg (by omega), if_pos (by omega)]
    · simp only [decide_eq_false h, decide_eq_false h2, cond_false, cond_true, cmp_P (by omega : (can x.natAbs).length ≤ 1000), cmp_F (by omega : (can x.natAbs).length ≤ 1000)]
      congr 1
      rw [show ((x.natAbs : Nat) : Int) = x by omega, show ((y.natAbs : Nat) : Int) = y by omega]
end Go.Ev.I

namespace Go.Ev.I
open Go Go.Proofs Go.Ev
/-! ### Division -/
theorem div_pos {n m : Nat} (hm : 0 < m) : (n : Int) / (m : Int) = ((n / m : Nat) : Int) ∧ (n : Int) % (m : Int) = ((n % m : Nat) : Int) := ⟨(Int.natCast_ediv n m).symm, (Int.natCast_emod n m).symm⟩
theorem div_neg {n m : Nat} (hm : 0 < m) : (n % m = 0 → (-(n : Int)) / (m : Int) = -((n / m : Nat) : Int) ∧ (-(n : Int)) % (m : Int) = 0) ∧
    (0 < n % m → (-(n : Int)) / (m : Int) = -((n / m + 1 : Nat) : Int) ∧ (-(n : Int)) % (m : Int) = ((m - n % m : Nat) : Int)) := by
  have h1 := Nat.div_add_mod n m
  have h2 := Nat.mod_lt n hm
  have h3 : ((n : Nat) : Int) = (m : Int) * ((n / m : Nat) : Int) + ((n % m : Nat) : Int) := by
    rw [← Int.natCast_mul, ← Int.natCast_add, h1]
  constructor
  · intro h
    rw [h] at h3
    refine (Int.ediv_emod_unique (by omega)).2 ⟨?_, by omega, by omega⟩
    rw [Int.mul_neg]; omega
  · intro h
    refine (Int.ediv_emod_unique (by omega)).2 ⟨?_, by omega, by omega⟩
    rw [Int.natCast_add, Int.neg_add, Int.mul_add, Int.mul_neg]
    simp only [Int.natCast_one, Int.mul_neg, Int.mul_one]
    omega
theorem fix_F : F44 = can 1 ∧ P44 = true := by
  have h : G44 = some (can 1) := by
    rw [can_pos (by decide), show 1 / 10000 = 0 from rfl, can_zero]; rfl
  exact ⟨F44_of h, P44_of h⟩
theorem div_le {n m : Nat} (hm : 0 < m) (hr : 0 < n % m) : n / m + 1 ≤ n := by
  have h2 : 2 ≤ m := by
    apply Classical.byContradiction
    intro h
    have : m = 1 := by omega
    subst this
    omega
  have h1 : n / m ≤ n / 2 := Nat.div_le_div_left h2 (by decide)
  have h0 : n ≠ 0 := by rintro rfl; simp at hr
  by_cases h3 : n = 1
  · subst h3
    have : 1 / m = 0 := Nat.div_eq_of_lt (by omega)
    omega
  · omega
theorem sv_div {a b : Bool} {n m Q R : Nat} (hm : 0 < m) (hQ : sv a n / (m : Int) = sv a Q) (hR : sv a n % (m : Int) = (R : Int)) : sv a n / sv b m = sv (a != b) Q ∧ sv a n % sv b m = (R : Int) := by
  cases b with
  | false =>
    have : sv false m = (m : Int) := rfl
    rw [this, hQ, hR]
    cases a <;> exact ⟨rfl, rfl⟩
  | true =>
    have : sv true m = -(m : Int) := rfl
    rw [this, Int.ediv_neg, Int.emod_neg, hQ, hR]
    cases a <;> simp [sv]
theorem res_small {z : Int} (h : z.natAbs < lim) : res z = (Lib.itoa z, 0) := by unfold res; rw [if_pos h]
theorem div_eq {x y : Int} (hx : x.natAbs < lim) (hy : y.natAbs < lim) (h0 : y ≠ 0) : G17 (Lib.itoa x) (Lib.itoa y) = some (Lib.itoa (x / y), Lib.itoa (x % y), 0) := by
  have lx := lim_can hx; have ly := lim_can hy
  have hm : 0 < y.natAbs := by omega
  have e0 : ((((can y.natAbs).length : Nat) : Int) == 0) = false := by
    have := can_len_pos.2 (by omega : y.natAbs ≠ 0)
    simp only [beq_eq_false_iff_ne, ne_eq]; omega
  have hrl : x.natAbs % y.natAbs < y.natAbs := Nat.mod_lt _ hm
  have hql : x.natAbs / y.natAbs ≤ x.natAbs := Nat.div_le_self _ _
  have lr : (can (x.natAbs % y.natAbs)).length ≤ 50 := lim_can (by omega)
  have lq : (can (x.natAbs / y.natAbs)).length ≤ 50 := lim_can (by omega)
  have hxv := sg_back x
  have hyv := sg_back y
  unfold G17
  simp only [both_P hx hy, both_F hx hy, cond_true, cond_false, Bool.not_true, e0, over_P hm (by omega : (can x.natAbs).length ≤ 900) (by omega : (can y.natAbs).length ≤ 900), over_F hm (by omega : (can x.natAbs).length ≤ 900) (by omega : (can y.natAbs).length ≤ 900), eqv_sign]
  -- what the quotient and the remainder are
  have fin : ∀ (Q R : Nat), x / y = sv (decide (x < 0) != decide (y < 0)) Q → x % y = (R : Int) → Q < lim → R < lim →
      F40 ((decide (x < 0) != decide (y < 0)), (can Q, ())) = (Lib.itoa (x / y), 0) ∧ F40 (false, (can R, ())) = (Lib.itoa (x % y), 0) ∧ P40 ((decide (x < 0) != decide (y < 0)), (can Q, ())) = true ∧ P40 (false, (can R, ())) = true := by
    intro Q R h1 h2 h3 h4
    have l1 := lim_can h3; have l2 := lim_can h4
    refine ⟨?_, ?_, text_P _ (by omega), text_P _ (by omega)⟩
    · rw [text_F _ (by omega), ← h1, res_small (by rw [h1, sv_abs]; exact h3)]
    · rw [text_F _ (by omega), show sv false R = (R : Int) from rfl, ← h2, res_small (by rw [h2]; simpa using h4)]
  by_cases hc : x < 0 ∧ 0 < x.natAbs % y.natAbs
  · obtain ⟨hx0, hr0⟩ := hc
    have e1 : (bif decide (x < 0) then decide ((((can (x.natAbs % y.natAbs)).length : Nat) : Int) > 0) else false) = true := by
      have := can_len_pos.2 (by omega : x.natAbs % y.natAbs ≠ 0)
      rw [decide_eq_true hx0]
      exact decide_eq_true (by omega)
    have k := (div_neg (n := x.natAbs) hm).2 hr0
    have k2 := sv_div (a := decide (x < 0)) (b := decide (y < 0)) (n := x.natAbs) (Q := x.natAbs / y.natAbs + 1) (R := y.natAbs - x.natAbs % y.natAbs) hm (by rw [decide_eq_true hx0]; exact k.1) (by rw [decide_eq_true hx0]; exact k.2)
    rw [hxv, hyv] at k2
    have hle := div_le hm hr0
    obtain ⟨f1, f2, f3, f4⟩ := fin _ _ k2.1 k2.2 (by omega) (by omega)
    simp only [e1, cond_true, fix_F.1, fix_F.2, plus_P (by omega : (can (x.natAbs / y.natAbs)).length ≤ 1000) (by have := lim_can (by decide : 1 < lim); omega : (can 1).length ≤ 1000), plus_F (by omega : (can (x.natAbs / y.natAbs)).length ≤ 1000) (by have := lim_can (by decide : 1 < lim); omega : (can 1).length ≤ 1000),
      minus_P (Nat.le_of_lt hrl) (by omega : (can y.natAbs).length ≤ 1000), minus_F (Nat.le_of_lt hrl) (by omega : (can y.natAbs).length ≤ 1000), f1, f2, f3, f4]
    rfl
  · have e1 : (bif decide (x < 0) then decide ((((can (x.natAbs % y.natAbs)).length : Nat) : Int) > 0) else false) = false := by
      by_cases hx0 : x < 0
      · have hr0 : x.natAbs % y.natAbs = 0 := by
          apply Classical.byContradiction
          intro hr; exact hc ⟨hx0, by omega⟩
        rw [decide_eq_true hx0, hr0, can_zero]; rfl
      · rw [decide_eq_false hx0]; rfl
    have k2 : x / y = sv (decide (x < 0) != decide (y < 0)) (x.natAbs / y.natAbs) ∧ x % y = ((x.natAbs % y.natAbs : Nat) : Int) := by
      have k3 := sv_div (a := decide (x < 0)) (b := decide (y < 0)) (n := x.natAbs) (Q := x.natAbs / y.natAbs) (R := x.natAbs % y.natAbs) hm (by
        by_cases hx0 : x < 0
        · have hr0 : x.natAbs % y.natAbs = 0 := by
            apply Classical.byContradiction
            intro hr; exact hc ⟨hx0, by omega⟩
          rw [decide_eq_true hx0]; exact ((div_neg (n := x.natAbs) hm).1 hr0).1
        · rw [decide_eq_false hx0]; exact (div_pos hm).1) (by
        by_cases hx0 : x < 0
        · have hr0 : x.natAbs % y.natAbs = 0 := by
            apply Classical.byContradiction
            intro hr; exact hc ⟨hx0, by omega⟩
          rw [decide_eq_true hx0, hr0]; exact ((div_neg (n := x.natAbs) hm).1 hr0).2
        · rw [decide_eq_false hx0]; exact (div_pos hm).2)
      rw [hxv, hyv] at k3
      exact k3
    obtain ⟨f1, f2, f3, f4⟩ := fin _ _ k2.1 k2.2 (by omega) (by omega)
    simp only [e1, cond_false, cond_true, f1, f2, f3, f4]
    rfl
/-! ### The greatest common divisor -/
theorem gcd_loop : ∀ (b a : Nat), (can a).length ≤ 900 → (can b).length ≤ 900 → L20_5 (can a, can b) = some (can (Nat.gcd a b), []) := by
  intro b
  induction b using Nat.strongRecOn with
  | ind b ih =>
    intro a la lb
    by_cases h : b = 0
    · subst h
      unfold L20_5
      refine lim_end (r := fun s : List Int × List Int => L20_5_r s.1 s.2) ?_
      show L20_5_r (can a) (can 0) = _
      unfold L20_5_r
      rw [can_zero, Nat.gcd_zero_right]; rfl
    · have hb : 0 < b := by omega
      have e0 : decide ((((can b).length : Nat) : Int) > 0) = true := decide_eq_true (by have := can_len_pos.2 h; omega)
      have hr : L20_5_r (can a) (can b) = some (.inl (can b, can (a % b))) := by
        unfold L20_5_r
        simp only [e0, cond_true, over_P hb la lb, over_F hb la lb]
      have hlt := Nat.mod_lt a hb
      have := ih (a % b) hlt b lb (by have := can_len_mono (Nat.le_of_lt hlt); omega)
      unfold L20_5 at this ⊢
      rw [lim_go (r := fun s : List Int × List Int => L20_5_r s.1 s.2) hr, this]
      rw [Nat.gcd_comm a b, Nat.gcd_rec b a, Nat.gcd_comm]
theorem gcd_small {x y : Int} (hx : x.natAbs < lim) (hy : y.natAbs < lim) : Int.gcd x y < lim := by
  unfold Int.gcd
  by_cases h : x.natAbs = 0
  · rw [h, Nat.gcd_zero_left]; exact hy
  · exact Nat.lt_of_le_of_lt (Nat.le_of_dvd (by omega) (Nat.gcd_dvd_left _ _)) hx
theorem gcd_eq {x y : Int} (hx : x.natAbs < lim) (hy : y.natAbs < lim) : G20 (Lib.itoa x) (Lib.itoa y) = some (Lib.itoa (Int.gcd x y : Int), 0) := by
  have lx := lim_can hx; have ly := lim_can hy
  have hg := gcd_small hx hy
  have lg := lim_can hg
  unfold Int.gcd at hg lg ⊢
  unfold G20
  simp only [both_P hx hy, both_F hx hy, cond_true, cond_false, Bool.not_true, gcd_loop _ _ (by omega : (can x.natAbs).length ≤ 900) (by omega : (can y.natAbs).length ≤ 900), Option.bind_some, text_P false (by omega : (can (Nat.gcd x.natAbs y.natAbs)).length ≤ 1000), text_F false (by omega : (can (Nat.gcd x.natAbs y.natAbs)).length ≤ 1000)]
  rw [show sv false (Nat.gcd x.natAbs y.natAbs) = ((Nat.gcd x.natAbs y.natAbs : Nat) : Int) from rfl, res_small (by simpa using hg)]
/-! ### The root -/
theorem can_pow : ∀ h : Nat, List.replicate h (0 : Int) ++ [1] = can (10000 ^ h)
  | 0 => by rw [Nat.pow_zero, can_pos (by decide), show 1 / 10000 = 0 from rfl, can_zero]; rfl
  | h + 1 => by
    rw [List.replicate_succ, List.cons_append, can_pow h, shift_can (Nat.pos_iff_ne_zero.1 (Nat.pow_pos (by decide))), Nat.pow_succ, Nat.mul_comm]
/-- Newton's step stays above the root. -/
theorem newton {x r : Nat} (hr : 0 < r) : x < ((r + x / r) / 2 + 1) * ((r + x / r) / 2 + 1) := by
  have h1 : x < r * (x / r + 1) := by
    have := Nat.div_add_mod x r
    have := Nat.mod_lt x hr
    rw [Nat.mul_add, Nat.mul_one]; omega
  generalize x / r = q at h1 ⊢
  obtain ⟨s, hs⟩ : ∃ s, s = (r + q) / 2 := ⟨_, rfl⟩
  rw [← hs]
  have h2 : r + q + 1 ≤ 2 * (s + 1) := by omega
  have h3 : (r + (q + 1)) * (r + (q + 1)) ≤ (2 * (s + 1)) * (2 * (s + 1)) := Nat.mul_le_mul (by omega) (by omega)
  have h4 : 4 * (r * (q + 1)) ≤ (r + (q + 1)) * (r + (q + 1)) := by
    generalize q + 1 = p
    rcases Nat.le_total r p with h | h
    · obtain ⟨d, rfl⟩ := Nat.exists_eq_add_of_le h
      have : (r + (r + d)) * (r + (r + d)) = 4 * (r * (r + d)) + d * d := by
        simp only [Nat.mul_add, Nat.add_mul, Nat.mul_comm d r]; omega
      omega
    · obtain ⟨d, rfl⟩ := Nat.exists_eq_add_of_le h
      have : (p + d + p) * (p + d + p) = 4 * ((p + d) * p) + d * d := by
        simp only [Nat.mul_add, Nat.add_mul, Nat.mul_comm d p]; omega
      omega
  have h5 : (2 * (s + 1)) * (2 * (s + 1)) = 4 * ((s + 1) * (s + 1)) := by
    rw [Nat.mul_assoc, Nat.mul_left_comm (s + 1) 2, ← Nat.mul_assoc]
  omega
theorem root_loop {x : Nat} (hx0 : 0 < x) (hx : x < lim) (b : Bool) : ∀ r : Nat, 0 < r → (can r).length ≤ 60 → x < (r + 1) * (r + 1) →
    ∃ R : Nat, R * R ≤ x ∧ x < (R + 1) * (R + 1) ∧ L21_5 (can r, b, can x) = some (.inl (Lib.itoa (R : Int), 0)) := by
  have lx := lim_can hx
  intro r
  induction r using Nat.strongRecOn with
  | ind r ih =>
    intro hr lr hlt
    have e0 : decide ((((can x).length : Nat) : Int) > 0) = true := decide_eq_true (by have := can_len_pos.2 (by omega : x ≠ 0); omega)
    have hq : x / r ≤ x := Nat.div_le_self _ _
    have lq : (can (x / r)).length ≤ 50 := lim_can (by omega)
    have lrq : (can (r + x / r)).length ≤ 61 := can_len_le _ _ (by
      have h1 := can_len_lt lr
      have h2 := can_len_lt (Nat.le_trans lq (by decide : 50 ≤ 60))
      rw [Nat.pow_succ]; omega)
    have e2 : ([2] : List Int) = can 2 := by rw [can_pos (by decide), show 2 / 10000 = 0 from rfl, can_zero]; rfl
    have l2 : (can 2).length ≤ 900 := by rw [← e2]; decide
    have hnl : (can ((r + x / r) / 2)).length ≤ 1000 := by have := can_len_mono (Nat.div_le_self (r + x / r) 2); omega
    have hstep : L21_5_r (can r) b (can x) = if r ≤ (r + x / r) / 2 then some (.inr (.inl (res (r : Int)))) else some (.inl (can ((r + x / r) / 2), b, can x)) := by
      unfold L21_5_r
      simp only [e0, cond_true, over_P hr (by omega : (can x).length ≤ 900) (by omega : (can r).length ≤ 900), over_F hr (by omega : (can x).length ≤ 900) (by omega : (can r).length ≤ 900), plus_P (by omega : (can r).length ≤ 1000) (by omega : (can (x / r)).length ≤ 1000), plus_F (by omega : (can r).length ≤ 1000) (by omega : (can (x / r)).length ≤ 1000),
        set_one, e2, over_P (by decide : 0 < 2) (by omega : (can (r + x / r)).length ≤ 900) l2, over_F (by decide : 0 < 2) (by omega : (can (r + x / r)).length ≤ 900) l2, cmp_P hnl, cmp_F hnl, text_P false (by omega : (can r).length ≤ 1000), text_F false (by omega : (can r).length ≤ 1000)]
      by_cases h : r ≤ (r + x / r) / 2
      · have e3 : decide (sgn (((r + x / r) / 2 : Nat) : Int) (r : Int) ≥ 0) = true := decide_eq_true (by unfold sgn; rw [if_neg (by omega)]; split <;> omega)
        rw [if_pos h, e3]; rfl
      · have e3 : decide (sgn (((r + x / r) / 2 : Nat) : Int) (r : Int) ≥ 0) = false := decide_eq_false (by unfold sgn; rw [if_pos (by omega)]; omega)
        rw [if_neg h, e3]; rfl
    by_cases h : r ≤ (r + x / r) / 2
    · rw [if_pos h] at hstep
      have h1 : r ≤ x / r := by omega
      have h2 : r * r ≤ x := (Nat.le_div_iff_mul_le hr).1 h1
      have h3 : r < lim := Nat.lt_of_le_of_lt (Nat.le_trans (Nat.le_mul_of_pos_left r hr) h2) hx
      refine ⟨r, h2, hlt, ?_⟩
      unfold L21_5
      rw [lim_end (r := fun s : List Int × Bool × List Int => L21_5_r s.1 s.2.1 s.2.2) hstep, res_small (by simpa using h3)]
    · rw [if_neg h] at hstep
      have hn0 : 0 < (r + x / r) / 2 := by
        apply Classical.byContradiction
        intro hc
        have h4 : r = 1 := by
          clear hstep
          generalize x / r = q at hc h
          omega
        subst h4
        simp only [Nat.div_one] at hc h
        omega
      obtain ⟨R, k1, k2, k3⟩ := ih ((r + x / r) / 2) (by omega) hn0 (by have := can_len_mono (Nat.le_of_lt (Nat.lt_of_not_le h)); omega) (newton hr)
      refine ⟨R, k1, k2, ?_⟩
      unfold L21_5 at k3 ⊢
      rw [lim_go (r := fun s : List Int × Bool × List Int => L21_5_r s.1 s.2.1 s.2.2) hstep]
      exact k3
theorem root_neg {x : Int} (hx : x.natAbs < lim) (h : x < 0) : G21 (Lib.itoa x) = some ([], 30) := by
  have h0 : (0 : Int).natAbs < lim := by decide
  have := itoa_0
  unfold G21
  rw [← itoa_0]
  simp only [both_P hx h0, both_F hx h0, cond_true, Bool.not_true, cond_false, decide_eq_true h]
theorem root_eq {x : Nat} (hx : x < lim) : ∃ R : Nat, R * R ≤ x ∧ x < (R + 1) * (R + 1) ∧ G21 (Lib.itoa (x : Int)) = some (Lib.itoa (R : Int), 0) := by
  have h0 : (0 : Int).natAbs < lim := by decide
  have hx' : ((x : Nat) : Int).natAbs < lim := by simpa using hx
  have lx := lim_can hx
  have hdn : decide (((x : Nat) : Int) < 0) = false := decide_eq_false (by omega)
  have hab : ((x : Nat) : Int).natAbs = x := by simp
  have e1 : IntKind.i64.wrap ((((can x).length : Nat) : Int) + 1) = (((can x).length + 1 : Nat) : Int) := by rw [wrapI (by omega) (by omega)]; rfl
  have e2 : IntKind.i64.wrap (Int.tdiv ((((can x).length + 1 : Nat)) : Int) 2) = ((((can x).length + 1) / 2 : Nat) : Int) := by
    rw [Int.tdiv_eq_ediv_of_nonneg (by omega), wrapI (by omega) (by omega)]; omega
  have e3 : (decide (0 ≤ ((((can x).length + 1) / 2 : Nat) : Int)) && decide (((((can x).length + 1) / 2 : Nat) : Int) ≤ ((((can x).length + 1) / 2 : Nat) : Int)) && decide (((((can x).length + 1) / 2 : Nat) : Int) ≤ 100000000000)) = true := by
    simp only [Bool.and_eq_true, decide_eq_true_eq]; omega
  have e4 : decide ((List.replicate (((can x).length + 1) / 2) (0 : Int)).length + List.length ([1] : List Int) ≤ 100000000000) = true := decide_eq_true (by simp; omega)
  by_cases hz : x = 0
  · subst hz
    refine ⟨0, by decide, by decide, ?_⟩
    unfold G21
    rw [← itoa_0]
    simp only [both_P hx' h0, both_F hx' h0, cond_true, Bool.not_true, cond_false, hdn, hab, e1, e2, e3, nn, set_one, List.take_length, e4, can_pow]
    have : L21_5 (can (10000 ^ (((can 0).length + 1) / 2)), false, can 0) = some (.inr (can (10000 ^ (((can 0).length + 1) / 2)), false, can 0)) := by
      unfold L21_5
      refine lim_end (r := fun s : List Int × Bool × List Int => L21_5_r s.1 s.2.1 s.2.2) ?_
      show L21_5_r (can (10000 ^ (((can 0).length + 1) / 2))) false (can 0) = _
      unfold L21_5_r
      rw [can_zero]; rfl
    rw [this]; rfl
  · have hlen : x < (10000 ^ (((can x).length + 1) / 2) + 1) * (10000 ^ (((can x).length + 1) / 2) + 1) := by
      have h1 := can_len_lt (Nat.le_refl (can x).length)
      have h2 : 10000 ^ (can x).length ≤ 10000 ^ (((can x).length + 1) / 2 + ((can x).length + 1) / 2) := Nat.pow_le_pow_right (by decide) (by omega)
      rw [Nat.pow_add] at h2
      have h3 : 10000 ^ (((can x).length + 1) / 2) * 10000 ^ (((can x).length + 1) / 2) ≤ (10000 ^ (((can x).length + 1) / 2) + 1) * (10000 ^ (((can x).length + 1) / 2) + 1) := Nat.mul_le_mul (Nat.le_succ _) (Nat.le_succ _)
      omega
    obtain ⟨R, k1, k2, k3⟩ := root_loop (by omega) hx false (10000 ^ (((can x).length + 1) / 2)) (Nat.pow_pos (by decide)) (by
      rw [← can_pow]; simp; omega) hlen
    refine ⟨R, k1, k2, ?_⟩
    unfold G21
    rw [← itoa_0]
    simp only [both_P hx' h0, both_F hx' h0, cond_true, Bool.not_true, cond_false, hdn, hab, e1, e2, e3, nn, set_one, List.take_length, e4, can_pow, k3, Option.bind_some]
end Go.Ev.I

namespace Go.Ev.I
open Go Go.Proofs Go.Ev
def Dig10 (l : List Int) : Prop := ∀ d ∈ l, 0 ≤ d ∧ d < 10
theorem trim10 : ∀ (n : Nat) (l : List Int), l.length = n → l.length ≤ 1000000 → Dig10 l → ∃ l', L37_1 l = some l' ∧ Dig10 l' ∧ l'.length ≤ l.length ∧ ∀ d, l'.getLast? = some d → d ≠ 0 := by
  intro n
  induction n with
  | zero =>
    intro l hl _ _
    have : l = [] := List.eq_nil_of_length_eq_zero hl
    subst this
    refine ⟨[], ?_, fun d hd => by simp at hd, Nat.le_refl _, fun d hd => by simp at hd⟩
    unfold L37_1
    refine lim_end (r := fun s => L37_1_r s) ?_
    show L37_1_r [] = _
    have e : IntKind.i64.wrap (((List.length ([] : List Int) : Nat) : Int) - 1) = -1 := wrapI (by decide) (by decide)
    unfold L37_1_r
    simp only [e]
    simp
  | succ n ih =>
    intro l hl hb hd
    obtain ⟨l', d, rfl⟩ := (List.eq_nil_or_concat l).resolve_left (fun h => by subst h; simp at hl)
    rw [List.concat_eq_append] at *
    have hlen : l'.length = n := by simpa using hl
    have hb' : l'.length ≤ 1000000 := by rw [List.length_append] at hb; omega
    have e : IntKind.i64.wrap (((List.length (l' ++ [d]) : Nat) : Int) - 1) = (l'.length : Int) := by
      rw [List.length_append, show ((l'.length + [d].length : Nat) : Int) - 1 = (l'.length : Int) by simp]
      exact wrapI (by omega) (by omega)
    have e0 : decide (((List.length (l' ++ [d]) : Nat) : Int) > 0) = true := by simp only [decide_eq_true_eq, List.length_append, List.length_cons, List.length_nil]; omega
    have e1 : (decide (0 ≤ (l'.length : Int)) && decide ((l'.length : Int) < ((List.length (l' ++ [d]) : Nat) : Int))) = true := by simp only [Bool.and_eq_true, decide_eq_true_eq, List.length_append, List.length_cons, List.length_nil]; omega
    have e2 : List.getD (l' ++ [d]) (Int.toNat (l'.length : Int)) 0 = d := by simp [List.getD_eq_getElem?_getD]
    have e3 : sliceTest 0 (l'.length : Int) (((l' ++ [d]).length : Nat) : Int) = true := by simp [sliceTest]; omega
    have hrun : L37_1_r (l' ++ [d]) = if d = 0 then some (.inl l') else some (.inr (l' ++ [d])) := by
      unfold L37_1_r
      simp only [e, e0, e1, e2, e3, cut_pre, Bool.true_or, cond_true]
      by_cases h : d = 0
      · subst h; rfl
      · rw [show (d == 0) = false by simpa using h, if_neg h]; rfl
    unfold L37_1 at *
    by_cases h : d = 0
    · subst h
      rw [if_pos rfl] at hrun
      obtain ⟨l2, h1, h2, h3, h4⟩ := ih l' hlen hb' (fun x hx => hd x (by simp [hx]))
      exact ⟨l2, by rw [lim_go (r := fun s => L37_1_r s) hrun, h1], h2, by simp; omega, h4⟩
    · rw [if_neg h] at hrun
      exact ⟨_, lim_end (r := fun s => L37_1_r s) hrun, hd, Nat.le_refl _, fun x hx => by simp at hx; subst hx; exact h⟩
/-- The digits as bytes, the highest one first. -/
def dig10 (l : List Int) : Str := l.reverse.map fun d => ch d.toNat
theorem text_loop {l : List Int} (hl : Dig10 l) (lb : l.length ≤ 1000000) : ∀ (k : Nat) (acc : List Int), k ≤ l.length → acc.length + k ≤ 2000000 → L36_7 (l, acc, (k : Int) - 1) = some (l, acc ++ (l.take k).reverse.map (48 + ·), -1)
  | 0, acc, _, _ => by
    unfold L36_7
    refine lim_end (r := fun s : List Int × List Int × Int => L36_7_r s.1 s.2.1 s.2.2) ?_
    show L36_7_r l acc (-1) = _
    unfold L36_7_r
    simp
  | k + 1, acc, hk, hs => by
    have hd := hl (l.getD k 0) (by rw [List.getD_eq_getElem?_getD, List.getElem?_eq_getElem (by omega : k < l.length)]; simp)
    have e0 : decide (((k : Nat) : Int) ≥ 0) = true := decide_eq_true (by omega)
    have e1 : decide (((k : Nat) : Int) < (l.length : Int)) = true := decide_eq_true (by omega)
    have e2 : IntKind.i64.wrap (48 + l.getD k 0) = 48 + l.getD k 0 := wrapI (by omega) (by omega)
    have e3 : IntKind.u8.wrap (48 + l.getD k 0) = 48 + l.getD k 0 := by
      simp only [IntKind.wrap, IntKind.bits, IntKind.signed]
      have : (48 + l.getD k 0) % (2 ^ 8 : Int) = 48 + l.getD k 0 := by omega
      simp only [this]
      simp
    have e4 : IntKind.i64.wrap (((k : Nat) : Int) - 1) = ((k : Nat) : Int) - 1 := wrapI (by omega) (by omega)
    have e5 : decide (acc.length + List.length ([48 + l.getD k 0] : List Int) ≤ 100000000000) = true := decide_eq_true (by simp; omega)
    have hr : L36_7_r l acc ((k : Nat) : Int) = some (.inl (l, acc ++ [48 + l.getD k 0], ((k : Nat) : Int) - 1)) := by
      unfold L36_7_r
      simp only [e0, cond_true, show decide (0 ≤ ((k : Nat) : Int)) = true from e0, e1, Bool.and_self, nn, e2, e3, e4, set_one, List.take_length, e5]
    have ih := text_loop hl lb k (acc ++ [48 + l.getD k 0]) (by omega) (by simp; omega)
    unfold L36_7 at ih ⊢
    rw [show (((k + 1 : Nat)) : Int) - 1 = ((k : Nat) : Int) by omega, lim_go (r := fun s : List Int × List Int × Int => L36_7_r s.1 s.2.1 s.2.2) hr, ih]
    have ht : l.take (k + 1) = l.take k ++ [l.getD k 0] := by
      rw [List.take_add_one, List.getElem?_eq_getElem (by omega : k < l.length)]
      simp [List.getD_eq_getElem?_getD, List.getElem?_eq_getElem (by omega : k < l.length)]
    rw [ht, List.reverse_append, List.map_append, ← List.append_assoc]
    rfl
theorem text10 {l : List Int} (b : Bool) (hl : Dig10 l) (lb : l.length ≤ 1000000) (h0 : l ≠ []) : ∃ f, G36 b l = some ((bif b then [45] else []) ++ dig10 l, f) := by
  have hpos := List.length_pos_iff.2 h0
  have e0 : ((l.length : Int) == 0) = false := by simp only [beq_eq_false_iff_ne, ne_eq]; omega
  have e1 : IntKind.i64.wrap ((l.length : Int) - 1) = (l.length : Int) - 1 := wrapI (by omega) (by omega)
  have hm : (l.reverse.map (48 + ·)).map (fun n : Int => UInt8.ofNat n.toNat) = dig10 l := by
    unfold dig10
    rw [List.map_map]
    refine List.map_congr_left fun d hd => ?_
    have := hl d (List.mem_reverse.1 hd)
    show UInt8.ofNat (Int.toNat (48 + d)) = UInt8.ofNat (48 + d.toNat)
    congr 1; omega
  unfold G36
  simp only [e0, cond_false, e1]
  cases b with
  | true =>
    have := text_loop hl lb l.length [45] (Nat.le_refl _) (by simp; omega)
    rw [List.take_length] at this
    have e2 : decide (List.length (List.take (List.length ([] : List Int)) ([] : List Int)) + List.length ([45] : List Int) ≤ 100000000000) = true := by decide
    simp only [cond_true, set_one, e2, List.take_nil, List.nil_append, this, Option.bind_some, List.take_length, List.map_append, hm]
    exact ⟨_, rfl⟩
  | false =>
    have := text_loop hl lb l.length [] (Nat.le_refl _) (by simp; omega)
    rw [List.take_length] at this
    simp only [cond_false, this, Option.bind_some, List.take_length, List.nil_append, hm]
    exact ⟨_, rfl⟩
theorem text10_nil (b : Bool) : G36 b [] = some ([48], true) := by unfold G36; rfl
/-- **What a string determines is an integer of so many digits.** -/
theorem made_digits {s : Str} {n : Nat} (hs : s.length ≤ 140737488355328) (hn : n ≤ 1000) : ∃ l, L13_3 (s, (n : Int), [], 0) = some (s, (n : Int), l, ((min s.length n : Nat) : Int)) ∧ Dig10 l ∧ l.length ≤ n := by
  let f : Nat → Int := fun i => (((s.getD i 0).toNat % 10 : Nat) : Int)
  let st : Nat → Str × Int × List Int × Int := fun i => (s, (n : Int), (List.range i).map f, (i : Int))
  have key := lim_inv (r := fun s : Str × Int × List Int × Int => L13_3_r s.1 s.2.1 s.2.2.1 s.2.2.2) st (s, (n : Int), (List.range (min s.length n)).map f, ((min s.length n : Nat) : Int)) (min s.length n) (fun i hi => by
    show L13_3_r s (n : Int) ((List.range i).map f) (i : Int) = some (.inl (s, (n : Int), (List.range (i + 1)).map f, ((i + 1 : Nat) : Int)))
    have hlt : (s.getD i 0).toNat < 256 := UInt8.toNat_lt _
    have e0 : (bif decide ((i : Int) < (s.length : Int)) then decide ((i : Int) < (n : Int)) else false) = true := by
      rw [decide_eq_true (by omega), decide_eq_true (by omega)]; rfl
    have e1 : (decide (0 ≤ (i : Int)) && decide ((i : Int) < (s.length : Int))) = true := by simp only [Bool.and_eq_true, decide_eq_true_eq]; omega
    have e2 : IntKind.i64.wrap (((s.getD i 0).toNat : Nat) : Int) = (((s.getD i 0).toNat : Nat) : Int) := wrapI (by omega) (by omega)
    have e3 : Int.tmod (((s.getD i 0).toNat : Nat) : Int) 10 = f i := by
      rw [Int.tmod_eq_emod_of_nonneg (by omega)]
      simp only [f]; omega
    have e4 : decide (((List.range i).map f).length + List.length ([f i] : List Int) ≤ 100000000000) = true := decide_eq_true (by simp; omega)
    have e5 : IntKind.i64.wrap ((i : Int) + 1) = ((i + 1 : Nat) : Int) := by rw [wrapI (by omega) (by omega)]; rfl
    unfold L13_3_r
    simp only [e0, cond_true, e1, nn, e2, e3, set_one, List.take_length, e4, e5, List.range_succ, List.map_append, List.map_cons, List.map_nil]) (by
    show L13_3_r s (n : Int) ((List.range (min s.length n)).map f) ((min s.length n : Nat) : Int) = _
    have e0 : (bif decide (((min s.length n : Nat) : Int) < (s.length : Int)) then decide (((min s.length n : Nat) : Int) < (n : Int)) else false) = false := by
      by_cases h : s.length ≤ n
      · rw [decide_eq_false (by omega)]; rfl
      · rw [decide_eq_true (by omega), decide_eq_false (by omega)]; rfl
    unfold L13_3_r
    simp only [e0, cond_false]) 0 (Nat.zero_le _)
  refine ⟨_, key, fun d hd => ?_, by simp; omega⟩
  obtain ⟨i, _, rfl⟩ := List.mem_map.1 hd
  simp only [f]; omega
theorem made {s : Str} {n : Nat} (hs : s.length ≤ 140737488355328) (hn : n ≤ 1000) (h0 : 0 < n) : ∃ z : Int, G13 s (n : Int) = some (Lib.itoa z) ∧ z.natAbs < 10 ^ n := by
  obtain ⟨l, h1, h2, h3⟩ := made_digits hs hn
  obtain ⟨l', k1, k2, k3, k4⟩ := trim10 _ l rfl (by omega) h2
  have g37 : G37 l = some l' := by unfold G37; rw [k1]; rfl
  have hP := P37_of _ g37
  have hF := F37_of _ g37
  have run : ∀ (b : Bool) (t : Str) (f : Bool), (bif decide ((s.length : Int) > 0) then decide ((((s.getD 0 0).toNat : Nat) : Int) ≥ 128) else false) = b → G36 b l' = some (t, f) → G13 s (n : Int) = some t := by
    intro b t f hb ht
    have e0 : ((decide (0 ≤ (0 : Int)) && decide ((0 : Int) < (s.length : Int))) || !(decide ((s.length : Int) > 0) && true)) = true := by
      by_cases h : (s.length : Int) > 0
      · rw [decide_eq_true h]; rfl
      · rw [decide_eq_false h]; simp
    unfold G13
    simp only [h1, Option.bind_some, e0, cond_true, show Int.toNat 0 = 0 from rfl, hb, List.take_length, hP, hF, P36_of _ _ ht, F36_of _ _ ht]
  generalize hb : (bif decide ((s.length : Int) > 0) then decide ((((s.getD 0 0).toNat : Nat) : Int) ≥ 128) else false) = b at run
  by_cases hne : l' = []
  · subst hne
    refine ⟨0, ?_, Nat.pow_pos (by decide)⟩
    rw [itoa_0]
    exact run b [48] true rfl (text10_nil b)
  · obtain ⟨f, ht⟩ := text10 b k2 (by omega) hne
    have hall : AllD (dig10 l') := fun c hc => by
      obtain ⟨d, hd, rfl⟩ := List.mem_map.1 hc
      have := k2 d (List.mem_reverse.1 hd)
      rw [ch_nat (by omega)]; omega
    have hlen : (dig10 l').length = l'.length := by simp [dig10]
    have hhead : ∀ c r, dig10 l' = c :: r → c.toNat ≠ 48 := fun c r hc => by
      obtain ⟨m, d, rfl⟩ := (List.eq_nil_or_concat l').resolve_left hne
      rw [List.concat_eq_append] at *
      have hd := k2 d (by simp)
      have hd0 := k4 d (by simp)
      simp only [dig10, List.reverse_append, List.reverse_cons, List.reverse_nil, List.nil_append, List.cons_append, List.map_cons, List.cons.injEq] at hc
      rw [← hc.1, ch_nat (by omega)]; omega
    obtain ⟨q1, q2⟩ := dd_of _ (dig10 l') rfl hall hhead (fun h => by rw [h] at hlen; exact hne (List.eq_nil_of_length_eq_zero hlen.symm))
    have hlt : decF 0 (dig10 l') < 10 ^ n := dd_len_ge _ _ (by rw [← q2, hlen]; omega)
    generalize decF 0 (dig10 l') = N at q1 q2 hlt
    rw [q2] at ht
    cases b with
    | true => exact ⟨-(N : Int), by rw [itoa_neg q1]; exact run true _ f rfl ht, by simpa using hlt⟩
    | false => exact ⟨(N : Int), by rw [itoa_nat]; exact run false _ f rfl ht, by simpa using hlt⟩
end Go.Ev.I

namespace Go.Ev.I
open Go Go.Proofs Go.Ev
abbrev it (z : Int) : Str := Lib.itoa z
/-- So many digits. -/
def B (k : Nat) (z : Int) : Prop := z.natAbs < 10 ^ k
theorem B.mono {j k : Nat} {z : Int} (h : B j z) (hk : j ≤ k) : B k z := Nat.lt_of_lt_of_le h (Nat.pow_le_pow_right (by decide) hk)
theorem B.lim {k : Nat} {z : Int} (h : B k z) (hk : k ≤ 200) : z.natAbs < lim := h.mono hk
theorem B.add {j k : Nat} {x y : Int} (hx : B j x) (hy : B k y) (l : Nat) (hj : j < l) (hk : k < l) : B l (x + y) := by
  match l, hj, hk with
  | l + 1, hj, hk =>
    have h1 := hx.mono (by omega : j ≤ l)
    have h2 := hy.mono (by omega : k ≤ l)
    unfold B at *
    rw [Nat.pow_succ]; omega
theorem B.neg {k : Nat} {x : Int} (h : B k x) : B k (-x) := by unfold B at *; simpa using h
theorem B.sub {j k : Nat} {x y : Int} (hx : B j x) (hy : B k y) (l : Nat) (hj : j < l) (hk : k < l) : B l (x - y) := hx.add hy.neg l hj hk
theorem B.mul {j k : Nat} {x y : Int} (hx : B j x) (hy : B k y) : B (j + k) (x * y) := by
  unfold B at *
  rw [Int.natAbs_mul, Nat.pow_add]
  exact Nat.mul_lt_mul'' hx hy
theorem B.one : B 1 1 := by unfold B; decide
theorem B.zero : B 0 0 := by unfold B; decide
theorem it0 : ([48] : Str) = it 0 := itoa_0.symm
theorem it1 : ([49] : Str) = it 1 := by decide +kernel
theorem addR {j k : Nat} {x y : Int} (hx : B j x) (hy : B k y) (hj : j < 200) (hk : k < 200) : P14 (it x) (it y) = true ∧ F14 (it x) (it y) = (it (x + y), 0) := by
  have h := add_eq (hx.lim (by omega)) (hy.lim (by omega))
  rw [res_small ((hx.add hy 200 hj hk).lim (Nat.le_refl _))] at h
  exact ⟨P14_of _ _ h, F14_of _ _ h⟩
theorem subR {j k : Nat} {x y : Int} (hx : B j x) (hy : B k y) (hj : j < 200) (hk : k < 200) : P16 (it x) (it y) = true ∧ F16 (it x) (it y) = (it (x - y), 0) := by
  have h := sub_eq (hx.lim (by omega)) (hy.lim (by omega))
  rw [res_small ((hx.sub hy 200 hj hk).lim (Nat.le_refl _))] at h
  exact ⟨P16_of _ _ h, F16_of _ _ h⟩
theorem mulR {j k : Nat} {x y : Int} (hx : B j x) (hy : B k y) (h : j + k ≤ 200) : P15 (it x) (it y) = true ∧ F15 (it x) (it y) = (it (x * y), 0) := by
  have h1 := mul_eq (hx.lim (by omega)) (hy.lim (by omega))
  rw [res_small ((hx.mul hy).lim h)] at h1
  exact ⟨P15_of _ _ h1, F15_of _ _ h1⟩
theorem divR {j k : Nat} {x y : Int} (hx : B j x) (hy : B k y) (hj : j ≤ 200) (hk : k ≤ 200) (h0 : y ≠ 0) : P17 (it x) (it y) = true ∧ F17 (it x) (it y) = (it (x / y), (it (x % y), 0)) := by
  have h := div_eq (hx.lim hj) (hy.lim hk) h0
  exact ⟨P17_of _ _ h, F17_of _ _ h⟩
theorem gcdR {j k : Nat} {x y : Int} (hx : B j x) (hy : B k y) (hj : j ≤ 200) (hk : k ≤ 200) : P20 (it x) (it y) = true ∧ F20 (it x) (it y) = (it (Int.gcd x y : Int), 0) := by
  have h := gcd_eq (hx.lim hj) (hy.lim hk)
  exact ⟨P20_of _ _ h, F20_of _ _ h⟩
theorem cmpR {j k : Nat} {x y : Int} (hx : B j x) (hy : B k y) (hj : j ≤ 200) (hk : k ≤ 200) : P18 (it x) (it y) = true ∧ F18 (it x) (it y) = sgn x y := by
  have h := compare_eq (hx.lim hj) (hy.lim hk)
  exact ⟨P18_of _ _ h, F18_of _ _ h⟩
theorem validR {s : Str} (h : s.length ≤ 140737488355328) : P19 s = true ∧ F19 s = ok47 s := by
  have : G19 s = some (ok47 s) := by unfold G19; simp only [P47_eq h, F47_eq h, cond_true]
  exact ⟨P19_of _ this, F19_of _ this⟩
theorem beq_it {a b : Int} (h : a = b) : (it a == it b) = true := by subst h; simp
theorem root99 : G21 (it 99) = some (it 9, 0) := by
  obtain ⟨R, h1, h2, h3⟩ := root_eq (x := 99) (by decide)
  have : R = 9 := by
    have a : R < 10 := by
      apply Classical.byContradiction
      intro h
      have := Nat.mul_le_mul (Nat.le_of_not_lt h) (Nat.le_of_not_lt h)
      omega
    have b : 9 ≤ R := by
      apply Classical.byContradiction
      intro h
      have := Nat.mul_le_mul (by omega : R + 1 ≤ 9) (by omega : R + 1 ≤ 9)
      omega
    omega
  subst this
  exact h3
theorem sane_eq : G12 = some true := by
  have bb : ∀ z : Int, z.natAbs < 100000 → B 5 z := fun z h => h
  have a1 := addR (bb 999 (by decide)) (bb 1 (by decide)) (by decide) (by decide)
  have a2 := subR (bb 1 (by decide)) (bb 1000 (by decide)) (by decide) (by decide)
  have a3 := mulR (bb (-12) (by decide)) (bb 12 (by decide)) (by decide)
  have a4 := divR (bb (-7) (by decide)) (bb 2 (by decide)) (by decide) (by decide) (by decide)
  have a5 := divR (bb (-7) (by decide)) (bb (-2) (by decide)) (by decide) (by decide) (by decide)
  have a6 := gcdR (bb 12 (by decide)) (bb (-18) (by decide)) (by decide) (by decide)
  have a8 := root_neg (x := -1) (by decide) (by decide)
  have a9 : G14 [48, 48, 55] [49] = some ([], 30) := by
    have h := G38_no (s := [48, 48, 55]) (t := [49]) (by decide) (by decide) (.inl (by decide +kernel))
    unfold G14
    simp only [P38_of _ _ h, F38_of _ _ h, cond_true, Bool.not_false]
  have c1 := cmpR (bb (-8) (by decide)) (bb (-7) (by decide)) (by decide) (by decide)
  have v1 := validR (s := [45, 55]) (by decide)
  have v2 := validR (s := [45, 48]) (by decide)
  have v3 := validR (s := []) (by decide)
  have i1 : it 999 = [57, 57, 57] := by decide +kernel
  have i2 : it 1000 = [49, 48, 48, 48] := by decide +kernel
  have i3 : it (-12) = [45, 49, 50] := by decide +kernel
  have i4 : it 12 = [49, 50] := by decide +kernel
  have i5 : it (-7) = [45, 55] := by decide +kernel
  have i6 : it 2 = [50] := by decide +kernel
  have i7 : it (-2) = [45, 50] := by decide +kernel
  have i8 : it (-18) = [45, 49, 56] := by decide +kernel
  have i9 : it 99 = [57, 57] := by decide +kernel
  have i10 : it (-1) = [45, 49] := by decide +kernel
  have i11 : it 9 = [57] := by decide +kernel
  have i12 : it (-8) = [45, 56] := by decide +kernel
  have i13 : it 1 = [49] := by decide +kernel
  have i14 : it (999 + 1) = [49, 48, 48, 48] := by decide +kernel
  have i15 : it (1 - 1000) = [45, 57, 57, 57] := by decide +kernel
  have i16 : it (-12 * 12) = [45, 49, 52, 52] := by decide +kernel
  have i17 : it (-7 / 2) = [45, 52] := by decide +kernel
  have i18 : it (-7 % 2) = [49] := by decide +kernel
  have i19 : it (-7 / -2) = [52] := by decide +kernel
  have i20 : it (-7 % -2) = [49] := by decide +kernel
  have i21 : it (Int.gcd 12 (-18) : Int) = [54] := by decide +kernel
  have r9 := root99
  simp only [i1, i2, i3, i4, i5, i6, i7, i8, i9, i10, i11, i12, i13, i14, i15, i16, i17, i18, i19, i20, i21] at a1 a2 a3 a4 a5 a6 a8 c1 r9
  have w1 : ok47 [45, 55] = true := by decide +kernel
  have w2 : ok47 [45, 48] = false := by decide +kernel
  have w3 : ok47 [] = false := by decide +kernel
  unfold G12
  simp only [a1.1, a1.2, a2.1, a2.2, a3.1, a3.2, a4.1, a4.2, a5.1, a5.2, a6.1, a6.2, P21_of _ r9, F21_of _ r9, P21_of _ a8, F21_of _ a8, P14_of _ _ a9, F14_of _ _ a9, c1.1, c1.2, v1.1, v1.2, v2.1, v2.2, v3.1, v3.2, w1, w2, w3, cond_true, Bool.true_or]
  decide
theorem sane_P : P12 = true := P12_of sane_eq
theorem sane_F : F12 = true := F12_of sane_eq
end Go.Ev.I

namespace Go.Ev.I
open Go Go.Proofs Go.Ev
/-! ### The order -/
/-! ### The machine's numbers -/
end Go.Ev.I

namespace Go.Ev.I
open Go Go.Proofs Go.Ev
/-! ### The root -/
theorem sq_root (x : Int) {k : Nat} (hx : B k x) (hk : k + k ≤ 200) : G21 (it (x * x)) = some (it (x.natAbs : Int), 0) := by
  have hsq : x * x = ((x.natAbs * x.natAbs : Nat) : Int) := (Int.natAbs_mul_self' x).symm.trans (by simp)
  have hl : x.natAbs * x.natAbs < lim := by
    have := (hx.mul hx).lim hk
    rwa [Int.natAbs_mul] at this
  obtain ⟨R, h1, h2, h3⟩ := root_eq hl
  have : R = x.natAbs := by
    apply Nat.le_antisymm
    · apply Classical.byContradiction
      intro h
      have := Nat.mul_le_mul (by omega : x.natAbs + 1 ≤ R) (by omega : x.natAbs + 1 ≤ R)
      have e : (x.natAbs + 1) * (x.natAbs + 1) = x.natAbs * x.natAbs + x.natAbs + x.natAbs + 1 := by rw [Nat.add_mul, Nat.mul_add]; omega
      omega
    · apply Classical.byContradiction
      intro h
      have := Nat.mul_le_mul (by omega : R + 1 ≤ x.natAbs) (by omega : R + 1 ≤ x.natAbs)
      omega
  subst this
  rw [hsq]
  exact h3
theorem root_law (a : Str) (ga : a.length ≤ 140737488355328) : G6 a = some true := by
  obtain ⟨x, hx, bx⟩ := made (n := 80) ga (by decide) (by decide)
  replace bx : B 80 x := bx
  have babs : B 80 (x.natAbs : Int) := by unfold B at *; simpa using bx
  have m1 := mulR bx bx (by decide)
  have r1 := sq_root x bx (by decide)
  have a1 := addR babs bx (by decide) (by decide)
  have c1 := cmpR bx B.zero (by decide) (by decide)
  unfold G6
  simp only [sane_P, sane_F, show ((80 : Nat) : Int) = 80 from rfl] at *
  simp only [P13_of _ _ hx, F13_of _ _ hx, m1.1, m1.2, P21_of _ r1, F21_of _ r1, a1.1, a1.2, cond_true]
  by_cases hn : x < 0
  · have r2 : G21 (it x) = some ([], 30) := root_neg (bx.lim (by decide)) hn
    have e1 : (it ((x.natAbs : Int) + x) == it 0) = true := beq_it (by omega)
    have g1 : decide (sgn x 0 < 0) = true := decide_eq_true (by unfold sgn; rw [if_pos hn]; omega)
    simp only [P21_of _ r2, F21_of _ r2, it0, c1.1, c1.2, e1, g1, cond_true, bne_self_eq_false, cond_false, Bool.not_true]
    cases (it (x.natAbs : Int) == it x) <;> rfl
  · obtain ⟨n, rfl⟩ := Int.eq_ofNat_of_zero_le (by omega : 0 ≤ x)
    have hl : n < lim := by have := bx.lim (by decide); simpa using this
    obtain ⟨R, k1, k2, k3⟩ := root_eq hl
    have hRn : R ≤ n := Nat.le_trans (by cases R with | zero => exact Nat.le_refl _ | succ R => exact Nat.le_mul_of_pos_left _ (by omega)) k1
    have bR : B 80 (R : Int) := by
      unfold B at *
      rw [Int.natAbs_natCast] at *
      omega
    have m2 := mulR bR bR (by decide)
    have a2 := addR bR B.one (by decide) (by decide)
    have b2 := bR.add B.one 81 (by decide) (by decide)
    have m3 := mulR b2 b2 (by decide)
    have c2 := cmpR (bR.mul bR) bx (by decide) (by decide)
    have c3 := cmpR (b2.mul b2) bx (by decide) (by decide)
    have e1 : (it (((n : Int).natAbs : Nat) : Int) == it (n : Int)) = true := beq_it (by simp)
    have g1 : decide (sgn (n : Int) 0 < 0) = false := decide_eq_false (by unfold sgn; rw [if_neg hn]; split <;> omega)
    have k1' : (R : Int) * (R : Int) ≤ (n : Int) := by have : ((R * R : Nat) : Int) ≤ (n : Int) := Int.ofNat_le.2 k1; simpa using this
    have k2' : (n : Int) < ((R : Int) + 1) * ((R : Int) + 1) := by have : (n : Int) < (((R + 1) * (R + 1) : Nat) : Int) := Int.ofNat_lt.2 k2; simpa using this
    have g2 : decide (sgn ((R : Int) * (R : Int)) (n : Int) ≤ 0) = true := decide_eq_true (by unfold sgn; split <;> (try split) <;> omega)
    have g3 : decide (sgn (((R : Int) + 1) * ((R : Int) + 1)) (n : Int) > 0) = true := decide_eq_true (by unfold sgn; rw [if_neg (by omega), if_pos (by omega)]; omega)
    simp only [P21_of _ k3, F21_of _ k3, it0, it1, c1.1, c1.2, e1, g1, m2.1, m2.2, a2.1, a2.2, m3.1, m3.2, c2.1, c2.2, c3.1, c3.2, g2, g3, cond_true, bne_self_eq_false, cond_false, Bool.not_true, Bool.true_or, beq_self_eq_true]
theorem IntegerRoot_pure (x0 : Str) (g0 : x0.length ≤ 140737488351232) : G6 x0 = some true := root_law x0 (by omega)
end Go.Ev.I

namespace Go.Ev.I
open Go Go.Proofs Go.Ev
open Go.Proofs.YtgjmlbldmmedgaaGreatDoor.Rows in
abbrev laidL : List (String × DataW Unit) := [("math/bits.deBruijn32tab", laid_math_bits_deBruijn32tab), ("math/bits.deBruijn64tab", laid_math_bits_deBruijn64tab), ("internal/strconv.uint64pow10", laid_internal_strconv_uint64pow10), ("unicode/utf8.acceptRanges", laid_unicode_utf8_acceptRanges), ("strconv.ErrRange", laid_strconv_ErrRange), ("strconv.ErrSyntax", laid_strconv_ErrSyntax), ("unicode/utf8.first", laid_unicode_utf8_first)]
theorem of_var {P : Program} {W : World} {n : String} {g : Nat} {cs : Array Value} (hg : P.globalNamed n = some g) (hv : W.var? P n = some cs) : (∃ e fz, W.heap[g]? = some (.cells cs e fz)) := by
  simp only [World.var?, hg, Option.bind_some] at hv
  split at hv
  · rename_i cs' e fz h
    cases hv
    exact ⟨e, fz, h⟩
  · cases hv
theorem whole_of {P : Program} {W : World} {n : String} {g : Nat} {cs : List Value} (hg : P.globalNamed n = some g) (hv : W.var? P n = some cs.toArray) : g < W.heap.size ∧ Whole W g cs := by
  obtain ⟨e, fz, h⟩ := of_var hg hv
  refine ⟨(Array.getElem?_eq_some_iff.1 h).1, fun j hj => ?_, fun _ => ⟨_, _, _, h, rfl⟩⟩
  rw [World.var?_cell hg hv, Nat.zero_add]
  simp [hj]
theorem star_eq : "*" ++ "errors.errorString" = "*errors.errorString" := by decide
theorem row135 (u : TypeId) (h : Tryz.prog.typeName? 3 u = some "*errors.errorString") : u = 135 :=
  typeName_ptr_named (nm := "errors.errorString") (by rw [star_eq]; kernel_rfl) (by kernel_rfl) (by decide) u (by rw [star_eq]; exact h)
theorem err_of {W : World} {n : String} {g : Nat} {text : List UInt8} {r : List (String × DataW Unit)} (hg : Tryz.prog.globalNamed n = some g) (ht : (Tryz.prog.globals[g]?).map (·.type) = some 69) (h : laidMet Tryz.prog ((n, .iface "*errors.errorString" (.ptr (.agg [.lit (.string text)]))) :: r) W) :
    ∃ cs, RV (fun b => b < W.heap.size) W .err true cs ∧ (cs ≠ [] → g < W.heap.size) ∧ Whole W g cs := by
  obtain ⟨a, _, hv, _, _, _⟩ := laid_sentinel (tp := 135) h hg ht Tryz.underlying69 row135 Tryz.underlying135 Tryz.underlying137 rfl rfl Tryz.underlying9 (by kernel_rfl) (by kernel_rfl)
  obtain ⟨h1, h2⟩ := whole_of (cs := [.iface 135 (.pointer (some a))]) hg hv
  exact ⟨_, ⟨fun h => (by cases h), fun _ => ⟨_, _, rfl⟩⟩, fun _ => h1, h2⟩
theorem rows_of_ints {Pr : Nat → Prop} {w : World} {k : IntKind} : ∀ (xs : List Int), Rows (RV Pr w (.int k)) xs (xs.map fun n => Value.int k n)
  | [] => .nil
  | x :: xs => .cons (c := [Value.int k x]) rfl (rows_of_ints xs)
theorem globs_of_laid {W : World} (h : laidMetH Tryz.prog laidL W) : GlobR glob (fun b => b < W.heap.size) W := by
  rw [MakeChecks.laidMetH_plain _ _ _ (by kernel_rfl)] at h
  intro k d hk
  match k, hk with
  | 0, hk =>
    cases hk
    exact err_of (by kernel_rfl) (by kernel_rfl) h.tail.tail.tail.tail.tail
  | 1, hk =>
    cases hk
    exact err_of (by kernel_rfl) (by kernel_rfl) h.tail.tail.tail.tail
  | 2, hk =>
    cases hk
    have ht := Lib.tabIs_of_head (P := Tryz.prog) (k := .u64) (zs := pow10K) (g := 2) (t := 139) (e := 112) (n := 20) (by kernel_rfl) (by kernel_rfl) Tryz.underlying139 Tryz.underlying112 (by kernel_rfl) (by kernel_rfl) h.tail.tail
    obtain ⟨h1, h2⟩ := whole_of (show Tryz.prog.globalNamed "internal/strconv.uint64pow10" = some 2 by kernel_rfl) ht
    exact ⟨_, ⟨rfl, rows_of_ints _⟩, fun _ => h1, h2⟩
  | _ + 3, hk => simp [glob] at hk
end Go.Ev.I
