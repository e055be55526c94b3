/- The book: the reference's Balance, Statement, Owed (22, 20, 25). -/
import Derived.Test.YtohcmlejdglimaaBF
set_option linter.unusedSimpArgs false
set_option linter.unusedVariables false
namespace Go.Ev.B
open Go Go.Ev
theorem sel_app (f : Nat → Po → Bool) (p : Po) : ∀ (l : List Po) (i : Nat), sel f i (l ++ [p]) = sel f i l ++ bif f (i + l.length) p then [p] else [] := by
  intro l; induction l with
  | nil => intro i; simp only [List.nil_append, sel, List.length_nil, Nat.add_zero]
  | cons q r ih =>
    intro i; simp only [List.cons_append, sel, ih, List.length_cons]
    rw [show i + 1 + r.length = i + (r.length + 1) by omega]
    cases f i q <;> simp
theorem sel_take (f : Nat → Po → Bool) {l : List Po} {i : Nat} (h : i < l.length) : sel f 0 (l.take (i + 1)) = sel f 0 (l.take i) ++ bif f i (l.getD i z26) then [l.getD i z26] else [] := by
  rw [← take_getD h, sel_app, len_take (by omega), Nat.zero_add]
theorem getD_mem {l : List Po} {i : Nat} (h : i < l.length) : l.getD i z26 ∈ l := by
  rw [List.getD_eq_getElem?_getD, List.getElem?_eq_getElem h]; exact List.getElem_mem h
theorem wsucc {i : Nat} (h : i ≤ 1000000000000000000) : IntKind.i64.wrap ((i : Int) + 1) = ((i + 1 : Nat) : Int) := by rw [wrapI (by omega) (by omega)]; omega
theorem L22_loop (x : Bk) (hx : valid x = true) (t : Nat) (m : Int) : L22_5 ((t : Int), m, 0, 0, x.1, x.2.1, x.2.2.1) = some ((t : Int), m, sumT t (sel (inM m) 0 x.2.1), (x.2.1.length : Int), x.1, x.2.1, x.2.2.1) := by
  have hle := valid_len hx
  have hok := valid_ok hx
  have h := lim_inv (r := fun s => L22_5_r s.1 s.2.1 s.2.2.1 s.2.2.2.1 s.2.2.2.2.1 s.2.2.2.2.2.1 s.2.2.2.2.2.2) (fun i => ((t : Int), m, sumT t (sel (inM m) 0 (x.2.1.take i)), (i : Int), x.1, x.2.1, x.2.2.1)) ((t : Int), m, sumT t (sel (inM m) 0 x.2.1), (x.2.1.length : Int), x.1, x.2.1, x.2.2.1) x.2.1.length ?_ ?_ 0 (by omega)
  · exact h
  · intro i hi
    simp only [L22_5_r]
    rw [show decide ((i : Int) < (x.2.1.length : Int)) = true by simpa using hi, show decide (0 ≤ (i : Int)) = true by simp, show ((i : Int)).toNat = i by simp, wsucc (by omega), sel_take _ hi]
    have hp := hok _ (getD_mem hi)
    generalize x.2.1.getD i z26 = p at hp
    have hb := sumT_bound (n := x.1.toNat) (t := t) (sel (inM m) 0 (x.2.1.take i)) (fun q hq => hok q (List.mem_of_mem_take (sel_mem hq)))
    have hs := sel_len (f := inM m) (l := x.2.1.take i) (i := 0)
    rw [len_take (by omega)] at hs
    obtain ⟨_, _, _, _, _, h6, h7⟩ := hp
    simp only [Bool.and_true, cond_true, bne]
    change (bif !(inM m i p) then _ else _) = _
    cases hm : inM m i p
    · simp
    · simp only [Bool.not_true, cond_false, cond_true, sumT_app, ent]
      generalize sumT t (sel (inM m) 0 (x.2.1.take i)) = S at hb
      by_cases e1 : p.2.2.2.1 = (t : Int)
      · have e2 : ¬ p.2.2.1 = (t : Int) := by omega
        rw [if_pos e1, if_neg e2, show (p.2.2.2.1 == (t : Int)) = true by simpa using e1, show (p.2.2.1 == (t : Int)) = false by simpa using e2]
        simp only [cond_true, cond_false]
        rw [wrapI (by omega) (by omega), show S + (p.2.2.2.2.1 - 0) = S + p.2.2.2.2.1 by omega]
      · rw [if_neg e1, show (p.2.2.2.1 == (t : Int)) = false by simpa using e1]
        by_cases e2 : p.2.2.1 = (t : Int)
        · rw [if_pos e2, show (p.2.2.1 == (t : Int)) = true by simpa using e2]
          simp only [cond_true, cond_false]
          rw [wrapI (by omega) (by omega), show S + (0 - p.2.2.2.2.1) = S - p.2.2.2.2.1 by omega]
        · rw [if_neg e2, show (p.2.2.1 == (t : Int)) = false by simpa using e2]
          simp only [cond_true, cond_false]
          rw [show S + (0 - 0) = S by omega]
  · simp only [L22_5_r]
    rw [show decide ((x.2.1.length : Int) < (x.2.1.length : Int)) = false by simp, List.take_length]; rfl
theorem G22_eq (x : Bk) (t m : Int) : G22 x t m = some (balM x t m) := by
  unfold G22
  simp only [bkEta, P12_eq, F12_eq, P30_eq, F30_eq, cond_true, Bool.true_or]
  cases hx : valid x
  · have : balM x t m = (0, 310) := by simp [balM, hx]
    rw [this]; rfl
  obtain ⟨hok, ⟨ha1, ha2⟩, _⟩ := valid_iff.mp hx
  rw [wrapI (n := x.1 - 1) (by omega) (by omega)]
  cases h1 : isIn t 0 (x.1 - 1)
  · have : balM x t m = (0, 310) := by simp [balM, h1]
    rw [this]; rfl
  cases h2 : isIn m 0 11
  · have : balM x t m = (0, 310) := by simp [balM, h2]
    rw [this]; rfl
  have : balM x t m = (sumT t.toNat (sel (inM m) 0 x.2.1), 0) := by simp [balM, hx, h1, h2]
  rw [this]
  have h3 := isIn_iff.mp h1
  have h := L22_loop x hx t.toNat m
  rw [Int.toNat_of_nonneg h3.1] at h
  simp only [Bool.not_true, cond_false, h, Option.bind_some]
theorem tabl_succ (n : Nat) (l : List Po) : tabl (n + 1) l = tabl n l ++ [sumT n l] := by simp [tabl, List.range_succ]
theorem G20_eq (x : Bk) (m : Int) : G20 x m = some (statM x m) := by
  unfold G20
  simp only [bkEta, P12_eq, F12_eq, cond_true]
  cases hx : valid x
  · have : statM x m = ([], 310) := by simp [statM, hx]
    rw [this]; rfl
  obtain ⟨hok, ⟨ha1, ha2⟩, _⟩ := valid_iff.mp hx
  simp only [Bool.not_true, cond_false]
  cases hm : isIn m 0 11
  · have e : statM x m = ([], 310) := by simp [statM, hm]
    have hb : balM x 0 m = (0, 310) := by simp [balM, hm]
    have h : L20_5 (m, [], 0, x.1, x.2.1, x.2.2.1) = some (.inl ([], 310)) := by
      refine lim_end ?_
      simp only [L20_5_r, bkEta, P22_of _ _ _ (G22_eq x 0 m), F22_of _ _ _ (G22_eq x 0 m), hb]
      rw [show decide (0 < x.1) = true by simp; omega]; rfl
    rw [h, e]; rfl
  · have e : statM x m = (tabl x.1.toNat (sel (inM m) 0 x.2.1), 0) := by simp [statM, hm, hx]
    have h := lim_inv (r := fun s => L20_5_r s.1 s.2.1 s.2.2.1 s.2.2.2.1 s.2.2.2.2.1 s.2.2.2.2.2) (fun i => (m, tabl i (sel (inM m) 0 x.2.1), (i : Int), x.1, x.2.1, x.2.2.1)) (.inr (m, tabl x.1.toNat (sel (inM m) 0 x.2.1), (x.1.toNat : Int), x.1, x.2.1, x.2.2.1)) x.1.toNat ?_ ?_ 0 (by omega)
    · have h' : L20_5 (m, [], 0, x.1, x.2.1, x.2.2.1) = _ := h
      rw [h', e]; simp only [Option.bind_some, tk_all]
    · intro i hi
      have hb : balM x (i : Int) m = (sumT i (sel (inM m) 0 x.2.1), 0) := by
        simp only [balM, hx, hm]; rw [if_pos (by simp [isIn]; omega), Int.toNat_natCast]
      simp only [L20_5_r, bkEta, P22_of _ _ _ (G22_eq x (i : Int) m), F22_of _ _ _ (G22_eq x (i : Int) m), hb, tk_all, List.length_set, List.length_replicate, tabl_len]
      rw [List.take_of_length_le (Nat.le_of_eq (tabl_len _ _)), tabl_len, show decide ((i : Int) < x.1) = true by simp; omega, show decide (i + 1 ≤ 100000000000) = true by simp; omega, wsucc (by omega), tabl_succ]; rfl
    · simp only [L20_5_r]
      rw [show decide ((x.1.toNat : Int) < x.1) = false by simp; omega]; rfl
theorem okAll_of {a : Int} : ∀ {r pre : List Po}, okAll a pre r = true → ∀ j, j < r.length → (r.getD j z26).2.2.2.2.2.2.1 < ((pre.length + j : Nat) : Int) := by
  intro r; induction r with
  | nil => intro pre _ j hj; simp at hj
  | cons q r ih =>
    intro pre h j hj
    simp only [okAll, Bool.and_eq_true] at h
    cases j with
    | zero =>
      have h1 := h.1
      simp only [okNext, Bool.and_eq_true] at h1
      have hf := (formed_iff.mp h1.1.1.2).2.2.2.2.2.2
      simp only [List.getD_cons_zero, Nat.add_zero]
      rcases hf with hf | hf
      · omega
      · have := h1.2
        simp only [Bool.or_eq_true, Bool.and_eq_true, decide_eq_true_eq] at this
        rcases this with h3 | h3
        · have := eq_of_beq h3; omega
        · exact h3.1.1
    | succ j =>
      have := ih h.2 j (by simpa using hj)
      simp only [List.getD_cons_succ]; rw [List.length_append, List.length_singleton] at this; omega
theorem any_take {l : List Po} {i : Nat} (f : Po → Bool) (h : i < l.length) : (l.take (i + 1)).any f = ((l.take i).any f || f (l.getD i z26)) := by
  rw [← take_getD h, List.any_append]; simp
theorem none_before {a : Int} {l : List Po} (h : okAll a [] l = true) : ∀ (j i : Nat), j ≤ i + 1 → j ≤ l.length → ((l.take j).any fun q => q.2.2.2.2.2.2.1 == (i : Int)) = false := by
  intro j; induction j with
  | zero => intro i _ _; simp
  | succ j ih =>
    intro i h1 h2
    rw [any_take _ (by omega), ih i (by omega) (by omega)]
    have := okAll_of h j (by omega)
    simp only [List.length_nil, Nat.zero_add] at this
    rw [Bool.false_or]; exact beq_eq_false_iff_ne.mpr (by omega)
theorem L25_inner {a : Int} {l : List Po} (h : okAll a [] l = true) (hl : l.length ≤ 200) (i : Nat) (hi : i < l.length) (f : Bool) (s : Int) (o : List Int) (a' c' q1 q2 q3 q4 q5 q6 q7 : Int) :
    L25_10 (s, o, (i : Int), f, ((i + 1 : Nat) : Int), a', l, c', q1, q2, q3, q4, q5, q6, q7) = some (s, o, (i : Int), f && !(l.any fun q => q.2.2.2.2.2.2.1 == (i : Int)), (l.length : Int), a', l, c', q1, q2, q3, q4, q5, q6, q7) := by
  have e := none_before h (i + 1) i (by omega) (by omega)
  have hh := lim_inv (r := fun s => L25_10_r s.1 s.2.1 s.2.2.1 s.2.2.2.1 s.2.2.2.2.1 s.2.2.2.2.2.1 s.2.2.2.2.2.2.1 s.2.2.2.2.2.2.2.1 s.2.2.2.2.2.2.2.2.1 s.2.2.2.2.2.2.2.2.2.1 s.2.2.2.2.2.2.2.2.2.2.1 s.2.2.2.2.2.2.2.2.2.2.2.1 s.2.2.2.2.2.2.2.2.2.2.2.2.1 s.2.2.2.2.2.2.2.2.2.2.2.2.2.1 s.2.2.2.2.2.2.2.2.2.2.2.2.2.2)
    (fun k => (s, o, (i : Int), f && !((l.take k).any fun q => q.2.2.2.2.2.2.1 == (i : Int)), (k : Int), a', l, c', q1, q2, q3, q4, q5, q6, q7)) (s, o, (i : Int), f && !(l.any fun q => q.2.2.2.2.2.2.1 == (i : Int)), (l.length : Int), a', l, c', q1, q2, q3, q4, q5, q6, q7) l.length ?_ ?_ (i + 1) (by omega)
  · rw [e] at hh; simp only [Bool.not_false, Bool.and_true] at hh; exact hh
  · intro k hk
    simp only [L25_10_r]
    rw [show decide ((k : Int) < (l.length : Int)) = true by simpa using hk, show decide (0 ≤ (k : Int)) = true by simp, show ((k : Int)).toNat = k by simp, wsucc (by omega), any_take _ hk]
    simp only [Bool.true_or, Bool.and_true, cond_true, bne]
    cases f <;> cases ((l.take k).any fun q => q.2.2.2.2.2.2.1 == (i : Int)) <;> cases ((l.getD k z26).2.2.2.2.2.2.1 == (i : Int)) <;> rfl
  · simp only [L25_10_r]
    rw [show decide ((l.length : Int) < (l.length : Int)) = false by simp, List.take_length]; rfl
theorem G25_eq (x : Bk) (s : Int) : G25 x s = some (owedM x s) := by
  unfold G25
  simp only [bkEta, P12_eq, F12_eq, P30_eq, F30_eq, cond_true, Bool.true_or]
  cases hx : valid x
  · have : owedM x s = ([], 310) := by simp [owedM, hx]
    rw [this]; rfl
  cases hm : isIn s 0 999
  · have : owedM x s = ([], 310) := by simp [owedM, hm]
    rw [this]; rfl
  obtain ⟨hok, ⟨ha1, ha2⟩, _⟩ := valid_iff.mp hx
  have hle := valid_len hx
  have hpo := valid_ok hx
  have e : owedM x s = (tabl x.1.toNat (sel (stands s x.2.1) 0 x.2.1), 0) := by simp [owedM, hm, hx]
  rw [e, show (decide (0 ≤ x.1) && decide (x.1 ≤ x.1) && decide (x.1 ≤ 100000000000)) = true by simp; omega]
  have h := lim_inv (r := fun s => L25_5_r s.1 s.2.1 s.2.2.1 s.2.2.2.1 s.2.2.2.2.1 s.2.2.2.2.2) (fun i => (s, tabl x.1.toNat (sel (stands s x.2.1) 0 (x.2.1.take i)), (i : Int), x.1, x.2.1, x.2.2.1)) (s, tabl x.1.toNat (sel (stands s x.2.1) 0 x.2.1), (x.2.1.length : Int), x.1, x.2.1, x.2.2.1) x.2.1.length ?_ ?_ 0 (by omega)
  · have h0 : tabl x.1.toNat [] = List.replicate x.1.toNat 0 := by
      apply List.ext_getElem <;> simp [tabl, sumT]
    have h' : L25_5 (s, List.replicate x.1.toNat 0, 0, x.1, x.2.1, x.2.2.1) = some (s, tabl x.1.toNat (sel (stands s x.2.1) 0 x.2.1), (x.2.1.length : Int), x.1, x.2.1, x.2.2.1) := by rw [← h0]; exact h
    simp only [Bool.not_true, cond_false, cond_true, h', Option.bind_some, tk_all]
  · intro i hi
    simp only [L25_5_r]
    rw [show decide ((i : Int) < (x.2.1.length : Int)) = true by simpa using hi, show decide (0 ≤ (i : Int)) = true by simp, show ((i : Int)).toNat = i by simp, wsucc (by omega), sel_take _ hi]
    simp only [Bool.and_true, cond_true, L25_inner hok hle i hi, Option.bind_some]
    have hp := hpo _ (getD_mem hi)
    have hst : ((bif (x.2.1.getD i z26).1 == 1 then (x.2.1.getD i z26).2.2.2.2.2.1 == s else false) && !(x.2.1.any fun q => q.2.2.2.2.2.2.1 == (i : Int))) = stands s x.2.1 i (x.2.1.getD i z26) := by
      unfold stands; cases ((x.2.1.getD i z26).1 == (1 : Int)) <;> rfl
    rw [hst]
    cases hS : stands s x.2.1 i (x.2.1.getD i z26)
    · simp only [cond_false, List.append_nil]; rw [wsucc (by omega)]
    · have hl : ∀ q ∈ sel (stands s x.2.1) 0 (x.2.1.take i), PoOk x.1.toNat q := fun q hq => hpo q (List.mem_of_mem_take (sel_mem hq))
      have hs := sel_len (f := stands s x.2.1) (l := x.2.1.take i) (i := 0)
      rw [len_take (by omega)] at hs
      obtain ⟨⟨a1, a2, a3, a4, a5, a6⟩, a7, a8⟩ := add_eq hp hl (by omega)
      generalize x.2.1.getD i z26 = p at *
      simp only [cond_true, tabl_len, List.length_set, a1, a2, a4, a5, a7, a8, Bool.and_true]
      rw [tabl_len] at a3
      have a6' : decide (p.2.2.1.toNat < x.1.toNat) = true := by have := a6 0; rwa [List.length_set, tabl_len] at this
      simp only [a3, a6', cond_true, tabl_app hp]; rw [wsucc (by omega)]
  · simp only [L25_5_r]
    rw [show decide ((x.2.1.length : Int) < (x.2.1.length : Int)) = false by simp, List.take_length]; rfl
end Go.Ev.B
