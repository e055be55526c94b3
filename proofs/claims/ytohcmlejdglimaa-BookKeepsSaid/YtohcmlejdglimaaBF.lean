/- The book: Statement and Owed of the program (19, 24), Balance (21). -/
import Derived.Test.YtohcmlejdglimaaBE
import Derived.Test.YtohcmlejdglimaaEv4
set_option linter.unusedSimpArgs false
set_option linter.unusedVariables false
namespace Go.Ev.B
open Go Go.Ev
/-- What is chosen of a list, by place and posting. -/
def sel (f : Nat → Po → Bool) : Nat → List Po → List Po
  | _, [] => []
  | i, p :: r => bif f i p then p :: sel f (i + 1) r else sel f (i + 1) r
theorem sel_mem {f : Nat → Po → Bool} {q : Po} : ∀ {l : List Po} {i : Nat}, q ∈ sel f i l → q ∈ l := by
  intro l; induction l with
  | nil => intro i h; simp [sel] at h
  | cons p r ih =>
    intro i h; simp only [sel] at h
    cases hf : f i p <;> rw [hf] at h
    · exact List.mem_cons_of_mem _ (ih h)
    · rcases List.mem_cons.mp h with h | h
      · subst h; simp
      · exact List.mem_cons_of_mem _ (ih h)
theorem sel_len {f : Nat → Po → Bool} : ∀ {l : List Po} {i : Nat}, (sel f i l).length ≤ l.length := by
  intro l; induction l with
  | nil => intro i; simp [sel]
  | cons p r ih =>
    intro i; simp only [sel]; have := ih (i := i + 1)
    cases f i p <;> simp <;> omega
def inM (m : Int) (_ : Nat) (p : Po) : Bool := IntKind.i64.wrap (Int.tdiv p.2.1 30) == m
def stands (s : Int) (l : List Po) (i : Nat) (p : Po) : Bool := p.1 == 1 && p.2.2.2.2.2.1 == s && !(l.any fun q => q.2.2.2.2.2.2.1 == (i : Int))
theorem L39_loop (l : List Po) (hl : l.length ≤ 1000000000000000000) (f : Bool) (a : Int) (l' : List Po) (c : Int) (b : List Bool) (m : Int) : ∀ (n i : Nat), n = l.length - i → i ≤ l.length →
    ∃ r, L39_1 (l, (l.length : Int), (i : Int), f, a, l', c, b, m) = some (sel (inM m) i (l.drop i), .inr r) := by
  intro n
  induction n with
  | zero =>
    intro i hn hi
    have e : i = l.length := by omega
    subst e
    refine ⟨(l, (l.length : Int), (l.length : Int), f, a, l', c, b, m), ?_⟩
    rw [List.drop_length]
    refine limW_end ?_
    simp only [L39_1_r]
    rw [show decide ((l.length : Int) < (l.length : Int)) = false by simp]; rfl
  | succ n ih =>
    intro i hn hi
    have hlt : i < l.length := by omega
    obtain ⟨r, hr⟩ := ih (i + 1) (by omega) (by omega)
    refine ⟨r, ?_⟩
    have h34 : G34 (i : Int) (l.getD i z26) m = some (inM m i (l.getD i z26), ((), (m, ()))) := rfl
    have hs : L39_1_r l (l.length : Int) (i : Int) f a l' c b m = some (bif inM m i (l.getD i z26) then [l.getD i z26] else [], .inl (l, (l.length : Int), ((i + 1 : Nat) : Int), f, a, l', c, b, m)) := by
      simp only [L39_1_r, poEta]
      rw [show ((i : Int)).toNat = i by simp, P34_of _ _ _ h34, F34_of _ _ _ h34, show decide ((i : Int) < (l.length : Int)) = true by simpa using hlt, show decide (0 ≤ (i : Int)) = true by simp, show IntKind.i64.wrap ((i : Int) + 1) = ((i + 1 : Nat) : Int) by rw [wrapI (by omega) (by omega)]; omega]
      cases h : inM m i (l.getD i z26) <;> rfl
    refine (limW_go hs).trans ?_
    change Option.map _ (L39_1 _) = _
    rw [hr, getD_drop hlt]
    simp only [sel]
    cases h : inM m i (l.getD i z26) <;> rfl
theorem W39_eq (l : List Po) (hl : l.length ≤ 1000000000000000000) (a c : Int) (b : List Bool) (m : Int) : (W39 true a l c b m).ys = some (sel (inM m) 0 l) := by
  obtain ⟨r, hr⟩ := L39_loop l hl true a l c b m (l.length - 0) 0 rfl (by omega)
  unfold W39
  rw [show ((0 : Nat) : Int) = 0 from rfl, List.drop_zero] at hr
  simp only [cond_true, tk_all, hr, YW.bind, YW.ys, List.append_nil]
theorem L10039_loop (l : List Po) (hl : l.length ≤ 200) (a : Int) (c : Int) (b : List Bool) (hb : Back 200 l b) (m : Int) : ∀ (n i : Nat), n = l.length - i → i ≤ l.length →
    ∃ r, L10039_1 (l, (l.length : Int), (i : Int), true, a, l, c, b, m, true) = some (sel (stands m l) i (l.drop i), .inr r) := by
  intro n
  induction n with
  | zero =>
    intro i hn hi
    have e : i = l.length := by omega
    subst e
    refine ⟨(l, (l.length : Int), (l.length : Int), true, a, l, c, b, m, true), ?_⟩
    rw [List.drop_length]
    refine limW_end ?_
    simp only [L10039_1_r]
    rw [show decide ((l.length : Int) < (l.length : Int)) = false by simp]; rfl
  | succ n ih =>
    intro i hn hi
    have hlt : i < l.length := by omega
    obtain ⟨r, hr⟩ := ih (i + 1) (by omega) (by omega)
    refine ⟨r, ?_⟩
    have h37 : G37 (i : Int) (l.getD i z26) m true a l c b = some (stands m l i (l.getD i z26), ((), (m, ((), (true, ((), (a, (l, (c, (b, ())))))))))) := by
      unfold G37
      rw [show decide (0 ≤ (i : Int)) = true by simp, show decide ((i : Int) < ((200 : Nat) : Int)) = true by simp; omega, show ((i : Int)).toNat = i by simp, show decide (i < b.length) = true by rw [hb.1]; simp; omega, hb.2 i (by omega)]
      simp only [Bool.true_or, Bool.and_true, cond_true, stands]
      cases ((l.getD i z26).1 == (1 : Int)) <;> cases ((l.getD i z26).2.2.2.2.2.1 == m) <;> rfl
    have hs : L10039_1_r l (l.length : Int) (i : Int) true a l c b m true = some (bif stands m l i (l.getD i z26) then [l.getD i z26] else [], .inl (l, (l.length : Int), ((i + 1 : Nat) : Int), true, a, l, c, b, m, true)) := by
      simp only [L10039_1_r, poEta]
      rw [show ((i : Int)).toNat = i by simp, P37_of _ _ _ _ _ _ _ _ h37, F37_of _ _ _ _ _ _ _ _ h37, show decide ((i : Int) < (l.length : Int)) = true by simpa using hlt, show decide (0 ≤ (i : Int)) = true by simp, show IntKind.i64.wrap ((i : Int) + 1) = ((i + 1 : Nat) : Int) by rw [wrapI (by omega) (by omega)]; omega]
      cases h : stands m l i (l.getD i z26) <;> rfl
    refine (limW_go hs).trans ?_
    change Option.map _ (L10039_1 _) = _
    rw [hr, getD_drop hlt]
    simp only [sel]
    cases h : stands m l i (l.getD i z26) <;> rfl
theorem W10039_eq (l : List Po) (hl : l.length ≤ 200) (a c : Int) (b : List Bool) (hb : Back 200 l b) (m : Int) : (W10039 true a l c b m true).ys = some (sel (stands m l) 0 l) := by
  obtain ⟨r, hr⟩ := L10039_loop l hl a c b hb m (l.length - 0) 0 rfl (by omega)
  unfold W10039
  rw [show ((0 : Nat) : Int) = 0 from rfl, List.drop_zero] at hr
  simp only [cond_true, tk_all, hr, YW.bind, YW.ys, List.append_nil]
theorem okAll_formed {a : Int} : ∀ {r pre : List Po}, okAll a pre r = true → ∀ p ∈ r, formed p a = true := by
  intro r; induction r with
  | nil => intro pre _ p hp; cases hp
  | cons q r ih =>
    intro pre h p hp
    simp only [okAll, Bool.and_eq_true] at h
    rcases List.mem_cons.mp hp with e | e
    · subst e; have := h.1; simp only [okNext, Bool.and_eq_true] at this; exact this.1.1.2
    · exact ih h.2 p e
theorem valid_iff {b : Bk} : valid b = true ↔ okAll b.1 [] b.2.1 = true ∧ (2 ≤ b.1 ∧ b.1 ≤ 12) ∧ (0 ≤ b.2.2.1 ∧ b.2.2.1 ≤ 12) := by
  simp only [valid, Bool.and_eq_true, isIn_iff, and_assoc]
theorem valid_len {b : Bk} (h : valid b = true) : b.2.1.length ≤ 200 := by
  have := (valid_iff.mp h).1
  rcases Nat.lt_or_ge 200 b.2.1.length with h2 | h2
  · rw [okAll_long _ _ _ (by simp; omega) (by simp)] at this; cases this
  · exact h2
theorem formed_ok {p : Po} {a : Int} (h : formed p a = true) (h1 : 2 ≤ a) (h2 : a ≤ 12) : PoOk a.toNat p := by
  have := formed_iff.mp h
  rw [wrapI (by omega) (by omega)] at this
  obtain ⟨_, ⟨h3, h4⟩, ⟨h5, h6⟩, h7, ⟨h8, h9⟩, _⟩ := this
  exact ⟨h3, by omega, h5, by omega, h7, h8, h9⟩
theorem valid_ok {b : Bk} (h : valid b = true) : ∀ p ∈ b.2.1, PoOk b.1.toNat p := by
  obtain ⟨h1, ⟨h2, h3⟩, _⟩ := valid_iff.mp h
  intro p hp; exact formed_ok (okAll_formed h1 p hp) h2 h3
theorem ok_le {n : Nat} {p : Po} (h : PoOk n p) (hn : n ≤ 12) : PoOk 12 p := by
  obtain ⟨h1, h2, h3, h4, h5⟩ := h; exact ⟨h1, by omega, h3, by omega, h5⟩
/-- Statement and Owed, plain. -/
def statM (b : Bk) (m : Int) : List Int × Int := if valid b && isIn m 0 11 then (tabl b.1.toNat (sel (inM m) 0 b.2.1), 0) else ([], 310)
def owedM (b : Bk) (s : Int) : List Int × Int := if valid b && isIn s 0 999 then (tabl b.1.toNat (sel (stands s b.2.1) 0 b.2.1), 0) else ([], 310)
theorem G19_eq (x : Bk) (m : Int) (hl : x.2.1.length ≤ 1000000000000000000) : G19 x m = some (statM x m) := by
  obtain ⟨t, ht, hv, hh⟩ := G28_eq x hl
  unfold G19
  simp only [bkEta, P28_of _ ht, F28_of _ ht, P32_eq, F32_eq, cond_true, hv, Bool.true_or]
  cases hx : valid x
  · have : statM x m = ([], 310) := by simp [statM, hx]
    rw [this]; rfl
  cases hm : isIn m 0 11
  · have : statM x m = ([], 310) := by simp [statM, hm]
    rw [this]; rfl
  have : statM x m = (tabl x.1.toNat (sel (inM m) 0 x.2.1), 0) := by simp [statM, hx, hm]
  rw [this]
  obtain ⟨b', rfl, hb'⟩ := hh hx
  have h33 : G33 true x.1 x.2.1 x.2.2.1 b' m = some ((), ((), (x.1, (x.2.1, (x.2.2.1, (b', ((), (m, ((), (true, ((), ((), ())))))))))))) := rfl
  simp only [P33_of _ _ _ _ _ _ h33, F33_of _ _ _ _ _ _ h33, Bool.not_true, cond_false, cond_true, W39_eq _ hl, Option.bind_some]
  obtain ⟨hok, ⟨ha1, ha2⟩, _⟩ := valid_iff.mp hx
  have hp : ∀ q ∈ sel (inM m) 0 x.2.1, PoOk 12 q := fun q hq => ok_le (valid_ok hx q (sel_mem hq)) (by omega)
  have hle := valid_len hx
  have hse := sel_len (f := inM m) (l := x.2.1) (i := 0)
  rw [show List.replicate 12 (0 : Int) = tabl 12 [] from rfl, add_fold _ [] _ _ _ (by intro q hq; cases hq) hp (by simp; omega)]
  simp only [Option.bind_some, List.nil_append]
  have h36 := G36_eq (a := x.1.toNat) (by omega) (sel (inM m) 0 x.2.1)
  rw [Int.toNat_of_nonneg (by omega)] at h36
  rw [P36_of _ _ h36, F36_of _ _ h36]; rfl
theorem G24_eq (x : Bk) (m : Int) (hl : x.2.1.length ≤ 1000000000000000000) : G24 x m = some (owedM x m) := by
  obtain ⟨t, ht, hv, hh⟩ := G28_eq x hl
  unfold G24
  simp only [bkEta, P28_of _ ht, F28_of _ ht, P32_eq, F32_eq, cond_true, hv, Bool.true_or]
  cases hx : valid x
  · have : owedM x m = ([], 310) := by simp [owedM, hx]
    rw [this]; rfl
  cases hm : isIn m 0 999
  · have : owedM x m = ([], 310) := by simp [owedM, hm]
    rw [this]; rfl
  have : owedM x m = (tabl x.1.toNat (sel (stands m x.2.1) 0 x.2.1), 0) := by simp [owedM, hx, hm]
  rw [this]
  obtain ⟨b', rfl, hb'⟩ := hh hx
  have hle := valid_len hx
  have h33 : G10033 true x.1 x.2.1 x.2.2.1 b' m true = some ((), ((), (x.1, (x.2.1, (x.2.2.1, (b', ((), (m, ((), (true, ((), (true, ((), ((), ())))))))))))))) := rfl
  simp only [P10033_of _ _ _ _ _ _ _ h33, F10033_of _ _ _ _ _ _ _ h33, Bool.not_true, cond_false, cond_true, W10039_eq _ hle _ _ _ hb', Option.bind_some]
  obtain ⟨hok, ⟨ha1, ha2⟩, _⟩ := valid_iff.mp hx
  have hp : ∀ q ∈ sel (stands m x.2.1) 0 x.2.1, PoOk 12 q := fun q hq => ok_le (valid_ok hx q (sel_mem hq)) (by omega)
  have hse := sel_len (f := stands m x.2.1) (l := x.2.1) (i := 0)
  rw [add_fold', show List.replicate 12 (0 : Int) = tabl 12 [] from rfl, add_fold _ [] _ _ _ (by intro q hq; cases hq) hp (by simp; omega)]
  simp only [Option.bind_some, List.nil_append]
  have h36 := G36_eq (a := x.1.toNat) (by omega) (sel (stands m x.2.1) 0 x.2.1)
  rw [Int.toNat_of_nonneg (by omega)] at h36
  rw [P36_of _ _ h36, F36_of _ _ h36]; rfl
/-- Balance, plain. -/
def balM (b : Bk) (t m : Int) : Int × Int := if valid b && isIn t 0 (b.1 - 1) && isIn m 0 11 then (sumT t.toNat (sel (inM m) 0 b.2.1), 0) else (0, 310)
theorem G21_eq (x : Bk) (t m : Int) (hl : x.2.1.length ≤ 1000000000000000000) : G21 x t m = some (balM x t m) := by
  have h := G19_eq x m hl
  unfold G21
  simp only [bkEta, P19_of _ _ h, F19_of _ _ h, cond_true]
  by_cases hc : (valid x && isIn m 0 11) = true
  rotate_left
  · have h1 : statM x m = ([], 310) := by simp only [statM]; rw [if_neg hc]
    have h2 : balM x t m = (0, 310) := by
      simp only [balM]; rw [if_neg]; intro h; apply hc; simp only [Bool.and_eq_true] at h ⊢; exact ⟨h.1.1, h.2⟩
    rw [h1, h2]; rfl
  have h1 : statM x m = (tabl x.1.toNat (sel (inM m) 0 x.2.1), 0) := by simp only [statM]; rw [if_pos hc]
  simp only [Bool.and_eq_true] at hc
  obtain ⟨hx, hm⟩ := hc
  obtain ⟨hok, ⟨ha1, ha2⟩, _⟩ := valid_iff.mp hx
  rw [h1]
  simp only [tabl_len, bne_self_eq_false, cond_false]
  by_cases ht : 0 ≤ t ∧ t < x.1
  · have e : balM x t m = (sumT t.toNat (sel (inM m) 0 x.2.1), 0) := by
      simp only [balM, hx, hm]; rw [if_pos]; simp [isIn]; omega
    rw [e, show decide (t < 0) = false by simp; omega, show decide (t ≥ (x.1.toNat : Int)) = false by simp; omega, show (decide (0 ≤ t) && decide (t < (x.1.toNat : Int))) = true by simp; omega, show decide (t.toNat < x.1.toNat) = true by simp; omega, tabl_get _ (by omega)]; rfl
  · have e : balM x t m = (0, 310) := by
      simp only [balM, hx, hm]; rw [if_neg]; simp [isIn]; omega
    rw [e]
    by_cases h0 : t < 0
    · rw [show decide (t < 0) = true by simpa using h0]; rfl
    · rw [show decide (t < 0) = false by simpa using h0, show decide (t ≥ (x.1.toNat : Int)) = true by simp; omega]; rfl
end Go.Ev.B
