/- The book: Post, Dispute, Close; the program's and the reference's are the same. -/
import Derived.Test.YtohcmlejdglimaaBC
set_option linter.unusedSimpArgs false
set_option linter.unusedVariables false
namespace Go.Ev.B
open Go Go.Ev
theorem G10038_eq (p : Po) (a : Int) (l : List Po) (c : Int) (b : List Bool) : G10038 true p a l c b = G38 p a l c b := by
  unfold G10038 G38
  simp only [cond_true, Bool.true_or]
def postOk (p : Po) (a : Int) (l : List Po) (c : Int) : Bool := decide (p.2.1 ≥ IntKind.i64.wrap (30 * c)) && okNext a l p
theorem G29_eq (p : Po) (a : Int) (l : List Po) (c : Int) (b : List Bool) (hb : Back 200 l b) :
    ∃ b', G29 true p a l c b = some (postOk p a l c, ((), (a, (bif postOk p a l c then l ++ [p] else l, (c, (b', ())))))) ∧ Back 200 (bif postOk p a l c then l ++ [p] else l) b' := by
  obtain ⟨b', hg, hb'⟩ := G38_eq p a l c b hb
  unfold G29
  simp only [poEta, cond_true]
  rw [P10038_of _ _ _ _ _ _ ((G10038_eq p a l c b).trans hg), F10038_of _ _ _ _ _ _ ((G10038_eq p a l c b).trans hg)]
  cases hd : decide (p.2.1 ≥ IntKind.i64.wrap (30 * c))
  · have : postOk p a l c = false := by simp only [postOk, hd]; rfl
    rw [this]
    exact ⟨b, rfl, hb⟩
  · have : postOk p a l c = okNext a l p := by simp only [postOk, hd]; rfl
    rw [this]
    exact ⟨b', rfl, hb'⟩
/-- Post, plain. -/
def postM (b : Bk) (p : Po) : Option Bk := if valid b && postOk p b.1 b.2.1 b.2.2.1 then some (b.1, (b.2.1 ++ [p], (b.2.2.1, ()))) else none
def outP (b : Bk) : Option Bk → Bk × (Int × (Int × Unit)) | some r => (r, ((b.2.1.length : Int), (0, ()))) | none => (bk0, (0, (310, ())))
def outD : Option Bk → Bk × (Int × Unit) | some r => (r, (0, ())) | none => (bk0, (310, ()))
theorem G9_eq (x : Bk) (p : Po) (hl : x.2.1.length ≤ 1000000000000000000) : G9 x p = some (outP x (postM x p)) := by
  obtain ⟨t, ht, hv, hh⟩ := G28_eq x hl
  unfold G9; simp only [poEta]
  simp only [bkEta, P28_of _ ht, F28_of _ ht]
  cases hx : valid x
  · rw [hx] at hv
    have hp : postM x p = none := by simp [postM, hx]
    rw [hp]
    simp only [hv, Bool.not_false, Bool.not_true, Bool.false_and, Bool.or_true, cond_true, outP, bk0]
  · obtain ⟨b', rfl, hb'⟩ := hh hx
    obtain ⟨b2, hg, hb2⟩ := G29_eq p x.1 x.2.1 x.2.2.1 b' hb'
    simp only [cond_true]
    rw [P29_of _ _ _ _ _ _ hg, F29_of _ _ _ _ _ _ hg]
    cases hq : postOk p x.1 x.2.1 x.2.2.1
    · have hp : postM x p = none := by simp [postM, hq]
      rw [hp]; rfl
    · have hp : postM x p = some (x.1, (x.2.1 ++ [p], (x.2.2.1, ()))) := by simp [postM, hq, hx]
      rw [hp]; rfl
theorem okAll_app (a : Int) (p : Po) : ∀ (r pre : List Po), okAll a pre (r ++ [p]) = (okAll a pre r && okNext a (pre ++ r) p) := by
  intro r
  induction r with
  | nil => intro pre; simp [okAll]
  | cons q r ih => intro pre; simp only [List.cons_append, okAll]; rw [ih]; simp [Bool.and_assoc]
theorem valid_app (a : Int) (c : Int × Unit) (l : List Po) (p : Po) : valid (a, (l ++ [p], c)) = (valid (a, (l, c)) && okNext a l p) := by
  simp only [valid, okAll_app, List.nil_append]
  cases okAll a [] l <;> cases okNext a l p <;> cases isIn a 2 12 <;> cases isIn c.1 0 12 <;> rfl
theorem G10_eq (x : Bk) (p : Po) (hl : x.2.1.length ≤ 1000000000) : G10 x p = some (outP x (postM x p)) := by
  unfold G10
  simp only [poEta, bkEta, P12_eq, F12_eq, tk_all, List.replicate, List.set, List.nil_append, List.take_nil, List.length_nil, List.length_cons, valid_app]
  rw [show decide (0 + x.2.1.length ≤ 100000000000) = true by simp; omega, show decide (x.2.1.length + (0 + 1) ≤ 100000000000) = true by simp; omega]
  simp only [cond_true, Bool.true_or]
  cases hx : valid x
  · have hp : postM x p = none := by simp [postM, hx]
    rw [hp]; rfl
  simp only [Bool.not_true, cond_false, Bool.true_and]
  cases hn : okNext x.1 x.2.1 p
  · have hp : postM x p = none := by simp [postM, postOk, hn]
    rw [hp]; rfl
  by_cases hd : p.2.1 < IntKind.i64.wrap (30 * x.2.2.1)
  · have hp : postM x p = none := by simp [postM, postOk]; intros; omega
    rw [hp]; simp [hd, outP, bk0]
  · have hp : postM x p = some (x.1, (x.2.1 ++ [p], (x.2.2.1, ()))) := by simp [postM, postOk, hn, hx]; omega
    rw [hp]; simp [hd, outP]
theorem postM_valid {b c : Bk} {p : Po} (h : postM b p = some c) : valid c = true ∧ c = (b.1, (b.2.1 ++ [p], (b.2.2.1, ()))) := by
  unfold postM at h
  split at h
  · rename_i hc
    simp only [Bool.and_eq_true, postOk] at hc
    have := Option.some.inj h
    subst this
    refine ⟨?_, rfl⟩
    rw [valid_app]; simp only [Bool.and_eq_true]
    exact ⟨hc.1, hc.2.2⟩
  · exact absurd h (by simp)
/-- Dispute, plain. -/
def backP (p : Po) (i day : Int) : Po := (2, (day, (p.2.2.2.1, (p.2.2.1, (p.2.2.2.2.1, (p.2.2.2.2.2.1, (i, ())))))))
def newP (p : Po) (day amt : Int) : Po := (p.1, (day, (p.2.2.1, (p.2.2.2.1, (amt, (p.2.2.2.2.2.1, (p.2.2.2.2.2.2.1, ())))))))
theorem backP_eq (q : Po) (i day : Int) : (2, (day, (q.2.2.2.1, (q.2.2.1, (q.2.2.2.2.1, (q.2.2.2.2.2.1, (i, ()))))))) = backP q i day := rfl
theorem newP_eq (q : Po) (day amt : Int) : (q.1, (day, (q.2.2.1, (q.2.2.2.1, (amt, q.2.2.2.2.2))))) = newP q day amt := rfl
def disputeM (b : Bk) (i day amt : Int) : Option Bk :=
  if valid b && decide (0 ≤ i) && decide (i < (b.2.1.length : Int)) && isIn amt 0 1000000000 then
    (postM b (backP (b.2.1.getD i.toNat z26) i day)).bind fun c => if amt = 0 then some c else postM c (newP (b.2.1.getD i.toNat z26) day amt)
  else none
theorem postM_no {b : Bk} {p : Po} (h : postOk p b.1 b.2.1 b.2.2.1 = false) : postM b p = none := by simp [postM, h]
theorem postM_yes {b : Bk} {p : Po} (hv : valid b = true) (h : postOk p b.1 b.2.1 b.2.2.1 = true) : postM b p = some (b.1, (b.2.1 ++ [p], (b.2.2.1, ()))) := by simp [postM, h, hv]
theorem G15_eq (x : Bk) (i day amt : Int) (hl : x.2.1.length ≤ 1000000000000000000) : G15 x i day amt = some (outD (disputeM x i day amt)) := by
  obtain ⟨t, ht, hv, hh⟩ := G28_eq x hl
  unfold G15; simp only [poEta, P32_eq, F32_eq]
  simp only [bkEta, P28_of _ ht, F28_of _ ht]
  simp only [cond_true, hv, Bool.true_or]
  by_cases hc : (valid x && decide (0 ≤ i) && decide (i < (x.2.1.length : Int)) && isIn amt 0 1000000000) = true
  rotate_left
  · have hp : disputeM x i day amt = none := by simp only [disputeM]; rw [if_neg hc]
    have e : (bif bif bif !valid x then true else decide (i < 0) then true else decide (i ≥ (x.2.1.length : Int)) then true else !isIn amt 0 1000000000) = true := by
      have h1 : decide (i < 0) = !decide (0 ≤ i) := by by_cases h : 0 ≤ i <;> simp [h]; omega
      have h2 : decide (i ≥ (x.2.1.length : Int)) = !decide (i < (x.2.1.length : Int)) := by by_cases h : i < (x.2.1.length : Int) <;> simp [h]; omega
      rw [h1, h2]; revert hc
      generalize decide (0 ≤ i) = b1; generalize decide (i < (x.2.1.length : Int)) = b2; generalize isIn amt 0 1000000000 = b3; generalize valid x = b4
      revert b1 b2 b3 b4; decide
    simp only [e, hp, cond_true]; rfl
  have hc' := hc
  simp only [Bool.and_eq_true, decide_eq_true_eq] at hc'
  obtain ⟨⟨⟨hx, h0⟩, h1⟩, h2⟩ := hc'
  have hp : disputeM x i day amt = (postM x (backP (x.2.1.getD i.toNat z26) i day)).bind fun c => if amt = 0 then some c else postM c (newP (x.2.1.getD i.toNat z26) day amt) := by simp only [disputeM]; rw [if_pos hc]
  have e1 : decide (i < 0) = false := by simp; omega
  have e2 : decide (i ≥ (x.2.1.length : Int)) = false := by simp; omega
  have e3 : decide (i < (x.2.1.length : Int)) = true := by simpa using h1
  have e4 : decide (0 ≤ i) = true := by simpa using h0
  obtain ⟨b', rfl, hb'⟩ := hh hx
  rw [hp]
  simp only [hx, h2, e1, e2, e3, e4, cond_true, cond_false, Bool.not_true, Bool.and_true]
  generalize hq : x.2.1.getD i.toNat z26 = q
  simp only [backP_eq, newP_eq]
  obtain ⟨b2, hg, hb2⟩ := G29_eq (backP q i day) x.1 x.2.1 x.2.2.1 b' hb'
  rw [P29_of _ _ _ _ _ _ hg, F29_of _ _ _ _ _ _ hg]
  cases hr : postOk (backP q i day) x.1 x.2.1 x.2.2.1
  · rw [postM_no hr]
    simp only [Bool.not_false, Bool.not_true, Bool.false_and, Bool.and_false, Bool.or_true, cond_true, Option.isSome_some, Option.getD_some]; rfl
  rw [hr, cond_true] at hb2
  simp only [postM_yes hx hr, Option.bind_some, cond_true, Bool.not_true, cond_false, Bool.not_false, Bool.true_and, Bool.and_true]
  obtain ⟨b3, hg3, hb3⟩ := G29_eq (newP q day amt) x.1 (x.2.1 ++ [backP q i day]) x.2.2.1 b2 hb2
  rw [P29_of _ _ _ _ _ _ hg3, F29_of _ _ _ _ _ _ hg3]
  have hamt := isIn_iff.mp h2
  by_cases ha : amt = 0
  · have e5 : decide (amt > 0) = false := by simp; omega
    rw [e5, if_pos ha]; rfl
  have e5 : decide (amt > 0) = true := by simp; omega
  rw [e5, if_neg ha]
  have hv2 := (postM_valid (postM_yes hx hr)).1
  cases hs : postOk (newP q day amt) x.1 (x.2.1 ++ [backP q i day]) x.2.2.1
  · rw [postM_no (b := (x.1, (x.2.1 ++ [backP q i day], (x.2.2.1, ())))) hs]; rfl
  · rw [postM_yes hv2 hs]; rfl
theorem G16_eq (x : Bk) (i day amt : Int) (hl : x.2.1.length ≤ 1000000000 - 1) : G16 x i day amt = some (outD (disputeM x i day amt)) := by
  unfold G16; simp only [poEta, P30_eq, F30_eq, cond_true, Bool.true_or]
  by_cases hc : (decide (0 ≤ i) && decide (i < (x.2.1.length : Int)) && isIn amt 0 1000000000) = true
  rotate_left
  · have hp : disputeM x i day amt = none := by simp only [disputeM]; rw [if_neg]; intro h; apply hc; simp only [Bool.and_eq_true] at h ⊢; exact ⟨⟨h.1.1.2, h.1.2⟩, h.2⟩
    have e : (bif bif decide (i < 0) then true else decide (i ≥ (x.2.1.length : Int)) then true else !isIn amt 0 1000000000) = true := by
      have h1 : decide (i < 0) = !decide (0 ≤ i) := by by_cases h : 0 ≤ i <;> simp [h]; omega
      have h2 : decide (i ≥ (x.2.1.length : Int)) = !decide (i < (x.2.1.length : Int)) := by by_cases h : i < (x.2.1.length : Int) <;> simp [h]; omega
      rw [h1, h2]; revert hc
      generalize decide (0 ≤ i) = b1; generalize decide (i < (x.2.1.length : Int)) = b2; generalize isIn amt 0 1000000000 = b3
      revert b1 b2 b3; decide
    simp only [e, hp, cond_true]; rfl
  have hc' := hc
  simp only [Bool.and_eq_true, decide_eq_true_eq] at hc'
  obtain ⟨⟨h0, h1⟩, h2⟩ := hc'
  have e1 : decide (i < 0) = false := by simp; omega
  have e2 : decide (i ≥ (x.2.1.length : Int)) = false := by simp; omega
  have e3 : decide (i < (x.2.1.length : Int)) = true := by simpa using h1
  have e4 : decide (0 ≤ i) = true := by simpa using h0
  simp only [h2, e1, e2, e3, e4, cond_true, cond_false, Bool.not_true, Bool.and_true]
  generalize hq : x.2.1.getD i.toNat z26 = q
  simp only [backP_eq, newP_eq]
  change (bif P10 x (backP q i day) then _ else _) = _
  rw [P10_of _ _ (G10_eq x (backP q i day) (by omega)), F10_of _ _ (G10_eq x (backP q i day) (by omega))]
  have hp : disputeM x i day amt = (postM x (backP q i day)).bind fun c => if amt = 0 then some c else postM c (newP q day amt) := by
    cases hx : valid x
    · have : postM x (backP q i day) = none := by simp [postM, hx]
      rw [this]; simp [disputeM, hx]
    · simp only [disputeM]; rw [if_pos (by rw [hx, Bool.true_and]; exact hc), hq]
  rw [hp]
  cases hr : postM x (backP q i day) with
  | none => rfl
  | some c =>
    simp only [outP, cond_true, Option.bind_some, bne_self_eq_false, cond_false]
    by_cases ha : amt = 0
    · rw [if_pos ha, ha]; rfl
    · have e5 : (amt == (0 : Int)) = false := by simpa using ha
      rw [if_neg ha, e5]
      have hcl : c.2.1.length ≤ 1000000000 := by rw [(postM_valid hr).2]; simp; omega
      simp only [cond_false]
      rw [P10_of _ _ (G10_eq c (newP q day amt) hcl), F10_of _ _ (G10_eq c (newP q day amt) hcl)]
      cases postM c (newP q day amt) <;> rfl
/-- Close, plain. -/
def closeM (b : Bk) (m : Int) : Option Bk := if valid b && (m == b.2.2.1) && isIn m 0 11 then some (b.1, (b.2.1, (m + 1, ()))) else none
theorem G17_eq (x : Bk) (m : Int) (hl : x.2.1.length ≤ 1000000000000000000) : G17 x m = some (outD (closeM x m)) := by
  obtain ⟨t, ht, hv, hh⟩ := G28_eq x hl
  unfold G17; simp only [P32_eq, F32_eq]
  simp only [bkEta, P28_of _ ht, F28_of _ ht]
  simp only [cond_true, hv, Bool.true_or]
  cases hx : valid x
  · have : closeM x m = none := by simp [closeM, hx]
    rw [this]; rfl
  obtain ⟨b', rfl, hb'⟩ := hh hx
  cases h1 : (m == x.2.2.1)
  · have : closeM x m = none := by simp [closeM, h1]
    rw [this]; simp only [bne, h1]; rfl
  cases h2 : isIn m 0 11
  · have : closeM x m = none := by simp [closeM, h2]
    rw [this]; simp only [bne, h1]; rfl
  have : closeM x m = some (x.1, (x.2.1, (m + 1, ()))) := by simp [closeM, h1, h2, hx]
  have h3 := isIn_iff.mp h2
  rw [this, wrapI (by omega) (by omega)]; simp only [bne, h1]; rfl
theorem G18_eq (x : Bk) (m : Int) (hl : x.2.1.length ≤ 1000000000) : G18 x m = some (outD (closeM x m)) := by
  unfold G18; simp only [P12_eq, F12_eq, P30_eq, F30_eq, bkEta, tk_all, List.replicate, List.nil_append, List.take_nil, List.length_nil, cond_true, Bool.true_or]
  rw [show decide (0 + x.2.1.length ≤ 100000000000) = true by simp; omega]
  cases hx : valid x
  · have : closeM x m = none := by simp [closeM, hx]
    rw [this]; rfl
  cases h1 : (m == x.2.2.1)
  · have : closeM x m = none := by simp [closeM, h1]
    rw [this]; simp only [bne, h1]; rfl
  cases h2 : isIn m 0 11
  · have : closeM x m = none := by simp [closeM, h2]
    rw [this]; simp only [bne, h1]; rfl
  have : closeM x m = some (x.1, (x.2.1, (m + 1, ()))) := by simp [closeM, h1, h2, hx]
  have h3 := isIn_iff.mp h2
  rw [this, wrapI (by omega) (by omega)]; simp only [bne, h1]; rfl
end Go.Ev.B
