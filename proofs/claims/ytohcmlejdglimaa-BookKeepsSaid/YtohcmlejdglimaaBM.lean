/- BookKeeps: the law's function answers true. -/
import Derived.Test.YtohcmlejdglimaaBNa
set_option linter.unusedSimpArgs false
set_option linter.unusedVariables false
namespace Go.Ev.B
open Go Go.Ev
/-- A book that goes on from another one. -/
def Ext (b c : Bk) : Prop := valid c = true ∧ c.1 = b.1 ∧ b.2.2.1 ≤ c.2.2.1 ∧ ∃ e : List Po, c.2.1 = b.2.1 ++ e ∧ e.length ≤ 2 ∧ ∀ p ∈ e, 30 * b.2.2.1 ≤ p.2.1
theorem ext_post {b c : Bk} {p : Po} (hb : valid b = true) (h : postM b p = some c) : Ext b c ∧ c.2.1 = b.2.1 ++ [p] := by
  obtain ⟨_, _, hc1, hc2⟩ := valid_iff.mp hb
  obtain ⟨hv, rfl⟩ := postM_valid h
  refine ⟨⟨hv, rfl, Int.le_refl _, [p], rfl, by simp, fun q hq => ?_⟩, rfl⟩
  simp at hq; subst hq
  unfold postM at h
  split at h
  · rename_i hh
    simp only [Bool.and_eq_true, postOk, decide_eq_true_eq] at hh
    have := hh.2.1
    rw [w30 hc1 hc2] at this; exact this
  · cases h
theorem ext_dispute {b c : Bk} {i day amt : Int} (hb : valid b = true) (h : disputeM b i day amt = some c) : Ext b c := by
  unfold disputeM at h
  split at h
  · rw [Option.bind_eq_some_iff] at h
    obtain ⟨d, hd, hc⟩ := h
    obtain ⟨h1, e1⟩ := ext_post hb hd
    obtain ⟨hv1, ha1, hc1, _⟩ := id h1
    split at hc
    · cases hc; exact h1
    · obtain ⟨h2, e2⟩ := ext_post hv1 hc
      obtain ⟨hv2, ha2, hc2, e, he, _, hd2⟩ := h2
      obtain ⟨_, _, _, e', he', _, hd1⟩ := h1
      refine ⟨hv2, by rw [ha2, ha1], by omega, _, by rw [e2, e1, List.append_assoc], by simp, fun q hq => ?_⟩
      rcases List.mem_append.mp hq with hq | hq
      · refine hd1 q ?_
        have : e' = [backP (b.2.1.getD i.toNat z26) i day] := List.append_cancel_left (he'.symm.trans e1)
        rw [this]; exact hq
      · have : e = [newP (b.2.1.getD i.toNat z26) day amt] := List.append_cancel_left (he.symm.trans e2)
        have := hd2 q (by rw [this]; exact hq)
        omega
  · cases h
theorem ext_close {b c : Bk} {m : Int} (h : closeM b m = some c) : Ext b c ∧ c.2.1 = b.2.1 := by
  obtain ⟨hv, rfl, hm, _, _⟩ := closeM_valid h
  exact ⟨⟨hv, rfl, by simp only; omega, [], by simp, by simp, fun q hq => by cases hq⟩, rfl⟩
theorem sumK_none (u : Nat) (f : Po → Bool) (l : List Po) : ∀ e : List Po, (∀ p ∈ e, f p = false) → sumK u f (l ++ e) = sumK u f l := by
  intro e he
  induction l with
  | nil =>
    induction e with
    | nil => rfl
    | cons p e ih =>
      have := ih fun q hq => he q (by simp [hq])
      simp only [List.nil_append, sumK] at this ⊢
      rw [he p (by simp), this]; rfl
  | cons q l ih => simp only [List.cons_append, sumK, ih]
theorem stat_sumK (b : Bk) (m : Int) : tabl b.1.toNat (sel (inM m) 0 b.2.1) = fl b.1.toNat fun u => sumK u (inM m 0) b.2.1 := fl_congr fun u _ => stat_sum m u _ _
theorem ext_stat {b c : Bk} (hb : valid b = true) (h : Ext b c) {m : Int} (h0 : 0 ≤ m) (hm : m < b.2.2.1) : statM c m = statM b m := by
  obtain ⟨hv, ha, hcl, e, he, hlen, hd⟩ := h
  obtain ⟨_, _, hc1, hc2⟩ := valid_iff.mp hb
  have hi : isIn m 0 11 = true := isIn_iff.mpr (by omega)
  simp only [statM, hb, hv, hi]
  rw [if_pos (by rfl), if_pos (by rfl), stat_sumK c m, stat_sumK b m, ha]
  congr 2
  funext u
  rw [he]
  refine sumK_none u _ _ e fun p hp => ?_
  have hf := (formed_iff.mp (okAll_formed (valid_iff.mp hv).1 p (by rw [he]; exact List.mem_append_right _ hp))).1
  have := hd p hp
  unfold inM
  rw [Int.tdiv_eq_ediv_of_nonneg hf.1, wrapI (by omega) (by omega)]
  exact beq_eq_false_iff_ne.mpr (by omega)
theorem run28 {b c : Bk} (hb : valid b = true) (h : Ext b c) (s0 : List (List Int)) (s1 : Bool) (s2 : Int) :
    L5_28 (s0, s1, s2, 0, b.1, b.2.1, b.2.2.1, c.1, c.2.1, c.2.2.1) = some (.inr (s0, s1, s2, b.2.2.1, b.1, b.2.1, b.2.2.1, c.1, c.2.1, c.2.2.1)) := by
  obtain ⟨_, _, hc1, hc2⟩ := valid_iff.mp hb
  have hbl := valid_len hb
  have hcl := valid_len h.1
  have e : ((b.2.2.1.toNat : Nat) : Int) = b.2.2.1 := Int.toNat_of_nonneg hc1
  refine lim_inv (r := fun s => L5_28_r s.1 s.2.1 s.2.2.1 s.2.2.2.1 s.2.2.2.2.1 s.2.2.2.2.2.1 s.2.2.2.2.2.2.1 s.2.2.2.2.2.2.2.1 s.2.2.2.2.2.2.2.2.1 s.2.2.2.2.2.2.2.2.2) (fun k => (s0, s1, s2, (k : Int), b.1, b.2.1, b.2.2.1, c.1, c.2.1, c.2.2.1)) (.inr (s0, s1, s2, b.2.2.1, b.1, b.2.1, b.2.2.1, c.1, c.2.1, c.2.2.1)) b.2.2.1.toNat (fun k hk => ?_) ?_ 0 (by omega)
  · have e1 := G19_eq b (k : Int) (by omega)
    have e2 := G19_eq c (k : Int) (by omega)
    rw [ext_stat hb h (by omega) (by omega)] at e2
    have hr := ints_refl (l := (statM b (k : Int)).1) (by have := statM_len b (k : Int); omega)
    have h2 : (statM b (k : Int)).2 = 0 := by simp only [statM, hb]; rw [if_pos (by simp [isIn]; omega)]
    have g1 : decide ((k : Int) < b.2.2.1) = true := by simp; omega
    simp only [L5_28_r, g1, bkEta, P19_of _ _ e1, F19_of _ _ e1, P19_of _ _ e2, F19_of _ _ e2, h2, tk_all, P23_of _ _ hr, F23_of _ _ hr, bne_self_eq_false, cond_true, cond_false, Bool.true_or, Bool.not_true, wsucc (i := k) (by omega)]
  · simp only [L5_28_r, e]
    rw [show decide (b.2.2.1 < b.2.2.1) = false by simp]; rfl
theorem cut_app (l e : List Po) : cut (l ++ e) 0 (l.length : Int) = l := by simp [cut]
theorem cut_ok (l e : List Po) : sliceTest 0 (l.length : Int) ((l ++ e).length : Int) = true := by simp [sliceTest]; omega
theorem bk0_same : G13 bk0 bk0 = some true := same_refl (by simp [bk0])
def Rows6 (l : List (List Int)) : Prop := Rows5 l ∧ ∀ v ∈ l, v.length = 5
theorem round5 {l : List (List Int)} (hl : Rows6 l) {i : Nat} (hi : i < l.length) (h8 : i < 8) (s1 : Bool) {b : Bk} (hb : valid b = true) :
    ∃ c, L5_6_r l s1 (i : Int) b.1 b.2.1 b.2.2.1 = some (.inl (l, s1, ((i + 1 : Nat) : Int), c.1, c.2.1, c.2.2.1)) ∧ valid c = true := by
  obtain ⟨⟨hll, hr⟩, h5⟩ := hl
  have hv5 := h5 (l.getD i (List.replicate 5 0)) (by rw [List.getD_eq_getElem?_getD, List.getElem?_eq_getElem hi]; exact List.getElem_mem hi)
  have hk := hr i
  have hbl := valid_len hb
  have g1 : decide ((i : Int) < (l.length : Int)) = true := lt_ok hi
  have g2 : decide ((i : Int) < 8) = true := by simp; omega
  unfold L5_6_r
  simp only [g1, g2, ge0 i, Int.toNat_natCast, wsucc (i := i) (by omega), cond_true, Bool.and_true]
  have k0 := hk 0; have k1 := hk 1; have k2 := hk 2; have k3 := hk 3; have k4 := hk 4
  have d0 : (decide (0 ≤ (0 : Int)) && decide ((0 : Int) < ((5 : Nat) : Int))) = true := rfl
  have d1 : (decide (0 ≤ (1 : Int)) && decide ((1 : Int) < ((5 : Nat) : Int))) = true := rfl
  have d2 : (decide (0 ≤ (2 : Int)) && decide ((2 : Int) < ((5 : Nat) : Int))) = true := rfl
  have d3 : (decide (0 ≤ (3 : Int)) && decide ((3 : Int) < ((5 : Nat) : Int))) = true := rfl
  have d4 : (decide (0 ≤ (4 : Int)) && decide ((4 : Int) < ((5 : Nat) : Int))) = true := rfl
  have t0 : (0 : Int).toNat = 0 := rfl
  have t1 : (1 : Int).toNat = 1 := rfl
  have t2 : (2 : Int).toNat = 2 := rfl
  have t3 : (3 : Int).toNat = 3 := rfl
  have t4 : (4 : Int).toNat = 4 := rfl
  have u0 : decide (0 < (l.getD i (List.replicate 5 0)).length) = true := by rw [hv5]; rfl
  have u1 : decide (1 < (l.getD i (List.replicate 5 0)).length) = true := by rw [hv5]; rfl
  have u2 : decide (2 < (l.getD i (List.replicate 5 0)).length) = true := by rw [hv5]; rfl
  have u3 : decide (3 < (l.getD i (List.replicate 5 0)).length) = true := by rw [hv5]; rfl
  have u4 : decide (4 < (l.getD i (List.replicate 5 0)).length) = true := by rw [hv5]; rfl
  have n360 : (0 : Int) < 360 := by omega
  have n4 : (0 : Int) < 4 := by omega
  have n1000 : (0 : Int) < 1000 := by omega
  have n6 : (0 : Int) < 6 := by omega
  have n30 : (0 : Int) < 30 := by omega
  have n13 : (0 : Int) < 13 := by omega
  simp only [d0, d1, d2, d3, d4, t0, t1, t2, t3, t4, u0, u1, u2, u3, u4, P14_eq k1 n360, F14_eq k1 n360, P14_eq k2 n4, F14_eq k2 n4, P14_eq k3 n4, F14_eq k3 n4, P14_eq k4 n1000, F14_eq k4 n1000, P14_eq k4 n6, F14_eq k4 n6, P14_eq k0 n4, F14_eq k0 n4, P14_eq k2 n30, F14_eq k2 n30, P14_eq k1 n13, F14_eq k1 n13, cond_true, bkEta]
  generalize hp : ((1, (pickM ((l.getD i (List.replicate 5 0)).getD 1 0) 360, (pickM ((l.getD i (List.replicate 5 0)).getD 2 0) 4, (pickM ((l.getD i (List.replicate 5 0)).getD 3 0) 4, (pickM ((l.getD i (List.replicate 5 0)).getD 4 0) 1000, (pickM ((l.getD i (List.replicate 5 0)).getD 4 0) 6, (-1, ()))))))) : Po) = p
  have e9 := G9_eq b p (by omega)
  have e15 := G15_eq b (pickM ((l.getD i (List.replicate 5 0)).getD 2 0) 30) (pickM ((l.getD i (List.replicate 5 0)).getD 1 0) 360) (pickM ((l.getD i (List.replicate 5 0)).getD 4 0) 1000) (by omega)
  have e17 := G17_eq b (pickM ((l.getD i (List.replicate 5 0)).getD 1 0) 13) (by omega)
  simp only [P9_of _ _ e9, F9_of _ _ e9, P15_of _ _ _ _ e15, F15_of _ _ _ _ e15, P17_of _ _ e17, F17_of _ _ e17, cond_true]
  have hps := posts_refl (l := b.2.1) (by omega)
  have hz : ((0, ([], (0, ()))) : Bk) = bk0 := rfl
  have hbz : (bif decide ((310 : Int) = 310) then true else false) = true := rfl
  cases h4 : (pickM ((l.getD i (List.replicate 5 0)).getD 0 0) 4 == 2)
  · cases h3 : (pickM ((l.getD i (List.replicate 5 0)).getD 0 0) 4 == 3)
    · simp only [cond_false]
      cases hq : postM b p with
      | none =>
        refine ⟨b, ?_, hb⟩
        simp only [outP, show ((310 : Int) != 0) = true from rfl, show ((310 : Int) != 310) = false from rfl, hz, P13_of _ _ bk0_same, F13_of _ _ bk0_same, cond_true, cond_false, Bool.true_or, Bool.not_true]
      | some c =>
        obtain ⟨hx, he⟩ := ext_post hb hq
        have hcl := valid_len hx.1
        have e11 := G11_eq c (by omega)
        rw [hx.1] at e11
        have c1 : (c.1 != b.1) = false := by rw [hx.2.1]; simp
        have c2 : ¬ c.2.2.1 < b.2.2.1 := by have := hx.2.2.1; omega
        have c3 : (((c.2.1.length : Nat) : Int) != IntKind.i64.wrap ((b.2.1.length : Int) + 1)) = false := by rw [wsucc (by omega), he]; simp
        have c4 : sliceTest 0 (b.2.1.length : Int) (c.2.1.length : Int) = true := by rw [he]; exact cut_ok _ _
        have c5 : cut c.2.1 0 (b.2.1.length : Int) = b.2.1 := by rw [he]; exact cut_app _ _
        refine ⟨c, ?_, hx.1⟩
        simp only [outP, bne_self_eq_false, P11_of _ e11, F11_of _ e11, c1, c2, decide_false, c3, c4, c5, P26_of _ _ hps, F26_of _ _ hps, run28 hb hx, Option.bind_some, cond_true, cond_false, Bool.true_or, Bool.not_true, wsucc (i := i) (by omega)]
    · simp only [cond_false, cond_true]
      cases hq : closeM b (pickM ((l.getD i (List.replicate 5 0)).getD 1 0) 13) with
      | none =>
        refine ⟨b, ?_, hb⟩
        simp only [outD, show ((310 : Int) != 0) = true from rfl, show ((310 : Int) != 310) = false from rfl, hz, P13_of _ _ bk0_same, F13_of _ _ bk0_same, cond_true, cond_false, Bool.true_or, Bool.not_true]
      | some c =>
        obtain ⟨hx, he⟩ := ext_close hq
        have hcl := valid_len hx.1
        have e11 := G11_eq c (by omega)
        rw [hx.1] at e11
        have c1 : (c.1 != b.1) = false := by rw [hx.2.1]; simp
        have c2 : ¬ c.2.2.1 < b.2.2.1 := by have := hx.2.2.1; omega
        have c3 : (((c.2.1.length : Nat) : Int) != IntKind.i64.wrap ((b.2.1.length : Int) + 0)) = false := by rw [wrapI (by omega) (by omega), he]; simp
        have c4 : sliceTest 0 (b.2.1.length : Int) (c.2.1.length : Int) = true := by rw [he]; have := cut_ok b.2.1 []; rwa [List.append_nil] at this
        have c5 : cut c.2.1 0 (b.2.1.length : Int) = b.2.1 := by rw [he]; have := cut_app b.2.1 []; rwa [List.append_nil] at this
        refine ⟨c, ?_, hx.1⟩
        simp only [outD, bne_self_eq_false, P11_of _ e11, F11_of _ e11, c1, c2, decide_false, c3, c4, c5, P26_of _ _ hps, F26_of _ _ hps, run28 hb hx, Option.bind_some, cond_true, cond_false, Bool.true_or, Bool.not_true, wsucc (i := i) (by omega)]
  · simp only [cond_true]
    cases hq : disputeM b (pickM ((l.getD i (List.replicate 5 0)).getD 2 0) 30) (pickM ((l.getD i (List.replicate 5 0)).getD 1 0) 360) (pickM ((l.getD i (List.replicate 5 0)).getD 4 0) 1000) with
    | none =>
      refine ⟨b, ?_, hb⟩
      simp only [outD, show ((310 : Int) != 0) = true from rfl, show ((310 : Int) != 310) = false from rfl, hz, P13_of _ _ bk0_same, F13_of _ _ bk0_same, cond_true, cond_false, Bool.true_or, Bool.not_true]
    | some c =>
      have hx := ext_dispute hb hq
      obtain ⟨e, he, hle, _⟩ := hx.2.2.2
      have hcl := valid_len hx.1
      have e11 := G11_eq c (by omega)
      rw [hx.1] at e11
      have hlc : c.2.1.length = b.2.1.length + e.length := by rw [he]; simp
      have c1 : (c.1 != b.1) = false := by rw [hx.2.1]; simp
      have c2 : ¬ c.2.2.1 < b.2.2.1 := by have := hx.2.2.1; omega
      have w1 : IntKind.i64.wrap ((c.2.1.length : Int) - (b.2.1.length : Int)) = (e.length : Int) := by rw [wrapI (by omega) (by omega)]; omega
      have c3 : (((c.2.1.length : Nat) : Int) != IntKind.i64.wrap ((b.2.1.length : Int) + (e.length : Int))) = false := by rw [wrapI (by omega) (by omega), hlc]; simp
      have c4 : sliceTest 0 (b.2.1.length : Int) (c.2.1.length : Int) = true := by rw [he]; exact cut_ok _ _
      have c5 : cut c.2.1 0 (b.2.1.length : Int) = b.2.1 := by rw [he]; exact cut_app _ _
      have c6 : decide ((e.length : Int) < 0) = false := by simp
      have c7 : decide ((e.length : Int) > 2) = false := by simp; omega
      refine ⟨c, ?_, hx.1⟩
      simp only [outD, bne_self_eq_false, w1, P11_of _ e11, F11_of _ e11, c1, c2, decide_false, c3, c4, c5, c6, c7, P26_of _ _ hps, F26_of _ _ hps, run28 hb hx, Option.bind_some, cond_true, cond_false, Bool.true_or, Bool.not_true, wsucc (i := i) (by omega)]
theorem loop5 {l : List (List Int)} (hl : Rows6 l) (s1 : Bool) : ∀ (n i : Nat), n = min l.length 8 - i → i ≤ 8 → ∀ b : Bk, valid b = true →
    ∃ r : Bk, ∃ k : Int, L5_6 (l, s1, (i : Int), b.1, b.2.1, b.2.2.1) = some (.inr (l, s1, k, r.1, r.2.1, r.2.2.1)) := by
  intro n
  induction n with
  | zero =>
    intro i hn hi b hb
    have hll := hl.1.1
    refine ⟨b, (i : Int), lim_end ?_⟩
    simp only [L5_6_r]
    have : (bif decide ((i : Int) < (l.length : Int)) then decide ((i : Int) < 8) else false) = false := by
      by_cases h1 : i < l.length
      · rw [show decide ((i : Int) < 8) = false by simp; omega]; simp
      · rw [show decide ((i : Int) < (l.length : Int)) = false by simp; omega]; rfl
    simp only [this, cond_false]
  | succ n ih =>
    intro i hn hi b hb
    obtain ⟨c, hr, hc⟩ := round5 hl (i := i) (by omega) (by omega) s1 hb
    obtain ⟨r, k, h2⟩ := ih (i + 1) (by omega) (by omega) c hc
    exact ⟨r, k, (lim_go hr).trans h2⟩
theorem BookKeeps_pure (x0 : Int) (x1 x2 : List (List Int)) (g0 : Good (.int .i64) x0) (g1 : Good (.list (.arr 5 (.int .i64))) x1) (g2 : Good (.list (.arr 5 (.int .i64))) x2) : G5 x0 x1 x2 = some true := by
  obtain ⟨b, h8, hb⟩ := G8_eq (good_int g0) (rows5_of g1)
  have e11 := G11_eq b (by have := hb.2.1; omega)
  rw [hb.1] at e11
  obtain ⟨r, k, hr⟩ := loop5 ⟨rows5_of g2, fun v hv => (g2.2 v hv).1⟩ true _ 0 rfl (by omega) b hb.1
  have hr' : L5_6 (x2, true, 0, b.1, b.2.1, b.2.2.1) = _ := hr
  unfold G5
  simp only [P7_eq, F7_eq, P8_of _ _ h8, F8_of _ _ h8, P11_of _ e11, F11_of _ e11, hr', Option.bind_some, cond_true, cond_false, Bool.not_true]
end Go.Ev.B
