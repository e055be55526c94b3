/- BookMatchesReference: the law's function answers true. -/
import Derived.Test.YtohcmlejdglimaaBI
set_option linter.unusedSimpArgs false
set_option linter.unusedVariables false
namespace Go.Ev.B
open Go Go.Ev
theorem outD_dispute_len (b : Bk) (i d a : Int) : (outD (disputeM b i d a)).1.2.1.length ≤ b.2.1.length + 2 := by
  unfold disputeM
  split
  · cases h : postM b (backP (b.2.1.getD i.toNat z26) i d) with
    | none => simp [outD, bk0]
    | some c =>
      have e := (postM_valid h).2
      simp only [Option.bind_some]
      split
      · subst e; simp [outD]
      · cases h2 : postM c (newP (b.2.1.getD i.toNat z26) d a) with
        | none => simp [outD, bk0]
        | some c2 => have e2 := (postM_valid h2).2; subst e2; subst e; simp [outD]
  · simp [outD, bk0]
theorem outP_len (b : Bk) (p : Po) : (outP b (postM b p)).1.2.1.length ≤ b.2.1.length + 1 := by
  cases h : postM b p with
  | none => simp [outP, bk0]
  | some c => have e := (postM_valid h).2; subst e; simp [outP]
theorem outD_close_len (b : Bk) (m : Int) : (outD (closeM b m)).1.2.1.length ≤ b.2.1.length := by
  cases h : closeM b m with
  | none => simp [outD, bk0]
  | some c => have e := (closeM_valid h).2.1; subst e; simp [outD]
theorem statM_len (b : Bk) (m : Int) : (statM b m).1.length ≤ 12 := by
  unfold statM; split
  · rename_i h; simp only [Bool.and_eq_true] at h; have := (valid_iff.mp h.1).2.1; rw [tabl_len]; omega
  · simp
theorem owedM_len (b : Bk) (m : Int) : (owedM b m).1.length ≤ 12 := by
  unfold owedM; split
  · rename_i h; simp only [Bool.and_eq_true] at h; have := (valid_iff.mp h.1).2.1; rw [tabl_len]; omega
  · simp
theorem at_ok {l : List Int} {i : Nat} (h : i < l.length) : (decide (0 ≤ (i : Int)) && decide ((i : Int) < (l.length : Int))) = true := by simp; omega
theorem at_ok2 {l : List Int} {i : Nat} (h : i < l.length) : decide (((i : Int)).toNat < l.length) = true := by simp; omega
theorem lt_ok {i n : Nat} (h : i < n) : decide ((i : Int) < (n : Int)) = true := by simp; omega
theorem ge0 (i : Nat) : decide (0 ≤ (i : Int)) = true := by simp
theorem lt_no (n : Nat) : decide ((n : Int) < (n : Int)) = false := by simp
theorem bkEta3 (a : Int) (l : List Po) (c : Int) : ((a, (l, (c, ()))) : Bk).2.1 = l := rfl
theorem L3_11_run {s0 : Int} {s1 : Int} {s2 : Int} {s3 : Int} {s4 : Bool} {s5 : List Bk} {s6 : Int} {s7 : Int} {s8 : List Int} {s11 : Int} {s12 : Int} {s13 : Int} {s14 : Int} {s15 : Int} {s16 : Int} {s17 : Int} {s18 : Int} {s19 : List Po} {s20 : Int} (hl : s19.length ≤ 1000000) (h8 : s8.length ≤ 1000) : L3_11 (s0, s1, s2, s3, s4, s5, s6, s7, s8, (s8.length : Int), 0, s11, s12, s13, s14, s15, s16, s17, s18, s19, s20) = some (.inr (s0, s1, s2, s3, s4, s5, s6, s7, s8, (s8.length : Int), (s8.length : Int), s11, s12, s13, s14, s15, s16, s17, s18, s19, s20)) := by
  refine lim_inv (r := fun s => L3_11_r s.1 s.2.1 s.2.2.1 s.2.2.2.1 s.2.2.2.2.1 s.2.2.2.2.2.1 s.2.2.2.2.2.2.1 s.2.2.2.2.2.2.2.1 s.2.2.2.2.2.2.2.2.1 s.2.2.2.2.2.2.2.2.2.1 s.2.2.2.2.2.2.2.2.2.2.1 s.2.2.2.2.2.2.2.2.2.2.2.1 s.2.2.2.2.2.2.2.2.2.2.2.2.1 s.2.2.2.2.2.2.2.2.2.2.2.2.2.1 s.2.2.2.2.2.2.2.2.2.2.2.2.2.2.1 s.2.2.2.2.2.2.2.2.2.2.2.2.2.2.2.1 s.2.2.2.2.2.2.2.2.2.2.2.2.2.2.2.2.1 s.2.2.2.2.2.2.2.2.2.2.2.2.2.2.2.2.2.1 s.2.2.2.2.2.2.2.2.2.2.2.2.2.2.2.2.2.2.1 s.2.2.2.2.2.2.2.2.2.2.2.2.2.2.2.2.2.2.2.1 s.2.2.2.2.2.2.2.2.2.2.2.2.2.2.2.2.2.2.2.2) (fun i => (s0, s1, s2, s3, s4, s5, s6, s7, s8, (s8.length : Int), (i : Int), s11, s12, s13, s14, s15, s16, s17, s18, s19, s20)) (.inr (s0, s1, s2, s3, s4, s5, s6, s7, s8, (s8.length : Int), (s8.length : Int), s11, s12, s13, s14, s15, s16, s17, s18, s19, s20)) s8.length (fun i hi => ?_) ?_ 0 (by omega)
  · simp only [L3_11_r, lt_ok hi, ge0 i, at_ok2 hi, wsucc (i := i) (by omega), cond_true, Bool.and_true]
    generalize s8.getD ((i : Int)).toNat 0 = k
    have e1 := G15_eq (s18, (s19, (s20, ()))) k s1 s2 (by simp only; omega)
    have e2 := G16_eq (s18, (s19, (s20, ()))) k s1 s2 (by simp only; omega)
    have e3 := same_refl (x := (outD (disputeM (s18, (s19, (s20, ()))) k s1 s2)).1) (by have := outD_dispute_len (s18, (s19, (s20, ()))) k s1 s2; simp only at this; omega)
    simp only [P15_of _ _ _ _ e1, F15_of _ _ _ _ e1, P16_of _ _ _ _ e2, F16_of _ _ _ _ e2, bkEta, P13_of _ _ e3, F13_of _ _ e3, bne_self_eq_false, cond_true, cond_false, Bool.true_or, Bool.not_true]
  · simp only [L3_11_r, lt_no]; rfl
theorem L3_19_run {s0 : Int} {s1 : Int} {s2 : Int} {s3 : Int} {s4 : Bool} {s5 : List Bk} {s6 : Int} {s7 : Int} {s8 : List Int} {s11 : Int} {s12 : Int} {s13 : Int} {s14 : Int} {s15 : Int} {s16 : Int} {s17 : Int} {s18 : Int} {s19 : List Po} {s20 : Int} (hl : s19.length ≤ 1000000) (h8 : s8.length ≤ 1000) : L3_19 (s0, s1, s2, s3, s4, s5, s6, s7, s8, (s8.length : Int), 0, s11, s12, s13, s14, s15, s16, s17, s18, s19, s20) = some (.inr (s0, s1, s2, s3, s4, s5, s6, s7, s8, (s8.length : Int), (s8.length : Int), s11, s12, s13, s14, s15, s16, s17, s18, s19, s20)) := by
  refine lim_inv (r := fun s => L3_19_r s.1 s.2.1 s.2.2.1 s.2.2.2.1 s.2.2.2.2.1 s.2.2.2.2.2.1 s.2.2.2.2.2.2.1 s.2.2.2.2.2.2.2.1 s.2.2.2.2.2.2.2.2.1 s.2.2.2.2.2.2.2.2.2.1 s.2.2.2.2.2.2.2.2.2.2.1 s.2.2.2.2.2.2.2.2.2.2.2.1 s.2.2.2.2.2.2.2.2.2.2.2.2.1 s.2.2.2.2.2.2.2.2.2.2.2.2.2.1 s.2.2.2.2.2.2.2.2.2.2.2.2.2.2.1 s.2.2.2.2.2.2.2.2.2.2.2.2.2.2.2.1 s.2.2.2.2.2.2.2.2.2.2.2.2.2.2.2.2.1 s.2.2.2.2.2.2.2.2.2.2.2.2.2.2.2.2.2.1 s.2.2.2.2.2.2.2.2.2.2.2.2.2.2.2.2.2.2.1 s.2.2.2.2.2.2.2.2.2.2.2.2.2.2.2.2.2.2.2.1 s.2.2.2.2.2.2.2.2.2.2.2.2.2.2.2.2.2.2.2.2) (fun i => (s0, s1, s2, s3, s4, s5, s6, s7, s8, (s8.length : Int), (i : Int), s11, s12, s13, s14, s15, s16, s17, s18, s19, s20)) (.inr (s0, s1, s2, s3, s4, s5, s6, s7, s8, (s8.length : Int), (s8.length : Int), s11, s12, s13, s14, s15, s16, s17, s18, s19, s20)) s8.length (fun i hi => ?_) ?_ 0 (by omega)
  · simp only [L3_19_r, lt_ok hi, ge0 i, at_ok2 hi, wsucc (i := i) (by omega), cond_true, Bool.and_true]
    generalize s8.getD ((i : Int)).toNat 0 = k
    have e1 := G17_eq (s18, (s19, (s20, ()))) k (by simp only; omega)
    have e2 := G18_eq (s18, (s19, (s20, ()))) k (by simp only; omega)
    have e3 := same_refl (x := (outD (closeM (s18, (s19, (s20, ()))) k)).1) (by have := outD_close_len (s18, (s19, (s20, ()))) k; simp only at this; omega)
    have e4 := G19_eq (s18, (s19, (s20, ()))) k (by simp only; omega)
    have e5 := G20_eq (s18, (s19, (s20, ()))) k
    have e6 := G21_eq (s18, (s19, (s20, ()))) s0 k (by simp only; omega)
    have e7 := G22_eq (s18, (s19, (s20, ()))) s0 k
    have e8 := ints_refl (l := (statM (s18, (s19, (s20, ()))) k).1) (by have := statM_len (s18, (s19, (s20, ()))) k; omega)
    simp only [P17_of _ _ e1, F17_of _ _ e1, P18_of _ _ e2, F18_of _ _ e2, P19_of _ _ e4, F19_of _ _ e4, P20_of _ _ e5, F20_of _ _ e5, P21_of _ _ _ e6, F21_of _ _ _ e6, P22_of _ _ _ e7, F22_of _ _ _ e7, bkEta, P13_of _ _ e3, F13_of _ _ e3, tk_all, P23_of _ _ e8, F23_of _ _ e8, bne_self_eq_false, cond_true, cond_false, Bool.true_or, Bool.not_true]
  · simp only [L3_19_r, lt_no]; rfl
theorem L3_31_run {s0 : Int} {s1 : Int} {s2 : Int} {s3 : Int} {s4 : Bool} {s5 : List Bk} {s6 : Int} {s7 : Int} {s8 : List Int} {s11 : Int} {s12 : Int} {s13 : Int} {s14 : Int} {s15 : Int} {s16 : Int} {s17 : Int} {s18 : Int} {s19 : List Po} {s20 : Int} (hl : s19.length ≤ 1000000) (h8 : s8.length ≤ 1000) : L3_31 (s0, s1, s2, s3, s4, s5, s6, s7, s8, (s8.length : Int), 0, s11, s12, s13, s14, s15, s16, s17, s18, s19, s20) = some (.inr (s0, s1, s2, s3, s4, s5, s6, s7, s8, (s8.length : Int), (s8.length : Int), s11, s12, s13, s14, s15, s16, s17, s18, s19, s20)) := by
  refine lim_inv (r := fun s => L3_31_r s.1 s.2.1 s.2.2.1 s.2.2.2.1 s.2.2.2.2.1 s.2.2.2.2.2.1 s.2.2.2.2.2.2.1 s.2.2.2.2.2.2.2.1 s.2.2.2.2.2.2.2.2.1 s.2.2.2.2.2.2.2.2.2.1 s.2.2.2.2.2.2.2.2.2.2.1 s.2.2.2.2.2.2.2.2.2.2.2.1 s.2.2.2.2.2.2.2.2.2.2.2.2.1 s.2.2.2.2.2.2.2.2.2.2.2.2.2.1 s.2.2.2.2.2.2.2.2.2.2.2.2.2.2.1 s.2.2.2.2.2.2.2.2.2.2.2.2.2.2.2.1 s.2.2.2.2.2.2.2.2.2.2.2.2.2.2.2.2.1 s.2.2.2.2.2.2.2.2.2.2.2.2.2.2.2.2.2.1 s.2.2.2.2.2.2.2.2.2.2.2.2.2.2.2.2.2.2.1 s.2.2.2.2.2.2.2.2.2.2.2.2.2.2.2.2.2.2.2.1 s.2.2.2.2.2.2.2.2.2.2.2.2.2.2.2.2.2.2.2.2) (fun i => (s0, s1, s2, s3, s4, s5, s6, s7, s8, (s8.length : Int), (i : Int), s11, s12, s13, s14, s15, s16, s17, s18, s19, s20)) (.inr (s0, s1, s2, s3, s4, s5, s6, s7, s8, (s8.length : Int), (s8.length : Int), s11, s12, s13, s14, s15, s16, s17, s18, s19, s20)) s8.length (fun i hi => ?_) ?_ 0 (by omega)
  · simp only [L3_31_r, lt_ok hi, ge0 i, at_ok2 hi, wsucc (i := i) (by omega), cond_true, Bool.and_true]
    generalize s8.getD ((i : Int)).toNat 0 = k
    have e4 := G24_eq (s18, (s19, (s20, ()))) k (by simp only; omega)
    have e5 := G25_eq (s18, (s19, (s20, ()))) k
    have e8 := ints_refl (l := (owedM (s18, (s19, (s20, ()))) k).1) (by have := owedM_len (s18, (s19, (s20, ()))) k; omega)
    simp only [P24_of _ _ e4, F24_of _ _ e4, P25_of _ _ e5, F25_of _ _ e5, bkEta, tk_all, P23_of _ _ e8, F23_of _ _ e8, bne_self_eq_false, cond_true, cond_false, Bool.true_or, Bool.not_true]
  · simp only [L3_31_r, lt_no]; rfl
theorem L3_4_run {s0 : Int} {s1 : Int} {s2 : Int} {s3 : Int} {s4 : Bool} {s5 : List Bk} {s8 : Int} {s9 : Int} {s10 : Int} {s11 : Int} {s12 : Int} {s13 : Int} {s14 : Int} (h5 : s5.length ≤ 1000) (hb : ∀ b ∈ s5, b.2.1.length ≤ 1000) (h0 : I64 s0) (h3 : I64 s3) (h13 : I64 s13) : L3_4 (s0, s1, s2, s3, s4, s5, (s5.length : Int), 0, s8, s9, s10, s11, s12, s13, s14) = some (.inr (s0, s1, s2, s3, s4, s5, (s5.length : Int), (s5.length : Int), s8, s9, s10, s11, s12, s13, s14)) := by
  refine lim_inv (r := fun s => L3_4_r s.1 s.2.1 s.2.2.1 s.2.2.2.1 s.2.2.2.2.1 s.2.2.2.2.2.1 s.2.2.2.2.2.2.1 s.2.2.2.2.2.2.2.1 s.2.2.2.2.2.2.2.2.1 s.2.2.2.2.2.2.2.2.2.1 s.2.2.2.2.2.2.2.2.2.2.1 s.2.2.2.2.2.2.2.2.2.2.2.1 s.2.2.2.2.2.2.2.2.2.2.2.2.1 s.2.2.2.2.2.2.2.2.2.2.2.2.2.1 s.2.2.2.2.2.2.2.2.2.2.2.2.2.2) (fun i => (s0, s1, s2, s3, s4, s5, (s5.length : Int), (i : Int), s8, s9, s10, s11, s12, s13, s14)) (.inr (s0, s1, s2, s3, s4, s5, (s5.length : Int), (s5.length : Int), s8, s9, s10, s11, s12, s13, s14)) s5.length (fun i hi => ?_) ?_ 0 (by omega)
  · have hm : s5.getD i z23 ∈ s5 := by rw [List.getD_eq_getElem?_getD, List.getElem?_eq_getElem hi]; exact List.getElem_mem hi
    have hbl := hb _ hm
    have g1 : decide (0 ≤ (i : Int)) = true := by simp
    have g2 : decide (i < s5.length) = true := by simpa using hi
    simp only [L3_4_r, lt_ok hi, g1, g2, Int.toNat_natCast, wsucc (i := i) (by omega), cond_true, Bool.and_true]
    generalize s5.getD i z23 = b at hbl
    have e1 := G9_eq b (s8, (s9, (s10, (s11, (s12, (s13, (s14, ()))))))) (by omega)
    have e2 := G10_eq b (s8, (s9, (s10, (s11, (s12, (s13, (s14, ()))))))) (by omega)
    have e3 := same_refl (x := (outP b (postM b (s8, (s9, (s10, (s11, (s12, (s13, (s14, ()))))))))).1) (by have := outP_len b (s8, (s9, (s10, (s11, (s12, (s13, (s14, ()))))))); omega)
    have e4 := G11_eq b (by omega)
    have e5 := G12_eq b
    have e6 : eqv .bool (valid b) (valid b) = true := by cases valid b <;> rfl
    have w : IntKind.i64.wrap ((b.2.1.length : Int) + 1) = (b.2.1.length : Int) + 1 := wrapI (by omega) (by omega)
    simp only [P9_of _ _ e1, F9_of _ _ e1, P10_of _ _ e2, F10_of _ _ e2, P11_of _ e4, F11_of _ e4, P12_of _ e5, F12_of _ e5, e6, bkEta, P13_of _ _ e3, F13_of _ _ e3, w, P14_eq h0 (n := (b.2.1.length : Int) + 1) (by omega), F14_eq h0 (n := (b.2.1.length : Int) + 1) (by omega), P14_eq h3 (n := 12) (by omega), F14_eq h3 (n := 12) (by omega), P14_eq h13 (n := 6) (by omega), F14_eq h13 (n := 6) (by omega), bne_self_eq_false, cond_true, cond_false, Bool.true_or, Bool.not_true, List.replicate, List.set]
    have r1 := @L3_11_run s0 s1 s2 s3 s4 s5 (s5.length : Int) (i : Int) [s0, pickM s0 ((b.2.1.length : Int) + 1)] s8 s9 s10 s11 s12 s13 s14 b.1 b.2.1 b.2.2.1 (by omega) (by simp)
    have r2 := @L3_19_run s0 s1 s2 s3 s4 s5 (s5.length : Int) (i : Int) [s3, pickM s3 12, b.2.2.1] s8 s9 s10 s11 s12 s13 s14 b.1 b.2.1 b.2.2.1 (by omega) (by simp)
    have r3 := @L3_31_run s0 s1 s2 s3 s4 s5 (s5.length : Int) (i : Int) [s13, pickM s13 6] s8 s9 s10 s11 s12 s13 s14 b.1 b.2.1 b.2.2.1 (by omega) (by simp)
    simp only [List.length_cons, List.length_nil] at r1 r2 r3
    have r1' := r1; have r2' := r2; have r3' := r3
    simp only [show (((0 + 1 + 1 : Nat) : Int)) = 2 from rfl, show (((0 + 1 + 1 + 1 : Nat) : Int)) = 3 from rfl] at r1' r2' r3'
    simp only [r1', r2', r3', P14_eq h3 (n := 12) (by omega), F14_eq h3 (n := 12) (by omega), P14_eq h13 (n := 6) (by omega), F14_eq h13 (n := 6) (by omega), Option.bind_some, cond_true, wsucc (i := i) (by omega)]
  · simp only [L3_4_r, lt_no]; rfl
theorem cut8 (l : List Po) (hl : l.length ≤ 1000000000000000000) : sliceTest 0 (if (8 : Int) < (l.length : Int) then 8 else (l.length : Int)) (l.length : Int) = true ∧ (cut l 0 (if (8 : Int) < (l.length : Int) then 8 else (l.length : Int))).length ≤ 8 := by
  constructor
  · simp only [sliceTest]; split <;> simp <;> omega
  · simp only [cut]; rw [List.length_drop, List.length_take]; split <;> simp <;> omega
theorem law3 (x0 : Bk) (x1 : Int) (x2 : List (List Int)) (x3 : Po) (x4 x5 x6 x7 : Int) (h0 : x0.2.1.length ≤ 1000000000000000000) (h1 : I64 x1) (h2 : Rows5 x2) (h4 : I64 x4) (h7 : I64 x7) (h3 : I64 x3.2.2.2.2.2.1) : G3 x0 x1 x2 x3 x4 x5 x6 x7 = some true := by
  obtain ⟨b, hb, hk⟩ := G8_eq h1 h2
  obtain ⟨c1, c2⟩ := cut8 x0.2.1 h0
  unfold G3
  simp only [P7_eq, F7_eq, P8_of _ _ hb, F8_of _ _ hb, c1, cond_true, List.replicate, List.set, List.length_cons, List.length_nil]
  have r := @L3_4_run x4 x5 x6 x7 true [(x0.1, (cut x0.2.1 0 (if (8 : Int) < (x0.2.1.length : Int) then 8 else (x0.2.1.length : Int)), (x0.2.2.1, ()))), b] x3.1 x3.2.1 x3.2.2.1 x3.2.2.2.1 x3.2.2.2.2.1 x3.2.2.2.2.2.1 x3.2.2.2.2.2.2.1 (by simp) (by
    intro q hq
    rcases List.mem_cons.mp hq with e | e
    · subst e; simp only; omega
    · simp at e; subst e; have := hk.2.1; omega) h4 h7 h3
  simp only [List.length_cons, List.length_nil] at r
  rw [r]; rfl
end Go.Ev.B
