/- BookDisputes: the law's function answers true. -/
import Derived.Test.YtohcmlejdglimaaBNa
set_option linter.unusedSimpArgs false
set_option linter.unusedVariables false
namespace Go.Ev.B
open Go Go.Ev
theorem upd_delta {n : Nat} {p : Po} (hp : PoOk n p) {f : Nat → Int} (hf : ∀ u, u < n → -1000000000000000 ≤ f u ∧ f u ≤ 1000000000000000) {m : Int} (hm : 0 ≤ m ∧ m ≤ 999) :
    IntKind.i64.wrap (IntKind.i64.wrap ((fl n f).getD p.2.2.2.1.toNat 0 - p.2.2.2.2.1) + m) = f p.2.2.2.1.toNat - p.2.2.2.2.1 + m ∧ (∀ y, IntKind.i64.wrap (IntKind.i64.wrap (((fl n f).set p.2.2.2.1.toNat y).getD p.2.2.1.toNat 0 + p.2.2.2.2.1) - m) = f p.2.2.1.toNat + p.2.2.2.2.1 - m)
    ∧ ((fl n f).set p.2.2.2.1.toNat (f p.2.2.2.1.toNat - p.2.2.2.2.1 + m)).set p.2.2.1.toNat (f p.2.2.1.toNat + p.2.2.2.2.1 - m) = fl n fun u => f u + delta u p m := by
  obtain ⟨h1, h2, h3, h4, h5, h6, h7⟩ := hp
  have b1 := hf p.2.2.2.1.toNat (by omega); have b2 := hf p.2.2.1.toNat (by omega)
  refine ⟨?_, fun y => ?_, ?_⟩
  · rw [fl_get _ (by omega), wrapI (n := f _ - _) (by omega) (by omega), wrapI (by omega) (by omega)]
  · rw [fl_set, fl_get _ (by omega), if_neg (by omega), wrapI (n := f _ + _) (by omega) (by omega), wrapI (by omega) (by omega)]
  · rw [fl_set, fl_set]
    refine fl_congr fun u hu => ?_
    unfold delta
    by_cases e1 : u = p.2.2.1.toNat
    · rw [if_pos e1, if_neg (show ¬ p.2.2.2.1 = (u : Int) by omega), if_pos (show p.2.2.1 = (u : Int) by omega), e1]; omega
    · rw [if_neg e1, if_neg (show ¬ p.2.2.1 = (u : Int) by omega)]
      by_cases e2 : u = p.2.2.2.1.toNat
      · rw [if_pos e2, if_pos (show p.2.2.2.1 = (u : Int) by omega), e2]; omega
      · rw [if_neg e2, if_neg (show ¬ p.2.2.2.1 = (u : Int) by omega)]; omega
theorem take_fl (n : Nat) (f : Nat → Int) : List.take n (fl n f) = fl n f := List.take_of_length_le (Nat.le_of_eq (fl_len n f))
theorem owed_fl {b : Bk} (h : valid b = true) (k : Int) : tabl b.1.toNat (sel (stands k b.2.1) 0 b.2.1) = fl b.1.toNat fun u => sumK u (sub k) b.2.1 := fl_congr fun u _ => owed_sum (valid_iff.mp h).1 k u
theorem stat_fl (b : Bk) (m : Int) : tabl b.1.toNat (sel (inM m) 0 b.2.1) = fl b.1.toNat fun u => sumK u (inM m 0) b.2.1 := fl_congr fun u _ => stat_sum m u _ _
theorem sumK_bound {n u : Nat} (f : Po → Bool) : ∀ l : List Po, (∀ p ∈ l, PoOk n p) → -(1000000000 * (l.length : Int)) ≤ sumK u f l ∧ sumK u f l ≤ 1000000000 * (l.length : Int) := by
  intro l; induction l with
  | nil => intro _; simp [sumK]
  | cons q l ih =>
    intro h
    have h1 := ent_bound (t := u) (h q (by simp)); have h2 := ih fun p hp => h p (by simp [hp])
    simp only [sumK, List.length_cons]
    cases f q
    · simp only [cond_false]; omega
    · simp only [cond_true]; omega
section
variable {b c : Bk} {p : Po} {day n : Int} (hb : Mk 48 b) (hc : valid c = true) (hcl : c.2.1.length ≤ 50) (hca : c.1 = b.1) (hp : p ∈ b.2.1) (hn : 0 ≤ n ∧ n ≤ 999)
include hb hc hcl hca hp hn
theorem run21 (s0 : Bool) (hs : ∀ (u : Nat) (k : Nat), sumK u (sub (k : Int)) c.2.1 = sumK u (sub (k : Int)) b.2.1 + bif (p.2.2.2.2.2.1 == (k : Int)) then delta u p n else 0) :
    L6_21 (s0, day, n, 0, b.1, b.2.1, b.2.2.1, p.1, p.2.1, p.2.2.1, p.2.2.2.1, p.2.2.2.2.1, p.2.2.2.2.2.1, p.2.2.2.2.2.2.1, c.1, c.2.1, c.2.2.1) = some (.inr (s0, day, n, 6, b.1, b.2.1, b.2.2.1, p.1, p.2.1, p.2.2.1, p.2.2.2.1, p.2.2.2.2.1, p.2.2.2.2.2.1, p.2.2.2.2.2.2.1, c.1, c.2.1, c.2.2.1)) := by
  obtain ⟨_, ⟨hA1, hA2⟩, _⟩ := valid_iff.mp hb.1
  have hpo := valid_ok hb.1 p hp
  refine lim_inv (r := fun s => L6_21_r s.1 s.2.1 s.2.2.1 s.2.2.2.1 s.2.2.2.2.1 s.2.2.2.2.2.1 s.2.2.2.2.2.2.1 s.2.2.2.2.2.2.2.1 s.2.2.2.2.2.2.2.2.1 s.2.2.2.2.2.2.2.2.2.1 s.2.2.2.2.2.2.2.2.2.2.1 s.2.2.2.2.2.2.2.2.2.2.2.1 s.2.2.2.2.2.2.2.2.2.2.2.2.1 s.2.2.2.2.2.2.2.2.2.2.2.2.2.1 s.2.2.2.2.2.2.2.2.2.2.2.2.2.2.1 s.2.2.2.2.2.2.2.2.2.2.2.2.2.2.2.1 s.2.2.2.2.2.2.2.2.2.2.2.2.2.2.2.2) (fun k => (s0, day, n, (k : Int), b.1, b.2.1, b.2.2.1, p.1, p.2.1, p.2.2.1, p.2.2.2.1, p.2.2.2.2.1, p.2.2.2.2.2.1, p.2.2.2.2.2.2.1, c.1, c.2.1, c.2.2.1)) (.inr (s0, day, n, 6, b.1, b.2.1, b.2.2.1, p.1, p.2.1, p.2.2.1, p.2.2.2.1, p.2.2.2.2.1, p.2.2.2.2.2.1, p.2.2.2.2.2.2.1, c.1, c.2.1, c.2.2.1)) 6 (fun k hk => ?_) ?_ 0 (by omega)
  · have e1 := (G24_eq b (k : Int) (by have := hb.2.1; omega)).trans (congrArg some (show owedM b (k : Int) = (fl b.1.toNat (fun u => sumK u (sub (k : Int)) b.2.1), 0) by
      simp only [owedM, hb.1]; rw [if_pos (by simp [isIn]; omega), owed_fl hb.1 (k : Int)]))
    have e2 := (G24_eq c (k : Int) (by omega)).trans (congrArg some (show owedM c (k : Int) = (fl b.1.toNat (fun u => sumK u (sub (k : Int)) b.2.1 + bif (p.2.2.2.2.2.1 == (k : Int)) then delta u p n else 0), 0) by
      simp only [owedM, hc]; rw [if_pos (by simp [isIn]; omega), owed_fl hc (k : Int), hca]; simp only [hs]))
    have hf : ∀ u, u < b.1.toNat → -1000000000000000 ≤ sumK u (sub (k : Int)) b.2.1 ∧ sumK u (sub (k : Int)) b.2.1 ≤ 1000000000000000 := fun u _ => by
      have := sumK_bound (u := u) (sub (k : Int)) b.2.1 (valid_ok hb.1); have := hb.2.1; omega
    obtain ⟨w1, w2, w3⟩ := upd_delta hpo hf hn
    have hr := fun g => ints_refl (l := fl b.1.toNat g) (by rw [fl_len]; omega)
    have g1 : decide ((k : Int) < 6) = true := by simp; omega
    have g2 : (((b.1.toNat : Nat) : Int) != b.1) = false := by simp [bne]; omega
    obtain ⟨h1, h2, h3, h4, _⟩ := hpo
    have k1 : decide (0 ≤ p.2.2.2.1) = true := by simpa using h3
    have k2 : decide (p.2.2.2.1 < ((b.1.toNat : Nat) : Int)) = true := by simpa using h4
    have k3 : decide (p.2.2.2.1.toNat < b.1.toNat) = true := by simp; omega
    have k4 : decide (0 ≤ p.2.2.1) = true := by simpa using h1
    have k5 : decide (p.2.2.1 < ((b.1.toNat : Nat) : Int)) = true := by simpa using h2
    have k6 : decide (p.2.2.1.toNat < b.1.toNat) = true := by simp; omega
    cases hh : ((p.2.2.2.2.2.1 == (k : Int)))
    · simp only [hh, cond_false, Int.add_zero] at e2
      have hh' : ((k : Int) == p.2.2.2.2.2.1) = false := by rw [Bool.beq_comm]; exact hh
      simp only [L6_21_r, bkEta, P24_of _ _ e1, F24_of _ _ e1, P24_of _ _ e2, F24_of _ _ e2, fl_len, g1, g2, hh', take_fl, P23_of _ _ (hr _), F23_of _ _ (hr _), bne_self_eq_false, cond_true, cond_false, Bool.not_true, wsucc (i := k) (by omega)]
    · simp only [hh, cond_true] at e2
      have hh' : ((k : Int) == p.2.2.2.2.2.1) = true := by rw [Bool.beq_comm]; exact hh
      simp only [L6_21_r, bkEta, P24_of _ _ e1, F24_of _ _ e1, P24_of _ _ e2, F24_of _ _ e2, fl_len, List.length_set, g1, g2, hh', k1, k2, k3, k4, k5, k6, w1, w2, w3, take_fl, P23_of _ _ (hr _), F23_of _ _ (hr _), bne_self_eq_false, cond_true, cond_false, Bool.not_true, Bool.and_true, wsucc (i := k) (by omega)]
  · simp only [L6_21_r]; rfl
theorem run33 (s0 : Bool) (hs : ∀ (u : Nat) (k : Nat), sumK u (inM (k : Int) 0) c.2.1 = sumK u (inM (k : Int) 0) b.2.1 + bif (IntKind.i64.wrap (Int.tdiv day 30) == (k : Int)) then delta u p n else 0) :
    L6_33 (s0, day, n, 0, b.1, b.2.1, b.2.2.1, p.1, p.2.1, p.2.2.1, p.2.2.2.1, p.2.2.2.2.1, p.2.2.2.2.2.1, p.2.2.2.2.2.2.1, c.1, c.2.1, c.2.2.1) = some (.inr (s0, day, n, 12, b.1, b.2.1, b.2.2.1, p.1, p.2.1, p.2.2.1, p.2.2.2.1, p.2.2.2.2.1, p.2.2.2.2.2.1, p.2.2.2.2.2.2.1, c.1, c.2.1, c.2.2.1)) := by
  obtain ⟨_, ⟨hA1, hA2⟩, _⟩ := valid_iff.mp hb.1
  have hpo := valid_ok hb.1 p hp
  refine lim_inv (r := fun s => L6_33_r s.1 s.2.1 s.2.2.1 s.2.2.2.1 s.2.2.2.2.1 s.2.2.2.2.2.1 s.2.2.2.2.2.2.1 s.2.2.2.2.2.2.2.1 s.2.2.2.2.2.2.2.2.1 s.2.2.2.2.2.2.2.2.2.1 s.2.2.2.2.2.2.2.2.2.2.1 s.2.2.2.2.2.2.2.2.2.2.2.1 s.2.2.2.2.2.2.2.2.2.2.2.2.1 s.2.2.2.2.2.2.2.2.2.2.2.2.2.1 s.2.2.2.2.2.2.2.2.2.2.2.2.2.2.1 s.2.2.2.2.2.2.2.2.2.2.2.2.2.2.2.1 s.2.2.2.2.2.2.2.2.2.2.2.2.2.2.2.2) (fun k => (s0, day, n, (k : Int), b.1, b.2.1, b.2.2.1, p.1, p.2.1, p.2.2.1, p.2.2.2.1, p.2.2.2.2.1, p.2.2.2.2.2.1, p.2.2.2.2.2.2.1, c.1, c.2.1, c.2.2.1)) (.inr (s0, day, n, 12, b.1, b.2.1, b.2.2.1, p.1, p.2.1, p.2.2.1, p.2.2.2.1, p.2.2.2.2.1, p.2.2.2.2.2.1, p.2.2.2.2.2.2.1, c.1, c.2.1, c.2.2.1)) 12 (fun k hk => ?_) ?_ 0 (by omega)
  · have e1 := (G19_eq b (k : Int) (by have := hb.2.1; omega)).trans (congrArg some (show statM b (k : Int) = (fl b.1.toNat (fun u => sumK u (inM (k : Int) 0) b.2.1), 0) by
      simp only [statM, hb.1]; rw [if_pos (by simp [isIn]; omega), stat_fl b (k : Int)]))
    have e2 := (G19_eq c (k : Int) (by omega)).trans (congrArg some (show statM c (k : Int) = (fl b.1.toNat (fun u => sumK u (inM (k : Int) 0) b.2.1 + bif (IntKind.i64.wrap (Int.tdiv day 30) == (k : Int)) then delta u p n else 0), 0) by
      simp only [statM, hc]; rw [if_pos (by simp [isIn]; omega), stat_fl c (k : Int), hca]; simp only [hs]))
    have hf : ∀ u, u < b.1.toNat → -1000000000000000 ≤ sumK u (inM (k : Int) 0) b.2.1 ∧ sumK u (inM (k : Int) 0) b.2.1 ≤ 1000000000000000 := fun u _ => by
      have := sumK_bound (u := u) (inM (k : Int) 0) b.2.1 (valid_ok hb.1); have := hb.2.1; omega
    obtain ⟨w1, w2, w3⟩ := upd_delta hpo hf hn
    have hr := fun g => ints_refl (l := fl b.1.toNat g) (by rw [fl_len]; omega)
    have g1 : decide ((k : Int) < 12) = true := by simp; omega
    have g2 : (((b.1.toNat : Nat) : Int) != b.1) = false := by simp [bne]; omega
    obtain ⟨h1, h2, h3, h4, _⟩ := hpo
    have k1 : decide (0 ≤ p.2.2.2.1) = true := by simpa using h3
    have k2 : decide (p.2.2.2.1 < ((b.1.toNat : Nat) : Int)) = true := by simpa using h4
    have k3 : decide (p.2.2.2.1.toNat < b.1.toNat) = true := by simp; omega
    have k4 : decide (0 ≤ p.2.2.1) = true := by simpa using h1
    have k5 : decide (p.2.2.1 < ((b.1.toNat : Nat) : Int)) = true := by simpa using h2
    have k6 : decide (p.2.2.1.toNat < b.1.toNat) = true := by simp; omega
    cases hh : ((IntKind.i64.wrap (Int.tdiv day 30) == (k : Int)))
    · simp only [hh, cond_false, Int.add_zero] at e2
      have hh' : ((k : Int) == IntKind.i64.wrap (Int.tdiv day 30)) = false := by rw [Bool.beq_comm]; exact hh
      simp only [L6_33_r, bkEta, P19_of _ _ e1, F19_of _ _ e1, P19_of _ _ e2, F19_of _ _ e2, fl_len, g1, g2, hh', take_fl, P23_of _ _ (hr _), F23_of _ _ (hr _), bne_self_eq_false, cond_true, cond_false, Bool.not_true, wsucc (i := k) (by omega)]
    · simp only [hh, cond_true] at e2
      have hh' : ((k : Int) == IntKind.i64.wrap (Int.tdiv day 30)) = true := by rw [Bool.beq_comm]; exact hh
      simp only [L6_33_r, bkEta, P19_of _ _ e1, F19_of _ _ e1, P19_of _ _ e2, F19_of _ _ e2, fl_len, List.length_set, g1, g2, hh', k1, k2, k3, k4, k5, k6, w1, w2, w3, take_fl, P23_of _ _ (hr _), F23_of _ _ (hr _), bne_self_eq_false, cond_true, cond_false, Bool.not_true, Bool.and_true, wsucc (i := k) (by omega)]
  · simp only [L6_33_r]; rfl
end
theorem run11 (s0 : Bool) (i day n : Int) (b : Bk) (p : Po) (hl : b.2.1.length ≤ 1000) : L6_11 (s0, i, day, n, false, 0, b.1, b.2.1, b.2.2.1, p.1, p.2.1, p.2.2.1, p.2.2.2.1, p.2.2.2.2.1, p.2.2.2.2.2.1, p.2.2.2.2.2.2.1) = some (s0, i, day, n, (b.2.1.any fun q => q.2.2.2.2.2.2.1 == i), (b.2.1.length : Int), b.1, b.2.1, b.2.2.1, p.1, p.2.1, p.2.2.1, p.2.2.2.1, p.2.2.2.2.1, p.2.2.2.2.2.1, p.2.2.2.2.2.2.1) := by
  refine lim_inv (r := fun s => L6_11_r s.1 s.2.1 s.2.2.1 s.2.2.2.1 s.2.2.2.2.1 s.2.2.2.2.2.1 s.2.2.2.2.2.2.1 s.2.2.2.2.2.2.2.1 s.2.2.2.2.2.2.2.2.1 s.2.2.2.2.2.2.2.2.2.1 s.2.2.2.2.2.2.2.2.2.2.1 s.2.2.2.2.2.2.2.2.2.2.2.1 s.2.2.2.2.2.2.2.2.2.2.2.2.1 s.2.2.2.2.2.2.2.2.2.2.2.2.2.1 s.2.2.2.2.2.2.2.2.2.2.2.2.2.2.1 s.2.2.2.2.2.2.2.2.2.2.2.2.2.2.2) (fun k => (s0, i, day, n, ((b.2.1.take k).any fun q => q.2.2.2.2.2.2.1 == i), (k : Int), b.1, b.2.1, b.2.2.1, p.1, p.2.1, p.2.2.1, p.2.2.2.1, p.2.2.2.2.1, p.2.2.2.2.2.1, p.2.2.2.2.2.2.1)) (s0, i, day, n, (b.2.1.any fun q => q.2.2.2.2.2.2.1 == i), (b.2.1.length : Int), b.1, b.2.1, b.2.2.1, p.1, p.2.1, p.2.2.1, p.2.2.2.1, p.2.2.2.2.1, p.2.2.2.2.2.1, p.2.2.2.2.2.2.1) b.2.1.length (fun k hk => ?_) ?_ 0 (by omega)
  · simp only [L6_11_r, lt_ok hk, ge0 k, Int.toNat_natCast, wsucc (i := k) (by omega), any_take _ hk, Bool.and_true, Bool.true_or, cond_true]
    cases ((b.2.1.take k).any fun q => q.2.2.2.2.2.2.1 == i) <;> rfl
  · simp only [L6_11_r, lt_no, List.take_length]; rfl
theorem law6 (x0 : Int) (x1 : List (List Int)) (x2 x3 x4 : Int) (h0 : I64 x0) (h1 : Rows5 x1) (h2 : I64 x2) (h3 : I64 x3) (h4 : I64 x4) : G6 x0 x1 x2 x3 x4 = some true := by
  obtain ⟨b, h8, hb⟩ := G8_eq h0 h1
  have hle := hb.2.1
  obtain ⟨hok, ⟨hA1, hA2⟩, hc1, hc2⟩ := valid_iff.mp hb.1
  unfold G6
  simp only [P7_eq, F7_eq, P8_of _ _ h8, F8_of _ _ h8, cond_true]
  by_cases hz : b.2.1.length = 0
  · rw [hz]; rfl
  have gz : (((b.2.1.length : Nat) : Int) == 0) = false := by simpa using hz
  have hpos : (0 : Int) < (b.2.1.length : Int) := by omega
  have q1 := pickM_bound x2 hpos
  have q2 := pickM_bound x3 (n := 60) (by omega)
  have q3 := pickM_bound x4 (n := 1000) (by omega)
  simp only [gz, P14_eq h2 hpos, F14_eq h2 hpos, P14_eq h3 (n := 60) (by omega), F14_eq h3 (n := 60) (by omega), P14_eq h4 (n := 1000) (by omega), F14_eq h4 (n := 1000) (by omega), cond_false, cond_true, w30 hc1 hc2, min_eq, max_eq]
  generalize pickM x4 1000 = n at *
  generalize pickM x2 (b.2.1.length : Int) = i at *
  have g1 : (decide (0 ≤ i) && decide (i < (b.2.1.length : Int))) = true := by simp; omega
  have wl : IntKind.i64.wrap ((b.2.1.length : Int) - 1) = (b.2.1.length : Int) - 1 := wrapI (by omega) (by omega)
  have g2 : (decide (0 ≤ (b.2.1.length : Int) - 1) && decide ((b.2.1.length : Int) - 1 < (b.2.1.length : Int))) = true := by simp; omega
  have wn : ((b.2.1.length : Int) - 1).toNat = b.2.1.length - 1 := by omega
  have hpm := getD_mem (l := b.2.1) (i := i.toNat) (by omega)
  have hlast := (formed_iff.mp (valid_at hb.1 (i := b.2.1.length - 1) (by omega))).1
  simp only [g1, g2, wl, wn, cond_true]
  rw [wrapI (n := max (30 * b.2.2.1) _ + _) (by omega) (by omega)]
  generalize hday : min (max (30 * b.2.2.1) (b.2.1.getD (b.2.1.length - 1) z26).2.1 + pickM x3 60) 359 = day
  have hd1 : day ≤ 359 := by omega
  have hd2 : (b.2.1.getD (b.2.1.length - 1) z26).2.1 ≤ day := by omega
  have e15 := fun c => G15_eq c i day n
  have hbe : ((b.1, (b.2.1, (b.2.2.1, ()))) : Bk) = b := rfl
  have e15b := e15 b (by omega)
  have htk : (b.2.1.any fun q => q.2.2.2.2.2.2.1 == i) = taken b.2.1 i.toNat := by unfold taken; rw [Int.toNat_of_nonneg q1.1]
  simp only [run11 true i day n b (b.2.1.getD i.toNat z26) (by omega), Option.bind_some, bkEta, P15_of _ _ _ _ e15b, F15_of _ _ _ _ e15b, cond_true, htk]
  by_cases hbad : (b.2.1.getD i.toNat z26).1 ≠ 1 ∨ taken b.2.1 i.toNat = true ∨ b.2.2.1 = 12
  · rw [back_no hb.1 q1.1 q1.2 hd1 hbad]
    have : (bif bif (b.2.1.getD i.toNat z26).1 != 1 then true else taken b.2.1 i.toNat then true else b.2.2.1 == 12) = true := by
      rcases hbad with e | e | e
      · rw [show ((b.2.1.getD i.toNat z26).1 != 1) = true by simpa using e]; rfl
      · rw [e]; cases ((b.2.1.getD i.toNat z26).1 != 1) <;> rfl
      · rw [e]; cases ((b.2.1.getD i.toNat z26).1 != 1) <;> cases taken b.2.1 i.toNat <;> rfl
    simp only [this, cond_true]; rfl
  · have hk : (b.2.1.getD i.toNat z26).1 = 1 := by apply Classical.byContradiction; intro e; exact hbad (.inl e)
    have ht : taken b.2.1 i.toNat = false := by apply Bool.eq_false_iff.mpr; intro e; exact hbad (.inr (.inl e))
    have h12 : b.2.2.1 ≠ 12 := fun e => hbad (.inr (.inr e))
    have hD := back_yes hb.1 (by omega) q1.1 q1.2 hd2 (by omega) hd1 (by omega) hk ht (amt := n)
    have hm := mk_dispute hb hD
    have hca : (dispD b i day n).1 = b.1 := by unfold dispD; split <;> rfl
    have htw := dispD_twice hb.1 q1.1 q1.2 hm.1 hd1
    have e15c := e15 (dispD b i day n) (by have := hm.2.1; omega)
    rw [htw] at e15c
    have hbb : (bif bif (b.2.1.getD i.toNat z26).1 != 1 then true else taken b.2.1 i.toNat then true else b.2.2.1 == 12) = false := by
      rw [hk, ht, show (b.2.2.1 == (12 : Int)) = false by simpa using h12]; rfl
    have r1 := run21 (day := day) hb hm.1 (by have := hm.2.1; omega) hca hpm (n := n) (by omega) true fun u k => by
      rw [dispD_sum u (sub (k : Int)) b i day n rfl]; rfl
    have r2 := run33 (day := day) hb hm.1 (by have := hm.2.1; omega) hca hpm (n := n) (by omega) true fun u k => by
      rw [dispD_sum u (inM (k : Int) 0) b i day n rfl]; rfl
    simp only [hbb, cond_false, hD, outD, P15_of _ _ _ _ e15c, F15_of _ _ _ _ e15c, bne_self_eq_false, cond_true, r1, r2, Option.bind_some]
theorem BookDisputes_pure (x0 : Int) (x1 : List (List Int)) (x2 x3 x4 : Int) (g0 : Good (.int .i64) x0) (g1 : Good (.list (.arr 5 (.int .i64))) x1) (g2 : Good (.int .i64) x2) (g3 : Good (.int .i64) x3) (g4 : Good (.int .i64) x4) : G6 x0 x1 x2 x3 x4 = some true :=
  law6 x0 x1 x2 x3 x4 (good_int g0) (rows5_of g1) (good_int g2) (good_int g3) (good_int g4)
end Go.Ev.B
