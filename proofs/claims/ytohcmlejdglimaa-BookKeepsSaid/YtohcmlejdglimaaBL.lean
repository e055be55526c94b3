/- BookSums: the law's function answers true. -/
import Derived.Test.YtohcmlejdglimaaBLa
set_option linter.unusedSimpArgs false
set_option linter.unusedVariables false
namespace Go.Ev.B
open Go Go.Ev
def fl (n : Nat) (f : Nat → Int) : List Int := (List.range n).map f
theorem tabl_fl (n : Nat) (l : List Po) : tabl n l = fl n fun t => sumT t l := rfl
theorem fl_len (n : Nat) (f : Nat → Int) : (fl n f).length = n := by simp [fl]
theorem fl_get {n t : Nat} (f : Nat → Int) (h : t < n) : (fl n f).getD t 0 = f t := by simp [fl, List.getD_eq_getElem?_getD, h]
theorem fl_congr {n : Nat} {f g : Nat → Int} (h : ∀ u, u < n → f u = g u) : fl n f = fl n g := by
  apply List.map_congr_left; intro u hu; exact h u (by simpa using hu)
theorem fl_set {n t : Nat} (f : Nat → Int) (v : Int) : (fl n f).set t v = fl n fun u => if u = t then v else f u := by
  apply List.ext_getElem
  · simp [fl]
  · intro i h1 h2
    simp only [fl, List.getElem_set, List.getElem_map, List.getElem_range]
    by_cases e : t = i
    · rw [if_pos e, if_pos e.symm]
    · rw [if_neg e, if_neg (Ne.symm e)]
theorem fl_zero (n : Nat) : fl n (fun _ => 0) = List.replicate n 0 := by
  apply List.ext_getElem <;> simp [fl]
theorem in_nat {i n : Nat} (h : i < n) : (decide (0 ≤ (i : Int)) && decide ((i : Int) < (n : Int))) = true := by simp; omega
theorem in_nat2 {i n : Nat} (h : i < n) : decide (((i : Int)).toNat < n) = true := by simp; omega
/-- A sum's step: what is told of all entries before. -/
theorem upd_step {n i : Nat} (base S : Nat → Int) : (fl n fun u => if u < i then base u + S u else base u).set i (base i + S i) = fl n fun u => if u < i + 1 then base u + S u else base u := by
  rw [fl_set]
  refine fl_congr fun u _ => ?_
  by_cases e : u = i
  · subst e; rw [if_pos rfl, if_pos (by omega)]
  · rw [if_neg e]; by_cases h : u < i
    · rw [if_pos h, if_pos (by omega)]
    · rw [if_neg h, if_neg (by omega)]
theorem upd_end {n : Nat} (base S : Nat → Int) : (fl n fun u => if u < n then base u + S u else base u) = fl n fun u => base u + S u :=
  fl_congr fun u hu => if_pos hu
theorem upd_start {n : Nat} (base S : Nat → Int) : (fl n fun u => if u < 0 then base u + S u else base u) = fl n base :=
  fl_congr fun u _ => if_neg (by omega)
theorem sel_bound {b : Bk} (h : Mk 48 b) (f : Nat → Po → Bool) (u : Nat) : -48000000000 ≤ sumT u (sel f 0 b.2.1) ∧ sumT u (sel f 0 b.2.1) ≤ 48000000000 := by
  have h1 := sumT_bound (t := u) (sel f 0 b.2.1) fun p hp => valid_ok h.1 p (sel_mem hp)
  have h2 := sel_len (f := f) (l := b.2.1) (i := 0)
  have := h.2.1
  omega
section
variable {b : Bk} (hb : Mk 48 b)
include hb
theorem run12 (s0 : Bool) (m : Nat) (hm : m < 12) (base : Nat → Int) (hB : ∀ u, u < b.1.toNat → -1000000000000000 ≤ base u ∧ base u ≤ 1000000000000000) :
    L4_12 (s0, fl b.1.toNat base, (m : Int), tabl b.1.toNat (sel (inM m) 0 b.2.1), 0, 0, b.1, b.2.1, b.2.2.1) = some (.inr (s0, fl b.1.toNat (fun u => base u + sumT u (sel (inM m) 0 b.2.1)), (m : Int), tabl b.1.toNat (sel (inM m) 0 b.2.1), 0, b.1, b.1, b.2.1, b.2.2.1)) := by
  obtain ⟨_, ⟨hA1, hA2⟩, _⟩ := valid_iff.mp hb.1
  have hAA : ((b.1.toNat : Nat) : Int) = b.1 := Int.toNat_of_nonneg (by omega)
  have hS := sel_bound hb (inM m)
  have hz : isum (fun t => sumT t (sel (inM m) 0 b.2.1)) b.1.toNat = 0 := sumT_all _ fun p hp => valid_ok hb.1 p (sel_mem hp)
  generalize hSd : (fun u => sumT u (sel (inM m) 0 b.2.1)) = S at hz
  have hSu : ∀ u, sumT u (sel (inM m) 0 b.2.1) = S u := fun u => by rw [← hSd]
  have h := lim_inv (r := fun s => L4_12_r s.1 s.2.1 s.2.2.1 s.2.2.2.1 s.2.2.2.2.1 s.2.2.2.2.2.1 s.2.2.2.2.2.2.1 s.2.2.2.2.2.2.2.1 s.2.2.2.2.2.2.2.2)
    (fun i => (s0, (fl b.1.toNat fun u => if u < i then base u + S u else base u), (m : Int), tabl b.1.toNat (sel (inM m) 0 b.2.1), isum S i, (i : Int), b.1, b.2.1, b.2.2.1))
    (.inr (s0, fl b.1.toNat (fun u => base u + S u), (m : Int), tabl b.1.toNat (sel (inM m) 0 b.2.1), 0, b.1, b.1, b.2.1, b.2.2.1)) b.1.toNat (fun i hi => ?_) ?_ 0 (by omega)
  · simp only [hSu]; rw [upd_start] at h; exact h
  · have hbal : balM b (i : Int) (m : Int) = (S i, 0) := by
      simp only [balM, hb.1]; rw [if_pos (by simp [isIn]; omega), Int.toNat_natCast, hSu]
    have e21 := (G21_eq b (i : Int) (m : Int) (by have := hb.2.1; omega)).trans (congrArg some hbal)
    have hbd := isum_bound (g := S) (B := 48000000000) (n := i) fun u _ => by have := hS u; rwa [hSu] at this
    have hS1 := hS i; rw [hSu] at hS1
    have hB1 := hB i hi
    have e1 : (tabl b.1.toNat (sel (inM m) 0 b.2.1)).getD i 0 = S i := by rw [tabl_get _ hi, hSu]
    have g1 : decide ((i : Int) < b.1) = true := by simp; omega
    have g2 : decide ((i : Int) < ((b.1.toNat : Nat) : Int)) = true := by simp; omega
    have g3 : decide (i < b.1.toNat) = true := by simp; omega
    have w1 : IntKind.i64.wrap (isum S i + S i) = isum S (i + 1) := by rw [wrapI (by omega) (by omega)]; rfl
    have w2 : IntKind.i64.wrap (base i + S i) = base i + S i := wrapI (by omega) (by omega)
    have e2 : (fl b.1.toNat fun u => if u < i then base u + S u else base u).getD i 0 = base i := by rw [fl_get _ hi]; exact if_neg (by omega)
    simp only [L4_12_r, bkEta, P21_of _ _ _ e21, F21_of _ _ _ e21, tabl_len, fl_len, ge0 i, g1, g2, g3, Int.toNat_natCast, e1, e2, w1, w2, upd_step, wsucc (i := i) (by omega), bne_self_eq_false, cond_true, cond_false, Bool.and_true, Bool.true_or]
  · simp only [L4_12_r]
    rw [show decide (((b.1.toNat : Nat) : Int) < b.1) = false by simp; omega, hz, upd_end, hAA]; rfl
theorem run5 (s0 : Bool) : L4_5 (s0, List.replicate b.1.toNat 0, 0, b.1, b.2.1, b.2.2.1) = some (.inr (s0, fl b.1.toNat (fun u => sumT u b.2.1), 12, b.1, b.2.1, b.2.2.1)) := by
  obtain ⟨_, ⟨hA1, hA2⟩, _⟩ := valid_iff.mp hb.1
  have h := lim_inv (r := fun s => L4_5_r s.1 s.2.1 s.2.2.1 s.2.2.2.1 s.2.2.2.2.1 s.2.2.2.2.2)
    (fun m => (s0, fl b.1.toNat (fun u => isum (fun k => sumT u (sel (inM (k : Nat)) 0 b.2.1)) m), (m : Int), b.1, b.2.1, b.2.2.1))
    (.inr (s0, fl b.1.toNat (fun u => sumT u b.2.1), 12, b.1, b.2.1, b.2.2.1)) 12 (fun m hm => ?_) ?_ 0 (by omega)
  · rw [← fl_zero]; exact h
  · have hst : statM b (m : Int) = (tabl b.1.toNat (sel (inM m) 0 b.2.1), 0) := by
      simp only [statM, hb.1]; rw [if_pos (by simp [isIn]; omega)]
    have e19 := (G19_eq b (m : Int) (by have := hb.2.1; omega)).trans (congrArg some hst)
    have g1 : decide ((m : Int) < 12) = true := by simp; omega
    have g2 : (((b.1.toNat : Nat) : Int) != b.1) = false := by simp [bne]; omega
    have hr := run12 hb s0 m hm (fun u => isum (fun k => sumT u (sel (inM (k : Nat)) 0 b.2.1)) m) fun u _ => by
      have := isum_bound (g := fun k => sumT u (sel (inM (k : Nat)) 0 b.2.1)) (B := 48000000000) (n := m) fun k _ => sel_bound hb (inM k) u
      omega
    simp only [L4_5_r, bkEta, P19_of _ _ e19, F19_of _ _ e19, tabl_len, g1, g2, hr, wsucc (i := m) (by omega), Option.bind_some, bne_self_eq_false, cond_true, cond_false]
    rfl
  · simp only [L4_5_r]
    have : fl b.1.toNat (fun u => isum (fun k => sumT u (sel (inM (k : Nat)) 0 b.2.1)) 12) = fl b.1.toNat (fun u => sumT u b.2.1) := fl_congr fun u _ => by
      have e : ∀ k : Nat, sumT u (sel (inM (k : Int)) 0 b.2.1) = sumK u (inM (k : Int) 0) b.2.1 := fun k => stat_sum _ _ _ _
      simp only [e]
      refine sumK_all u 12 (fun p => IntKind.i64.wrap (Int.tdiv p.2.1 30)) (fun k => inM k 0) (fun k p => rfl) b.2.1 fun p hp => ?_
      have hd := (formed_iff.mp (okAll_formed (valid_iff.mp hb.1).1 p hp)).1
      rw [Int.tdiv_eq_ediv_of_nonneg hd.1, wrapI (by omega) (by omega)]; omega
    rw [this]; rfl
theorem run30 (s0 : Bool) (s1 : List Int) (k : Nat) (hk : k < 6) (base : Nat → Int) (hB : ∀ u, u < b.1.toNat → -1000000000000000 ≤ base u ∧ base u ≤ 1000000000000000) :
    L4_30 (s0, s1, fl b.1.toNat base, (k : Int), tabl b.1.toNat (sel (stands k b.2.1) 0 b.2.1), 0, 0, b.1, b.2.1, b.2.2.1) = some (s0, s1, fl b.1.toNat (fun u => base u + sumT u (sel (stands k b.2.1) 0 b.2.1)), (k : Int), tabl b.1.toNat (sel (stands k b.2.1) 0 b.2.1), 0, b.1, b.1, b.2.1, b.2.2.1) := by
  obtain ⟨_, ⟨hA1, hA2⟩, _⟩ := valid_iff.mp hb.1
  have hAA : ((b.1.toNat : Nat) : Int) = b.1 := Int.toNat_of_nonneg (by omega)
  have hS := sel_bound hb (stands k b.2.1)
  have hz : isum (fun t => sumT t (sel (stands k b.2.1) 0 b.2.1)) b.1.toNat = 0 := sumT_all _ fun p hp => valid_ok hb.1 p (sel_mem hp)
  generalize hSd : (fun u => sumT u (sel (stands k b.2.1) 0 b.2.1)) = S at hz
  have hSu : ∀ u, sumT u (sel (stands k b.2.1) 0 b.2.1) = S u := fun u => by rw [← hSd]
  have h := lim_inv (r := fun s => L4_30_r s.1 s.2.1 s.2.2.1 s.2.2.2.1 s.2.2.2.2.1 s.2.2.2.2.2.1 s.2.2.2.2.2.2.1 s.2.2.2.2.2.2.2.1 s.2.2.2.2.2.2.2.2.1 s.2.2.2.2.2.2.2.2.2)
    (fun i => (s0, s1, (fl b.1.toNat fun u => if u < i then base u + S u else base u), (k : Int), tabl b.1.toNat (sel (stands k b.2.1) 0 b.2.1), isum S i, (i : Int), b.1, b.2.1, b.2.2.1))
    (s0, s1, fl b.1.toNat (fun u => base u + S u), (k : Int), tabl b.1.toNat (sel (stands k b.2.1) 0 b.2.1), 0, b.1, b.1, b.2.1, b.2.2.1) b.1.toNat (fun i hi => ?_) ?_ 0 (by omega)
  · simp only [hSu]; rw [upd_start] at h; exact h
  · have hbd := isum_bound (g := S) (B := 48000000000) (n := i) fun u _ => by have := hS u; rwa [hSu] at this
    have hS1 := hS i; rw [hSu] at hS1
    have hB1 := hB i hi
    have e1 : (tabl b.1.toNat (sel (stands k b.2.1) 0 b.2.1)).getD i 0 = S i := by rw [tabl_get _ hi, hSu]
    have g1 : decide ((i : Int) < b.1) = true := by simp; omega
    have g2 : decide ((i : Int) < ((b.1.toNat : Nat) : Int)) = true := by simp; omega
    have g3 : decide (i < b.1.toNat) = true := by simp; omega
    have w1 : IntKind.i64.wrap (isum S i + S i) = isum S (i + 1) := by rw [wrapI (by omega) (by omega)]; rfl
    have w2 : IntKind.i64.wrap (base i + S i) = base i + S i := wrapI (by omega) (by omega)
    have e2 : (fl b.1.toNat fun u => if u < i then base u + S u else base u).getD i 0 = base i := by rw [fl_get _ hi]; exact if_neg (by omega)
    simp only [L4_30_r, tabl_len, fl_len, ge0 i, g1, g2, g3, Int.toNat_natCast, e1, e2, w1, w2, upd_step, wsucc (i := i) (by omega), cond_true, cond_false, Bool.and_true]
  · simp only [L4_30_r]
    rw [show decide (((b.1.toNat : Nat) : Int) < b.1) = false by simp; omega, hz, upd_end, hAA]; rfl
theorem run23 (s0 : Bool) (s1 : List Int) : L4_23 (s0, s1, List.replicate b.1.toNat 0, 0, b.1, b.2.1, b.2.2.1) = some (.inr (s0, s1, fl b.1.toNat (fun u => sumT u b.2.1), 6, b.1, b.2.1, b.2.2.1)) := by
  obtain ⟨hok, ⟨hA1, hA2⟩, _⟩ := valid_iff.mp hb.1
  have h := lim_inv (r := fun s => L4_23_r s.1 s.2.1 s.2.2.1 s.2.2.2.1 s.2.2.2.2.1 s.2.2.2.2.2.1 s.2.2.2.2.2.2)
    (fun m => (s0, s1, fl b.1.toNat (fun u => isum (fun k => sumT u (sel (stands (k : Nat) b.2.1) 0 b.2.1)) m), (m : Int), b.1, b.2.1, b.2.2.1))
    (.inr (s0, s1, fl b.1.toNat (fun u => sumT u b.2.1), 6, b.1, b.2.1, b.2.2.1)) 6 (fun m hm => ?_) ?_ 0 (by omega)
  · rw [← fl_zero]; exact h
  · have hst : owedM b (m : Int) = (tabl b.1.toNat (sel (stands m b.2.1) 0 b.2.1), 0) := by
      simp only [owedM, hb.1]; rw [if_pos (by simp [isIn]; omega)]
    have e24 := (G24_eq b (m : Int) (by have := hb.2.1; omega)).trans (congrArg some hst)
    have g1 : decide ((m : Int) < 6) = true := by simp; omega
    have g2 : (((b.1.toNat : Nat) : Int) != b.1) = false := by simp [bne]; omega
    have hr := run30 hb s0 s1 m hm (fun u => isum (fun k => sumT u (sel (stands (k : Nat) b.2.1) 0 b.2.1)) m) fun u _ => by
      have := isum_bound (g := fun k => sumT u (sel (stands (k : Nat) b.2.1) 0 b.2.1)) (B := 48000000000) (n := m) fun k _ => sel_bound hb (stands k b.2.1) u
      omega
    simp only [L4_23_r, bkEta, P24_of _ _ e24, F24_of _ _ e24, tabl_len, g1, g2, hr, wsucc (i := m) (by omega), Option.bind_some, bne_self_eq_false, cond_true, cond_false]
    rfl
  · simp only [L4_23_r]
    have : fl b.1.toNat (fun u => isum (fun k => sumT u (sel (stands (k : Nat) b.2.1) 0 b.2.1)) 6) = fl b.1.toNat (fun u => sumT u b.2.1) := fl_congr fun u _ => by
      have e : ∀ k : Nat, sumT u (sel (stands (k : Int) b.2.1) 0 b.2.1) = sumK u (sub (k : Int)) b.2.1 := fun k => owed_sum hok _ _
      simp only [e]
      refine sumK_all u 6 (fun p => p.2.2.2.2.2.1) sub (fun k p => rfl) b.2.1 fun p hp => ?_
      have hd := (formed_iff.mp (okAll_formed hok p hp)).2.2.2.2.2.1
      have := hb.2.2 p hp
      exact ⟨hd.1, by omega⟩
    rw [this]; rfl
omit hb in
theorem sub_fl {n : Nat} {p : Po} (hp : PoOk n p) {f : Nat → Int} (hf : ∀ u, u < n → -1000000000000000 ≤ f u ∧ f u ≤ 1000000000000000) :
    IntKind.i64.wrap ((fl n f).getD p.2.2.2.1.toNat 0 - p.2.2.2.2.1) = f p.2.2.2.1.toNat - p.2.2.2.2.1 ∧ (∀ y, IntKind.i64.wrap (((fl n f).set p.2.2.2.1.toNat y).getD p.2.2.1.toNat 0 + p.2.2.2.2.1) = f p.2.2.1.toNat + p.2.2.2.2.1)
    ∧ ((fl n f).set p.2.2.2.1.toNat (f p.2.2.2.1.toNat - p.2.2.2.2.1)).set p.2.2.1.toNat (f p.2.2.1.toNat + p.2.2.2.2.1) = fl n fun u => f u - ent u p := by
  obtain ⟨h1, h2, h3, h4, h5, h6, h7⟩ := hp
  have b1 := hf p.2.2.2.1.toNat (by omega); have b2 := hf p.2.2.1.toNat (by omega)
  refine ⟨?_, fun y => ?_, ?_⟩
  · rw [fl_get _ (by omega), wrapI (by omega) (by omega)]
  · rw [fl_set, fl_get _ (by omega), if_neg (by omega), wrapI (by omega) (by omega)]
  · rw [fl_set, fl_set]
    refine fl_congr fun u hu => ?_
    unfold ent
    by_cases e1 : u = p.2.2.1.toNat
    · rw [if_pos e1, if_neg (show ¬ p.2.2.2.1 = (u : Int) by omega), if_pos (show p.2.2.1 = (u : Int) by omega), e1]; omega
    · rw [if_neg e1, if_neg (show ¬ p.2.2.1 = (u : Int) by omega)]
      by_cases e2 : u = p.2.2.2.1.toNat
      · rw [if_pos e2, if_pos (show p.2.2.2.1 = (u : Int) by omega), e2]; omega
      · rw [if_neg e2, if_neg (show ¬ p.2.2.2.1 = (u : Int) by omega)]; omega
theorem run37 (s0 : Bool) : L4_37 (s0, fl b.1.toNat (fun u => sumT u b.2.1), fl b.1.toNat (fun u => sumT u b.2.1), 0, b.1, b.2.1, b.2.2.1) = some (s0, List.replicate b.1.toNat 0, List.replicate b.1.toNat 0, (b.2.1.length : Int), b.1, b.2.1, b.2.2.1) := by
  have hle := hb.2.1
  have hok := valid_ok hb.1
  have h := lim_inv (r := fun s => L4_37_r s.1 s.2.1 s.2.2.1 s.2.2.2.1 s.2.2.2.2.1 s.2.2.2.2.2.1 s.2.2.2.2.2.2)
    (fun i => (s0, fl b.1.toNat (fun u => sumT u b.2.1 - sumT u (b.2.1.take i)), fl b.1.toNat (fun u => sumT u b.2.1 - sumT u (b.2.1.take i)), (i : Int), b.1, b.2.1, b.2.2.1))
    (s0, List.replicate b.1.toNat 0, List.replicate b.1.toNat 0, (b.2.1.length : Int), b.1, b.2.1, b.2.2.1) b.2.1.length (fun i hi => ?_) ?_ 0 (by omega)
  · simp only [List.take_zero, sumT, Int.sub_zero] at h; exact h
  · have hp := hok _ (getD_mem hi)
    have hf : ∀ u, u < b.1.toNat → -1000000000000000 ≤ sumT u b.2.1 - sumT u (b.2.1.take i) ∧ sumT u b.2.1 - sumT u (b.2.1.take i) ≤ 1000000000000000 := fun u _ => by
      have h1 := sumT_bound (t := u) b.2.1 hok
      have h2 := sumT_bound (t := u) (b.2.1.take i) fun p hp => hok p (List.mem_of_mem_take hp)
      rw [len_take (by omega)] at h2
      omega
    obtain ⟨w1, w2, w3⟩ := sub_fl hp hf
    have g1 : decide ((i : Int) < (b.2.1.length : Int)) = true := by simp; omega
    have e : (fl b.1.toNat fun u => sumT u b.2.1 - sumT u (b.2.1.take i) - ent u (b.2.1.getD i z26)) = fl b.1.toNat fun u => sumT u b.2.1 - sumT u (b.2.1.take (i + 1)) := fl_congr fun u _ => by
      rw [← take_getD hi, sumT_app]; omega
    obtain ⟨h1, h2, h3, h4, _⟩ := hp
    generalize hpz : b.2.1.getD i z26 = p at *
    have k1 : decide (0 ≤ p.2.2.2.1) = true := by simpa using h3
    have k2 : decide (p.2.2.2.1 < ((b.1.toNat : Nat) : Int)) = true := by simpa using h4
    have k3 : decide (p.2.2.2.1.toNat < b.1.toNat) = true := by simp; omega
    have k4 : decide (0 ≤ p.2.2.1) = true := by simpa using h1
    have k5 : decide (p.2.2.1 < ((b.1.toNat : Nat) : Int)) = true := by simpa using h2
    have k6 : decide (p.2.2.1.toNat < b.1.toNat) = true := by simp; omega
    simp only [L4_37_r, g1, ge0 i, Int.toNat_natCast, hpz, fl_len, List.length_set, k1, k2, k3, k4, k5, k6, w1, w2, w3, e, wsucc (i := i) (by omega), cond_true, Bool.and_true]
  · simp only [L4_37_r, lt_no, List.take_length, Int.sub_self, fl_zero]; rfl
theorem law4b (x0 : Int) (x1 : List (List Int)) (h8 : G8 x0 x1 = some (b, ())) : G4 x0 x1 = some true := by
  obtain ⟨hok, ⟨hA1, hA2⟩, _⟩ := valid_iff.mp hb.1
  have g : (decide (0 ≤ b.1) && decide (b.1 ≤ b.1) && decide (b.1 ≤ 100000000000)) = true := by simp; omega
  have hr := ints_refl (l := List.replicate b.1.toNat 0) (by simp; omega)
  unfold G4
  simp only [P7_eq, F7_eq, P8_of _ _ h8, F8_of _ _ h8, g, cond_true, run5 hb, Option.bind_some, run23 hb, run37 hb, tk_all, P23_of _ _ hr, F23_of _ _ hr, Bool.true_or]
end
theorem BookSums_pure (x0 : Int) (x1 : List (List Int)) (g0 : Good (.int .i64) x0) (g1 : Good (.list (.arr 5 (.int .i64))) x1) : G4 x0 x1 = some true := by
  obtain ⟨b, hb, hk⟩ := G8_eq (good_int g0) (rows5_of g1)
  exact law4b hk x0 x1 hb
end Go.Ev.B
