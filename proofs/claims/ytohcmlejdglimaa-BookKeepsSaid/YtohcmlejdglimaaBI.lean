/- The book: Made (8). -/
import Derived.Test.YtohcmlejdglimaaBH
set_option linter.unusedSimpArgs false
set_option linter.unusedVariables false
namespace Go.Ev.B
open Go Go.Ev
theorem good_int {n : Int} (h : (Lit.int .i64 n).wf = true) : I64 n := by
  simp only [Lit.wf, IntKind.min, IntKind.max, IntKind.signed, IntKind.bits, Bool.and_eq_true, decide_eq_true_eq, if_true] at h
  unfold I64; omega
theorem P27_eq {c : Int} (hc : I64 c) {n : Int} (hn : 0 < n) : P27 c n = true := P27_of _ _ (G27_eq hc hn)
theorem F27_eq {c : Int} (hc : I64 c) {n : Int} (hn : 0 < n) : F27 c n = pickM c n := F27_of _ _ (G27_eq hc hn)
theorem P14_eq {c : Int} (hc : I64 c) {n : Int} (hn : 0 < n) : P14 c n = true := P14_of _ _ (G14_eq hc hn)
theorem F14_eq {c : Int} (hc : I64 c) {n : Int} (hn : 0 < n) : F14 c n = pickM c n := F14_of _ _ (G14_eq hc hn)
/-- Books as they are made. -/
def Mk (n : Nat) (b : Bk) : Prop := valid b = true ∧ b.2.1.length ≤ n ∧ ∀ p ∈ b.2.1, p.2.2.2.2.2.1 ≤ 5
theorem mk_post {n : Nat} {b c : Bk} {p : Po} (h : Mk n b) (hp : p.2.2.2.2.2.1 ≤ 5) (hc : postM b p = some c) : Mk (n + 1) c := by
  obtain ⟨h1, h2, h3⟩ := h
  obtain ⟨hv, rfl⟩ := postM_valid hc
  refine ⟨hv, by simp; omega, fun q hq => ?_⟩
  rcases List.mem_append.mp hq with e | e
  · exact h3 q e
  · simp at e; subst e; exact hp
theorem mk_mono {n m : Nat} {b : Bk} (h : Mk n b) (hm : n ≤ m) : Mk m b := ⟨h.1, Nat.le_trans h.2.1 hm, h.2.2⟩
theorem mk_dispute {n : Nat} {b c : Bk} {i day amt : Int} (h : Mk n b) (hc : disputeM b i day amt = some c) : Mk (n + 2) c := by
  unfold disputeM at hc
  split at hc
  · rename_i hh
    simp only [Bool.and_eq_true, decide_eq_true_eq] at hh
    have hq := h.2.2 _ (getD_mem (l := b.2.1) (i := i.toNat) (by omega))
    rw [Option.bind_eq_some_iff] at hc
    obtain ⟨d, hd, hc⟩ := hc
    have h1 := mk_post (p := backP _ i day) h hq hd
    split at hc
    · cases hc; exact mk_mono h1 (by omega)
    · exact mk_post (p := newP _ day amt) h1 hq hc
  · cases hc
theorem closeM_valid {b c : Bk} {m : Int} (hc : closeM b m = some c) : valid c = true ∧ c = (b.1, (b.2.1, (m + 1, ()))) ∧ m = b.2.2.1 ∧ 0 ≤ m ∧ m ≤ 11 := by
  unfold closeM at hc
  split at hc
  · rename_i hh
    cases hc
    simp only [Bool.and_eq_true, isIn_iff] at hh
    obtain ⟨⟨h1, h2⟩, h3, h4⟩ := hh
    have h2 : m = b.2.2.1 := eq_of_beq h2
    refine ⟨?_, rfl, h2, h3, h4⟩
    obtain ⟨a1, a2, a3⟩ := valid_iff.mp h1
    exact valid_iff.mpr ⟨a1, a2, by simp only; omega⟩
  · cases hc
theorem mk_close {n : Nat} {b c : Bk} {m : Int} (h : Mk n b) (hc : closeM b m = some c) : Mk n c := by
  obtain ⟨hv, rfl, _⟩ := closeM_valid hc
  exact ⟨hv, h.2.1, h.2.2⟩
def Rows5 (l : List (List Int)) : Prop := l.length ≤ 1000000000000000000 ∧ ∀ i k : Nat, I64 ((l.getD i (List.replicate 5 0)).getD k 0)
theorem min_eq (a b : Int) : (if a < b then a else b) = min a b := by omega
theorem max_eq (a b : Int) : (if a > b then a else b) = max a b := by omega
theorem round8 {l : List (List Int)} (hl : Rows5 l) {i : Nat} (hi : i < l.length) (h24 : i < 24) {day s3 s5 A c : Int} {s4 ps : List Po} (hb : Mk (2 * i) (A, (ps, (c, ())))) (hd : 0 ≤ day ∧ day ≤ 359) :
    ∃ day' b', L8_4_r l day (i : Int) s3 s4 s5 A ps c = some (.inl (l, day', ((i + 1 : Nat) : Int), s3, s4, s5, b'.1, b'.2.1, b'.2.2.1)) ∧ Mk (2 * (i + 1)) b' ∧ 0 ≤ day' ∧ day' ≤ 359 := by
  obtain ⟨hll, hr⟩ := hl
  obtain ⟨_, ⟨hA1, hA2⟩, hc1, hc2⟩ := valid_iff.mp hb.1
  simp only at hA1 hA2 hc1 hc2
  have hps : ps.length ≤ 2 * i := hb.2.1
  unfold L8_4_r
  have g1 : decide ((i : Int) < (l.length : Int)) = true := by simpa using hi
  have g2 : decide ((i : Int) < 24) = true := by simp; omega
  have g3 : decide (0 ≤ (i : Int)) = true := by simp
  have g4 : IntKind.i64.wrap ((i : Int) + 1) = ((i + 1 : Nat) : Int) := wsucc (by omega)
  simp only [g1, g2, g3, g4, Int.toNat_natCast, cond_true, Bool.and_true]
  have hk := hr i
  generalize l.getD i (List.replicate 5 0) = v at hk
  have k0 := hk 0; have k1 := hk 1; have k2 := hk 2; have k3 := hk 3; have k4 := hk 4
  have wA : IntKind.i64.wrap (A - 1) = A - 1 := wrapI (by omega) (by omega)
  have wL : IntKind.i64.wrap ((ps.length : Int) + 1) = (ps.length : Int) + 1 := wrapI (by omega) (by omega)
  have b1 := pickM_bound (v.getD 1 0) (n := 20) (by omega)
  have b2 := pickM_bound (v.getD 2 0) (n := A) (by omega)
  have b3 := pickM_bound (v.getD 3 0) (n := A - 1) (by omega)
  have b4 := pickM_bound (v.getD 4 0) (n := 1000) (by omega)
  have b5 := pickM_bound (v.getD 4 0) (n := 6) (by omega)
  have d0 : (decide (0 ≤ (0 : Int)) && decide ((0 : Int) < ((5 : Nat) : Int))) = true := rfl
  have d1 : (decide (0 ≤ (1 : Int)) && decide ((1 : Int) < ((5 : Nat) : Int))) = true := rfl
  have d2 : (decide (0 ≤ (2 : Int)) && decide ((2 : Int) < ((5 : Nat) : Int))) = true := rfl
  have d3 : (decide (0 ≤ (3 : Int)) && decide ((3 : Int) < ((5 : Nat) : Int))) = true := rfl
  have d4 : (decide (0 ≤ (4 : Int)) && decide ((4 : Int) < ((5 : Nat) : Int))) = true := rfl
  have t0 : (0 : Int).toNat = 0 := rfl
  have t1 : (1 : Int).toNat = 1 := rfl
  have t2 : (2 : Int).toNat = 2 := rfl
  have t3 : (3 : Int).toNat = 3 := rfl
  have t4 : (4 : Int).toNat = 4 := rfl
  have hA0 : (!(A == 0)) = true := by simp; omega
  simp only [d0, d1, d2, d3, d4, t0, t1, t2, t3, t4, wA, wL, hA0, P27_eq k1 (n := 20) (by omega), F27_eq k1 (n := 20) (by omega), P27_eq k2 (n := A) (by omega), F27_eq k2 (n := A) (by omega), P27_eq k3 (n := A - 1) (by omega), F27_eq k3 (n := A - 1) (by omega), P27_eq k4 (n := 1000) (by omega), F27_eq k4 (n := 1000) (by omega), P27_eq k4 (n := 6) (by omega), F27_eq k4 (n := 6) (by omega), P27_eq k0 (n := 6) (by omega), F27_eq k0 (n := 6) (by omega), P27_eq k3 (n := (ps.length : Int) + 1) (by omega), F27_eq k3 (n := (ps.length : Int) + 1) (by omega), cond_true, Bool.and_true, min_eq, max_eq]
  rw [wrapI (n := day + _) (by omega) (by omega)]
  generalize hday : min (day + pickM (v.getD 1 0) 20) 359 = day'
  have hday' : 0 ≤ day' ∧ day' ≤ 359 := by omega
  generalize hp : ((1, (day', (pickM (v.getD 2 0) A, (Int.tmod (IntKind.i64.wrap (IntKind.i64.wrap (pickM (v.getD 2 0) A + 1) + pickM (v.getD 3 0) (A - 1))) A, (IntKind.i64.wrap (1 + pickM (v.getD 4 0) 1000), (pickM (v.getD 4 0) 6, (-1, ()))))))) : Po) = p
  have hsub : p.2.2.2.2.2.1 ≤ 5 := by rw [← hp]; simp only; omega
  have e10 := G10_eq (A, (ps, (c, ()))) p (by simp only; omega)
  have e16 := G16_eq (A, (ps, (c, ()))) (pickM (v.getD 3 0) ((ps.length : Int) + 1)) day' (pickM (v.getD 4 0) 1000) (by simp only; omega)
  have e18 := G18_eq (A, (ps, (c, ()))) c (by simp only; omega)
  simp only [P10_of _ _ e10, F10_of _ _ e10, P16_of _ _ _ _ e16, F16_of _ _ _ _ e16, P18_of _ _ e18, F18_of _ _ e18, cond_true]
  cases h4 : (pickM (v.getD 0 0) 6 == 4)
  · cases h5 : (pickM (v.getD 0 0) 6 == 5)
    · simp only [cond_false]
      cases hq : postM (A, (ps, (c, ()))) p with
      | none => exact ⟨day', (A, (ps, (c, ()))), by simp [outP], mk_mono hb (by omega), hday'⟩
      | some b' => exact ⟨day', b', by simp [outP], mk_mono (mk_post hb hsub hq) (by omega), hday'⟩
    · simp only [cond_false, cond_true]
      cases hq : closeM (A, (ps, (c, ()))) c with
      | none => exact ⟨max (min 0 359) day', (A, (ps, (c, ()))), by simp [outD, bk0]; rfl, mk_mono hb (by omega), by omega⟩
      | some b' =>
        obtain ⟨_, rfl, _, hc3, hc4⟩ := closeM_valid hq
        refine ⟨max (min (30 * (c + 1)) 359) day', (A, (ps, (c + 1, ()))), ?_, mk_mono (mk_close hb hq) (by omega), by omega⟩
        simp only [outD]; rw [wrapI (n := 30 * (c + 1)) (by omega) (by omega)]; rfl
  · simp only [cond_true]
    cases hq : disputeM (A, (ps, (c, ()))) (pickM (v.getD 3 0) ((ps.length : Int) + 1)) day' (pickM (v.getD 4 0) 1000) with
    | none => exact ⟨day', (A, (ps, (c, ()))), by simp [outD], mk_mono hb (by omega), hday'⟩
    | some b' => exact ⟨day', b', by simp [outD], mk_mono (mk_dispute hb hq) (by omega), hday'⟩
theorem loop8 {l : List (List Int)} (hl : Rows5 l) (s3 s5 : Int) (s4 : List Po) : ∀ (n i : Nat), n = min l.length 24 - i → i ≤ 24 → ∀ (day : Int) (b : Bk), Mk (2 * i) b → 0 ≤ day → day ≤ 359 →
    ∃ r, L8_4 (l, day, (i : Int), s3, s4, s5, b.1, b.2.1, b.2.2.1) = some r ∧ Mk 48 (r.2.2.2.2.2.2.1, (r.2.2.2.2.2.2.2.1, (r.2.2.2.2.2.2.2.2, ()))) := by
  intro n
  induction n with
  | zero =>
    intro i hn hi day b hb _ _
    have hll := hl.1
    refine ⟨_, lim_end (x := (l, day, (i : Int), s3, s4, s5, b.1, b.2.1, b.2.2.1)) ?_, mk_mono hb (by omega)⟩
    simp only [L8_4_r]
    have : (bif decide ((i : Int) < (l.length : Int)) then decide ((i : Int) < 24) else false) = false := by
      by_cases h1 : i < l.length
      · rw [show decide ((i : Int) < 24) = false by simp; omega]; simp
      · rw [show decide ((i : Int) < (l.length : Int)) = false by simp; omega]; rfl
    simp only [this, cond_false]
  | succ n ih =>
    intro i hn hi day b hb hd1 hd2
    obtain ⟨day', b', hr, hb', h1, h2⟩ := round8 (s3 := s3) (s5 := s5) (s4 := s4) hl (i := i) (by omega) (by omega) (A := b.1) (ps := b.2.1) (c := b.2.2.1) hb ⟨hd1, hd2⟩
    obtain ⟨r, hr2, hk⟩ := ih (i + 1) (by omega) (by omega) day' b' hb' h1 h2
    exact ⟨r, (lim_go hr).trans hr2, hk⟩
theorem G8_eq {a : Int} (ha : I64 a) {l : List (List Int)} (hl : Rows5 l) : ∃ b, G8 a l = some (b, ()) ∧ Mk 48 b := by
  have b1 := pickM_bound a (n := 11) (by omega)
  have hm : Mk (2 * 0) (2 + pickM a 11, ([], (0, ()))) := by
    refine ⟨?_, by simp, by simp⟩
    exact valid_iff.mpr ⟨rfl, by simp only; omega, by simp⟩
  obtain ⟨r, hr, hk⟩ := loop8 hl 0 0 [] (min l.length 24 - 0) 0 rfl (by omega) 0 _ hm (by omega) (by omega)
  refine ⟨_, ?_, hk⟩
  unfold G8
  simp only [P27_eq ha (n := 11) (by omega), F27_eq ha (n := 11) (by omega), cond_true]
  rw [wrapI (by omega) (by omega)]
  have hr' : L8_4 (l, 0, 0, 0, [], 0, 2 + pickM a 11, [], 0) = some r := hr
  rw [hr']; rfl
end Go.Ev.B
