/- WireUnique, WireMatchesReference: the laws' functions answer true. -/
import Derived.Test.YtcnplckaaklfjaaDoorWN
namespace Go.Ev.W
open Go

theorem cut_pre {s l : List UInt8} {k : Nat} (h : l <+: s.drop k) : cut s (k : Int) ((k : Int) + (l.length : Int)) = l := by
  rw [show (k : Int) + (l.length : Int) = ((k + l.length : Nat) : Int) by omega, cut_nat]
  exact prefix_cut h
theorem pre_len {s l : List UInt8} {k : Nat} (h : l <+: s.drop k) (hk : k ≤ s.length) : k + l.length ≤ s.length := by
  have := h.length_le; rw [List.length_drop] at this; omega
theorem idx2 {ks : List Int} {i : Nat} (hl : ks.length = 2) (hi : i < 2) : (decide (0 ≤ (i : Int)) && decide ((i : Int) < (ks.length : Int))) = true ∧ decide (i < ks.length) = true ∧ decide ((i : Int) < 2) = true ∧ IntKind.i64.wrap ((i : Int) + 1) = ((i + 1 : Nat) : Int) := by
  refine ⟨by simp; omega, by simp; omega, by simp; omega, ?_⟩
  rw [wrap_i64 (by omega) (by omega)]; omega
theorem unique_round {ok : Bool} {s : List UInt8} {ks : List Int} {i k : Nat} (hs : s.length ≤ 1000) (hl : ks.length = 2) (hi : i < 2) (hk : ks.getD i 0 = (k : Int)) (hks : k ≤ s.length) :
    L5_4_r ok s ks 2 (i : Int) = some (.inl (ok, s, ks, 2, ((i + 1 : Nat) : Int))) := by
  obtain ⟨t1, t2, t3, t4⟩ := idx2 hl hi
  have h1 : s.length ≤ 140737488351232 := by omega
  unfold L5_4_r
  simp only [t1, t2, t3, t4, cond_true, Int.toNat_natCast, hk, P15_eq h1, F15_eq h1, P17_eq h1, F17_eq h1, P12_eq, F12_eq, P19_eq, F19_eq]
  rcases int_cases s hks with ⟨n, hn, hp, hi⟩ | hi <;> rcases str_cases s hks with ⟨t, ht, hq, hj⟩ | hj
  · have e1 := pre_len hp hks
    have e2 := pre_len hq hks
    have a1 : decide ((k : Int) + ((enc n).length : Int) < (k : Int)) = false := by simp; omega
    have a2 : decide ((k : Int) + ((enc n).length : Int) > (s.length : Int)) = false := by simp; omega
    have a3 : decide ((k : Int) + ((encS t).length : Int) < (k : Int)) = false := by simp; omega
    have a4 : decide ((k : Int) + ((encS t).length : Int) > (s.length : Int)) = false := by simp; omega
    have b1 : sliceTest (k : Int) ((k : Int) + ((enc n).length : Int)) (s.length : Int) = true := by simp [sliceTest]; omega
    have b2 : sliceTest (k : Int) ((k : Int) + ((encS t).length : Int)) (s.length : Int) = true := by simp [sliceTest]; omega
    simp [hi, hj, putInt_in hn, putStr_in ht, a1, a2, a3, a4, b1, b2, cut_pre hp, cut_pre hq]
  · have e1 := pre_len hp hks
    have a1 : decide ((k : Int) + ((enc n).length : Int) < (k : Int)) = false := by simp; omega
    have a2 : decide ((k : Int) + ((enc n).length : Int) > (s.length : Int)) = false := by simp; omega
    have b1 : sliceTest (k : Int) ((k : Int) + ((enc n).length : Int)) (s.length : Int) = true := by simp [sliceTest]; omega
    simp [hi, hj, putInt_in hn, a1, a2, b1, cut_pre hp]
  · have e2 := pre_len hq hks
    have a3 : decide ((k : Int) + ((encS t).length : Int) < (k : Int)) = false := by simp; omega
    have a4 : decide ((k : Int) + ((encS t).length : Int) > (s.length : Int)) = false := by simp; omega
    have b2 : sliceTest (k : Int) ((k : Int) + ((encS t).length : Int)) (s.length : Int) = true := by simp [sliceTest]; omega
    simp [hi, hj, putStr_in ht, a3, a4, b2, cut_pre hq]
  · simp [hi, hj]
theorem WireUnique_pure (x0 : List UInt8) (x1 x2 : Int) (_ : x0.length ≤ 140737488351232) (g1 : (Lit.int .i64 x1).wf = true) (_ : (Lit.int .u8 x2).wf = true) : G5 x0 x1 x2 = some true := by
  have i1 := i64_of_wf g1
  have c300 : ∀ s : List UInt8, (if (300 : Int) < (s.length : Int) then (300 : Int) else (s.length : Int)) = ((min s.length 300 : Nat) : Int) := fun s => clip 300 s
  obtain ⟨s, hs⟩ : ∃ s, s = List.map (fun (n : Int) => UInt8.ofNat n.toNat) (List.set (List.replicate 1 (0 : Int)) 0 x2) ++ x0.take 300 := ⟨_, rfl⟩
  have hsl : s.length ≤ 301 := by rw [hs]; simp; omega
  have l1 : decide ((List.map (fun (n : Int) => UInt8.ofNat n.toNat) (List.set (List.replicate 1 (0 : Int)) 0 x2)).length + (x0.take 300).length ≤ 9223372036854775807) = true := by simp; omega
  have w1 : IntKind.i64.wrap ((s.length : Int) + 1) = ((s.length + 1 : Nat) : Int) := by rw [wrap_i64 (by omega) (by omega)]; omega
  obtain ⟨k, k1, k2⟩ := pick_nat i1 (show 0 < s.length + 1 by omega)
  unfold G5
  simp only [P10_eq, cond_true, c300, sliceTest0 (Nat.min_le_left _ 300), cut0, take_min, l1, ← hs, w1, P14_eq i1 (show (0 : Int) < ((s.length + 1 : Nat) : Int) by omega), F14_eq i1 (show (0 : Int) < ((s.length + 1 : Nat) : Int) by omega), k1]
  have r0 := unique_round (ok := F10) (s := s) (ks := (List.set (List.set (List.replicate 2 (0 : Int)) 0 (0 : Int)) 1 (k : Int))) (i := 0) (k := 0) (by omega) rfl (by omega) rfl (by omega)
  have r1 := unique_round (ok := F10) (s := s) (ks := (List.set (List.set (List.replicate 2 (0 : Int)) 0 (0 : Int)) 1 (k : Int))) (i := 1) (k := k) (by omega) rfl (by omega) rfl (by omega)
  have hL : L5_4 (F10, s, (List.set (List.set (List.replicate 2 (0 : Int)) 0 (0 : Int)) 1 (k : Int)), (2 : Int), (0 : Int)) = some (.inr (F10, s, (List.set (List.set (List.replicate 2 (0 : Int)) 0 (0 : Int)) 1 (k : Int)), (2 : Int), (2 : Int))) := by
    unfold L5_4
    rw [lim_step]
    simp only [show ((0 : Nat) : Int) = 0 from rfl, show ((0 + 1 : Nat) : Int) = 1 from rfl] at r0
    simp only [r0]
    rw [lim_step]
    simp only [show ((1 : Nat) : Int) = 1 from rfl, show ((1 + 1 : Nat) : Int) = 2 from rfl] at r1
    simp only [r1]
    rw [lim_step]
    simp [L5_4_r]
  rw [hL]
  simp [F10_eq]
theorem match_round1 {at_ : Int} {ok : Bool} {s : List UInt8} {ks : List Int} {i : Nat} (hl : ks.length = 2) (hi : i < 2) :
    L3_4_r at_ ok s ks 2 (i : Int) = some (.inl (at_, ok, s, ks, 2, ((i + 1 : Nat) : Int))) := by
  obtain ⟨t1, t2, t3, t4⟩ := idx2 hl hi
  unfold L3_4_r
  simp only [t1, Int.toNat_natCast, t2, t3, t4, cond_true, P12_eq, F12_eq, P13_eq, F13_eq, bne_self_eq_false, beq_self_eq_true, Bool.not_true, cond_false]
theorem match_round2 {ok : Bool} {s : List UInt8} {ks : List Int} {i : Nat} (hs : s.length ≤ 1000) (hl : ks.length = 2) (hi : i < 2) :
    L3_12_r ok s ks 2 (i : Int) = some (.inl (ok, s, ks, 2, ((i + 1 : Nat) : Int))) := by
  obtain ⟨t1, t2, t3, t4⟩ := idx2 hl hi
  have h1 : s.length ≤ 140737488351232 := by omega
  unfold L3_12_r
  simp only [t1, Int.toNat_natCast, t2, t3, t4, cond_true, P15_eq h1, F15_eq h1, P16_eq h1, F16_eq h1, P17_eq h1, F17_eq h1, P18_eq h1, F18_eq h1, bne_self_eq_false, beq_self_eq_true, Bool.not_true, cond_false]
theorem WireMatchesReference_pure (x0 : Int) (x1 : List UInt8) (x2 : Int) (g0 : (Lit.int .i64 x0).wf = true) (_ : x1.length ≤ 140737488351232) (g2 : (Lit.int .i64 x2).wf = true) : G3 x0 x1 x2 = some true := by
  have i0 := i64_of_wf g0
  have i2 := i64_of_wf g2
  have c300 : ∀ s : List UInt8, (if (300 : Int) < (s.length : Int) then (300 : Int) else (s.length : Int)) = ((min s.length 300 : Nat) : Int) := fun s => clip 300 s
  obtain ⟨s, hs⟩ : ∃ s, s = x1.take 300 := ⟨_, rfl⟩
  have hsl : s.length ≤ 300 := by rw [hs]; simp; omega
  have h1 : s.length ≤ 140737488351232 := by omega
  have w1 : IntKind.i64.wrap ((s.length : Int) + 2) = ((s.length + 2 : Nat) : Int) := by rw [wrap_i64 (by omega) (by omega)]; omega
  have hL : ∀ ks : List Int, ks.length = 2 → L3_4 (x2, F10, s, ks, (2 : Int), (0 : Int)) = some (.inr (x2, F10, s, ks, (2 : Int), (2 : Int))) := fun ks hk => by
    unfold L3_4
    rw [lim_step]
    have r0 := match_round1 (at_ := x2) (ok := F10) (s := s) (i := 0) hk (by omega)
    simp only [show ((0 : Nat) : Int) = 0 from rfl, show ((0 + 1 : Nat) : Int) = 1 from rfl] at r0
    simp only [r0]
    rw [lim_step]
    have r1 := match_round1 (at_ := x2) (ok := F10) (s := s) (i := 1) hk (by omega)
    simp only [show ((1 : Nat) : Int) = 1 from rfl, show ((1 + 1 : Nat) : Int) = 2 from rfl] at r1
    simp only [r1]
    rw [lim_step]
    simp [L3_4_r]
  have hM : ∀ ks : List Int, ks.length = 2 → L3_12 (F10, s, ks, (2 : Int), (0 : Int)) = some (.inr (F10, s, ks, (2 : Int), (2 : Int))) := fun ks hk => by
    unfold L3_12
    rw [lim_step]
    have r0 := match_round2 (ok := F10) (s := s) (i := 0) (by omega) hk (by omega)
    simp only [show ((0 : Nat) : Int) = 0 from rfl, show ((0 + 1 : Nat) : Int) = 1 from rfl] at r0
    simp only [r0]
    rw [lim_step]
    have r1 := match_round2 (ok := F10) (s := s) (i := 1) (by omega) hk (by omega)
    simp only [show ((1 : Nat) : Int) = 1 from rfl, show ((1 + 1 : Nat) : Int) = 2 from rfl] at r1
    simp only [r1]
    rw [lim_step]
    simp [L3_12_r]
  unfold G3
  simp only [P10_eq, cond_true, c300, sliceTest0 (Nat.min_le_left _ 300), cut0, take_min, ← hs, P11_eq i0, F11_eq i0]
  rw [hL _ (by simp)]
  simp only [Option.bind_some, w1, P14_eq i2 (show (0 : Int) < ((s.length + 2 : Nat) : Int) by omega), cond_true]
  rw [hM _ (by simp)]
  simp only [Option.bind_some, P19_eq, F19_eq, P20_eq, F20_eq, F10_eq, cond_true, beq_self_eq_true, P21_of _ (G21_eq h1), F21_of _ (G21_eq h1), P22_of _ (G22_eq h1), F22_of _ (G22_eq h1), Bool.true_or]
end Go.Ev.W
