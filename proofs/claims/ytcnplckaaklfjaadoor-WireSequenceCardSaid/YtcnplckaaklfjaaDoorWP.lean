/- WireSequence: the law's function answers true. -/
import Derived.Test.YtcnplckaaklfjaaDoorWO
namespace Go.Ev.W
open Go

section
variable (l : List Int) (ts : List (List UInt8))
def textN (i : Nat) : List UInt8 := (ts.getD i []).take 100
def pairN (i : Nat) : List UInt8 := enc (numP (l.getD i 0)) ++ encS (textN ts i)
def seqN (n : Nat) : List UInt8 := (List.range n).flatMap (pairN l ts)
theorem text_len (i : Nat) : (textN ts i).length ≤ 100 := by unfold textN; simp; omega
theorem seqN_succ (n : Nat) : seqN l ts (n + 1) = seqN l ts n ++ enc (numP (l.getD n 0)) ++ encS (textN ts n) := by
  unfold seqN; rw [List.range_succ, List.flatMap_append]; simp [pairN]
variable {l}
theorem item_in (hl : ∀ x ∈ l, I64 x) (i : Nat) : I64 (l.getD i 0) := by
  rw [List.getD_eq_getElem?_getD]
  cases h : l[i]? with
  | none => simp [I64]
  | some x => exact hl x (List.mem_of_getElem? h)
theorem seqN_len (hl : ∀ x ∈ l, I64 x) : ∀ n, (seqN l ts n).length ≤ n * 118
  | 0 => by simp [seqN]
  | n + 1 => by
    rw [seqN_succ, List.length_append, List.length_append]
    have := seqN_len hl n
    have := enc_short (num_in (item_in hl n))
    have := encS_len (t := textN ts n) (by have := text_len ts n; omega)
    have := text_len ts n
    omega
/-- From a place on, the rest is what comes there. -/
theorem seqN_drop {n i : Nat} (h : i < n) : ∃ r, (seqN l ts n).drop (seqN l ts i).length = enc (numP (l.getD i 0)) ++ (encS (textN ts i) ++ r) := by
  obtain ⟨m, rfl⟩ : ∃ m, n = i + 1 + m := ⟨n - (i + 1), by omega⟩
  have : seqN l ts (i + 1 + m) = seqN l ts i ++ (enc (numP (l.getD i 0)) ++ (encS (textN ts i) ++ ((List.range m).map (i + 1 + ·)).flatMap (pairN l ts))) := by
    have e : seqN l ts (i + 1 + m) = seqN l ts (i + 1) ++ ((List.range m).map (i + 1 + ·)).flatMap (pairN l ts) := by
      unfold seqN; rw [List.range_add, List.flatMap_append]
    rw [e, seqN_succ]; simp [List.append_assoc]
  rw [this, List.drop_left]
  exact ⟨_, rfl⟩
theorem seq_idx {α : Type} {xs : List α} {i n : Nat} (hi : i < n) (hn : n ≤ xs.length) : (decide (0 ≤ (i : Int)) && decide ((i : Int) < (xs.length : Int))) = true := by simp; omega
theorem clip100 (s : List UInt8) : (if (100 : Int) < (s.length : Int) then (100 : Int) else (s.length : Int)) = ((min s.length 100 : Nat) : Int) := clip 100 s
theorem put_step {ok : Bool} (hl : ∀ x ∈ l, I64 x) {n i : Nat} (hi : i < n) (h1 : n ≤ l.length) (h2 : n ≤ ts.length) (h3 : n ≤ 20) :
    L6_5_r l ts ok (n : Int) (seqN l ts i) (i : Int) = some (.inl (l, ts, ok, (n : Int), seqN l ts (i + 1), ((i + 1 : Nat) : Int))) := by
  have hx := item_in hl i
  have hn := num_in hx
  have ht : (textN ts i).length ≤ 65536 := by have := text_len ts i; omega
  have t0 : decide ((i : Int) < (n : Int)) = true := by simp; omega
  have b := seqN_len ts hl i
  have b1 := enc_short hn
  have b2 := encS_len ht
  have b3 := text_len ts i
  have l1 : decide ((seqN l ts i).length + (enc (numP (l.getD i 0))).length ≤ 9223372036854775807) = true := decide_eq_true (by omega)
  have l2 : decide ((seqN l ts i ++ enc (numP (l.getD i 0))).length + (encS (textN ts i)).length ≤ 9223372036854775807) = true := decide_eq_true (by rw [List.length_append]; omega)
  have ei : IntKind.i64.wrap ((i : Int) + 1) = ((i + 1 : Nat) : Int) := by rw [wrap_i64 (by omega) (by omega)]; omega
  have et : (ts.getD i []).take 100 = textN ts i := rfl
  unfold L6_5_r
  simp only [t0, seq_idx hi h1, seq_idx hi h2, Int.toNat_natCast, cond_true, P11_eq hx, F11_eq hx, P12_eq, F12_eq, clip100, sliceTest0 (Nat.min_le_left _ 100), cut0, take_min, et, P19_eq, F19_eq, putInt_in hn, putStr_in ht, bne_self_eq_false, cond_false, l1, l2, ei, seqN_succ]
theorem put_all {ok : Bool} (hl : ∀ x ∈ l, I64 x) {n : Nat} (h1 : n ≤ l.length) (h2 : n ≤ ts.length) (h3 : n ≤ 20) : ∀ (m i : Nat), i + m = n →
    L6_5 (l, ts, ok, (n : Int), seqN l ts i, (i : Int)) = some (.inr (l, ts, ok, (n : Int), seqN l ts n, (n : Int)))
  | 0, i, him => by
    have : i = n := by omega
    subst this
    unfold L6_5
    rw [lim_step]
    simp [L6_5_r]
  | m + 1, i, him => by
    unfold L6_5
    rw [lim_step]
    simp only [put_step ts (ok := ok) hl (by omega : i < n) h1 h2 h3]
    have := put_all (ok := ok) hl h1 h2 h3 m (i + 1) (by omega)
    unfold L6_5 at this
    exact this
theorem get_step {ok : Bool} (hl : ∀ x ∈ l, I64 x) {n i : Nat} (hi : i < n) (h1 : n ≤ l.length) (h2 : n ≤ ts.length) (h3 : n ≤ 20) :
    L6_14_r l ts ok (n : Int) (seqN l ts n) (((seqN l ts i).length : Nat) : Int) (i : Int) = some (.inl (l, ts, ok, (n : Int), seqN l ts n, (((seqN l ts (i + 1)).length : Nat) : Int), ((i + 1 : Nat) : Int))) := by
  have hx := item_in hl i
  have hn := num_in hx
  have ht : (textN ts i).length ≤ 65536 := by have := text_len ts i; omega
  have t0 : decide ((i : Int) < (n : Int)) = true := by simp; omega
  have b := seqN_len ts hl n
  have hs : (seqN l ts n).length ≤ 140737488351232 := by
    have : n * 118 ≤ 20 * 118 := Nat.mul_le_mul_right 118 h3
    omega
  obtain ⟨r, hr⟩ := seqN_drop (l := l) ts hi
  have hlen := congrArg List.length hr
  rw [List.length_drop, List.length_append, List.length_append] at hlen
  have hp := enc_pos hn
  have a1 := int_accepts (s := seqN l ts n) (k := (seqN l ts i).length) (by omega) hn (by rw [hr]; exact ⟨_, rfl⟩)
  have hr2 : (seqN l ts n).drop ((seqN l ts i).length + (enc (numP (l.getD i 0))).length) = encS (textN ts i) ++ r := by
    rw [← List.drop_drop, hr, List.drop_left]
  have a2 := str_accepts (s := seqN l ts n) (k := (seqN l ts i).length + (enc (numP (l.getD i 0))).length) (by omega) ht (by rw [hr2]; exact ⟨_, rfl⟩)
  have ec : ((seqN l ts i).length : Int) + ((enc (numP (l.getD i 0))).length : Int) = (((seqN l ts i).length + (enc (numP (l.getD i 0))).length : Nat) : Int) := by omega
  have ei : IntKind.i64.wrap ((i : Int) + 1) = ((i + 1 : Nat) : Int) := by rw [wrap_i64 (by omega) (by omega)]; omega
  have et : (ts.getD i []).take 100 = textN ts i := rfl
  have en : (((seqN l ts i).length + (enc (numP (l.getD i 0))).length : Nat) : Int) + ((encS (textN ts i)).length : Int) = (((seqN l ts (i + 1)).length : Nat) : Int) := by
    rw [seqN_succ, List.length_append, List.length_append]; omega
  unfold L6_14_r
  simp only [t0, cond_true, P15_eq hs, F15_eq hs, a1, ec, P17_eq hs, F17_eq hs, a2, bne_self_eq_false, cond_false, seq_idx hi h1, seq_idx hi h2, Int.toNat_natCast, Bool.true_or, P11_eq hx, F11_eq hx, clip100, sliceTest0 (Nat.min_le_left _ 100), cut0, take_min, et, beq_self_eq_true, Bool.not_true, ei, en]
theorem get_all {ok : Bool} (hl : ∀ x ∈ l, I64 x) {n : Nat} (h1 : n ≤ l.length) (h2 : n ≤ ts.length) (h3 : n ≤ 20) : ∀ (m i : Nat), i + m = n →
    L6_14 (l, ts, ok, (n : Int), seqN l ts n, (((seqN l ts i).length : Nat) : Int), (i : Int)) = some (.inr (l, ts, ok, (n : Int), seqN l ts n, (((seqN l ts n).length : Nat) : Int), (n : Int)))
  | 0, i, him => by
    have : i = n := by omega
    subst this
    unfold L6_14
    rw [lim_step]
    simp [L6_14_r]
  | m + 1, i, him => by
    unfold L6_14
    rw [lim_step]
    simp only [get_step ts (ok := ok) hl (by omega : i < n) h1 h2 h3]
    have := get_all (ok := ok) hl h1 h2 h3 m (i + 1) (by omega)
    unfold L6_14 at this
    exact this
end
theorem int_end (s : List UInt8) : intP s (s.length : Int) = (0, 0, 10) := by
  rcases int_cases s (k := s.length) (Nat.le_refl _) with ⟨m, hm, hp, hi⟩ | hi
  · exfalso
    have e : s.drop s.length = [] := List.drop_length
    rw [e] at hp
    have h1 := hp.length_le
    have h2 := enc_pos hm
    rw [List.length_nil] at h1
    omega
  · exact hi
theorem WireSequence_pure (x0 : List Int) (x1 : List (List UInt8)) (g0 : x0.length * 8 ≤ 140737488351232 ∧ ∀ x ∈ x0, (Lit.int .i64 x).wf = true) (_ : x1.length * 16 ≤ 140737488351232 ∧ ∀ x ∈ x1, x.length ≤ 140737488351232) : G6 x0 x1 = some true := by
  have hl : ∀ x ∈ x0, I64 x := fun x hx => i64_of_wf (g0.2 x hx)
  obtain ⟨n, hn⟩ : ∃ n, n = min (min x0.length x1.length) 20 := ⟨_, rfl⟩
  have hv : (if (20 : Int) < (if (x1.length : Int) < (x0.length : Int) then (x1.length : Int) else (x0.length : Int)) then (20 : Int) else (if (x1.length : Int) < (x0.length : Int) then (x1.length : Int) else (x0.length : Int))) = (n : Int) := by
    rw [hn]; repeat' split
    all_goals omega
  have h1 : n ≤ x0.length := by omega
  have h2 : n ≤ x1.length := by omega
  have h3 : n ≤ 20 := by omega
  have e1 := put_all x1 (ok := F10) hl h1 h2 h3 n 0 (by omega)
  have e2 := get_all x1 (ok := F10) hl h1 h2 h3 n 0 (by omega)
  have z1 : seqN x0 x1 0 = [] := rfl
  have b := seqN_len x1 hl n
  have hs : (seqN x0 x1 n).length ≤ 140737488351232 := by
    have : n * 118 ≤ 20 * 118 := Nat.mul_le_mul_right 118 h3
    omega
  rw [z1] at e1 e2
  simp only [List.length_nil, show ((0 : Nat) : Int) = 0 from rfl] at e1 e2
  unfold G6
  simp only [P10_eq, cond_true, hv]
  rw [e1]
  simp only [Option.bind_some]
  rw [e2]
  simp only [Option.bind_some, P15_eq hs, F15_eq hs, cond_true, F10_eq, beq_self_eq_true, int_end]
end Go.Ev.W
