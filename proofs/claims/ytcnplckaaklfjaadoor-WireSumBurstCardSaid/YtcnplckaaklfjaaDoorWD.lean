/- WireSumAffine: the law's function answers true. -/
import Derived.Test.YtcnplckaaklfjaaDoorWC
set_option linter.unusedSimpArgs false
set_option linter.unusedVariables false
namespace Go.Ev.W
open Go

theorem fold_xor3 {x y z : Nat → UInt8} : ∀ (js : List Nat) (p q r : Nat), (js.map fun j => UInt8.ofNat ((x j).toNat ^^^ (y j).toNat ^^^ (z j).toNat)).foldl (fun r b => crcN r b.toNat) (p ^^^ q ^^^ r) =
    (js.map x).foldl (fun r b => crcN r b.toNat) p ^^^ (js.map y).foldl (fun r b => crcN r b.toNat) q ^^^ (js.map z).foldl (fun r b => crcN r b.toNat) r
  | [], _, _, _ => rfl
  | j :: js, p, q, r => by
    have hx : (UInt8.ofNat ((x j).toNat ^^^ (y j).toNat ^^^ (z j).toNat)).toNat = (x j).toNat ^^^ (y j).toNat ^^^ (z j).toNat := by
      have h : (x j).toNat ^^^ (y j).toNat ^^^ (z j).toNat < 2 ^ 8 := Nat.xor_lt_two_pow (Nat.xor_lt_two_pow (x j).toNat_lt (y j).toNat_lt) (z j).toNat_lt
      rw [UInt8.toNat_ofNat']; exact Nat.mod_eq_of_lt h
    simp only [List.map_cons, List.foldl_cons, hx]
    rw [show crcN (p ^^^ q ^^^ r) ((x j).toNat ^^^ (y j).toNat ^^^ (z j).toNat) = crcN p (x j).toNat ^^^ crcN q (y j).toNat ^^^ crcN r (z j).toNat from by rw [crc_xor, crc_xor]]
    exact fold_xor3 js _ _ _
theorem take_range {a : List UInt8} {n : Nat} (h : n ≤ a.length) : a.take n = (List.range n).map fun j => a.getD j 0 := by
  apply List.ext_getElem
  · simp; omega
  · intro i h1 h2
    simp only [List.getElem_take, List.getElem_map, List.getElem_range, List.getD_eq_getElem?_getD]
    rw [List.getElem?_eq_getElem (by simp at h1; omega), Option.getD_some]
section
variable (a b c : List UInt8)
def x3 (j : Nat) : Nat := (a.getD j 0).toNat ^^^ (b.getD j 0).toNat ^^^ (c.getD j 0).toNat
def xsAt (n i : Nat) : List Int := (List.range i).map (fun j => ((x3 a b c j : Nat) : Int)) ++ List.replicate (n - i) 0
theorem x3_lt (j : Nat) : x3 a b c j < 256 := Nat.xor_lt_two_pow (n := 8) (Nat.xor_lt_two_pow (a.getD j 0).toNat_lt (b.getD j 0).toNat_lt) (c.getD j 0).toNat_lt
theorem xsAt_set {n i : Nat} (h : i < n) : (xsAt a b c n i).set i ((x3 a b c i : Nat) : Int) = xsAt a b c n (i + 1) := by
  unfold xsAt
  rw [List.set_append_right _ _ (by simp), List.length_map, List.length_range, Nat.sub_self, show n - i = (n - (i + 1)) + 1 by omega, List.replicate_succ, List.set_cons_zero, List.range_succ, List.map_append, List.append_assoc]
  rfl
theorem aff_round {n i : Nat} {ok : Bool} (hi : i < n) (ha : n ≤ a.length) (hb : n ≤ b.length) (hc : n ≤ c.length) (hn : n ≤ 200) :
    L9_5_r a b c ok (n : Int) (xsAt a b c n i) (i : Int) = some (.inl (a, b, c, ok, (n : Int), xsAt a b c n (i + 1), ((i + 1 : Nat) : Int))) := by
  have t : ∀ m : Nat, i < m → (decide ((0 : Int) ≤ (i : Int)) && decide ((i : Int) < (m : Int))) = true := fun m hm => by simp; omega
  have t0 : decide ((i : Int) < (n : Int)) = true := by simp; omega
  have hl : (xsAt a b c n i).length = n := by unfold xsAt; simp; omega
  have e1 : bits .xor .u8 (((a.getD i 0).toNat : Nat) : Int) (((b.getD i 0).toNat : Nat) : Int) = (((a.getD i 0).toNat ^^^ (b.getD i 0).toNat : Nat) : Int) := bits_xor_u8 _ _ (a.getD i 0).toNat_lt (b.getD i 0).toNat_lt
  have e2 : bits .xor .u8 (((a.getD i 0).toNat ^^^ (b.getD i 0).toNat : Nat) : Int) (((c.getD i 0).toNat : Nat) : Int) = ((x3 a b c i : Nat) : Int) := bits_xor_u8 _ _ (Nat.xor_lt_two_pow (n := 8) (a.getD i 0).toNat_lt (b.getD i 0).toNat_lt) (c.getD i 0).toNat_lt
  have ei : IntKind.i64.wrap ((i : Int) + 1) = ((i + 1 : Nat) : Int) := by rw [wrap_i64 (by omega) (by omega)]; omega
  have t5 : decide (i < (xsAt a b c n i).length) = true := by rw [hl]; simp; exact hi
  unfold L9_5_r
  simp only [t0, t a.length (by omega), t b.length (by omega), t c.length (by omega), t (xsAt a b c n i).length (by omega), Int.toNat_natCast, t5, cond_true, e1, e2, xsAt_set a b c hi, ei]
theorem aff_loop {n : Nat} {ok : Bool} (ha : n ≤ a.length) (hb : n ≤ b.length) (hc : n ≤ c.length) (hn : n ≤ 200) : ∀ (m i : Nat), i + m = n →
    L9_5 (a, b, c, ok, (n : Int), xsAt a b c n i, (i : Int)) = some (a, b, c, ok, (n : Int), xsAt a b c n n, (n : Int))
  | 0, i, him => by
    have : i = n := by omega
    subst this
    unfold L9_5
    rw [lim_step]
    simp [L9_5_r]
  | m + 1, i, him => by
    unfold L9_5
    rw [lim_step]
    simp only [aff_round a b c (by omega : i < n) ha hb hc hn]
    have := aff_loop (ok := ok) ha hb hc hn m (i + 1) (by omega)
    unfold L9_5 at this
    exact this
theorem sum_affine {n : Nat} (ha : n ≤ a.length) (hb : n ≤ b.length) (hc : n ≤ c.length) :
    sumN ((List.range n).map fun j => UInt8.ofNat (x3 a b c j)) = sumN (a.take n) ^^^ sumN (b.take n) ^^^ sumN (c.take n) := by
  unfold sumN
  rw [take_range ha, take_range hb, take_range hc]
  have := fold_xor3 (x := fun j => a.getD j 0) (y := fun j => b.getD j 0) (z := fun j => c.getD j 0) (List.range n) 4294967295 4294967295 4294967295
  rw [show (4294967295 ^^^ 4294967295 ^^^ 4294967295 : Nat) = 4294967295 from by decide] at this
  unfold x3
  rw [this]
  generalize List.foldl _ _ _ = A
  generalize List.foldl _ _ _ = B
  generalize List.foldl _ _ _ = C
  have e : ∀ M : Nat, M ^^^ (A ^^^ B ^^^ C) = M ^^^ A ^^^ (M ^^^ B) ^^^ (M ^^^ C) := fun M => by
    apply Nat.eq_of_testBit_eq
    intro i
    simp only [Nat.testBit_xor]
    cases M.testBit i <;> cases A.testBit i <;> cases B.testBit i <;> cases C.testBit i <;> rfl
  exact e _
/-- **The checksum is affine**: the law's function answers true. -/
theorem WireSumAffine_pure (ha : a.length ≤ 140737488351232) (hb : b.length ≤ 140737488351232) (hc : c.length ≤ 140737488351232) : G9 a b c = some true := by
  obtain ⟨n, hn⟩ : ∃ n, n = min (min (min a.length b.length) c.length) 200 := ⟨_, rfl⟩
  have hv : (if (200 : Int) < (if (c.length : Int) < (if (b.length : Int) < (a.length : Int) then (b.length : Int) else (a.length : Int)) then (c.length : Int) else (if (b.length : Int) < (a.length : Int) then (b.length : Int) else (a.length : Int))) then (200 : Int) else (if (c.length : Int) < (if (b.length : Int) < (a.length : Int) then (b.length : Int) else (a.length : Int)) then (c.length : Int) else (if (b.length : Int) < (a.length : Int) then (b.length : Int) else (a.length : Int)))) = (n : Int) := by
    rw [hn]
    repeat' split
    all_goals omega
  have na : n ≤ a.length := by omega
  have nb : n ≤ b.length := by omega
  have nc : n ≤ c.length := by omega
  have n2 : n ≤ 200 := by omega
  have t1 : (decide ((0 : Int) ≤ (n : Int)) && decide ((n : Int) ≤ (n : Int)) && decide ((n : Int) ≤ 100000000000)) = true := by simp; omega
  have hx0 : List.replicate n (0 : Int) = xsAt a b c n 0 := by simp [xsAt]
  have hloop := aff_loop a b c (ok := true) na nb nc n2 n 0 (by omega)
  have hxl : (xsAt a b c n n) = (List.range n).map (fun j => ((x3 a b c j : Nat) : Int)) := by simp [xsAt]
  have hz : List.map (fun (n : Int) => UInt8.ofNat n.toNat) (List.take (List.length (xsAt a b c n n)) (xsAt a b c n n)) = (List.range n).map fun j => UInt8.ofNat (x3 a b c j) := by
    rw [List.take_length, hxl, List.map_map]
    rfl
  have hcut : ∀ s : List UInt8, cut s (0 : Int) (n : Int) = s.take n := fun s => by simp [cut]
  have hst : ∀ m : Nat, n ≤ m → sliceTest (0 : Int) (n : Int) m = true := fun m hm => by simp [sliceTest]; omega
  have hP : ∀ s : List UInt8, s.length ≤ 200 → P21 s = true ∧ F21 s = ((sumN s : Nat) : Int) := fun s hs => ⟨P21_of s (G21_eq (by omega)), F21_of s (G21_eq (by omega))⟩
  have p1 := hP (List.map (fun (n : Int) => UInt8.ofNat n.toNat) (List.take (List.length (xsAt a b c n n)) (xsAt a b c n n))) (by rw [hz]; simp; omega)
  have p2 := hP (a.take n) (by simp; omega)
  have p3 := hP (b.take n) (by simp; omega)
  have p4 := hP (c.take n) (by simp; omega)
  have hx1 : sumN (a.take n) ^^^ sumN (b.take n) < 2 ^ 32 := Nat.xor_lt_two_pow (sum_lt _) (sum_lt _)
  unfold G9
  simp only [P10_of sane, F10_of sane, cond_true, hv, t1, Int.toNat_natCast, hx0]
  have hl2 : L9_5 (a, b, c, true, (n : Int), xsAt a b c n 0, (0 : Int)) = _ := hloop
  simp only [hl2, Option.bind_some, p1.1, p1.2, hst _ na, hst _ nb, hst _ nc, hcut, p2.1, p2.2, p3.1, p3.2, p4.1, p4.2, Bool.true_or, cond_true]
  rw [bits_xor_i64 _ _ (by have := sum_lt (a.take n); omega) (by have := sum_lt (b.take n); omega), bits_xor_i64 _ _ (by omega) (by have := sum_lt (c.take n); omega), hz, sum_affine a b c na nb nc]
  simp
end
end Go.Ev.W
