/- What the functions of the program compute. -/
import Derived.Test.YtockaglkljgnhaaDoorF2
import Derived.Laws.Bits64b
import Derived.Test.YtockaglkljgnhaaDoorEv4
import Derived.Test.YtockaglkljgnhaaDoorRows
import Derived.LaidMore
import Derived.SevenTiedAt
import Derived.Carry
set_option linter.unusedSimpArgs false
set_option linter.unusedVariables false
set_option linter.deprecated false
namespace Go.Ev.D
open Go Go.Ev
def fz {α : Type} (x : Int) (k : Int → α) : α := match x with
  | .ofNat n => (match n with
    | 0 => k 0
    | m + 1 => k (Int.ofNat (m + 1)))
  | .negSucc m => k (.negSucc m)
theorem fz_eq {α : Type} (x : Int) (k : Int → α) : fz x k = k x := by
  unfold fz
  split
  · split <;> rfl
  · rfl
abbrev xor32 (a b : Int) : Int := bits .xor .u32 a b
abbrev and32 (a b : Int) : Int := bits .and .u32 a b
abbrev or32 (a b : Int) : Int := bits .or .u32 a b
abbrev w32 (a : Int) : Int := IntKind.u32.wrap a
/-- To the right, round: p = 2 ^ n, q = 2 ^ (32 - n). -/
def rot (x p q : Int) : Int := or32 (w32 (x * q)) (Int.fdiv x p)
def sig0 (x : Int) : Int := xor32 (xor32 (rot x 128 33554432) (rot x 262144 16384)) (Int.fdiv x 8)
def sig1 (x : Int) : Int := xor32 (xor32 (rot x 131072 32768) (rot x 524288 8192)) (Int.fdiv x 1024)
def big1 (e : Int) : Int := xor32 (xor32 (rot e 64 67108864) (rot e 2048 2097152)) (rot e 33554432 128)
def big0 (a : Int) : Int := xor32 (xor32 (rot a 4 1073741824) (rot a 8192 524288)) (rot a 4194304 1024)
def nextW (r : List Int) : Int := w32 (w32 (w32 (r.getD 15 0 + sig0 (r.getD 14 0)) + r.getD 6 0) + sig1 (r.getD 1 0))
/-- Words more, the last one first. -/
def extW : Nat → List Int → List Int
  | 0, r => r
  | n + 1, r => fz (nextW r) fun x => extW n (x :: r)
def t1 (e f g h k w : Int) : Int := w32 (w32 (w32 (w32 (h + big1 e) + xor32 (and32 e f) (and32 (xor32 4294967295 e) g)) + k) + w)
def t2 (a b c : Int) : Int := w32 (big0 a + xor32 (xor32 (and32 a b) (and32 a c)) (and32 b c))
def comp : List (Int × Int) → Int → Int → Int → Int → Int → Int → Int → Int → List Int
  | [], a, b, c, d, e, f, g, h => [a, b, c, d, e, f, g, h]
  | (k, w) :: l, a, b, c, d, e, f, g, h => fz (t1 e f g h k w) fun t => fz (w32 (t + t2 a b c)) fun x => fz (w32 (d + t)) fun y => comp l x a b c y e f g
def word (b : List Int) (i : Nat) : Int := or32 (or32 (or32 (w32 (w32 (b.getD (4 * i) 0) * 16777216)) (w32 (w32 (b.getD (4 * i + 1) 0) * 65536))) (w32 (w32 (b.getD (4 * i + 2) 0) * 256))) (w32 (b.getD (4 * i + 3) 0))
/-- The first words, the last one first. -/
def wordsOf (b : List Int) : Nat → List Int
  | 0 => []
  | n + 1 => fz (word b n) fun x => x :: wordsOf b n
def sched (b : List Int) : List Int := (extW 48 (wordsOf b 16)).reverse
def addAll : List Int → List Int → List Int
  | x :: l, y :: m => fz (w32 (x + y)) fun z => z :: addAll l m
  | _, _ => []
def block (h : List Int) (b : List Int) : List Int :=
  addAll h (comp (roundK.zip (sched b)) (h.getD 0 0) (h.getD 1 0) (h.getD 2 0) (h.getD 3 0) (h.getD 4 0) (h.getD 5 0) (h.getD 6 0) (h.getD 7 0))
def blocks : Nat → List Int → List Int → List Int
  | 0, h, _ => h
  | n + 1, h, b => blocks n (block h (b.take 64)) (b.drop 64)
def lenB (n : Int) (i : Nat) : Int := IntKind.u8.wrap (Int.fdiv (8 * n) (2 ^ (8 * i)))
def padZ (n : Nat) : Nat := (119 - n % 64) % 64
def padded (s : List UInt8) : List Int := s.map (fun b => (b.toNat : Int)) ++ 128 :: (List.replicate (padZ s.length) 0 ++ [lenB s.length 7, lenB s.length 6, lenB s.length 5, lenB s.length 4, lenB s.length 3, lenB s.length 2, lenB s.length 1, lenB s.length 0])
def h0 : List Int := [1779033703, 3144134277, 1013904242, 2773480762, 1359893119, 2600822924, 528734635, 1541459225]
def bytesOf (x : Int) : List UInt8 := [UInt8.ofNat (IntKind.u8.wrap (Int.fdiv x 16777216)).toNat, UInt8.ofNat (IntKind.u8.wrap (Int.fdiv x 65536)).toNat, UInt8.ofNat (IntKind.u8.wrap (Int.fdiv x 256)).toNat, UInt8.ofNat (IntKind.u8.wrap x).toNat]
def sha (s : List UInt8) : List UInt8 := (blocks ((padded s).length / 64) h0 (padded s)).flatMap bytesOf
end Go.Ev.D

namespace Go.Ev.D
open Go Go.Ev
theorem wrapI {n : Int} (h1 : -9223372036854775808 ≤ n) (h2 : n ≤ 9223372036854775807) : IntKind.i64.wrap n = n := by
  simp only [IntKind.wrap, IntKind.bits, IntKind.signed]
  by_cases h : 0 ≤ n
  · have : n % (2 ^ 64 : Int) = n := by omega
    simp only [this]
    rw [if_neg (by simp; omega)]
  · have : n % (2 ^ 64 : Int) = n + 18446744073709551616 := by omega
    simp only [this]
    rw [if_pos (by simp; omega)]
    omega
theorem wrapN {n : Nat} (h : n ≤ 9223372036854775807) : IntKind.i64.wrap (n : Int) = (n : Int) := wrapI (by omega) (by omega)
theorem wrap_u32 (n : Int) : IntKind.u32.wrap n = n % 4294967296 := by simp [IntKind.wrap, IntKind.bits, IntKind.signed]
theorem w32_range (n : Int) : 0 ≤ w32 n ∧ w32 n < 4294967296 := by unfold w32; rw [wrap_u32]; omega
theorem or32_range (a b : Int) : 0 ≤ or32 a b ∧ or32 a b < 4294967296 := w32_range _
theorem or32_comm (a b : Int) : or32 a b = or32 b a := by
  show IntKind.u32.wrap ((BitVec.ofInt 32 a ||| BitVec.ofInt 32 b).toNat : Int) = IntKind.u32.wrap ((BitVec.ofInt 32 b ||| BitVec.ofInt 32 a).toNat : Int)
  rw [BitVec.or_comm]
theorem xor32_zero {a : Int} (h : 0 ≤ a ∧ a < 4294967296) : xor32 0 a = a := by
  obtain ⟨n, rfl⟩ := Int.eq_ofNat_of_zero_le h.1
  show IntKind.u32.wrap ((BitVec.ofInt 32 0 ^^^ BitVec.ofInt 32 (n : Int)).toNat : Int) = _
  have : BitVec.ofInt 32 0 = 0#32 := rfl
  rw [this, BitVec.zero_xor, BitVec.ofInt_natCast, BitVec.toNat_ofNat, wrap_u32]
  omega
theorem rot_range (x p q : Int) : 0 ≤ rot x p q ∧ rot x p q < 4294967296 := or32_range _ _
/-! ### Rotations -/
theorem rl7 (x : Int) : G77 x (IntKind.i64.wrap (0 - 7)) = some (rot x 128 33554432) := by kernel_rfl
theorem rl18 (x : Int) : G77 x (IntKind.i64.wrap (0 - 18)) = some (rot x 262144 16384) := by kernel_rfl
theorem rl17 (x : Int) : G77 x (IntKind.i64.wrap (0 - 17)) = some (rot x 131072 32768) := by kernel_rfl
theorem rl19 (x : Int) : G77 x (IntKind.i64.wrap (0 - 19)) = some (rot x 524288 8192) := by kernel_rfl
theorem rl6 (x : Int) : G77 x (IntKind.i64.wrap (0 - 6)) = some (rot x 64 67108864) := by kernel_rfl
theorem rl11 (x : Int) : G77 x (IntKind.i64.wrap (0 - 11)) = some (rot x 2048 2097152) := by kernel_rfl
theorem rl25 (x : Int) : G77 x (IntKind.i64.wrap (0 - 25)) = some (rot x 33554432 128) := by kernel_rfl
theorem rl2 (x : Int) : G77 x (IntKind.i64.wrap (0 - 2)) = some (rot x 4 1073741824) := by kernel_rfl
theorem rl13 (x : Int) : G77 x (IntKind.i64.wrap (0 - 13)) = some (rot x 8192 524288) := by kernel_rfl
theorem rl22 (x : Int) : G77 x (IntKind.i64.wrap (0 - 22)) = some (rot x 4194304 1024) := by kernel_rfl
theorem mix_go {x acc : Int} {l : List Int} {i : Nat} (hi : i < l.length) (hl : l.length ≤ 1000) {r : Int} (h : G77 x (IntKind.i64.wrap (0 - l.getD i 0)) = some r) :
    L68_3_r x acc l (l.length : Int) (i : Int) = some (.inl (x, xor32 acc r, l, (l.length : Int), ((i + 1 : Nat) : Int))) := by
  have t1 : decide ((i : Int) < (l.length : Int)) = true := by simp; omega
  have t2 : decide ((0 : Int) ≤ (i : Int)) = true := by simp
  have t3 : IntKind.i64.wrap ((i : Int) + 1) = ((i + 1 : Nat) : Int) := by rw [wrapI (by omega) (by omega)]; omega
  unfold L68_3_r
  simp only [t1, t2, t3, Bool.and_self, cond_true, Int.toNat_natCast, P77_of _ _ h, F77_of _ _ h]
theorem mix_end {x acc : Int} {l : List Int} : L68_3_r x acc l (l.length : Int) (l.length : Int) = some (.inr (x, acc, l, (l.length : Int), (l.length : Int))) := by
  unfold L68_3_r; simp
theorem G68_two {x a b r s : Int} (h1 : G77 x (IntKind.i64.wrap (0 - a)) = some r) (h2 : G77 x (IntKind.i64.wrap (0 - b)) = some s) (hr : 0 ≤ r ∧ r < 4294967296) :
    G68 x [a, b] = some (xor32 r s) := by
  have e : L68_3 (x, 0, [a, b], 2, 0) = some (x, xor32 r s, [a, b], 2, 2) := by
    unfold L68_3
    rw [lim_go (mix_go (l := [a, b]) (i := 0) (by simp) (by simp) h1), lim_go (mix_go (l := [a, b]) (i := 1) (by simp) (by simp) h2), lim_end mix_end, xor32_zero hr]
    rfl
  unfold G68
  show Option.bind (L68_3 (x, 0, [a, b], 2, 0)) _ = _
  rw [e]; rfl
theorem G68_three {x a b c r s t : Int} (h1 : G77 x (IntKind.i64.wrap (0 - a)) = some r) (h2 : G77 x (IntKind.i64.wrap (0 - b)) = some s) (h3 : G77 x (IntKind.i64.wrap (0 - c)) = some t) (hr : 0 ≤ r ∧ r < 4294967296) :
    G68 x [a, b, c] = some (xor32 (xor32 r s) t) := by
  have e : L68_3 (x, 0, [a, b, c], 3, 0) = some (x, xor32 (xor32 r s) t, [a, b, c], 3, 3) := by
    unfold L68_3
    rw [lim_go (mix_go (l := [a, b, c]) (i := 0) (by simp) (by simp) h1), lim_go (mix_go (l := [a, b, c]) (i := 1) (by simp) (by simp) h2), lim_go (mix_go (l := [a, b, c]) (i := 2) (by simp) (by simp) h3), lim_end mix_end, xor32_zero hr]
    rfl
  unfold G68
  show Option.bind (L68_3 (x, 0, [a, b, c], 3, 0)) _ = _
  rw [e]; rfl
theorem m7 (x : Int) : G68 x [7, 18] = some (xor32 (rot x 128 33554432) (rot x 262144 16384)) := G68_two (rl7 x) (rl18 x) (rot_range _ _ _)
theorem m17 (x : Int) : G68 x [17, 19] = some (xor32 (rot x 131072 32768) (rot x 524288 8192)) := G68_two (rl17 x) (rl19 x) (rot_range _ _ _)
theorem m6 (x : Int) : G68 x [6, 11, 25] = some (big1 x) := G68_three (rl6 x) (rl11 x) (rl25 x) (rot_range _ _ _)
theorem m2 (x : Int) : G68 x [2, 13, 22] = some (big0 x) := G68_three (rl2 x) (rl13 x) (rl22 x) (rot_range _ _ _)
/-! ### Words -/
theorem extW_succ : ∀ (n : Nat) (r : List Int), extW (n + 1) r = nextW (extW n r) :: extW n r
  | 0, r => by simp only [extW, fz_eq]
  | n + 1, r => by
    rw [extW, fz_eq, extW_succ n, extW, fz_eq]
theorem extW_len : ∀ (n : Nat) (r : List Int), (extW n r).length = n + r.length
  | 0, r => by simp [extW]
  | n + 1, r => by rw [extW, fz_eq, extW_len n]; simp; omega
theorem wordsOf_len (b : List Int) : ∀ n, (wordsOf b n).length = n
  | 0 => rfl
  | n + 1 => by rw [wordsOf, fz_eq]; simp [wordsOf_len b n]
theorem set_fill {α : Type} (l : List α) (n : Nat) (z x : α) : (l ++ List.replicate (n + 1) z).set l.length x = (l ++ [x]) ++ List.replicate n z := by
  rw [List.set_append_right _ _ (Nat.le_refl _), Nat.sub_self, List.replicate_succ, List.set_cons_zero, List.append_assoc]; rfl
theorem getD_rev {α : Type} (r t : List α) (k : Nat) (z : α) (hk : k < r.length) : (r.reverse ++ t).getD (r.length - 1 - k) z = r.getD k z := by
  rw [List.getD_eq_getElem?_getD, List.getD_eq_getElem?_getD, List.getElem?_append_left (by simp; omega), List.getElem?_reverse (by omega)]
  congr 2; omega
theorem words_go {b : List Int} (hb : b.length = 64) {i : Nat} (hi : i < 16) {arr : List Int} (ha : arr.length = 64) : L67_2_r b (i : Int) arr = some (.inl (b, ((i + 1 : Nat) : Int), arr.set i (word b i))) := by
  have t1 : decide ((i : Int) < 16) = true := by simp; omega
  have e0 : IntKind.i64.wrap (4 * (i : Int)) = ((4 * i : Nat) : Int) := by rw [wrapI (by omega) (by omega)]; omega
  have e1 : IntKind.i64.wrap (((4 * i : Nat) : Int) + 1) = ((4 * i + 1 : Nat) : Int) := by rw [wrapI (by omega) (by omega)]; omega
  have e2 : IntKind.i64.wrap (((4 * i : Nat) : Int) + 2) = ((4 * i + 2 : Nat) : Int) := by rw [wrapI (by omega) (by omega)]; omega
  have e3 : IntKind.i64.wrap (((4 * i : Nat) : Int) + 3) = ((4 * i + 3 : Nat) : Int) := by rw [wrapI (by omega) (by omega)]; omega
  have t : ∀ k : Nat, k < 64 → (decide (0 ≤ (k : Int)) && decide ((k : Int) < (b.length : Int))) = true := fun k hk => by simp; omega
  have t2 : (decide (0 ≤ (i : Int)) && decide ((i : Int) < ((64 : Nat) : Int))) = true := by simp; omega
  have t3 : decide (i < arr.length) = true := by simp; omega
  have e4 : IntKind.i64.wrap ((i : Int) + 1) = ((i + 1 : Nat) : Int) := by rw [wrapI (by omega) (by omega)]; omega
  have p1 : (2 ^ min (Int.toNat (24 : Int)) (IntKind.u32.bits) : Int) = 16777216 := rfl
  have p2 : (2 ^ min (Int.toNat (16 : Int)) (IntKind.u32.bits) : Int) = 65536 := rfl
  have p3 : (2 ^ min (Int.toNat (8 : Int)) (IntKind.u32.bits) : Int) = 256 := rfl
  unfold L67_2_r
  simp only [t1, e0, e1, e2, e3, t _ (show 4 * i < 64 by omega), t _ (show 4 * i + 1 < 64 by omega), t _ (show 4 * i + 2 < 64 by omega), t _ (show 4 * i + 3 < 64 by omega), t2, t3, e4, p1, p2, p3, cond_true, Int.toNat_natCast]
  rfl
theorem words_end {b arr : List Int} : L67_2_r b ((16 : Nat) : Int) arr = some (.inr (b, ((16 : Nat) : Int), arr)) := by unfold L67_2_r; rfl
theorem words_loop {b : List Int} (hb : b.length = 64) : L67_2 (b, 0, List.replicate 64 0) = some (b, 16, (wordsOf b 16).reverse ++ List.replicate 48 0) := by
  unfold L67_2
  have := lim_inv (r := fun s : List Int × Int × List Int => L67_2_r s.1 s.2.1 s.2.2) (fun i => (b, ((i : Nat) : Int), (wordsOf b i).reverse ++ List.replicate (64 - i) 0)) (b, ((16 : Nat) : Int), (wordsOf b 16).reverse ++ List.replicate 48 0) 16 (fun i hi => by
    show L67_2_r b (i : Int) _ = _
    rw [words_go hb hi (by simp [wordsOf_len]; omega)]
    have h1 := set_fill (wordsOf b i).reverse (63 - i) (0 : Int) (word b i)
    rw [List.length_reverse, wordsOf_len] at h1
    rw [show 64 - i = 63 - i + 1 by omega, h1, show 64 - (i + 1) = 63 - i by omega, wordsOf, fz_eq, List.reverse_cons]) words_end 0 (by omega)
  exact this
theorem more_go {r : List Int} {i : Nat} (hr : r.length = i) (h1 : 16 ≤ i) (hi : i < 64) {t : List Int} (ht : t.length = 64 - i) : L67_7_r (i : Int) (r.reverse ++ t) = some (.inl (((i + 1 : Nat) : Int), (r.reverse ++ t).set i (nextW r))) := by
  have t1 : decide ((i : Int) < 64) = true := by simp; omega
  have e : ∀ k : Nat, 1 ≤ k → k ≤ 16 → IntKind.i64.wrap ((i : Int) - (k : Int)) = ((i - k : Nat) : Int) := fun k h2 h3 => by rw [wrapI (by omega) (by omega)]; omega
  have e15 := e 15 (by omega) (by omega)
  have e2 := e 2 (by omega) (by omega)
  have e16 := e 16 (by omega) (by omega)
  have e7 := e 7 (by omega) (by omega)
  have q : ∀ k : Nat, 1 ≤ k → k ≤ i → (decide (0 ≤ ((i - k : Nat) : Int)) && decide (((i - k : Nat) : Int) < ((64 : Nat) : Int))) = true := fun k h2 h3 => by simp; omega
  have hl : (r.reverse ++ t).length = 64 := by simp; omega
  have q' : ∀ k : Nat, 1 ≤ k → k ≤ i → decide (i - k < (r.reverse ++ t).length) = true := fun k h2 h3 => by rw [hl]; simp; omega
  have d : ∀ k : Nat, 1 ≤ k → k ≤ i → (r.reverse ++ t).getD (i - k) 0 = r.getD (k - 1) 0 := fun k h2 h3 => by
    have := getD_rev r t (k - 1) (0 : Int) (by omega)
    rw [← this]; congr 1; omega
  have t2 : (decide (0 ≤ (i : Int)) && decide ((i : Int) < ((64 : Nat) : Int))) = true := by simp; omega
  have t3 : decide (i < (r.reverse ++ t).length) = true := by rw [hl]; simp; omega
  have e4 : IntKind.i64.wrap ((i : Int) + 1) = ((i + 1 : Nat) : Int) := by rw [wrapI (by omega) (by omega)]; omega
  have p1 : (2 ^ min (Int.toNat (3 : Int)) (IntKind.u32.bits) : Int) = 8 := rfl
  have p2 : (2 ^ min (Int.toNat (10 : Int)) (IntKind.u32.bits) : Int) = 1024 := rfl
  have l1 : List.set (List.set (List.replicate 2 (0 : Int)) 0 (7 : Int)) 1 (18 : Int) = [7, 18] := rfl
  have l2 : List.set (List.set (List.replicate 2 (0 : Int)) 0 (17 : Int)) 1 (19 : Int) = [17, 19] := rfl
  have c15 : ((15 : Nat) : Int) = 15 := rfl
  have c2 : ((2 : Nat) : Int) = 2 := rfl
  have c16 : ((16 : Nat) : Int) = 16 := rfl
  have c7 : ((7 : Nat) : Int) = 7 := rfl
  rw [c15] at e15; rw [c2] at e2; rw [c16] at e16; rw [c7] at e7
  unfold L67_7_r
  simp only [t1, e15, e2, e16, e7, Int.toNat_natCast, q 15 (by omega) (by omega), q 2 (by omega) (by omega), q 16 (by omega) (by omega), q 7 (by omega) (by omega), q' 15 (by omega) (by omega), q' 2 (by omega) (by omega), q' 16 (by omega) (by omega), q' 7 (by omega) (by omega),
    d 15 (by omega) (by omega), d 2 (by omega) (by omega), d 16 (by omega) (by omega), d 7 (by omega) (by omega), t2, t3, e4, p1, p2, l1, l2, P68_of _ _ (m7 _), F68_of _ _ (m7 _), P68_of _ _ (m17 _), F68_of _ _ (m17 _), cond_true]
  rfl
theorem more_end {arr : List Int} : L67_7_r ((64 : Nat) : Int) arr = some (.inr (((64 : Nat) : Int), arr)) := by unfold L67_7_r; rfl
theorem G67_eq {b : List Int} (hb : b.length = 64) : G67 b = some (sched b, ()) := by
  unfold G67
  simp only [words_loop hb, Option.bind_some]
  have := lim_inv (r := fun s : Int × List Int => L67_7_r s.1 s.2) (fun i => (((16 + i : Nat) : Int), (extW i (wordsOf b 16)).reverse ++ List.replicate (48 - i) 0)) (((64 : Nat) : Int), sched b) 48 (fun i hi => by
    show L67_7_r ((16 + i : Nat) : Int) _ = _
    have hl : (extW i (wordsOf b 16)).length = 16 + i := by rw [extW_len, wordsOf_len]; omega
    rw [more_go hl (by omega) (by omega) (by simp; omega)]
    have h1 := set_fill (extW i (wordsOf b 16)).reverse (47 - i) (0 : Int) (nextW (extW i (wordsOf b 16)))
    rw [List.length_reverse, hl] at h1
    rw [show 48 - i = 47 - i + 1 by omega, h1, show 48 - (i + 1) = 47 - i by omega, extW_succ, List.reverse_cons]
    rfl) (by
    show L67_7_r ((64 : Nat) : Int) _ = _
    rw [more_end]; simp [sched]) 0 (by omega)
  have h2 : L67_7 (16, (wordsOf b 16).reverse ++ List.replicate 48 0) = some (64, sched b) := this
  rw [h2]; rfl
theorem P67_eq {b : List Int} (hb : b.length = 64) : P67 b = true := P67_of _ (G67_eq hb)
theorem F67_eq {b : List Int} (hb : b.length = 64) : F67 b = (sched b, ()) := F67_of _ (G67_eq hb)
theorem sched_len (b : List Int) : (sched b).length = 64 := by simp [sched, extW_len, wordsOf_len]
end Go.Ev.D

namespace Go.Ev.D
open Go Go.Ev
def stepC (v : List Int) (p : Int × Int) : List Int := match v with
  | [a, b, c, d, e, f, g, h] => [w32 (t1 e f g h p.1 p.2 + t2 a b c), a, b, c, w32 (d + t1 e f g h p.1 p.2), e, f, g]
  | v => v
theorem comp_eq : ∀ (l : List (Int × Int)) (a b c d e f g h : Int), comp l a b c d e f g h = l.foldl stepC [a, b, c, d, e, f, g, h]
  | [], _, _, _, _, _, _, _, _ => rfl
  | (k, w) :: l, a, b, c, d, e, f, g, h => by
    simp only [comp, fz_eq, comp_eq l, List.foldl_cons, stepC]
theorem eight {v : List Int} (h : v.length = 8) : ∃ a b c d e f g i, v = [a, b, c, d, e, f, g, i] := by
  match v, h with
  | [a, b, c, d, e, f, g, i], _ => exact ⟨_, _, _, _, _, _, _, _, rfl⟩
theorem stepC_len {v : List Int} (h : v.length = 8) (p : Int × Int) : (stepC v p).length = 8 := by
  obtain ⟨a, b, c, d, e, f, g, i, rfl⟩ := eight h
  rfl
theorem foldC_len : ∀ (l : List (Int × Int)) {v : List Int}, v.length = 8 → (l.foldl stepC v).length = 8
  | [], _, h => h
  | p :: l, _, h => foldC_len l (stepC_len h p)
theorem round_go {w v hh : List Int} (hv : v.length = 8) (hw : w.length = 64) {i : Nat} (hi : i < 64) :
    L55_3_r roundK (i : Int) w v hh = some (.inl (roundK, ((i + 1 : Nat) : Int), w, stepC v (roundK.getD i 0, w.getD i 0), hh)) := by
  obtain ⟨a, b, c, d, e, f, g, h, rfl⟩ := eight hv
  have t0 : decide ((i : Int) < 64) = true := by simp; omega
  have t1 : (decide (0 ≤ (i : Int)) && decide ((i : Int) < ((64 : Nat) : Int))) = true := by simp; omega
  have t2 : decide (i < w.length) = true := by rw [hw]; simp; omega
  have t3 : IntKind.i64.wrap ((i : Int) + 1) = ((i + 1 : Nat) : Int) := by rw [wrapI (by omega) (by omega)]; omega
  have l1 : List.set (List.set (List.set (List.replicate 3 (0 : Int)) 0 (6 : Int)) 1 (11 : Int)) 2 (25 : Int) = [6, 11, 25] := rfl
  have l2 : List.set (List.set (List.set (List.replicate 3 (0 : Int)) 0 (2 : Int)) 1 (13 : Int)) 2 (22 : Int) = [2, 13, 22] := rfl
  unfold L55_3_r
  simp only [t0, t1, Int.toNat_natCast, t2, t3, l1, l2, P68_of _ _ (m6 _), F68_of _ _ (m6 _), P68_of _ _ (m2 _), F68_of _ _ (m2 _), cond_true]
  change _ = _
  kernel_rfl
theorem round_end {w v hh : List Int} : L55_3_r roundK ((64 : Nat) : Int) w v hh = some (.inr (roundK, ((64 : Nat) : Int), w, v, hh)) := by unfold L55_3_r; rfl
theorem zip_take_succ {α β : Type} (a : List α) (b : List β) (i : Nat) (x : α) (y : β) (ha : i < a.length) (hb : i < b.length) : (a.zip b).take (i + 1) = (a.zip b).take i ++ [(a.getD i x, b.getD i y)] := by
  rw [List.take_add_one, List.getElem?_eq_getElem (by simp; omega)]
  simp [List.getD_eq_getElem?_getD, ha, hb]
theorem roundK_len : roundK.length = 64 := by decide +kernel
theorem rounds {w v hh : List Int} (hv : v.length = 8) (hw : w.length = 64) :
    L55_3 (roundK, 0, w, v, hh) = some (roundK, 64, w, (roundK.zip w).foldl stepC v, hh) := by
  have hz : (roundK.zip w).length = 64 := by simp [roundK_len, hw]
  have := lim_inv (r := fun s : List Int × Int × List Int × List Int × List Int => L55_3_r s.1 s.2.1 s.2.2.1 s.2.2.2.1 s.2.2.2.2) (fun i => (roundK, ((i : Nat) : Int), w, ((roundK.zip w).take i).foldl stepC v, hh)) (roundK, ((64 : Nat) : Int), w, (roundK.zip w).foldl stepC v, hh) 64 (fun i hi => by
    show L55_3_r roundK (i : Int) w _ hh = _
    rw [round_go (foldC_len _ hv) hw hi, zip_take_succ roundK w i 0 0 (by rw [roundK_len]; exact hi) (by omega), List.foldl_append]
    rfl) (by
    show L55_3_r roundK ((64 : Nat) : Int) w _ hh = _
    rw [round_end, List.take_of_length_le (by omega)]) 0 (by omega)
  exact this
theorem addAll8 (a b c d e f g h a' b' c' d' e' f' g' h' : Int) : addAll [a, b, c, d, e, f, g, h] [a', b', c', d', e', f', g', h'] = [w32 (a + a'), w32 (b + b'), w32 (c + c'), w32 (d + d'), w32 (e + e'), w32 (f + f'), w32 (g + g'), w32 (h + h')] := by
  simp only [addAll, fz_eq]
theorem add_loop {hh v : List Int} (h1 : hh.length = 8) (h2 : v.length = 8) : L55_12 (0, v, hh) = some (8, v, addAll hh v) := by
  obtain ⟨a, b, c, d, e, f, g, h, rfl⟩ := eight h1
  obtain ⟨a', b', c', d', e', f', g', h', rfl⟩ := eight h2
  rw [addAll8]
  unfold L55_12
  have s0 : L55_12_r 0 [a', b', c', d', e', f', g', h'] [a, b, c, d, e, f, g, h] = some (.inl (1, [a', b', c', d', e', f', g', h'], [w32 (a + a'), b, c, d, e, f, g, h])) := by kernel_rfl
  have s1 : L55_12_r 1 [a', b', c', d', e', f', g', h'] [w32 (a + a'), b, c, d, e, f, g, h] = some (.inl (2, [a', b', c', d', e', f', g', h'], [w32 (a + a'), w32 (b + b'), c, d, e, f, g, h])) := by kernel_rfl
  have s2 : L55_12_r 2 [a', b', c', d', e', f', g', h'] [w32 (a + a'), w32 (b + b'), c, d, e, f, g, h] = some (.inl (3, [a', b', c', d', e', f', g', h'], [w32 (a + a'), w32 (b + b'), w32 (c + c'), d, e, f, g, h])) := by kernel_rfl
  have s3 : L55_12_r 3 [a', b', c', d', e', f', g', h'] [w32 (a + a'), w32 (b + b'), w32 (c + c'), d, e, f, g, h] = some (.inl (4, [a', b', c', d', e', f', g', h'], [w32 (a + a'), w32 (b + b'), w32 (c + c'), w32 (d + d'), e, f, g, h])) := by kernel_rfl
  have s4 : L55_12_r 4 [a', b', c', d', e', f', g', h'] [w32 (a + a'), w32 (b + b'), w32 (c + c'), w32 (d + d'), e, f, g, h] = some (.inl (5, [a', b', c', d', e', f', g', h'], [w32 (a + a'), w32 (b + b'), w32 (c + c'), w32 (d + d'), w32 (e + e'), f, g, h])) := by kernel_rfl
  have s5 : L55_12_r 5 [a', b', c', d', e', f', g', h'] [w32 (a + a'), w32 (b + b'), w32 (c + c'), w32 (d + d'), w32 (e + e'), f, g, h] = some (.inl (6, [a', b', c', d', e', f', g', h'], [w32 (a + a'), w32 (b + b'), w32 (c + c'), w32 (d + d'), w32 (e + e'), w32 (f + f'), g, h])) := by kernel_rfl
  have s6 : L55_12_r 6 [a', b', c', d', e', f', g', h'] [w32 (a + a'), w32 (b + b'), w32 (c + c'), w32 (d + d'), w32 (e + e'), w32 (f + f'), g, h] = some (.inl (7, [a', b', c', d', e', f', g', h'], [w32 (a + a'), w32 (b + b'), w32 (c + c'), w32 (d + d'), w32 (e + e'), w32 (f + f'), w32 (g + g'), h])) := by kernel_rfl
  have s7 : L55_12_r 7 [a', b', c', d', e', f', g', h'] [w32 (a + a'), w32 (b + b'), w32 (c + c'), w32 (d + d'), w32 (e + e'), w32 (f + f'), w32 (g + g'), h] = some (.inl (8, [a', b', c', d', e', f', g', h'], [w32 (a + a'), w32 (b + b'), w32 (c + c'), w32 (d + d'), w32 (e + e'), w32 (f + f'), w32 (g + g'), w32 (h + h')])) := by kernel_rfl
  have s8 : ∀ x, L55_12_r 8 [a', b', c', d', e', f', g', h'] x = some (.inr (8, [a', b', c', d', e', f', g', h'], x)) := fun x => by kernel_rfl
  rw [lim_go s0, lim_go s1, lim_go s2, lim_go s3, lim_go s4, lim_go s5, lim_go s6, lim_go s7, lim_end (s8 _)]
theorem block_eq {h : List Int} (hh : h.length = 8) (b : List Int) : block h b = addAll h ((roundK.zip (sched b)).foldl stepC h) := by
  obtain ⟨a, b', c, d, e, f, g, i, rfl⟩ := eight hh
  unfold block
  rw [comp_eq]; rfl
theorem addAll_len {a b : List Int} (h1 : a.length = 8) (h2 : b.length = 8) : (addAll a b).length = 8 := by
  obtain ⟨a, b, c, d, e, f, g, h, rfl⟩ := eight h1
  obtain ⟨a', b', c', d', e', f', g', h', rfl⟩ := eight h2
  rw [addAll8]; rfl
theorem block_len {h : List Int} (hh : h.length = 8) (b : List Int) : (block h b).length = 8 := by
  rw [block_eq hh]; exact addAll_len hh (foldC_len _ hh)
theorem G55_eq {b h : List Int} (hb : b.length = 64) (hh : h.length = 8) : G55 b h = some ((), (block h b, ())) := by
  unfold G55
  simp only [P67_eq hb, F67_eq hb, cond_true, rounds hh (sched_len b), Option.bind_some, add_loop hh (foldC_len _ hh), block_eq hh]
theorem P55_eq {b h : List Int} (hb : b.length = 64) (hh : h.length = 8) : P55 b h = true := P55_of _ _ (G55_eq hb hh)
theorem F55_eq {b h : List Int} (hb : b.length = 64) (hh : h.length = 8) : F55 b h = ((), (block h b, ())) := F55_of _ _ (G55_eq hb hh)
/-! ### Output -/
def byteI (x : Int) (k : Nat) : Int := IntKind.u8.wrap (Int.fdiv x (2 ^ (24 - 8 * k)))
theorem byte_go {x : Int} {h out : List Int} {i k : Nat} (hi : i < 8) (hk : k < 4) (ho : out.length = 32) : L56_6_r (i : Int) x h (i : Int) (k : Int) out = some (.inl ((i : Int), x, h, (i : Int), ((k + 1 : Nat) : Int), out.set (4 * i + k) (byteI x k))) := by
  have t0 : decide ((k : Int) < 4) = true := by simp; omega
  have e1 : IntKind.i64.wrap (4 * (i : Int)) = ((4 * i : Nat) : Int) := by rw [wrapI (by omega) (by omega)]; omega
  have e2 : IntKind.i64.wrap (((4 * i : Nat) : Int) + (k : Int)) = ((4 * i + k : Nat) : Int) := by rw [wrapI (by omega) (by omega)]; omega
  have e3 : IntKind.i64.wrap (8 * (k : Int)) = ((8 * k : Nat) : Int) := by rw [wrapI (by omega) (by omega)]; omega
  have e4 : IntKind.i64.wrap (24 - ((8 * k : Nat) : Int)) = ((24 - 8 * k : Nat) : Int) := by rw [wrapI (by omega) (by omega)]; omega
  have e5 : decide (0 ≤ ((24 - 8 * k : Nat) : Int)) = true := by simp
  have e6 : (decide (0 ≤ ((4 * i + k : Nat) : Int)) && decide (((4 * i + k : Nat) : Int) < ((32 : Nat) : Int))) = true := by simp; omega
  have e7 : decide (4 * i + k < out.length) = true := by rw [ho]; simp; omega
  have e8 : IntKind.i64.wrap ((k : Int) + 1) = ((k + 1 : Nat) : Int) := by rw [wrapI (by omega) (by omega)]; omega
  have e9 : (2 ^ min (24 - 8 * k) (IntKind.u32.bits) : Int) = 2 ^ (24 - 8 * k) := by rw [Nat.min_eq_left (by simp [IntKind.bits]; omega)]
  unfold L56_6_r
  simp only [t0, e1, e2, e3, e4, e5, e6, Int.toNat_natCast, e7, e8, e9, cond_true]
  rfl
theorem byte_end {x : Int} {h out : List Int} {i q : Int} : L56_6_r i x h q ((4 : Nat) : Int) out = some (.inr (i, x, h, q, ((4 : Nat) : Int), out)) := by unfold L56_6_r; rfl
def put4 (out : List Int) (i : Nat) (x : Int) : List Int := (((out.set (4 * i + 0) (byteI x 0)).set (4 * i + 1) (byteI x 1)).set (4 * i + 2) (byteI x 2)).set (4 * i + 3) (byteI x 3)
theorem bytes_loop {x : Int} {h out : List Int} {i : Nat} (hi : i < 8) (ho : out.length = 32) : L56_6 ((i : Int), x, h, (i : Int), 0, out) = some ((i : Int), x, h, (i : Int), 4, put4 out i x) := by
  unfold L56_6
  rw [lim_go (byte_go (k := 0) hi (by omega) ho), lim_go (byte_go (k := 1) hi (by omega) (by simpa using ho)), lim_go (byte_go (k := 2) hi (by omega) (by simpa using ho)), lim_go (byte_go (k := 3) hi (by omega) (by simpa using ho)), lim_end byte_end]
  rfl
theorem out_go {h out : List Int} {i : Nat} (hi : i < 8) (ho : out.length = 32) : L56_3_r h (i : Int) out = some (.inl (h, ((i + 1 : Nat) : Int), put4 out i (h.getD i 0))) := by
  have t0 : decide ((i : Int) < 8) = true := by simp; omega
  have t1 : (decide (0 ≤ (i : Int)) && decide ((i : Int) < ((8 : Nat) : Int))) = true := by simp; omega
  have t3 : IntKind.i64.wrap ((i : Int) + 1) = ((i + 1 : Nat) : Int) := by rw [wrapI (by omega) (by omega)]; omega
  unfold L56_3_r
  simp only [t0, t1, cond_true, Int.toNat_natCast, bytes_loop hi ho, Option.bind_some, t3]
theorem out_end {h out : List Int} : L56_3_r h ((8 : Nat) : Int) out = some (.inr (h, ((8 : Nat) : Int), out)) := by unfold L56_3_r; rfl
theorem put4_len {out : List Int} {i : Nat} {x : Int} : (put4 out i x).length = out.length := by simp [put4]
theorem G56_eq {h : List Int} (hh : h.length = 8) : G56 h = some (h.flatMap bytesOf) := by
  have hl : L56_3 (h, 0, List.replicate 32 0) = some (h, 8, put4 (put4 (put4 (put4 (put4 (put4 (put4 (put4 (List.replicate 32 0) 0 (h.getD 0 0)) 1 (h.getD 1 0)) 2 (h.getD 2 0)) 3 (h.getD 3 0)) 4 (h.getD 4 0)) 5 (h.getD 5 0)) 6 (h.getD 6 0)) 7 (h.getD 7 0)) := by
    unfold L56_3
    rw [lim_go (out_go (i := 0) (by omega) (by simp)), lim_go (out_go (i := 1) (by omega) (by simp [put4_len])), lim_go (out_go (i := 2) (by omega) (by simp [put4_len])), lim_go (out_go (i := 3) (by omega) (by simp [put4_len])), lim_go (out_go (i := 4) (by omega) (by simp [put4_len])), lim_go (out_go (i := 5) (by omega) (by simp [put4_len])), lim_go (out_go (i := 6) (by omega) (by simp [put4_len])), lim_go (out_go (i := 7) (by omega) (by simp [put4_len])), lim_end out_end]
    change _ = _
    kernel_rfl
  unfold G56
  simp only [hl, Option.bind_some]
  obtain ⟨a, b, c, d, e, f, g, i, rfl⟩ := eight hh
  have hb : ∀ x : Int, bytesOf x = [UInt8.ofNat (byteI x 0).toNat, UInt8.ofNat (byteI x 1).toNat, UInt8.ofNat (byteI x 2).toNat, UInt8.ofNat (byteI x 3).toNat] := fun x => by
    have : Int.fdiv x (2 ^ (24 - 8 * 3)) = x := by simp
    unfold bytesOf byteI
    rw [this]; rfl
  simp only [List.flatMap_cons, List.flatMap_nil, hb]
  change _ = _
  kernel_rfl
theorem P56_eq {h : List Int} (hh : h.length = 8) : P56 h = true := P56_of _ (G56_eq hh)
theorem F56_eq {h : List Int} (hh : h.length = 8) : F56 h = h.flatMap bytesOf := F56_of _ (G56_eq hh)
end Go.Ev.D

namespace Go.Ev.D
open Go Go.Ev
def bytesI (s : List UInt8) : List Int := s.map fun b => (b.toNat : Int)
theorem pad_go {s : List UInt8} {b w : List Int} (h : b.length % 64 ≠ 56) (hb : b.length ≤ 10000000000) : L30_3_r s b w = some (.inl (s, b ++ [0], w)) := by
  have e1 : Int.tmod ((b.length : Nat) : Int) 64 = ((b.length % 64 : Nat) : Int) := rfl
  have e2 : (((b.length % 64 : Nat) : Int) != 56) = true := by simp; omega
  have e3 : List.set (List.replicate 1 (0 : Int)) 0 (0 : Int) = [0] := rfl
  have e4 : decide (b.length + [(0 : Int)].length ≤ 100000000000) = true := by simp; omega
  unfold L30_3_r
  simp only [e1, e2, e3, List.take_length, e4, cond_true]
theorem pad_end {s : List UInt8} {b w : List Int} (h : b.length % 64 = 56) : L30_3_r s b w = some (.inr (s, b, w)) := by
  have e1 : Int.tmod ((b.length : Nat) : Int) 64 = ((b.length % 64 : Nat) : Int) := rfl
  have e2 : (((b.length % 64 : Nat) : Int) != 56) = false := by rw [h]; rfl
  unfold L30_3_r
  simp only [e1, e2, cond_false]
theorem pad_loop {s : List UInt8} {b w : List Int} {n : Nat} (hb : b.length = n + 1) (hn : n ≤ 1000000000) : L30_3 (s, b, w) = some (s, b ++ List.replicate (padZ n) 0, w) := by
  have hp : padZ n < 64 := by unfold padZ; omega
  have hp2 : (n + 1 + padZ n) % 64 = 56 := by unfold padZ; omega
  have hp3 : ∀ k, k < padZ n → (n + 1 + k) % 64 ≠ 56 := fun k hk => by unfold padZ at hk; omega
  have := lim_inv (r := fun t : List UInt8 × List Int × List Int => L30_3_r t.1 t.2.1 t.2.2) (fun i => (s, b ++ List.replicate i 0, w)) (s, b ++ List.replicate (padZ n) 0, w) (padZ n) (fun i hi => by
    show L30_3_r s (b ++ List.replicate i 0) w = _
    rw [pad_go (by rw [List.length_append, List.length_replicate, hb]; exact hp3 i hi) (by simp; omega), List.append_assoc, ← List.replicate_succ']) (by
    show L30_3_r s (b ++ List.replicate (padZ n) 0) w = _
    rw [pad_end (by rw [List.length_append, List.length_replicate, hb]; exact hp2)]) 0 (by omega)
  simpa [L30_3] using this
theorem len_go {s : List UInt8} {b w : List Int} {i : Nat} (hi : i < 8) (hs : s.length ≤ 1000000000) (hb : b.length ≤ 10000000000) : L30_6_r s b (i : Int) w = some (.inl (s, b ++ [lenB s.length i], (i : Int) - 1, w)) := by
  have e0 : decide ((i : Int) ≥ 0) = true := by simp
  have e1 : IntKind.i64.wrap (8 * ((s.length : Nat) : Int)) = 8 * (s.length : Int) := wrapI (by omega) (by omega)
  have e2 : IntKind.i64.wrap (8 * (i : Int)) = ((8 * i : Nat) : Int) := by rw [wrapI (by omega) (by omega)]; omega
  have e3 : decide (0 ≤ ((8 * i : Nat) : Int)) = true := by simp; omega
  have e4 : (2 ^ min (8 * i) (IntKind.i64.bits) : Int) = 2 ^ (8 * i) := by rw [Nat.min_eq_left (by simp [IntKind.bits]; omega)]
  have e5 : ∀ x : Int, List.set (List.replicate 1 (0 : Int)) 0 x = [x] := fun _ => rfl
  have e6 : ∀ x : Int, decide (b.length + [x].length ≤ 100000000000) = true := fun x => by simp; omega
  have e7 : IntKind.i64.wrap ((i : Int) - 1) = (i : Int) - 1 := wrapI (by omega) (by omega)
  unfold L30_6_r
  simp only [e0, e1, e2, e3, Int.toNat_natCast, e4, e5, List.take_length, e6, e7, cond_true]
  rfl
theorem len_end {s : List UInt8} {b w : List Int} : L30_6_r s b (-1) w = some (.inr (s, b, -1, w)) := by unfold L30_6_r; rfl
theorem len_loop {s : List UInt8} {b w : List Int} (hs : s.length ≤ 1000000000) (hb : b.length ≤ 1000001000) : L30_6 (s, b, 7, w) = some (s, b ++ [lenB s.length 7, lenB s.length 6, lenB s.length 5, lenB s.length 4, lenB s.length 3, lenB s.length 2, lenB s.length 1, lenB s.length 0], -1, w) := by
  unfold L30_6
  rw [lim_go (len_go (i := 7) (by omega) hs (by simp; omega)), lim_go (len_go (i := 6) (by omega) hs (by simp; omega)), lim_go (len_go (i := 5) (by omega) hs (by simp; omega)), lim_go (len_go (i := 4) (by omega) hs (by simp; omega)), lim_go (len_go (i := 3) (by omega) hs (by simp; omega)), lim_go (len_go (i := 2) (by omega) hs (by simp; omega)), lim_go (len_go (i := 1) (by omega) hs (by simp; omega)), lim_go (len_go (i := 0) (by omega) hs (by simp; omega)), lim_end len_end]
  simp
/-! ### Blocks -/
def chunksOf : Nat → List Int → List (List Int)
  | 0, _ => []
  | n + 1, b => b.take 64 :: chunksOf n (b.drop 64)
theorem blocks_eq : ∀ (n : Nat) (h b : List Int), blocks n h b = (chunksOf n b).foldl block h
  | 0, _, _ => rfl
  | n + 1, h, b => by rw [blocks, blocks_eq n]; rfl
theorem chunks_len : ∀ (n : Nat) (b : List Int), b.length = 64 * n → ∀ c ∈ chunksOf n b, c.length = 64
  | 0, _, _, c, hc => by simp [chunksOf] at hc
  | n + 1, b, hb, c, hc => by
    rcases List.mem_cons.1 hc with rfl | hc
    · simp; omega
    · exact chunks_len n (b.drop 64) (by simp; omega) c hc
theorem cut_eq {α : Type} (l : List α) (i j : Nat) : cut l (i : Int) (j : Int) = (l.take j).drop i := by simp [cut]
theorem chunk_go {b : List Int} {i m : Nat} (hb : b.length = 64 * m) (hi : i < m) (hm : b.length ≤ 100000000000) : L66_1_r ((64 * i : Nat) : Int) b 64 = some ([(b.drop (64 * i)).take 64], .inl (((64 * (i + 1) : Nat) : Int), b, 64)) := by
  have e0 : decide (((64 * i : Nat) : Int) < ((b.length : Nat) : Int)) = true := by simp; omega
  have e1 : sliceTest ((64 * i : Nat) : Int) ((b.length : Nat) : Int) ((b.length : Nat) : Int) = true := by simp [sliceTest]; omega
  have e2 : ¬ (((b.length - 64 * i : Nat) : Int) < 64) := by omega
  have e3 : ((cut b ((64 * i : Nat) : Int) ((b.length : Nat) : Int)).length) = b.length - 64 * i := by rw [cut_eq]; simp
  have e4 : IntKind.i64.wrap (((64 * i : Nat) : Int) + 64) = ((64 * (i + 1) : Nat) : Int) := by rw [wrapI (by omega) (by omega)]; omega
  have e5 : (sliceTest ((64 * i : Nat) : Int) ((64 * (i + 1) : Nat) : Int) ((b.length : Nat) : Int) && (decide (((64 * (i + 1) : Nat) : Int) ≤ ((64 * (i + 1) : Nat) : Int)) && decide (((64 * (i + 1) : Nat) : Int) ≤ ((b.length : Nat) : Int)))) = true := by simp [sliceTest]; omega
  have e6 : cut b ((64 * i : Nat) : Int) ((64 * (i + 1) : Nat) : Int) = (b.drop (64 * i)).take 64 := by
    rw [cut_eq, List.drop_take]; congr 1; omega
  unfold L66_1_r
  simp only [e0, e1, e3, if_neg e2, e4, e5, e6, cond_true]
  rfl
theorem chunk_end {b : List Int} {m : Nat} (hb : b.length = 64 * m) : L66_1_r ((64 * m : Nat) : Int) b 64 = some ([], .inr (.inr (((64 * m : Nat) : Int), b, 64))) := by
  have e0 : decide (((64 * m : Nat) : Int) < ((b.length : Nat) : Int)) = false := by simp; omega
  unfold L66_1_r
  simp only [e0, cond_false]
theorem chunk_loop {b : List Int} {m : Nat} (hb : b.length = 64 * m) (hm : b.length ≤ 100000000000) : ∀ k i, i + k = m → L66_1 (((64 * i : Nat) : Int), b, 64) = some (chunksOf k (b.drop (64 * i)), .inr (((64 * m : Nat) : Int), b, 64))
  | 0, i, hi => by
    have : i = m := by omega
    subst this
    unfold L66_1
    rw [limW_end (r := fun s : Int × List Int × Int => L66_1_r s.1 s.2.1 s.2.2) (chunk_end hb)]
    rfl
  | k + 1, i, hi => by
    have ih := chunk_loop hb hm k (i + 1) (by omega)
    unfold L66_1 at ih ⊢
    rw [limW_go (r := fun s : Int × List Int × Int => L66_1_r s.1 s.2.1 s.2.2) (chunk_go hb (by omega) hm), ih]
    simp only [Option.map_some, chunksOf, List.drop_drop]
    rfl
theorem W66_eq {b : List Int} {m : Nat} (hb : b.length = 64 * m) (hm : b.length ≤ 100000000000) : (W66 b 64).ys = some (chunksOf m b) := by
  have := chunk_loop hb hm m 0 (by omega)
  rw [Nat.mul_zero, List.drop_zero] at this
  unfold W66
  rw [show ((0 : Nat) : Int) = 0 from rfl] at this
  rw [this]
  simp [YW.bind, YW.ys]
theorem fold_blocks : ∀ (l : List (List Int)) (h : List Int), (∀ c ∈ l, c.length = 64) → h.length = 8 → foldX R30_10_step l h = some (.inl (l.foldl block h)) ∧ (l.foldl block h).length = 8
  | [], h, _, hh => ⟨rfl, hh⟩
  | c :: l, h, hc, hh => by
    have h1 := hc c (by simp)
    obtain ⟨k1, k2⟩ := fold_blocks l (block h c) (fun c hc' => hc c (by simp [hc'])) (block_len hh c)
    refine ⟨?_, k2⟩
    have e : R30_10_step h c = some (.inl (block h c)) := by
      unfold R30_10_step R30_10_r
      simp only [P55_eq h1 hh, F55_eq h1 hh, cond_true]
    simp only [foldX, e, k1, List.foldl_cons]
theorem padded_len (s : List UInt8) : ∃ m, (padded s).length = 64 * m ∧ (padded s).length ≤ s.length + 100 := by
  have hl : (padded s).length = s.length + (padZ s.length + 8 + 1) := by simp [padded]
  have hp : (s.length + 1 + padZ s.length) % 64 = 56 ∧ padZ s.length < 64 := by unfold padZ; omega
  exact ⟨(padded s).length / 64, by omega, by omega⟩
theorem G54_eq (b : List Int) : G54 b 64 = some ((), ((), (b, ((), (64, ()))))) := by unfold G54; rfl
theorem G30_eq {s : List UInt8} (hs : s.length ≤ 1000000000) : G30 s = some (sha s) := by
  have e1 : decide (s.length ≤ 9223372036854775807) = true := by simp; omega
  have e2 : List.set (List.replicate 1 (0 : Int)) 0 (128 : Int) = [128] := rfl
  have e3 : decide ((List.map (fun (b : UInt8) => (b.toNat : Int)) s).length + [(128 : Int)].length ≤ 100000000000) = true := by simp; omega
  have hl := pad_loop (s := s) (b := List.map (fun (b : UInt8) => (b.toNat : Int)) s ++ [128]) (w := h0) (n := s.length) (by simp) hs
  have hp : padZ s.length < 64 := by unfold padZ; omega
  have hl2 := len_loop (s := s) (b := List.map (fun (b : UInt8) => (b.toNat : Int)) s ++ [128] ++ List.replicate (padZ s.length) 0) (w := h0) hs (by simp; omega)
  have hpad : List.map (fun (b : UInt8) => (b.toNat : Int)) s ++ [128] ++ List.replicate (padZ s.length) 0 ++ [lenB s.length 7, lenB s.length 6, lenB s.length 5, lenB s.length 4, lenB s.length 3, lenB s.length 2, lenB s.length 1, lenB s.length 0] = padded s := by simp [padded]
  rw [hpad] at hl2
  obtain ⟨m, hm, hm2⟩ := padded_len s
  obtain ⟨k1, k2⟩ := fold_blocks (chunksOf m (padded s)) h0 (chunks_len m _ hm) rfl
  have hd : (padded s).length / 64 = m := by omega
  have hh : List.set (List.set (List.set (List.set (List.set (List.set (List.set (List.set (List.replicate 8 (0 : Int)) 0 (1779033703 : Int)) 1 (3144134277 : Int)) 2 (1013904242 : Int)) 3 (2773480762 : Int)) 4 (1359893119 : Int)) 5 (2600822924 : Int)) 6 (528734635 : Int)) 7 (1541459225 : Int) = h0 := rfl
  unfold G30
  simp only [e1, e2, List.take_length, e3, cond_true, hh, hl, Option.bind_some, hl2, P54_of _ _ (G54_eq _), F54_of _ _ (G54_eq _), W66_eq hm (by omega), k1, P56_eq k2, F56_eq k2]
  unfold sha
  rw [hd, blocks_eq]
theorem P30_eq {s : List UInt8} (hs : s.length ≤ 1000000000) : P30 s = true := P30_of _ (G30_eq hs)
theorem F30_eq {s : List UInt8} (hs : s.length ≤ 1000000000) : F30 s = sha s := F30_of _ (G30_eq hs)
theorem sha_len (s : List UInt8) : (sha s).length = 32 := by
  obtain ⟨m, hm, _⟩ := padded_len s
  have k := (fold_blocks (chunksOf m (padded s)) h0 (chunks_len m _ hm) rfl).2
  unfold sha
  rw [show (padded s).length / 64 = m by omega, blocks_eq]
  obtain ⟨a, b, c, d, e, f, g, i, h⟩ := eight k
  rw [h]; rfl
end Go.Ev.D

namespace Go.Ev.D
open Go Go.Ev
def leaf (s : List UInt8) : List UInt8 := sha (0 :: s)
def node (a b : List UInt8) : List UInt8 := sha (1 :: (a ++ b))
theorem G53_eq (m : List UInt8) : G53 m = some ((), ((), (m, ()))) := rfl
theorem P53_eq (m : List UInt8) : P53 m = true := P53_of _ (G53_eq m)
theorem F53_eq (m : List UInt8) : F53 m = ((), ((), (m, ()))) := F53_of _ (G53_eq m)
theorem join_nil (l : List (List UInt8)) : Lib.join l [] = l.flatten := by
  unfold Lib.join
  simp [List.intercalate]
  induction l with
  | nil => rfl
  | cons x l ih =>
    cases l with
    | nil => simp
    | cons y l => simp [List.intersperse] at ih ⊢; rw [ih]
theorem G64_eq {l : List (List UInt8)} {m : List UInt8} (h1 : l.length ≤ 1000) (h2 : m.length + l.flatten.length ≤ 1000000) : G64 l m = some (sha (m ++ l.flatten), ((), (m, ()))) := by
  have p : P65 l [] = true := by unfold P65; rw [join_nil]; simp only [Bool.and_eq_true, decide_eq_true_eq]; omega
  have f : F65 l [] = l.flatten := join_nil l
  have e : decide (m.length + l.flatten.length ≤ 9223372036854775807) = true := by simp only [decide_eq_true_eq]; omega
  have hl : (m ++ l.flatten).length ≤ 1000000000 := by rw [List.length_append]; omega
  unfold G64
  simp only [p, f, e, cond_true, P30_eq hl, F30_eq hl]
theorem G29_eq {s : List UInt8} (hs : s.length ≤ 100000) : G29 s = some (leaf s) := by
  have hv : List.set (List.replicate 1 ([] : List UInt8)) 0 s = [s] := rfl
  have h := G64_eq (l := [s]) (m := [0]) (by simp) (by simp; omega)
  unfold G29
  simp only [P53_eq, F53_eq, hv, P64_of _ _ h, F64_of _ _ h, cond_true]
  simp [leaf]
theorem P29_eq {s : List UInt8} (hs : s.length ≤ 100000) : P29 s = true := P29_of _ (G29_eq hs)
theorem F29_eq {s : List UInt8} (hs : s.length ≤ 100000) : F29 s = leaf s := F29_of _ (G29_eq hs)
theorem G32_eq {a b : List UInt8} (h : a.length + b.length ≤ 100000) : G32 a b = some (node a b) := by
  have hv : List.set (List.set (List.replicate 2 ([] : List UInt8)) 0 a) 1 b = [a, b] := rfl
  have h := G64_eq (l := [a, b]) (m := [1]) (by simp) (by simp; omega)
  unfold G32
  simp only [P53_eq, F53_eq, hv, P64_of _ _ h, F64_of _ _ h, cond_true]
  simp [node]
theorem P32_eq {a b : List UInt8} (h : a.length + b.length ≤ 100000) : P32 a b = true := P32_of _ _ (G32_eq h)
theorem F32_eq {a b : List UInt8} (h : a.length + b.length ≤ 100000) : F32 a b = node a b := F32_of _ _ (G32_eq h)
theorem leaf_len (s : List UInt8) : (leaf s).length = 32 := sha_len _
theorem node_len (a b : List UInt8) : (node a b).length = 32 := sha_len _
/-! ### The first part -/
theorem log2_of {x k : Nat} (h1 : 2 ^ k ≤ x) (h2 : x < 2 ^ (k + 1)) : x.log2 = k := by
  have hx : x ≠ 0 := by have := Nat.two_pow_pos k; omega
  have a := (Nat.le_log2 hx).2 h1
  have b := (Nat.log2_lt hx).2 h2
  omega
theorem log2_lo {x : Nat} (h : x ≠ 0) : 2 ^ x.log2 ≤ x := (Nat.le_log2 h).1 (Nat.le_refl _)
theorem log2_hi {x : Nat} (h : x ≠ 0) : x < 2 ^ (x.log2 + 1) := (Nat.log2_lt h).1 (Nat.lt_succ_self _)
theorem log2_div {x k : Nat} (h : 2 ^ k ≤ x) : (x / 2 ^ k).log2 + k = x.log2 := by
  have hp := Nat.two_pow_pos k
  have hd : x / 2 ^ k ≠ 0 := by have := Nat.div_pos h hp; omega
  refine (log2_of ?_ ?_).symm
  · rw [Nat.pow_add]
    have := log2_lo hd
    exact Nat.le_trans (Nat.mul_le_mul_right _ this) (Nat.div_mul_le_self x _)
  · have := log2_hi hd
    rw [show (x / 2 ^ k).log2 + k + 1 = (x / 2 ^ k).log2 + 1 + k by omega, Nat.pow_add]
    exact (Nat.div_lt_iff_lt_mul hp).1 this
def tab8 : List UInt8 := [0, 1, 2, 2, 3, 3, 3, 3, 4, 4, 4, 4, 4, 4, 4, 4, 5, 5, 5, 5, 5, 5, 5, 5, 5, 5, 5, 5, 5, 5, 5, 5, 6, 6, 6, 6, 6, 6, 6, 6, 6, 6, 6, 6, 6, 6, 6, 6, 6, 6, 6, 6, 6, 6, 6, 6, 6, 6, 6, 6, 6, 6, 6, 6, 7, 7, 7, 7, 7, 7, 7, 7, 7, 7, 7, 7, 7, 7, 7, 7, 7, 7, 7, 7, 7, 7, 7, 7, 7, 7, 7, 7, 7, 7, 7, 7, 7, 7, 7, 7, 7, 7, 7, 7, 7, 7, 7, 7, 7, 7, 7, 7, 7, 7, 7, 7, 7, 7, 7, 7, 7, 7, 7, 7, 7, 7, 7, 7, 8, 8, 8, 8, 8, 8, 8, 8, 8, 8, 8, 8, 8, 8, 8, 8, 8, 8, 8, 8, 8, 8, 8, 8, 8, 8, 8, 8, 8, 8, 8, 8, 8, 8, 8, 8, 8, 8, 8, 8, 8, 8, 8, 8, 8, 8, 8, 8, 8, 8, 8, 8, 8, 8, 8, 8, 8, 8, 8, 8, 8, 8, 8, 8, 8, 8, 8, 8, 8, 8, 8, 8, 8, 8, 8, 8, 8, 8, 8, 8, 8, 8, 8, 8, 8, 8, 8, 8, 8, 8, 8, 8, 8, 8, 8, 8, 8, 8, 8, 8, 8, 8, 8, 8, 8, 8, 8, 8, 8, 8, 8, 8, 8, 8, 8, 8, 8, 8, 8, 8, 8, 8, 8, 8, 8, 8, 8, 8]
theorem tab8_len : tab8.length = 256 := by decide +kernel
theorem tab8_eq {y : Nat} (h1 : 1 ≤ y) (h2 : y < 256) : (tab8.getD y 0).toNat = y.log2 + 1 := by
  have : ∀ i : Fin 256, 1 ≤ i.1 → (tab8.getD i.1 0).toNat = i.1.log2 + 1 := by decide +kernel
  exact this ⟨y, h2⟩ h1
theorem wrap_u8 {n : Nat} (h : n < 256) : IntKind.u8.wrap (n : Int) = (n : Int) := by simp [IntKind.wrap, IntKind.bits, IntKind.signed]; omega
theorem fdivN (a b : Nat) : Int.fdiv (a : Int) (b : Int) = ((a / b : Nat) : Int) := (Int.ofNat_fdiv a b).symm
def G72' (x0 : Int) : Option (Int) :=
  let v1 : Bool := (decide (x0 ≥ (4294967296 : Int)))
  bif v1 then
  let v2 : Int := (Int.fdiv x0 (2 ^ min (Int.toNat (32 : Int)) (IntKind.u64.bits)))
  let v3 : Bool := (decide (v2 ≥ (65536 : Int)))
  bif v3 then
  let v4 : Int := (Int.fdiv v2 (2 ^ min (Int.toNat (16 : Int)) (IntKind.u64.bits)))
  let v5 : Bool := (decide (v4 ≥ (256 : Int)))
  bif v5 then
  let v6 : Int := (Int.fdiv v4 (2 ^ min (Int.toNat (8 : Int)) (IntKind.u64.bits)))
  let v7 : Int := (IntKind.u8.wrap v6)
  bif (decide (0 ≤ v7) && decide (v7 < List.length tab8)) then
  let v8 : Int := ((List.getD tab8 (Int.toNat v7) 0).toNat : Int)
  let v9 : Int := (IntKind.i64.wrap v8)
  let v10 : Int := (IntKind.i64.wrap ((56 : Int) + v9))
  some (v10)
  else none
  else
  let v11 : Int := (IntKind.u8.wrap v4)
  bif (decide (0 ≤ v11) && decide (v11 < List.length tab8)) then
  let v12 : Int := ((List.getD tab8 (Int.toNat v11) 0).toNat : Int)
  let v13 : Int := (IntKind.i64.wrap v12)
  let v14 : Int := (IntKind.i64.wrap ((48 : Int) + v13))
  some (v14)
  else none
  else
  let v15 : Bool := (decide (v2 ≥ (256 : Int)))
  bif v15 then
  let v16 : Int := (Int.fdiv v2 (2 ^ min (Int.toNat (8 : Int)) (IntKind.u64.bits)))
  let v17 : Int := (IntKind.u8.wrap v16)
  bif (decide (0 ≤ v17) && decide (v17 < List.length tab8)) then
  let v18 : Int := ((List.getD tab8 (Int.toNat v17) 0).toNat : Int)
  let v19 : Int := (IntKind.i64.wrap v18)
  let v20 : Int := (IntKind.i64.wrap ((40 : Int) + v19))
  some (v20)
  else none
  else
  let v21 : Int := (IntKind.u8.wrap v2)
  bif (decide (0 ≤ v21) && decide (v21 < List.length tab8)) then
  let v22 : Int := ((List.getD tab8 (Int.toNat v21) 0).toNat : Int)
  let v23 : Int := (IntKind.i64.wrap v22)
  let v24 : Int := (IntKind.i64.wrap ((32 : Int) + v23))
  some (v24)
  else none
  else
  let v25 : Bool := (decide (x0 ≥ (65536 : Int)))
  bif v25 then
  let v26 : Int := (Int.fdiv x0 (2 ^ min (Int.toNat (16 : Int)) (IntKind.u64.bits)))
  let v27 : Bool := (decide (v26 ≥ (256 : Int)))
  bif v27 then
  let v28 : Int := (Int.fdiv v26 (2 ^ min (Int.toNat (8 : Int)) (IntKind.u64.bits)))
  let v29 : Int := (IntKind.u8.wrap v28)
  bif (decide (0 ≤ v29) && decide (v29 < List.length tab8)) then
  let v30 : Int := ((List.getD tab8 (Int.toNat v29) 0).toNat : Int)
  let v31 : Int := (IntKind.i64.wrap v30)
  let v32 : Int := (IntKind.i64.wrap ((24 : Int) + v31))
  some (v32)
  else none
  else
  let v33 : Int := (IntKind.u8.wrap v26)
  bif (decide (0 ≤ v33) && decide (v33 < List.length tab8)) then
  let v34 : Int := ((List.getD tab8 (Int.toNat v33) 0).toNat : Int)
  let v35 : Int := (IntKind.i64.wrap v34)
  let v36 : Int := (IntKind.i64.wrap ((16 : Int) + v35))
  some (v36)
  else none
  else
  let v37 : Bool := (decide (x0 ≥ (256 : Int)))
  bif v37 then
  let v38 : Int := (Int.fdiv x0 (2 ^ min (Int.toNat (8 : Int)) (IntKind.u64.bits)))
  let v39 : Int := (IntKind.u8.wrap v38)
  bif (decide (0 ≤ v39) && decide (v39 < List.length tab8)) then
  let v40 : Int := ((List.getD tab8 (Int.toNat v39) 0).toNat : Int)
  let v41 : Int := (IntKind.i64.wrap v40)
  let v42 : Int := (IntKind.i64.wrap ((8 : Int) + v41))
  some (v42)
  else none
  else
  let v43 : Int := (IntKind.u8.wrap x0)
  bif (decide (0 ≤ v43) && decide (v43 < List.length tab8)) then
  let v44 : Int := ((List.getD tab8 (Int.toNat v43) 0).toNat : Int)
  let v45 : Int := (IntKind.i64.wrap v44)
  let v46 : Int := (IntKind.i64.wrap ((0 : Int) + v45))
  some (v46)
  else none
theorem G72_tab (x : Int) : G72 x = G72' x := by kernel_rfl
theorem G72_eq {x : Nat} (h1 : 1 ≤ x) (h2 : x < 18446744073709551616) : G72 (x : Int) = some ((x.log2 + 1 : Nat) : Int) := by
  have p32 : (2 ^ min (Int.toNat (32 : Int)) (IntKind.u64.bits) : Int) = ((4294967296 : Nat) : Int) := rfl
  have p16 : (2 ^ min (Int.toNat (16 : Int)) (IntKind.u64.bits) : Int) = ((65536 : Nat) : Int) := rfl
  have p8 : (2 ^ min (Int.toNat (8 : Int)) (IntKind.u64.bits) : Int) = ((256 : Nat) : Int) := rfl
  have step : ∀ (c y : Nat), 1 ≤ y → y < 256 → c + (y.log2 + 1) = x.log2 + 1 → c ≤ 100 →
      (bif (decide (0 ≤ ((y : Nat) : Int)) && decide (((y : Nat) : Int) < ((tab8.length : Nat) : Int))) then some (IntKind.i64.wrap ((c : Int) + IntKind.i64.wrap (((tab8.getD y 0).toNat : Nat) : Int))) else none) = some ((x.log2 + 1 : Nat) : Int) := fun c y hy1 hy2 hc hcb => by
    have hl : y.log2 < 8 := (Nat.log2_lt (by omega)).2 (by omega)
    have e : (decide (0 ≤ ((y : Nat) : Int)) && decide (((y : Nat) : Int) < ((tab8.length : Nat) : Int))) = true := by rw [tab8_len]; simp; omega
    rw [e, tab8_eq hy1 hy2, wrapN (by omega), ← Int.natCast_add, wrapN (by omega), hc]; rfl
  have key : ∀ k : Nat, 2 ^ k ≤ x → (x / 2 ^ k).log2 + k = x.log2 := fun k hk => log2_div hk
  rw [G72_tab]
  unfold G72'
  simp only [p32, p16, p8, fdivN]
  by_cases c1 : 4294967296 ≤ x
  · have t1 : decide ((x : Int) ≥ 4294967296) = true := by simp; omega
    have k1 := key 32 (by omega)
    simp only [t1, cond_true]
    by_cases c2 : 65536 ≤ x / 4294967296
    · have t2 : decide (((x / 4294967296 : Nat) : Int) ≥ 65536) = true := by simp only [decide_eq_true_eq]; omega
      have k2 := key 48 (by omega)
      simp only [t2, cond_true]
      by_cases c3 : 256 ≤ x / 4294967296 / 65536
      · have t3 : decide (((x / 4294967296 / 65536 : Nat) : Int) ≥ 256) = true := by simp only [decide_eq_true_eq]; omega
        have k3 := key 56 (by omega)
        have hy : x / 4294967296 / 65536 / 256 < 256 := by omega
        simp only [t3, cond_true, wrap_u8 hy, Int.toNat_natCast]
        refine step 56 _ (by omega) hy ?_ (by omega)
        rw [Nat.div_div_eq_div_mul, Nat.div_div_eq_div_mul]; simp only [Nat.reducePow, Nat.reduceMul] at k3 ⊢; omega
      · have t3 : decide (((x / 4294967296 / 65536 : Nat) : Int) ≥ 256) = false := by simp only [decide_eq_false_iff_not]; omega
        have hy : x / 4294967296 / 65536 < 256 := by omega
        simp only [t3, cond_false, wrap_u8 hy, Int.toNat_natCast]
        refine step 48 _ (by omega) hy ?_ (by omega)
        rw [Nat.div_div_eq_div_mul]; simp only [Nat.reducePow, Nat.reduceMul] at k2 ⊢; omega
    · have t2 : decide (((x / 4294967296 : Nat) : Int) ≥ 65536) = false := by simp only [decide_eq_false_iff_not]; omega
      simp only [t2, cond_false]
      by_cases c3 : 256 ≤ x / 4294967296
      · have t3 : decide (((x / 4294967296 : Nat) : Int) ≥ 256) = true := by simp only [decide_eq_true_eq]; omega
        have k3 := key 40 (by omega)
        have hy : x / 4294967296 / 256 < 256 := by omega
        simp only [t3, cond_true, wrap_u8 hy, Int.toNat_natCast]
        refine step 40 _ (by omega) hy ?_ (by omega)
        rw [Nat.div_div_eq_div_mul]; simp only [Nat.reducePow, Nat.reduceMul] at k3 ⊢; omega
      · have t3 : decide (((x / 4294967296 : Nat) : Int) ≥ 256) = false := by simp only [decide_eq_false_iff_not]; omega
        have hy : x / 4294967296 < 256 := by omega
        simp only [t3, cond_false, wrap_u8 hy, Int.toNat_natCast]
        refine step 32 _ (by omega) hy ?_ (by omega)
        simp only [Nat.reducePow] at k1; omega
  · have t1 : decide ((x : Int) ≥ 4294967296) = false := by simp only [decide_eq_false_iff_not]; omega
    simp only [t1, cond_false]
    by_cases c2 : 65536 ≤ x
    · have t2 : decide ((x : Int) ≥ 65536) = true := by simp only [decide_eq_true_eq]; omega
      have k2 := key 16 (by omega)
      simp only [t2, cond_true]
      by_cases c3 : 256 ≤ x / 65536
      · have t3 : decide (((x / 65536 : Nat) : Int) ≥ 256) = true := by simp only [decide_eq_true_eq]; omega
        have k3 := key 24 (by omega)
        have hy : x / 65536 / 256 < 256 := by omega
        simp only [t3, cond_true, wrap_u8 hy, Int.toNat_natCast]
        refine step 24 _ (by omega) hy ?_ (by omega)
        rw [Nat.div_div_eq_div_mul]; simp only [Nat.reducePow, Nat.reduceMul] at k3 ⊢; omega
      · have t3 : decide (((x / 65536 : Nat) : Int) ≥ 256) = false := by simp only [decide_eq_false_iff_not]; omega
        have hy : x / 65536 < 256 := by omega
        simp only [t3, cond_false, wrap_u8 hy, Int.toNat_natCast]
        refine step 16 _ (by omega) hy ?_ (by omega)
        simp only [Nat.reducePow] at k2; omega
    · have t2 : decide ((x : Int) ≥ 65536) = false := by simp only [decide_eq_false_iff_not]; omega
      simp only [t2, cond_false]
      by_cases c3 : 256 ≤ x
      · have t3 : decide ((x : Int) ≥ 256) = true := by simp only [decide_eq_true_eq]; omega
        have k3 := key 8 (by omega)
        have hy : x / 256 < 256 := by omega
        simp only [t3, cond_true, wrap_u8 hy, Int.toNat_natCast]
        refine step 8 _ (by omega) hy ?_ (by omega)
        simp only [Nat.reducePow] at k3; omega
      · have t3 : decide ((x : Int) ≥ 256) = false := by simp only [decide_eq_false_iff_not]; omega
        have hy : x < 256 := by omega
        simp only [t3, cond_false, wrap_u8 hy, Int.toNat_natCast]
        exact step 0 _ (by omega) hy (by omega) (by omega)
/-- The greatest power of two below n. -/
def lft (n : Nat) : Nat := 2 ^ (n - 1).log2
theorem lft_pos (n : Nat) : 1 ≤ lft n := Nat.two_pow_pos _
theorem lft_lt {n : Nat} (h : 2 ≤ n) : lft n < n := by
  have := log2_lo (x := n - 1) (by omega)
  unfold lft; omega
theorem lft_ge {n : Nat} (h : 2 ≤ n) : n ≤ 2 * lft n := by
  have := log2_hi (x := n - 1) (by omega)
  rw [Nat.pow_succ] at this
  unfold lft; omega
theorem G40_eq {n : Nat} (h1 : 2 ≤ n) (h2 : n ≤ 9223372036854775807) : G40 (n : Int) = some (lft n : Int) := by
  have e1 : IntKind.i64.wrap ((n : Int) - 1) = ((n - 1 : Nat) : Int) := by rw [wrapI (by omega) (by omega)]; omega
  have e2 : IntKind.u64.wrap ((n - 1 : Nat) : Int) = ((n - 1 : Nat) : Int) := by simp [IntKind.wrap, IntKind.bits, IntKind.signed]; omega
  have hL : (n - 1).log2 < 63 := (Nat.log2_lt (by omega)).2 (by omega)
  have g72 := G72_eq (x := n - 1) (by omega) (by omega)
  have g59 : G59 ((n - 1 : Nat) : Int) = some (((n - 1).log2 + 1 : Nat) : Int) := by
    unfold G59; simp only [P72_of _ g72, F72_of _ g72, cond_true]
  have e3 : IntKind.i64.wrap ((((n - 1).log2 + 1 : Nat) : Int) - 1) = (((n - 1).log2 : Nat) : Int) := by rw [wrapI (by omega) (by omega)]; omega
  have e4 : decide (0 ≤ (((n - 1).log2 : Nat) : Int)) = true := by simp
  have e5 : ((1 : Int) * 2 ^ min (n - 1).log2 (IntKind.i64.bits)) = ((lft n : Nat) : Int) := by
    rw [Nat.min_eq_left (by simp [IntKind.bits]; omega), Int.one_mul]; unfold lft; norm_cast
  have e6 : IntKind.i64.wrap ((lft n : Nat) : Int) = ((lft n : Nat) : Int) := wrapN (by have := lft_lt h1; omega)
  unfold G40
  simp only [e1, e2, P59_of _ g59, F59_of _ g59, e3, e4, Int.toNat_natCast, e5, e6, cond_true]
theorem P40_eq {n : Nat} (h1 : 2 ≤ n) (h2 : n ≤ 9223372036854775807) : P40 (n : Int) = true := P40_of _ (G40_eq h1 h2)
theorem F40_eq {n : Nat} (h1 : 2 ≤ n) (h2 : n ≤ 9223372036854775807) : F40 (n : Int) = (lft n : Int) := F40_of _ (G40_eq h1 h2)
theorem left_go {n i : Nat} (h1 : 2 ≤ n) (h2 : n ≤ 9223372036854775807) (hi : i < (n - 1).log2) : L31_2_r (n : Int) ((2 ^ i : Nat) : Int) = some (.inl ((n : Int), ((2 ^ (i + 1) : Nat) : Int))) := by
  have hp : 2 ^ (i + 1) ≤ n - 1 := (Nat.le_log2 (by omega)).1 hi
  rw [Nat.pow_succ] at hp
  have e1 : IntKind.i64.wrap ((n : Int) - ((2 ^ i : Nat) : Int)) = ((n - 2 ^ i : Nat) : Int) := by rw [wrapI (by omega) (by omega)]; omega
  have e2 : decide (((2 ^ i : Nat) : Int) < ((n - 2 ^ i : Nat) : Int)) = true := by simp only [decide_eq_true_eq]; omega
  have e3 : IntKind.i64.wrap (2 * ((2 ^ i : Nat) : Int)) = ((2 ^ (i + 1) : Nat) : Int) := by rw [wrapI (by omega) (by omega), Nat.pow_succ]; omega
  unfold L31_2_r
  simp only [e1, e2, e3, cond_true]
theorem left_end {n : Nat} (h1 : 2 ≤ n) (h2 : n ≤ 9223372036854775807) : L31_2_r (n : Int) ((2 ^ (n - 1).log2 : Nat) : Int) = some (.inr ((n : Int), ((2 ^ (n - 1).log2 : Nat) : Int))) := by
  have hp := log2_hi (x := n - 1) (by omega)
  have hq := log2_lo (x := n - 1) (by omega)
  rw [Nat.pow_succ] at hp
  have e1 : IntKind.i64.wrap ((n : Int) - ((2 ^ (n - 1).log2 : Nat) : Int)) = ((n - 2 ^ (n - 1).log2 : Nat) : Int) := by rw [wrapI (by omega) (by omega)]; omega
  have e2 : decide (((2 ^ (n - 1).log2 : Nat) : Int) < ((n - 2 ^ (n - 1).log2 : Nat) : Int)) = false := by simp only [decide_eq_false_iff_not]; omega
  unfold L31_2_r
  simp only [e1, e2, cond_false]
theorem G31_eq {n : Nat} (h1 : 2 ≤ n) (h2 : n ≤ 9223372036854775807) : G31 (n : Int) = some (lft n : Int) := by
  have := lim_inv (r := fun s : Int × Int => L31_2_r s.1 s.2) (fun i => ((n : Int), ((2 ^ i : Nat) : Int))) ((n : Int), ((2 ^ (n - 1).log2 : Nat) : Int)) (n - 1).log2 (fun i hi => left_go h1 h2 hi) (left_end h1 h2) 0 (by omega)
  unfold G31
  rw [show L31_2 ((n : Int), (1 : Int)) = some ((n : Int), ((2 ^ (n - 1).log2 : Nat) : Int)) from this]
  rfl
end Go.Ev.D

namespace Go.Ev.D
open Go Go.Ev
abbrev Str := List UInt8
def mroot (l : List Str) : Str :=
  if h : 2 ≤ l.length then node (mroot (l.take (lft l.length))) (mroot (l.drop (lft l.length))) else match l with
    | [] => sha []
    | x :: _ => leaf x
termination_by l.length
decreasing_by
  · have := lft_lt h; simp; omega
  · have := lft_pos l.length; simp; omega
theorem mroot_nil : mroot [] = sha [] := by rw [mroot]; rfl
theorem mroot_one (x : Str) : mroot [x] = leaf x := by rw [mroot]; rfl
theorem mroot_split {l : List Str} (h : 2 ≤ l.length) : mroot l = node (mroot (l.take (lft l.length))) (mroot (l.drop (lft l.length))) := by
  rw [mroot, dif_pos h]
theorem mroot_len (l : List Str) : (mroot l).length = 32 := by
  by_cases h : 2 ≤ l.length
  · rw [mroot_split h, node_len]
  · match l, h with
    | [], _ => rw [mroot_nil, sha_len]
    | [x], _ => rw [mroot_one, leaf_len]
    | _ :: _ :: _, h => simp at h
theorem mroot_app {b c : List Str} {k : Nat} (hb : b.length = 2 ^ k) (h1 : 1 ≤ c.length) (h2 : c.length ≤ 2 ^ k) : mroot (b ++ c) = node (mroot b) (mroot c) := by
  have hp := Nat.two_pow_pos k
  have hl : lft (b ++ c).length = b.length := by
    unfold lft
    rw [List.length_append, hb, log2_of (k := k) (by omega) (by rw [Nat.pow_succ]; omega)]
  rw [mroot_split (by rw [List.length_append]; omega), hl, List.take_left, List.drop_left]
/-! ### The stack -/
abbrev Stk := List (Nat × List Str)
def whole (rs : Stk) : List Str := (rs.map fun p => mroot p.2).reverse
def sizes (rs : Stk) : List Int := (rs.map fun p => ((2 ^ p.1 : Nat) : Int)).reverse
def flat (rs : Stk) : List Str := (rs.map (·.2)).reverse.flatten
/-- Blocks of sizes that grow. -/
def Sorted : Stk → Prop
  | [] => True
  | [p] => p.2.length = 2 ^ p.1
  | p :: q :: r => p.2.length = 2 ^ p.1 ∧ p.1 < q.1 ∧ Sorted (q :: r)
theorem Sorted.len {p : Nat × List Str} {r : Stk} (h : Sorted (p :: r)) : p.2.length = 2 ^ p.1 := by
  cases r with
  | nil => exact h
  | cons q r => exact h.1
theorem Sorted.tail {p : Nat × List Str} {r : Stk} (h : Sorted (p :: r)) : Sorted r := by
  cases r with
  | nil => trivial
  | cons q r => exact h.2.2
theorem flat_cons (p : Nat × List Str) (r : Stk) : flat (p :: r) = flat r ++ p.2 := by simp [flat]
theorem whole_cons (p : Nat × List Str) (r : Stk) : whole (p :: r) = whole r ++ [mroot p.2] := by simp [whole]
theorem sizes_cons (p : Nat × List Str) (r : Stk) : sizes (p :: r) = sizes r ++ [((2 ^ p.1 : Nat) : Int)] := by simp [sizes]
theorem whole_len (r : Stk) : (whole r).length = r.length := by simp [whole]
theorem sizes_len (r : Stk) : (sizes r).length = r.length := by simp [sizes]
theorem getD_app1 {α : Type} (a : List α) (p q d : α) : (a ++ [p] ++ [q]).getD a.length d = p := by simp [List.getD_eq_getElem?_getD]
theorem getD_app2 {α : Type} (a : List α) (p q d : α) : (a ++ [p] ++ [q]).getD (a.length + 1) d = q := by simp [List.getD_eq_getElem?_getD]
theorem merge_one {W : List Str} {S : List Int} {l : List Str} {n i : Int} : L19_8_r W S 1 l n i = some (.inr (W, S, 1, l, n, i)) := by
  have e : decide ((1 : Int) > 1) = false := rfl
  unfold L19_8_r
  simp only [e, Bool.false_and, Bool.not_false, Bool.or_true, cond_true, cond_false]
theorem merge_stop {A : List Str} {B : List Int} {p q : Str} {sp sq : Int} {l : List Str} {n i : Int} {m : Nat} (hA : A.length = m) (hB : B.length = m) (hm : m ≤ 1000000) (hne : sp ≠ sq) :
    L19_8_r (A ++ [p] ++ [q]) (B ++ [sp] ++ [sq]) ((m + 2 : Nat) : Int) l n i = some (.inr (A ++ [p] ++ [q], B ++ [sp] ++ [sq], ((m + 2 : Nat) : Int), l, n, i)) := by
  have e0 : decide (((m + 2 : Nat) : Int) > 1) = true := by simp; omega
  have e1 : IntKind.i64.wrap (((m + 2 : Nat) : Int) - 2) = (m : Int) := by rw [wrapI (by omega) (by omega)]; omega
  have e2 : IntKind.i64.wrap (((m + 2 : Nat) : Int) - 1) = ((m + 1 : Nat) : Int) := by rw [wrapI (by omega) (by omega)]; omega
  have hl : (B ++ [sp] ++ [sq]).length = m + 2 := by simp [hB]
  have e3 : (decide (0 ≤ (m : Int)) && decide ((m : Int) < ((m + 2 : Nat) : Int))) = true := by simp; omega
  have e4 : decide (m < m + 2) = true := by simp
  have e5 : (decide (0 ≤ ((m + 1 : Nat) : Int)) && decide (((m + 1 : Nat) : Int) < ((m + 2 : Nat) : Int))) = true := by simp; omega
  have e6 : decide (m + 1 < m + 2) = true := by simp
  have g1 : (B ++ [sp] ++ [sq]).getD m 0 = sp := by rw [← hB]; exact getD_app1 _ _ _ _
  have g2 : (B ++ [sp] ++ [sq]).getD (m + 1) 0 = sq := by rw [← hB]; exact getD_app2 _ _ _ _
  have e7 : (sp == sq) = false := by simp [hne]
  unfold L19_8_r
  simp only [e0, e1, e2, hl, e3, Int.toNat_natCast, e4, e5, e6, g1, g2, e7, Bool.true_or, cond_true, cond_false]
theorem merge_go {A : List Str} {B : List Int} {p q : Str} {s : Nat} {l : List Str} {n i : Int} {m : Nat} (hA : A.length = m) (hB : B.length = m) (hm : m ≤ 1000000) (hp : p.length = 32) (hq : q.length = 32) (hs : s ≤ 1000000000) :
    L19_8_r (A ++ [p] ++ [q]) (B ++ [(s : Int)] ++ [(s : Int)]) ((m + 2 : Nat) : Int) l n i = some (.inl (A ++ [node p q], B ++ [((2 * s : Nat) : Int)], ((m + 1 : Nat) : Int), l, n, i)) := by
  have e0 : decide (((m + 2 : Nat) : Int) > 1) = true := by simp; omega
  have e1 : IntKind.i64.wrap (((m + 2 : Nat) : Int) - 2) = (m : Int) := by rw [wrapI (by omega) (by omega)]; omega
  have e2 : IntKind.i64.wrap (((m + 2 : Nat) : Int) - 1) = ((m + 1 : Nat) : Int) := by rw [wrapI (by omega) (by omega)]; omega
  have hl : (B ++ [(s : Int)] ++ [(s : Int)]).length = m + 2 := by simp [hB]
  have hl' : (A ++ [p] ++ [q]).length = m + 2 := by simp [hA]
  have e3 : (decide (0 ≤ (m : Int)) && decide ((m : Int) < ((m + 2 : Nat) : Int))) = true := by simp; omega
  have e4 : decide (m < m + 2) = true := by simp
  have e5 : (decide (0 ≤ ((m + 1 : Nat) : Int)) && decide (((m + 1 : Nat) : Int) < ((m + 2 : Nat) : Int))) = true := by simp; omega
  have e6 : decide (m + 1 < m + 2) = true := by simp
  have g1 : (B ++ [(s : Int)] ++ [(s : Int)]).getD m 0 = s := by rw [← hB]; exact getD_app1 _ _ _ _
  have g2 : (B ++ [(s : Int)] ++ [(s : Int)]).getD (m + 1) 0 = s := by rw [← hB]; exact getD_app2 _ _ _ _
  have g3 : (A ++ [p] ++ [q]).getD m [] = p := by rw [← hA]; exact getD_app1 _ _ _ _
  have g4 : (A ++ [p] ++ [q]).getD (m + 1) [] = q := by rw [← hA]; exact getD_app2 _ _ _ _
  have t1 : (A ++ [p] ++ [q]).take m = A := by rw [← hA, List.append_assoc, List.take_left]
  have t2 : (B ++ [(s : Int)] ++ [(s : Int)]).take m = B := by rw [← hB, List.append_assoc, List.take_left]
  have e7 : ((s : Int) == (s : Int)) = true := by simp
  have e8 : sliceTest 0 (m : Int) ((m + 2 : Nat) : Int) = true := by simp [sliceTest]; omega
  have e9 : IntKind.i64.wrap (2 * (s : Int)) = ((2 * s : Nat) : Int) := by rw [wrapI (by omega) (by omega)]; omega
  have l1 : ∀ x : Str, List.set (List.replicate 1 ([] : List UInt8)) 0 x = [x] := fun _ => rfl
  have l2 : ∀ x : Int, List.set (List.replicate 1 (0 : Int)) 0 x = [x] := fun _ => rfl
  have f1 : ∀ x : Str, decide (A.length + [x].length ≤ 100000000000) = true := fun x => by simp; omega
  have f2 : ∀ x : Int, decide (B.length + [x].length ≤ 100000000000) = true := fun x => by simp; omega
  have hpq : p.length + q.length ≤ 100000 := by omega
  unfold L19_8_r
  simp only [e0, e1, e2, hl, hl', e3, Int.toNat_natCast, e4, e5, e6, g1, g2, g3, g4, e7, e8, e9, t1, t2, l1, l2, f1, f2, P32_eq hpq, F32_eq hpq, Bool.true_or, cond_true]
theorem l8_go {W W' : List Str} {S S' : List Int} {n n' : Int} {l : List Str} {a i : Int} (h : L19_8_r W S n l a i = some (.inl (W', S', n', l, a, i))) : L19_8 (W, S, n, l, a, i) = L19_8 (W', S', n', l, a, i) :=
  lim_go (r := fun s : List Str × List Int × Int × List Str × Int × Int => L19_8_r s.1 s.2.1 s.2.2.1 s.2.2.2.1 s.2.2.2.2.1 s.2.2.2.2.2) (s := (W, S, n, l, a, i)) h
theorem l8_end {W : List Str} {S : List Int} {n : Int} {l : List Str} {a i : Int} {x : List Str × List Int × Int × List Str × Int × Int} (h : L19_8_r W S n l a i = some (.inr x)) : L19_8 (W, S, n, l, a, i) = some x :=
  lim_end (r := fun s : List Str × List Int × Int × List Str × Int × Int => L19_8_r s.1 s.2.1 s.2.2.1 s.2.2.2.1 s.2.2.2.2.1 s.2.2.2.2.2) (s := (W, S, n, l, a, i)) h
theorem pow_ptr : ∀ (r : Stk) (k : Nat) (b : List Str) {l : List Str} {n i : Int}, Sorted r → b.length = 2 ^ k → (∀ p ∈ r.head?, k ≤ p.1) → (flat r).length + b.length ≤ 1000000 →
    ∃ rs : Stk, L19_8 (whole ((k, b) :: r), sizes ((k, b) :: r), ((r.length + 1 : Nat) : Int), l, n, i) = some (whole rs, sizes rs, ((rs.length : Nat) : Int), l, n, i) ∧ Sorted rs ∧ flat rs = flat r ++ b
  | [], k, b, l, n, i, _, hb, _, _ => by
    refine ⟨[(k, b)], ?_, hb, by simp [flat]⟩
    exact l8_end merge_one
  | (k', b') :: r, k, b, l, n, i, hs, hb, hk, hlen => by
    have hkk : k ≤ k' := hk (k', b') (by simp)
    have hb' : b'.length = 2 ^ k' := hs.len
    have hfl : (flat ((k', b') :: r)).length = (flat r).length + b'.length := by rw [flat_cons, List.length_append]
    have hrl : r.length ≤ (flat r).length := by
      have : ∀ r : Stk, Sorted r → r.length ≤ (flat r).length := by
        intro r
        induction r with
        | nil => intro _; simp
        | cons p r ih =>
          intro h
          have h1 := h.len
          have h2 := ih h.tail
          have := Nat.two_pow_pos p.1
          rw [flat_cons, List.length_append, List.length_cons]; omega
      exact this r hs.tail
    have hpw := Nat.two_pow_pos k
    rw [whole_cons, whole_cons, sizes_cons, sizes_cons]
    by_cases he : k' = k
    · subst he
      have step : L19_8_r (whole r ++ [mroot b'] ++ [mroot b]) (sizes r ++ [((2 ^ k' : Nat) : Int)] ++ [((2 ^ k' : Nat) : Int)]) ((r.length + 2 : Nat) : Int) l n i = _ :=
        merge_go (whole_len r) (sizes_len r) (by omega) (mroot_len _) (mroot_len _) (by rw [← hb']; omega)
      have hnew : (b' ++ b).length = 2 ^ (k' + 1) := by rw [List.length_append, hb, hb', Nat.pow_succ]; omega
      obtain ⟨rs, h1, h2, h3⟩ := pow_ptr r (k' + 1) (b' ++ b) (l := l) (n := n) (i := i) hs.tail hnew (fun p hp => by
        cases r with
        | nil => simp at hp
        | cons q r => simp at hp; subst hp; exact hs.2.1) (by rw [List.length_append]; omega)
      refine ⟨rs, ?_, h2, by rw [h3, flat_cons, List.append_assoc]⟩
      rw [whole_cons, sizes_cons] at h1
      dsimp only at h1
      rw [mroot_app hb' (by omega) (by omega), show 2 ^ (k' + 1) = 2 * 2 ^ k' by rw [Nat.pow_succ]; omega] at h1
      exact (l8_go step).trans h1
    · have hlt : k < k' := by omega
      refine ⟨(k, b) :: (k', b') :: r, ?_, ⟨hb, hlt, hs⟩, by rw [flat_cons]⟩
      have hne : ((2 ^ k' : Nat) : Int) ≠ ((2 ^ k : Nat) : Int) := by
        have := Nat.pow_lt_pow_right (a := 2) (by omega) hlt
        omega
      have step : L19_8_r (whole r ++ [mroot b'] ++ [mroot b]) (sizes r ++ [((2 ^ k' : Nat) : Int)] ++ [((2 ^ k : Nat) : Int)]) ((r.length + 2 : Nat) : Int) l n i = _ :=
        merge_stop (whole_len r) (sizes_len r) (by omega) hne
      rw [whole_cons, whole_cons, sizes_cons, sizes_cons]
      exact l8_end step
/-- Not too many strings, none too long. -/
def Small (l : List Str) : Prop := l.length ≤ 1000 ∧ ∀ x ∈ l, x.length ≤ 100000
theorem push_go {rs : Stk} {l : List Str} {i : Nat} (hs : Sorted rs) (hl : Small l) (hf : flat rs = l.take i) (hi : i < l.length) :
    ∃ rs' : Stk, L19_4_r (whole rs) (sizes rs) l (l.length : Int) (i : Int) = some (.inl (whole rs', sizes rs', l, (l.length : Int), ((i + 1 : Nat) : Int))) ∧ Sorted rs' ∧ flat rs' = l.take (i + 1) := by
  obtain ⟨hl1, hl2⟩ := hl
  have hfl : (flat rs).length = i := by rw [hf]; simp; omega
  have hrl : rs.length ≤ 1000000 := by
    have : ∀ r : Stk, Sorted r → r.length ≤ (flat r).length := by
      intro r
      induction r with
      | nil => intro _; simp
      | cons p r ih =>
        intro h
        have h1 := h.len
        have h2 := ih h.tail
        have := Nat.two_pow_pos p.1
        rw [flat_cons, List.length_append, List.length_cons]; omega
    have := this rs hs
    omega
  obtain ⟨rs', h1, h2, h3⟩ := pow_ptr rs 0 [l[i]] (l := l) (n := (l.length : Int)) (i := (i : Int)) hs rfl (fun p _ => Nat.zero_le _) (by simp; omega)
  refine ⟨rs', ?_, h2, ?_⟩
  · have e0 : decide ((i : Int) < (l.length : Int)) = true := by simp; omega
    have e1 : (decide (0 ≤ (i : Int)) && decide ((i : Int) < (l.length : Int))) = true := by simp; omega
    have g : l.getD i [] = l[i] := by simp [List.getD_eq_getElem?_getD, hi]
    have hx : (l[i]).length ≤ 100000 := hl2 _ (List.getElem_mem hi)
    have l1 : ∀ x : Str, List.set (List.replicate 1 ([] : List UInt8)) 0 x = [x] := fun _ => rfl
    have l2 : List.set (List.replicate 1 (0 : Int)) 0 1 = [1] := rfl
    have f1 : ∀ x : Str, decide ((whole rs).length + [x].length ≤ 100000000000) = true := fun x => by rw [whole_len]; simp; omega
    have f2 : decide ((sizes rs).length + [(1 : Int)].length ≤ 100000000000) = true := by rw [sizes_len]; simp; omega
    have e2 : ((sizes rs ++ [(1 : Int)]).length : Int) = ((rs.length + 1 : Nat) : Int) := by simp [sizes_len]
    have e3 : IntKind.i64.wrap ((i : Int) + 1) = ((i + 1 : Nat) : Int) := by rw [wrapI (by omega) (by omega)]; omega
    rw [whole_cons, sizes_cons, mroot_one] at h1
    have h1' : L19_8 (whole rs ++ [leaf l[i]], sizes rs ++ [1], ((rs.length + 1 : Nat) : Int), l, (l.length : Int), (i : Int)) = some (whole rs', sizes rs', ((rs'.length : Nat) : Int), l, (l.length : Int), (i : Int)) := h1
    have e0' : decide (i < l.length) = true := by simp; omega
    unfold L19_4_r
    simp only [e0, e1, Int.toNat_natCast, g, P29_eq hx, F29_eq hx, l1, l2, List.take_length, f1, f2, cond_true, e2, h1', Option.bind_some, e3]
    first
      | done
      | simp [e0']
  · rw [h3, hf, List.take_add_one, List.getElem?_eq_getElem hi]; rfl
theorem push_loop {l : List Str} (hl : Small l) : ∃ rs : Stk, L19_4 ([], [], l, (l.length : Int), 0) = some (whole rs, sizes rs, l, (l.length : Int), (l.length : Int)) ∧ Sorted rs ∧ flat rs = l := by
  have key : ∀ (k i : Nat) (rs : Stk), i + k = l.length → Sorted rs → flat rs = l.take i → ∃ rs' : Stk, L19_4 (whole rs, sizes rs, l, (l.length : Int), (i : Int)) = some (whole rs', sizes rs', l, (l.length : Int), (l.length : Int)) ∧ Sorted rs' ∧ flat rs' = l := by
    intro k
    induction k with
    | zero =>
      intro i rs hi hs hf
      have : i = l.length := by omega
      subst this
      refine ⟨rs, ?_, hs, by rw [hf, List.take_length]⟩
      unfold L19_4
      refine lim_end (r := fun s : List Str × List Int × List Str × Int × Int => L19_4_r s.1 s.2.1 s.2.2.1 s.2.2.2.1 s.2.2.2.2) ?_
      show L19_4_r (whole rs) (sizes rs) l (l.length : Int) (l.length : Int) = _
      have e0 : decide ((l.length : Int) < (l.length : Int)) = false := by simp
      unfold L19_4_r
      simp only [e0, cond_false]
    | succ k ih =>
      intro i rs hi hs hf
      obtain ⟨rs1, h1, h2, h3⟩ := push_go hs hl hf (by omega)
      obtain ⟨rs2, k1, k2, k3⟩ := ih (i + 1) rs1 (by omega) h2 h3
      refine ⟨rs2, ?_, k2, k3⟩
      unfold L19_4 at k1 ⊢
      rw [lim_go (r := fun s : List Str × List Int × List Str × Int × Int => L19_4_r s.1 s.2.1 s.2.2.1 s.2.2.2.1 s.2.2.2.2) h1]
      exact k1
  exact key l.length 0 [] (by omega) trivial rfl
/-! ### Backwards -/
def backw {α : Type} (l : List α) (d : α) (n : Nat) : List (Int × α) := (List.range n).reverse.map fun (i : Nat) => ((i : Int), l.getD i d)
theorem back_go {l : List Str} {i : Nat} (hi : i < l.length) (hl : l.length ≤ 1000000) : L60_1_r (i : Int) l = some ([((i : Int), l.getD i [])], .inl ((i : Int) - 1, l)) := by
  have e0 : decide ((i : Int) ≥ 0) = true := by simp
  have e1 : decide ((i : Int) < (l.length : Int)) = true := by simp; omega
  have e2 : IntKind.i64.wrap ((i : Int) - 1) = (i : Int) - 1 := wrapI (by omega) (by omega)
  unfold L60_1_r
  simp only [e0, e1, Bool.and_self, cond_true, Int.toNat_natCast, e2]
  rfl
theorem back_end {l : List Str} : L60_1_r (-1) l = some ([], .inr (.inr (-1, l))) := by unfold L60_1_r; rfl
theorem back_loop {l : List Str} (hl : l.length ≤ 1000000) : ∀ n, n ≤ l.length → L60_1 ((n : Int) - 1, l) = some (backw l [] n, .inr (-1, l))
  | 0, _ => by
    unfold L60_1
    rw [show ((0 : Nat) : Int) - 1 = -1 from rfl, limW_end (r := fun s : Int × List Str => L60_1_r s.1 s.2) back_end]
    rfl
  | n + 1, hn => by
    have ih := back_loop hl n (by omega)
    unfold L60_1 at ih ⊢
    rw [show ((n + 1 : Nat) : Int) - 1 = (n : Int) by omega, limW_go (r := fun s : Int × List Str => L60_1_r s.1 s.2) (back_go (by omega) hl), ih]
    simp [backw, List.range_succ]
theorem W60_eq {l : List Str} (hl : l.length ≤ 1000000) : (W60 l).ys = some (backw l [] l.length) := by
  have e : IntKind.i64.wrap ((l.length : Int) - 1) = (l.length : Int) - 1 := wrapI (by omega) (by omega)
  unfold W60
  simp only [e, back_loop hl _ (Nat.le_refl _)]
  simp [YW.bind, YW.ys]
theorem backw_snd {α : Type} (l : List α) (d : α) : (backw l d l.length).map (·.2) = l.reverse := by
  unfold backw
  rw [List.map_map, List.map_reverse]
  congr 1
  apply List.ext_getElem?
  intro i
  simp only [List.getElem?_map, List.getElem?_range']
  by_cases hi : i < l.length
  · simp [hi, List.getD_eq_getElem?_getD]
  · simp [hi]
theorem foldX_map {B Y Z X : Type} (f : B → Z → B) (g : Y → Z) (step : B → Y → Option (B ⊕ X)) (P : B → Prop) : ∀ (ys : List Y) (b : B), P b → (∀ b y, y ∈ ys → P b → step b y = some (.inl (f b (g y))) ∧ P (f b (g y))) → foldX step ys b = some (.inl ((ys.map g).foldl f b)) ∧ P ((ys.map g).foldl f b)
  | [], b, hb, _ => ⟨rfl, hb⟩
  | y :: ys, b, hb, h => by
    obtain ⟨h1, h2⟩ := h b y (by simp) hb
    obtain ⟨k1, k2⟩ := foldX_map f g step P ys _ h2 (fun b y' hy hp => h b y' (by simp [hy]) hp)
    refine ⟨?_, k2⟩
    simp only [foldX, h1, k1, List.map_cons, List.foldl_cons]
theorem fold_root : ∀ (r : Stk) (c : List Str), Sorted r → 1 ≤ c.length → (∀ p ∈ r.head?, c.length < 2 ^ p.1) → (r.map fun p => mroot p.2).foldl (fun o x => node x o) (mroot c) = mroot (flat r ++ c)
  | [], c, _, _, _ => by simp [flat]
  | (k, b) :: r, c, hs, hc, hlt => by
    have h1 := hlt (k, b) (by simp)
    have h2 := hs.len
    rw [List.map_cons, List.foldl_cons, ← mroot_app h2 hc (by omega), fold_root r (b ++ c) hs.tail (by simp; omega) (fun p hp => by
      cases r with
      | nil => simp at hp
      | cons q r =>
        simp at hp; subst hp
        have := Nat.pow_le_pow_right (n := 2) (by omega) (show k + 1 ≤ q.1 from hs.2.1)
        dsimp only at h1 h2
        rw [List.length_append, h2]
        rw [Nat.pow_succ] at this
        omega), flat_cons, List.append_assoc]
theorem G44_eq (l : List Str) : G44 l = some ((), ((), (l, ()))) := rfl
theorem G19_eq {l : List Str} (hl : Small l) : G19 l = some (mroot l) := by
  obtain ⟨rs, h1, h2, h3⟩ := push_loop hl
  unfold G19
  simp only [h1, Option.bind_some]
  cases rs with
  | nil =>
    have : l = [] := by rw [← h3]; rfl
    subst this
    have e : ((((whole []).length : Nat) : Int) == 0) = true := rfl
    simp only [e, cond_true, P30_eq (s := []) (by simp), F30_eq (s := []) (by simp), mroot_nil]
  | cons p r =>
    obtain ⟨k, b⟩ := p
    have hw : (whole ((k, b) :: r)).length = r.length + 1 := by rw [whole_len]; rfl
    have hrl : r.length ≤ 1000 := by
      have : ∀ r : Stk, Sorted r → r.length ≤ (flat r).length := by
        intro r
        induction r with
        | nil => intro _; simp
        | cons p r ih =>
          intro h
          have h1 := h.len
          have h2 := ih h.tail
          have := Nat.two_pow_pos p.1
          rw [flat_cons, List.length_append, List.length_cons]; omega
      have := this _ h2
      rw [h3] at this
      have := hl.1
      simp at *
      omega
    have e0 : (((r.length + 1 : Nat) : Int) == 0) = false := by simp; omega
    have e1 : IntKind.i64.wrap (((r.length + 1 : Nat) : Int) - 1) = (r.length : Int) := by rw [wrapI (by omega) (by omega)]; omega
    have e2 : (decide (0 ≤ (r.length : Int)) && decide ((r.length : Int) < ((r.length + 1 : Nat) : Int))) = true := by simp; omega
    have e3 : decide (r.length < r.length + 1) = true := by simp
    have e4 : sliceTest 0 (r.length : Int) ((r.length + 1 : Nat) : Int) = true := by simp [sliceTest]; omega
    have g : (whole ((k, b) :: r)).getD r.length [] = mroot b := by
      rw [whole_cons, ← whole_len r]; simp [List.getD_eq_getElem?_getD]
    have t : (whole ((k, b) :: r)).take r.length = whole r := by rw [whole_cons, ← whole_len r, List.take_left]
    have hf := foldX_map (fun (o x : Str) => node x o) (fun y : Y60 => y.2) R19_17_step (fun b : Str => b.length = 32) (backw (whole r) [] (whole r).length) (mroot b) (mroot_len _) (fun b y hy hb => by
      refine ⟨?_, node_len _ _⟩
      have hy2 : y.2.length = 32 := by
        obtain ⟨i, hi, rfl⟩ := List.mem_map.1 hy
        have hi' : i < (whole r).length := by simpa using hi
        simp only [List.getD_eq_getElem?_getD, List.getElem?_eq_getElem hi', Option.getD_some]
        have := List.getElem_mem hi'
        simp only [whole, List.mem_reverse, List.mem_map] at this
        obtain ⟨p, _, hp⟩ := this
        simp only [whole] at hp ⊢
        rw [← hp]; exact mroot_len _
      unfold R19_17_step R19_17_r
      simp only [P32_eq (a := y.2) (b := b) (by omega), F32_eq (a := y.2) (b := b) (by omega), cond_true])
    have hfold := hf.1
    rw [show (backw (whole r) [] (whole r).length).map (fun y : Y60 => y.2) = (whole r).reverse from backw_snd _ _] at hfold
    have hrev : (whole r).reverse = r.map fun p => mroot p.2 := by simp [whole]
    have hb : b.length = 2 ^ k := h2.len
    rw [hrev, fold_root r b h2.tail (by rw [hb]; exact Nat.two_pow_pos k) (fun p hp => by
      cases r with
      | nil => simp at hp
      | cons q r =>
        simp at hp; subst hp
        rw [hb]
        exact Nat.pow_lt_pow_right (by omega) h2.2.1)] at hfold
    have h3' : flat r ++ b = l := by rw [← h3, flat_cons]
    rw [h3'] at hfold
    simp only [hw, e0, e1, e2, e3, e4, cond_false, cond_true, Int.toNat_natCast, g, t, P44_of _ (G44_eq _), F44_of _ (G44_eq _), W60_eq (l := whole r) (by rw [whole_len]; omega), Option.bind_some, hfold]
theorem P19_eq {l : List Str} (hl : Small l) : P19 l = true := P19_of _ (G19_eq hl)
theorem F19_eq {l : List Str} (hl : Small l) : F19 l = mroot l := F19_of _ (G19_eq hl)
end Go.Ev.D

namespace Go.Ev.D
open Go Go.Ev
def mproof (l : List Str) (i : Nat) : List Str :=
  if h : 2 ≤ l.length then (if i < lft l.length then mproof (l.take (lft l.length)) i ++ [mroot (l.drop (lft l.length))] else mproof (l.drop (lft l.length)) (i - lft l.length) ++ [mroot (l.take (lft l.length))]) else []
termination_by l.length
decreasing_by
  · have := lft_lt h; simp; omega
  · have := lft_pos l.length; simp; omega
def mpart (l : List Str) (m : Nat) (w : Bool) : List Str :=
  if h : 2 ≤ l.length ∧ m < l.length then (if m ≤ lft l.length then mpart (l.take (lft l.length)) m w ++ [mroot (l.drop (lft l.length))] else mpart (l.drop (lft l.length)) (m - lft l.length) false ++ [mroot (l.take (lft l.length))]) else (if w then [] else [mroot l])
termination_by l.length
decreasing_by
  · have := lft_lt h.1; simp; omega
  · have := lft_pos l.length; simp; omega
theorem Small.take {l : List Str} (h : Small l) (k : Nat) : Small (l.take k) := ⟨by have := h.1; simp; omega, fun x hx => h.2 x (List.mem_of_mem_take hx)⟩
theorem Small.drop {l : List Str} (h : Small l) (k : Nat) : Small (l.drop k) := ⟨by have := h.1; simp; omega, fun x hx => h.2 x (List.mem_of_mem_drop hx)⟩
theorem cut0 {α : Type} (l : List α) (k : Nat) : cut l 0 (k : Int) = l.take k := by simp [cut]
theorem cutk {α : Type} (l : List α) (k : Nat) : cut l (k : Int) (l.length : Int) = l.drop k := by simp [cut]
theorem l14_go {l l' out out' : List Str} {i i' : Int} (h : L14_4_r l i out = some (.inl (l', i', out'))) : L14_4 (l, i, out) = L14_4 (l', i', out') :=
  lim_go (r := fun s : List Str × Int × List Str => L14_4_r s.1 s.2.1 s.2.2) (s := (l, i, out)) h
theorem l14_end {l out : List Str} {i : Int} {x : List Str × Int × List Str} (h : L14_4_r l i out = some (.inr x)) : L14_4 (l, i, out) = some x :=
  lim_end (r := fun s : List Str × Int × List Str => L14_4_r s.1 s.2.1 s.2.2) (s := (l, i, out)) h
theorem one_set (x : Str) : List.set (List.replicate 1 ([] : List UInt8)) 0 x = [x] := rfl
theorem proof_loop : ∀ (n : Nat) (l : List Str) (i : Nat) (out : List Str), l.length ≤ n → Small l → i < l.length → out.length + l.length ≤ 100000 →
    ∃ l' i', L14_4 (l, (i : Int), out) = some (l', i', out ++ (mproof l i).reverse)
  | 0, l, i, out, hn, _, hi, _ => by omega
  | n + 1, l, i, out, hn, hl, hi, ho => by
    by_cases h1 : l.length = 1
    · have e : ((l.length : Int) == 1) = true := by rw [h1]; rfl
      refine ⟨l, i, l14_end ?_⟩
      unfold L14_4_r
      rw [mproof, dif_neg (by omega)]
      simp only [e, cond_true, List.reverse_nil, List.append_nil]
    · have h2 : 2 ≤ l.length := by omega
      have hk := lft_lt h2
      have hk1 := lft_pos l.length
      have hs := hl.1
      have e : ((l.length : Int) == 1) = false := by simp; omega
      have e2 : sliceTest 0 (lft l.length : Int) (l.length : Int) = true := by simp [sliceTest]; omega
      have e3 : sliceTest (lft l.length : Int) (l.length : Int) (l.length : Int) = true := by simp [sliceTest]; omega
      have f1 : ∀ x : Str, decide (out.length + [x].length ≤ 100000000000) = true := fun x => by simp; omega
      rw [mproof, dif_pos h2]
      by_cases hc : i < lft l.length
      · have e4 : decide ((i : Int) ≥ (lft l.length : Int)) = false := by simp; omega
        have step : L14_4_r l (i : Int) out = some (.inl (l.take (lft l.length), (i : Int), out ++ [mroot (l.drop (lft l.length))])) := by
          unfold L14_4_r
          simp only [e, cond_false, P40_eq h2 (by omega), F40_eq h2 (by omega), e2, e3, e4, cond_true, cut0, cutk, P19_eq (hl.drop _), F19_eq (hl.drop _), one_set, List.take_length, f1]
        obtain ⟨l', i', h3⟩ := proof_loop n (l.take (lft l.length)) i (out ++ [mroot (l.drop (lft l.length))]) (by simp; omega) (hl.take _) (by simp; omega) (by simp; omega)
        refine ⟨l', i', ?_⟩
        rw [l14_go step, h3, if_pos hc, List.reverse_append, List.append_assoc]; rfl
      · have e4 : decide ((i : Int) ≥ (lft l.length : Int)) = true := by simp; omega
        have e5 : IntKind.i64.wrap ((i : Int) - (lft l.length : Int)) = ((i - lft l.length : Nat) : Int) := by rw [wrapI (by omega) (by omega)]; omega
        have step : L14_4_r l (i : Int) out = some (.inl (l.drop (lft l.length), ((i - lft l.length : Nat) : Int), out ++ [mroot (l.take (lft l.length))])) := by
          unfold L14_4_r
          simp only [e, cond_false, P40_eq h2 (by omega), F40_eq h2 (by omega), e2, e3, e4, e5, cond_true, cut0, cutk, P19_eq (hl.take _), F19_eq (hl.take _), one_set, List.take_length, f1]
        obtain ⟨l', i', h3⟩ := proof_loop n (l.drop (lft l.length)) (i - lft l.length) (out ++ [mroot (l.take (lft l.length))]) (by simp; omega) (hl.drop _) (by simp; omega) (by simp; omega)
        refine ⟨l', i', ?_⟩
        rw [l14_go step, h3, if_neg hc, List.reverse_append, List.append_assoc]; rfl
/-- The proof of an entry; 2: there is none. -/
def proofM (l : List Str) (i : Int) : List Str × Int := if 0 ≤ i ∧ i < l.length then (mproof l i.toNat, 0) else ([], 2)
theorem G14_eq {l : List Str} (hl : Small l) (i : Int) : G14 l i = some (proofM l i) := by
  unfold G14 proofM
  by_cases h : 0 ≤ i ∧ i < l.length
  · obtain ⟨j, rfl⟩ := Int.eq_ofNat_of_zero_le h.1
    have e1 : decide ((j : Int) < 0) = false := by simp
    have e2 : decide ((j : Int) ≥ (l.length : Int)) = false := by simp; omega
    obtain ⟨l', i', h3⟩ := proof_loop l.length l j [] (Nat.le_refl _) hl (by omega) (by have := hl.1; simp; omega)
    simp only [e1, e2, cond_false, h3, Option.bind_some, if_pos h, List.nil_append, List.reverse_reverse, List.take_length, Int.toNat_natCast]
    simp
  · have e : (bif decide (i < 0) then true else decide (i ≥ (l.length : Int))) = true := by
      by_cases h1 : i < 0
      · simp [h1]
      · have : i ≥ (l.length : Int) := by omega
        simp [h1, this]
    simp only [e, cond_true, if_neg h]
theorem l16_go {l l' out out' : List Str} {i i' : Int} {w w' : Bool} (h : L16_7_r l i out w = some (.inl (l', i', out', w'))) : L16_7 (l, i, out, w) = L16_7 (l', i', out', w') :=
  lim_go (r := fun s : List Str × Int × List Str × Bool => L16_7_r s.1 s.2.1 s.2.2.1 s.2.2.2) (s := (l, i, out, w)) h
theorem l16_end {l out : List Str} {i : Int} {w : Bool} {x : List Str × Int × List Str × Bool} (h : L16_7_r l i out w = some (.inr x)) : L16_7 (l, i, out, w) = some x :=
  lim_end (r := fun s : List Str × Int × List Str × Bool => L16_7_r s.1 s.2.1 s.2.2.1 s.2.2.2) (s := (l, i, out, w)) h
theorem part_loop : ∀ (n : Nat) (l : List Str) (m : Nat) (out : List Str) (w : Bool), l.length ≤ n → Small l → 1 ≤ m → m ≤ l.length → out.length + l.length ≤ 100000 →
    ∃ l' i' out' w', L16_7 (l, (m : Int), out, w) = some (l', i', out', w') ∧ Small l' ∧ out'.length ≤ 100000 ∧ (if w' then out' else out' ++ [mroot l']) = out ++ (mpart l m w).reverse
  | 0, l, m, out, w, hn, _, hi, hi2, _ => by omega
  | n + 1, l, m, out, w, hn, hl, h0, h1, ho => by
    by_cases hc0 : m = l.length
    · have e : decide ((m : Int) < (l.length : Int)) = false := by simp; omega
      refine ⟨l, m, out, w, l16_end ?_, hl, by omega, ?_⟩
      · unfold L16_7_r
        simp only [e, cond_false]
      · rw [mpart, dif_neg (by omega)]
        cases w <;> simp
    · have hlt : m < l.length := by omega
      have h2 : 2 ≤ l.length := by omega
      have hk := lft_lt h2
      have hk1 := lft_pos l.length
      have hs := hl.1
      have e : decide ((m : Int) < (l.length : Int)) = true := by simp; omega
      have e2 : sliceTest 0 (lft l.length : Int) (l.length : Int) = true := by simp [sliceTest]; omega
      have e3 : sliceTest (lft l.length : Int) (l.length : Int) (l.length : Int) = true := by simp [sliceTest]; omega
      have f1 : ∀ x : Str, decide (out.length + [x].length ≤ 100000000000) = true := fun x => by simp; omega
      rw [mpart, dif_pos ⟨h2, hlt⟩]
      by_cases hc : m ≤ lft l.length
      · have e4 : decide ((m : Int) > (lft l.length : Int)) = false := by simp; omega
        have step : L16_7_r l (m : Int) out w = some (.inl (l.take (lft l.length), (m : Int), out ++ [mroot (l.drop (lft l.length))], w)) := by
          unfold L16_7_r
          simp only [e, cond_false, P40_eq h2 (by omega), F40_eq h2 (by omega), e2, e3, e4, cond_true, cut0, cutk, P19_eq (hl.drop _), F19_eq (hl.drop _), one_set, List.take_length, f1]
        obtain ⟨l', i', out', w', h3, h4, h5, h6⟩ := part_loop n (l.take (lft l.length)) m (out ++ [mroot (l.drop (lft l.length))]) w (by simp; omega) (hl.take _) h0 (by simp; omega) (by simp; omega)
        refine ⟨l', i', out', w', (l16_go step).trans h3, h4, h5, ?_⟩
        rw [h6, if_pos hc, List.reverse_append, List.append_assoc]; rfl
      · have e4 : decide ((m : Int) > (lft l.length : Int)) = true := by simp; omega
        have e5 : IntKind.i64.wrap ((m : Int) - (lft l.length : Int)) = ((m - lft l.length : Nat) : Int) := by rw [wrapI (by omega) (by omega)]; omega
        have step : L16_7_r l (m : Int) out w = some (.inl (l.drop (lft l.length), ((m - lft l.length : Nat) : Int), out ++ [mroot (l.take (lft l.length))], false)) := by
          unfold L16_7_r
          simp only [e, P40_eq h2 (by omega), F40_eq h2 (by omega), e2, e3, e4, e5, cond_true, cut0, cutk, P19_eq (hl.take _), F19_eq (hl.take _), one_set, List.take_length, f1]
        obtain ⟨l', i', out', w', h3, h4, h5, h6⟩ := part_loop n (l.drop (lft l.length)) (m - lft l.length) (out ++ [mroot (l.take (lft l.length))]) false (by simp; omega) (hl.drop _) (by omega) (by simp; omega) (by simp; omega)
        refine ⟨l', i', out', w', (l16_go step).trans h3, h4, h5, ?_⟩
        rw [h6, if_neg hc, List.reverse_append, List.append_assoc]; rfl
/-- The proof of a beginning; 2: there is none. -/
def extM (l : List Str) (m : Int) : List Str × Int := if 0 ≤ m ∧ m ≤ l.length then (if m = 0 then [] else mpart l m.toNat true, 0) else ([], 2)
theorem G16_eq {l : List Str} (hl : Small l) (m : Int) : G16 l m = some (extM l m) := by
  unfold G16 extM
  by_cases h : 0 ≤ m ∧ m ≤ l.length
  · obtain ⟨j, rfl⟩ := Int.eq_ofNat_of_zero_le h.1
    have e1 : decide ((j : Int) < 0) = false := by simp
    have e2 : decide ((j : Int) > (l.length : Int)) = false := by simp; omega
    by_cases hj : j = 0
    · subst hj
      have e3 : (((0 : Nat) : Int) == 0) = true := rfl
      simp only [e1, e2, cond_false, e3, cond_true, if_pos h]
      rfl
    · have e3 : (((j : Nat) : Int) == 0) = false := by simp; omega
      have hne : ¬ ((j : Int) = 0) := by omega
      obtain ⟨l', i', out', w', h3, h4, h5, h6⟩ := part_loop l.length l j [] true (Nat.le_refl _) hl (by omega) (by omega) (by have := hl.1; simp; omega)
      rw [List.nil_append] at h6
      simp only [e1, e2, cond_false, e3, h3, Option.bind_some, if_pos h, if_neg hne, Int.toNat_natCast]
      cases w' with
      | false =>
        have f1 : ∀ x : Str, decide (out'.length + [x].length ≤ 100000000000) = true := fun x => by simp; omega
        have h6' : out' ++ [mroot l'] = (mpart l j true).reverse := by simpa using h6
        simp only [Bool.not_false, cond_true, P19_eq h4, F19_eq h4, one_set, List.take_length, f1, h6', List.reverse_reverse]
        simp
      | true =>
        have h6' : out' = (mpart l j true).reverse := by simpa using h6
        simp only [Bool.not_true, cond_false, h6', List.reverse_reverse, List.take_length]
        simp
  · have e : (bif decide (m < 0) then true else decide (m > (l.length : Int))) = true := by
      by_cases h1 : m < 0
      · simp [h1]
      · have : m > (l.length : Int) := by omega
        simp [h1, this]
    simp only [e, cond_true, if_neg h]
/-! ### Digests -/
def isD (s : Str) : Bool := s.length == 32
def allD (l : List Str) : Bool := l.all isD
theorem G51_eq (s : Str) : G51 s = some (isD s) := by
  have e : (((s.length : Nat) : Int) == 32) = (s.length == 32) := by rw [Bool.eq_iff_iff]; simp; omega
  unfold G51 isD
  simp only [e]
theorem P51_eq (s : Str) : P51 s = true := P51_of _ (G51_eq s)
theorem F51_eq (s : Str) : F51 s = isD s := F51_of _ (G51_eq s)
theorem G61_eq (s : Str) : G61 s = some (!isD s, ()) := by unfold G61; simp only [P51_eq, F51_eq, cond_true]
theorem P61_eq (s : Str) : P61 s = true := P61_of _ (G61_eq s)
theorem F61_eq (s : Str) : F61 s = (!isD s, ()) := F61_of _ (G61_eq s)
theorem l73_go {l : List Str} {n i i' : Int} (h : L73_2_r l n i = some (.inl (l, n, i'))) : L73_2 (l, n, i) = L73_2 (l, n, i') :=
  lim_go (r := fun s : List Str × Int × Int => L73_2_r s.1 s.2.1 s.2.2) (s := (l, n, i)) h
theorem l73_end {l : List Str} {n i : Int} {x : Int ⊕ (List Str × Int × Int)} (h : L73_2_r l n i = some (.inr x)) : L73_2 (l, n, i) = some x :=
  lim_end (r := fun s : List Str × Int × Int => L73_2_r s.1 s.2.1 s.2.2) (s := (l, n, i)) h
theorem odd_loop {l : List Str} (hl : l.length ≤ 1000000) : ∀ k i, i + k = l.length → (∃ x, L73_2 (l, (l.length : Int), (i : Int)) = some (.inr x) ∧ allD (l.drop i) = true) ∨ (∃ j : Nat, L73_2 (l, (l.length : Int), (i : Int)) = some (.inl (j : Int)) ∧ allD (l.drop i) = false)
  | 0, i, hi => by
    have : i = l.length := by omega
    subst this
    refine .inl ⟨(l, (l.length : Int), (l.length : Int)), l73_end ?_, by simp [allD]⟩
    have e : decide ((l.length : Int) < (l.length : Int)) = false := by simp
    unfold L73_2_r
    simp only [e, cond_false]
  | k + 1, i, hi => by
    have hlt : i < l.length := by omega
    have e1 : decide ((i : Int) < (l.length : Int)) = true := by simp; omega
    have e2 : decide ((0 : Int) ≤ (i : Int)) = true := by simp
    have e3 : IntKind.i64.wrap ((i : Int) + 1) = ((i + 1 : Nat) : Int) := by rw [wrapI (by omega) (by omega)]; omega
    have g : l.getD i [] = l[i] := by simp [List.getD_eq_getElem?_getD, hlt]
    have hd : l.drop i = l[i] :: l.drop (i + 1) := List.drop_eq_getElem_cons hlt
    cases hD : isD l[i] with
    | false =>
      refine .inr ⟨i, l73_end ?_, by rw [hd]; unfold allD; rw [List.all_cons, hD]; rfl⟩
      unfold L73_2_r
      simp only [e1, e2, Bool.and_self, cond_true, Int.toNat_natCast, g, P61_eq, F61_eq, hD, Bool.not_false]
    | true =>
      have step : L73_2_r l (l.length : Int) (i : Int) = some (.inl (l, (l.length : Int), ((i + 1 : Nat) : Int))) := by
        unfold L73_2_r
        simp only [e1, e2, Bool.and_self, cond_true, Int.toNat_natCast, g, P61_eq, F61_eq, hD, Bool.not_true, cond_false, e3]
      have ha : allD (l.drop i) = allD (l.drop (i + 1)) := by rw [hd]; unfold allD; rw [List.all_cons, hD]; rfl
      rw [l73_go step, ha]
      exact odd_loop hl k (i + 1) (by omega)
theorem G45_eq {l : List Str} (hl : l.length ≤ 1000000) : G45 l = some (allD l) := by
  have h73 : ∃ q : Int, G73 l = some (q, ()) ∧ decide (q ≥ 0) = !allD l := by
    unfold G73
    rcases odd_loop hl l.length 0 (by omega) with ⟨x, h1, h2⟩ | ⟨j, h1, h2⟩
    · have h1' : L73_2 (l, (l.length : Int), 0) = some (.inr x) := h1
      rw [List.drop_zero] at h2
      exact ⟨-1, by simp only [h1', Option.bind_some], by rw [h2]; rfl⟩
    · have h1' : L73_2 (l, (l.length : Int), 0) = some (.inl (j : Int)) := h1
      rw [List.drop_zero] at h2
      exact ⟨j, by simp only [h1', Option.bind_some], by rw [h2]; simp⟩
  obtain ⟨q, h1, h2⟩ := h73
  have h62 : G62 l = some (!allD l, ()) := by
    unfold G62
    simp only [P73_of _ h1, F73_of _ h1, cond_true, h2]
  unfold G45
  simp only [P62_of _ h62, F62_of _ h62, cond_true, Bool.not_not]
theorem P45_eq {l : List Str} (hl : l.length ≤ 1000000) : P45 l = true := P45_of _ (G45_eq hl)
theorem F45_eq {l : List Str} (hl : l.length ≤ 1000000) : F45 l = allD l := F45_of _ (G45_eq hl)
theorem G46_nil : G46 [] = some ([], ([], false)) := by unfold G46; rfl
theorem G46_app {l : List Str} (x : Str) (hl : l.length ≤ 1000000) : G46 (l ++ [x]) = some (x, (l, true)) := by
  have hn : (l ++ [x]).length = l.length + 1 := by simp
  have e0 : (((l.length + 1 : Nat) : Int) == 0) = false := by simp; omega
  have e1 : IntKind.i64.wrap (((l.length + 1 : Nat) : Int) - 1) = (l.length : Int) := by rw [wrapI (by omega) (by omega)]; omega
  have e2 : (decide (0 ≤ (l.length : Int)) && decide ((l.length : Int) < ((l.length + 1 : Nat) : Int))) = true := by simp; omega
  have e3 : sliceTest 0 (l.length : Int) ((l.length + 1 : Nat) : Int) = true := by simp [sliceTest]; omega
  have g : (l ++ [x]).getD l.length [] = x := by simp [List.getD_eq_getElem?_getD]
  have t : cut (l ++ [x]) 0 (l.length : Int) = l := by rw [cut0, List.take_left]
  unfold G46
  simp only [hn, e0, e1, e2, e3, cond_false, cond_true, Int.toNat_natCast, g, t]
end Go.Ev.D

namespace Go.Ev.D
open Go Go.Ev
/-- The value of an entry and a proof, the last element first; what is left of the proof. -/
def mval : Nat → Nat → Str → List Str → Option (Str × List Str)
  | n, i, s, rp => if n ≤ 1 then some (leaf s, rp) else match rp with
    | [] => none
    | x :: r => if i < lft n then (mval (lft n) i s r).map fun p => (node p.1 x, p.2) else (mval (n - lft n) (i - lft n) s r).map fun p => (node x p.1, p.2)
termination_by _ _ _ rp => rp.length
def joinD (x : D57) (o : Str) : Str := if x.2.1 then node x.1 o else node o x.1
theorem G48_eq {x : D57} {o : Str} (hx : x.1.length = 32) (ho : o.length = 32) : G48 x o = some (joinD x o) := by
  obtain ⟨a, b, u⟩ := x
  unfold G48 joinD
  dsimp only at hx ⊢
  cases b with
  | true => simp only [cond_true, P32_eq (a := a) (b := o) (by omega), F32_eq (a := a) (b := o) (by omega), if_true]
  | false => simp only [cond_false, cond_true, P32_eq (a := o) (b := a) (by omega), F32_eq (a := o) (b := a) (by omega)]; rfl
theorem joinD_len (x : D57) (o : Str) : (joinD x o).length = 32 := by unfold joinD; split <;> exact node_len _ _
theorem l21_go {a b c d : Str} {n i n' i' : Int} {p p' : List Str} {w w' : List D57} (h : L21_4_r a n i c p w = some (.inl (b, n', i', d, p', w'))) : L21_4 (a, n, i, c, p, w) = L21_4 (b, n', i', d, p', w') :=
  lim_go (r := fun s : Str × Int × Int × Str × List Str × List D57 => L21_4_r s.1 s.2.1 s.2.2.1 s.2.2.2.1 s.2.2.2.2.1 s.2.2.2.2.2) (s := (a, n, i, c, p, w)) h
theorem l21_end {a c : Str} {n i : Int} {p : List Str} {w : List D57} {x : Bool ⊕ (Str × Int × Int × Str × List Str × List D57)} (h : L21_4_r a n i c p w = some (.inr x)) : L21_4 (a, n, i, c, p, w) = some x :=
  lim_end (r := fun s : Str × Int × Int × Str × List Str × List D57 => L21_4_r s.1 s.2.1 s.2.2.1 s.2.2.2.1 s.2.2.2.2.1 s.2.2.2.2.2) (s := (a, n, i, c, p, w)) h
theorem one_set57 (x : D57) : List.set (List.replicate 1 z57) 0 x = [x] := rfl
theorem verify_loop (root s : Str) : ∀ (rp : List Str) (n i : Nat) (way : List D57), 1 ≤ n → n ≤ 9223372036854775807 → i < n → way.length + rp.length ≤ 100000 →
    (mval n i s rp = none ∧ L21_4 (root, (n : Int), (i : Int), s, rp.reverse, way) = some (.inl false)) ∨
    (∃ v rest n' i' ws, mval n i s rp = some (v, rest) ∧ L21_4 (root, (n : Int), (i : Int), s, rp.reverse, way) = some (.inr (root, n', i', s, rest.reverse, way ++ ws)) ∧ (ws.reverse.foldl (fun o x => joinD x o) (leaf s) = v) ∧ (∀ x ∈ ws, x.1 ∈ rp) ∧ ws.length ≤ rp.length) := by
  intro rp
  induction rp with
  | nil =>
    intro n i way h1 h2 hi hw
    by_cases hn : n ≤ 1
    · right
      refine ⟨leaf s, [], n, i, [], by rw [mval, if_pos hn], l21_end ?_, rfl, by simp, by simp⟩
      have e : decide ((n : Int) > 1) = false := by simp; omega
      unfold L21_4_r
      simp only [e, cond_false, List.append_nil]
    · left
      refine ⟨by rw [mval, if_neg hn], l21_end ?_⟩
      have e : decide ((n : Int) > 1) = true := by simp; omega
      unfold L21_4_r
      simp only [e, cond_true, List.reverse_nil, P46_of _ G46_nil, F46_of _ G46_nil, Bool.not_false]
  | cons x r ih =>
    intro n i way h1 h2 hi hw
    by_cases hn : n ≤ 1
    · right
      refine ⟨leaf s, x :: r, n, i, [], by rw [mval, if_pos hn], l21_end ?_, rfl, by simp, by simp⟩
      have e : decide ((n : Int) > 1) = false := by simp; omega
      unfold L21_4_r
      simp only [e, cond_false, List.append_nil]
    · have hn2 : 2 ≤ n := by omega
      have hk := lft_lt hn2
      have hk1 := lft_pos n
      have hg := lft_ge hn2
      have e : decide ((n : Int) > 1) = true := by simp; omega
      have hG := G46_app (l := r.reverse) x (by simp at hw ⊢; omega)
      have f1 : ∀ y : D57, decide (way.length + [y].length ≤ 100000000000) = true := fun y => by simp at hw ⊢; omega
      simp only [List.length_cons] at hw
      by_cases hc : i < lft n
      · have e4 : decide ((i : Int) ≥ (lft n : Int)) = false := by simp; omega
        have step : L21_4_r root (n : Int) (i : Int) s (r.reverse ++ [x]) way = some (.inl (root, (lft n : Int), (i : Int), s, r.reverse, way ++ [(x, (false, ()))])) := by
          unfold L21_4_r
          simp only [e, cond_true, P46_of _ hG, F46_of _ hG, Bool.not_true, cond_false, P40_eq hn2 h2, F40_eq hn2 h2, e4, one_set57, List.take_length, f1]
        rw [List.reverse_cons, l21_go step]
        have hm : mval n i s (x :: r) = (mval (lft n) i s r).map fun p => (node p.1 x, p.2) := by rw [mval, if_neg hn]; simp only [if_pos hc]
        rcases ih (lft n) i (way ++ [(x, (false, ()))]) hk1 (by omega) hc (by simp; omega) with ⟨k1, k2⟩ | ⟨v, rest, n', i', ws, k1, k2, k3, k4, k5⟩
        · left; exact ⟨by rw [hm, k1]; rfl, k2⟩
        · right
          refine ⟨node v x, rest, n', i', (x, (false, ())) :: ws, by rw [hm, k1]; rfl, by rw [k2, List.append_assoc]; rfl, ?_, ?_, by simp; omega⟩
          · rw [List.reverse_cons, List.foldl_append, k3]; rfl
          · intro y hy
            rcases List.mem_cons.1 hy with rfl | hy
            · simp
            · exact List.mem_cons_of_mem _ (k4 y hy)
      · have e4 : decide ((i : Int) ≥ (lft n : Int)) = true := by simp; omega
        have e5 : IntKind.i64.wrap ((n : Int) - (lft n : Int)) = ((n - lft n : Nat) : Int) := by rw [wrapI (by omega) (by omega)]; omega
        have e6 : IntKind.i64.wrap ((i : Int) - (lft n : Int)) = ((i - lft n : Nat) : Int) := by rw [wrapI (by omega) (by omega)]; omega
        have step : L21_4_r root (n : Int) (i : Int) s (r.reverse ++ [x]) way = some (.inl (root, ((n - lft n : Nat) : Int), ((i - lft n : Nat) : Int), s, r.reverse, way ++ [(x, (true, ()))])) := by
          unfold L21_4_r
          simp only [e, cond_true, P46_of _ hG, F46_of _ hG, Bool.not_true, cond_false, P40_eq hn2 h2, F40_eq hn2 h2, e4, e5, e6, one_set57, List.take_length, f1]
        rw [List.reverse_cons, l21_go step]
        have hm : mval n i s (x :: r) = (mval (n - lft n) (i - lft n) s r).map fun p => (node x p.1, p.2) := by rw [mval, if_neg hn]; simp only [if_neg hc]
        rcases ih (n - lft n) (i - lft n) (way ++ [(x, (true, ()))]) (by omega) (by omega) (by omega) (by simp; omega) with ⟨k1, k2⟩ | ⟨v, rest, n', i', ws, k1, k2, k3, k4, k5⟩
        · left; exact ⟨by rw [hm, k1]; rfl, k2⟩
        · right
          refine ⟨node x v, rest, n', i', (x, (true, ())) :: ws, by rw [hm, k1]; rfl, by rw [k2, List.append_assoc]; rfl, ?_, ?_, by simp; omega⟩
          · rw [List.reverse_cons, List.foldl_append, k3]; rfl
          · intro y hy
            rcases List.mem_cons.1 hy with rfl | hy
            · simp
            · exact List.mem_cons_of_mem _ (k4 y hy)
theorem back63_go {l : List D57} {i : Nat} (hi : i < l.length) (hl : l.length ≤ 1000000) : L63_1_r (i : Int) l = some ([((i : Int), l.getD i z57)], .inl ((i : Int) - 1, l)) := by
  have e0 : decide ((i : Int) ≥ 0) = true := by simp
  have e1 : decide ((i : Int) < (l.length : Int)) = true := by simp; omega
  have e2 : IntKind.i64.wrap ((i : Int) - 1) = (i : Int) - 1 := wrapI (by omega) (by omega)
  unfold L63_1_r
  simp only [e0, e1, Bool.and_self, cond_true, Int.toNat_natCast, e2]
  rfl
theorem back63_end {l : List D57} : L63_1_r (-1) l = some ([], .inr (.inr (-1, l))) := by unfold L63_1_r; rfl
theorem back63_loop {l : List D57} (hl : l.length ≤ 1000000) : ∀ n, n ≤ l.length → L63_1 ((n : Int) - 1, l) = some (backw l z57 n, .inr (-1, l))
  | 0, _ => by
    unfold L63_1
    rw [show ((0 : Nat) : Int) - 1 = -1 from rfl, limW_end (r := fun s : Int × List D57 => L63_1_r s.1 s.2) back63_end]
    rfl
  | n + 1, hn => by
    have ih := back63_loop hl n (by omega)
    unfold L63_1 at ih ⊢
    rw [show ((n + 1 : Nat) : Int) - 1 = (n : Int) by omega, limW_go (r := fun s : Int × List D57 => L63_1_r s.1 s.2) (back63_go (by omega) hl), ih]
    simp [backw, List.range_succ]
theorem W63_eq {l : List D57} (hl : l.length ≤ 1000000) : (W63 l).ys = some (backw l z57 l.length) := by
  have e : IntKind.i64.wrap ((l.length : Int) - 1) = (l.length : Int) - 1 := wrapI (by omega) (by omega)
  unfold W63
  simp only [e, back63_loop hl _ (Nat.le_refl _)]
  simp [YW.bind, YW.ys]
theorem G47_eq (l : List D57) : G47 l = some ((), ((), (l, ()))) := rfl
theorem backw_mem {α : Type} {l : List α} {d : α} {y : Int × α} (h : y ∈ backw l d l.length) : y.2 ∈ l := by
  obtain ⟨i, hi, rfl⟩ := List.mem_map.1 h
  have hi' : i < l.length := by simpa using hi
  simp only [List.getD_eq_getElem?_getD, List.getElem?_eq_getElem hi', Option.getD_some]
  exact List.getElem_mem hi'
theorem allD_mem {l : List Str} (h : allD l = true) {x : Str} (hx : x ∈ l) : x.length = 32 := by
  have := List.all_eq_true.1 h x hx
  simpa [isD] using this
/-- Does a proof show that an entry belongs to a list? -/
def verM (root : Str) (n i : Int) (s : Str) (p : List Str) : Bool :=
  decide (0 ≤ i) && decide (i < n) && allD p && (match mval n.toNat i.toNat s p.reverse with
    | some (v, []) => v == root
    | _ => false)
theorem G21_eq {root : Str} {n i : Int} {s : Str} {p : List Str} (hn : n ≤ 9223372036854775807) (hs : s.length ≤ 100000) (hp : p.length ≤ 100000) : G21 root n i s p = some (verM root n i s p) := by
  unfold G21 verM
  by_cases h : 0 ≤ i ∧ i < n
  · obtain ⟨j, rfl⟩ := Int.eq_ofNat_of_zero_le h.1
    obtain ⟨m, rfl⟩ := Int.eq_ofNat_of_zero_le (show 0 ≤ n by omega)
    have e1 : decide ((j : Int) < 0) = false := by simp
    have e2 : decide ((j : Int) ≥ (m : Int)) = false := by simp; omega
    have e3 : decide ((0 : Int) ≤ (j : Int)) = true := by simp
    have e4 : decide ((j : Int) < (m : Int)) = true := by simp; omega
    simp only [e1, e2, cond_false, P45_eq (l := p) (by omega), F45_eq (l := p) (by omega), Bool.true_or, cond_true, e3, e4, Bool.true_and, Int.toNat_natCast]
    cases hD : allD p with
    | false => rfl
    | true =>
      simp only [Bool.not_true, cond_false, Bool.true_and]
      have hv := verify_loop root s p.reverse m j [] (by omega) (by omega) (by omega) (by simp; omega)
      rw [List.reverse_reverse] at hv
      rcases hv with ⟨k1, k2⟩ | ⟨v, rest, n', i', ws, k1, k2, k3, k4, k5⟩
      · simp only [k1, k2, Option.bind_some]
      · rw [List.nil_append] at k2
        have hwl : ws.length ≤ 100000 := by simp at k5; omega
        have hf := foldX_map (fun (b : Str × List Str × Str) (x : D57) => (b.1, b.2.1, joinD x b.2.2)) (fun y : Y63 => y.2) R21_16_step (fun b => b.2.2.length = 32) (backw ws z57 ws.length) (root, rest.reverse, leaf s) (leaf_len s) (fun b y hy hb => by
          refine ⟨?_, joinD_len _ _⟩
          have hm := k4 y.2 (backw_mem hy)
          have hx : y.2.1.length = 32 := allD_mem hD (by simpa using hm)
          have h48 := G48_eq hx hb
          unfold R21_16_step R21_16_r
          simp only [P48_of _ _ h48, F48_of _ _ h48, cond_true])
        have hfold := hf.1
        rw [show (backw ws z57 ws.length).map (fun y : Y63 => y.2) = ws.reverse from backw_snd _ _] at hfold
        have hfs : ∀ (l : List D57) (a : Str) (b : List Str) (c : Str), l.foldl (fun (b : Str × List Str × Str) (x : D57) => (b.1, b.2.1, joinD x b.2.2)) (a, b, c) = (a, b, l.foldl (fun o x => joinD x o) c) := by
          intro l
          induction l with
          | nil => intros; rfl
          | cons x l ih => intro a b c; rw [List.foldl_cons, List.foldl_cons, ih]
        rw [hfs, k3] at hfold
        simp only [k1, k2, Option.bind_some, P29_eq hs, F29_eq hs, cond_true, List.take_length, P47_of _ (G47_eq _), F47_of _ (G47_eq _), W63_eq (l := ws) (by omega), hfold]
        cases rest with
        | nil =>
          have e5 : (((([] : List Str).reverse.length : Nat) : Int) == 0) = true := rfl
          simp only [e5, cond_true]
        | cons y rest =>
          have e5 : ((((y :: rest).reverse.length : Nat) : Int) == 0) = false := by simp; omega
          simp only [e5, cond_false]
  · have e : (bif decide (i < 0) then true else decide (i ≥ n)) = true := by
      by_cases h1 : i < 0
      · simp [h1]
      · have : i ≥ n := by omega
        simp [h1, this]
    have e2 : (decide (0 ≤ i) && decide (i < n)) = false := by
      simp only [Bool.and_eq_false_iff, decide_eq_false_iff_not]; omega
    simp only [e, e2, Bool.not_true, Bool.false_and, Bool.not_false, Bool.or_true, cond_true]
theorem P21_eq {root : Str} {n i : Int} {s : Str} {p : List Str} (hn : n ≤ 9223372036854775807) (hs : s.length ≤ 100000) (hp : p.length ≤ 100000) : P21 root n i s p = true := P21_of _ _ _ _ _ (G21_eq hn hs hp)
theorem F21_eq {root : Str} {n i : Int} {s : Str} {p : List Str} (hn : n ≤ 9223372036854775807) (hs : s.length ≤ 100000) (hp : p.length ≤ 100000) : F21 root n i s p = verM root n i s p := F21_of _ _ _ _ _ (G21_eq hn hs hp)
end Go.Ev.D

namespace Go.Ev.D
open Go Go.Ev
def base2 (old : Str) (rp : List Str) (w : Bool) : Option (Str × Str) :=
  if w then (match rp with | [] => some (old, old) | _ => none) else (match rp with | [x] => some (x, x) | _ => none)
def stepE (b : Str × Str) (x : D57) : Str × Str := (if x.2.1 then joinD x b.1 else b.1, joinD x b.2)
/-- The two roots that a proof of a beginning leads to, the last element first. -/
def mboth (old : Str) : Nat → Nat → List Str → Bool → Option (Str × Str)
  | m, n, rp, w => if m < n then match rp with
    | [] => none
    | x :: r => if m ≤ lft n then (mboth old m (lft n) r w).map fun p => stepE p (x, (false, ())) else (mboth old (m - lft n) (n - lft n) r false).map fun p => stepE p (x, (true, ()))
    else base2 old rp w
termination_by _ _ rp => rp.length
abbrev S23 := Str × Int × Str × Int × List Str × List D57 × Bool
theorem l23_go {s s' : S23} (h : L23_9_r s.1 s.2.1 s.2.2.1 s.2.2.2.1 s.2.2.2.2.1 s.2.2.2.2.2.1 s.2.2.2.2.2.2 = some (.inl s')) : L23_9 s = L23_9 s' :=
  lim_go (r := fun s : S23 => L23_9_r s.1 s.2.1 s.2.2.1 s.2.2.2.1 s.2.2.2.2.1 s.2.2.2.2.2.1 s.2.2.2.2.2.2) (s := s) h
theorem l23_end {s : S23} {x : Bool ⊕ S23} (h : L23_9_r s.1 s.2.1 s.2.2.1 s.2.2.2.1 s.2.2.2.2.1 s.2.2.2.2.2.1 s.2.2.2.2.2.2 = some (.inr x)) : L23_9 s = some x :=
  lim_end (r := fun s : S23 => L23_9_r s.1 s.2.1 s.2.2.1 s.2.2.2.1 s.2.2.2.2.1 s.2.2.2.2.2.1 s.2.2.2.2.2.2) (s := s) h
theorem ext_loop (old root : Str) : ∀ (rp : List Str) (m n : Nat) (way : List D57) (w : Bool), 1 ≤ m → m ≤ n → n ≤ 9223372036854775807 → way.length + rp.length ≤ 100000 →
    (mboth old m n rp w = none ∧ L23_9 (old, (m : Int), root, (n : Int), rp.reverse, way, w) = some (.inl false)) ∨
    (∃ m' n' rest ws w', mboth old m n rp w = (base2 old rest w').map (fun ab => ws.reverse.foldl stepE ab) ∧ L23_9 (old, (m : Int), root, (n : Int), rp.reverse, way, w) = some (.inr (old, m', root, n', rest.reverse, way ++ ws, w')) ∧ (∀ x ∈ ws, x.1 ∈ rp) ∧ (∀ x ∈ rest, x ∈ rp) ∧ ws.length ≤ rp.length) := by
  intro rp
  induction rp with
  | nil =>
    intro m n way w h0 h1 h2 hw
    by_cases hn : m < n
    · left
      refine ⟨by rw [mboth, if_pos hn], l23_end ?_⟩
      have e : decide ((m : Int) < (n : Int)) = true := by simp; omega
      unfold L23_9_r
      simp only [e, cond_true, List.reverse_nil, P46_of _ G46_nil, F46_of _ G46_nil, Bool.not_false]
    · right
      refine ⟨m, n, [], [], w, by rw [mboth, if_neg hn]; simp, l23_end ?_, by simp, by simp, by simp⟩
      have e : decide ((m : Int) < (n : Int)) = false := by simp; omega
      unfold L23_9_r
      simp only [e, cond_false, List.append_nil]
  | cons x r ih =>
    intro m n way w h0 h1 h2 hw
    by_cases hn : m < n
    · have hn2 : 2 ≤ n := by omega
      have hk := lft_lt hn2
      have hk1 := lft_pos n
      have hg := lft_ge hn2
      have e : decide ((m : Int) < (n : Int)) = true := by simp; omega
      have hG := G46_app (l := r.reverse) x (by simp at hw ⊢; omega)
      have f1 : ∀ y : D57, decide (way.length + [y].length ≤ 100000000000) = true := fun y => by simp at hw ⊢; omega
      simp only [List.length_cons] at hw
      by_cases hc : m ≤ lft n
      · have e4 : decide ((m : Int) > (lft n : Int)) = false := by simp; omega
        have step : L23_9_r old (m : Int) root (n : Int) (r.reverse ++ [x]) way w = some (.inl (old, (m : Int), root, (lft n : Int), r.reverse, way ++ [(x, (false, ()))], w)) := by
          unfold L23_9_r
          simp only [e, cond_true, P46_of _ hG, F46_of _ hG, Bool.not_true, cond_false, P40_eq hn2 h2, F40_eq hn2 h2, e4, one_set57, List.take_length, f1]
        rw [List.reverse_cons, l23_go step]
        have hm : mboth old m n (x :: r) w = (mboth old m (lft n) r w).map fun p => stepE p (x, (false, ())) := by rw [mboth, if_pos hn]; simp only [if_pos hc]
        rcases ih m (lft n) (way ++ [(x, (false, ()))]) w h0 hc (by omega) (by simp; omega) with ⟨k1, k2⟩ | ⟨m', n', rest, ws, w', k1, k2, k3, k4, k5⟩
        · left; exact ⟨by rw [hm, k1]; rfl, k2⟩
        · right
          refine ⟨m', n', rest, (x, (false, ())) :: ws, w', ?_, by rw [k2, List.append_assoc]; rfl, ?_, fun y hy => List.mem_cons_of_mem _ (k4 y hy), by simp; omega⟩
          · rw [hm, k1, Option.map_map]
            congr 1
            funext ab
            simp only [Function.comp, List.reverse_cons, List.foldl_append, List.foldl_cons, List.foldl_nil]
          · intro y hy
            rcases List.mem_cons.1 hy with rfl | hy
            · simp
            · exact List.mem_cons_of_mem _ (k3 y hy)
      · have e4 : decide ((m : Int) > (lft n : Int)) = true := by simp; omega
        have e5 : IntKind.i64.wrap ((n : Int) - (lft n : Int)) = ((n - lft n : Nat) : Int) := by rw [wrapI (by omega) (by omega)]; omega
        have e6 : IntKind.i64.wrap ((m : Int) - (lft n : Int)) = ((m - lft n : Nat) : Int) := by rw [wrapI (by omega) (by omega)]; omega
        have step : L23_9_r old (m : Int) root (n : Int) (r.reverse ++ [x]) way w = some (.inl (old, ((m - lft n : Nat) : Int), root, ((n - lft n : Nat) : Int), r.reverse, way ++ [(x, (true, ()))], false)) := by
          unfold L23_9_r
          simp only [e, cond_true, P46_of _ hG, F46_of _ hG, Bool.not_true, cond_false, P40_eq hn2 h2, F40_eq hn2 h2, e4, e5, e6, one_set57, List.take_length, f1]
        rw [List.reverse_cons, l23_go step]
        have hm : mboth old m n (x :: r) w = (mboth old (m - lft n) (n - lft n) r false).map fun p => stepE p (x, (true, ())) := by rw [mboth, if_pos hn]; simp only [if_neg hc]
        rcases ih (m - lft n) (n - lft n) (way ++ [(x, (true, ()))]) false (by omega) (by omega) (by omega) (by simp; omega) with ⟨k1, k2⟩ | ⟨m', n', rest, ws, w', k1, k2, k3, k4, k5⟩
        · left; exact ⟨by rw [hm, k1]; rfl, k2⟩
        · right
          refine ⟨m', n', rest, (x, (true, ())) :: ws, w', ?_, by rw [k2, List.append_assoc]; rfl, ?_, fun y hy => List.mem_cons_of_mem _ (k4 y hy), by simp; omega⟩
          · rw [hm, k1, Option.map_map]
            congr 1
            funext ab
            simp only [Function.comp, List.reverse_cons, List.foldl_append, List.foldl_cons, List.foldl_nil]
          · intro y hy
            rcases List.mem_cons.1 hy with rfl | hy
            · simp
            · exact List.mem_cons_of_mem _ (k3 y hy)
    · right
      refine ⟨m, n, x :: r, [], w, by rw [mboth, if_neg hn]; simp, l23_end ?_, by simp, by simp, by simp⟩
      have e : decide ((m : Int) < (n : Int)) = false := by simp; omega
      unfold L23_9_r
      simp only [e, cond_false, List.append_nil]
/-- The fold over the way. -/
theorem ext_fold {ws : List D57} {old root a b : Str} {rest : List Str} (hw : ∀ x ∈ ws, x.1.length = 32) (ha : a.length = 32) (hb : b.length = 32) :
    foldX R23_25_step (backw ws z57 ws.length) (old, root, rest, a, b) = some (.inl (old, root, rest, ws.reverse.foldl stepE (a, b))) := by
  have hf := foldX_map (fun (s : Str × Str × List Str × Str × Str) (x : D57) => (s.1, s.2.1, s.2.2.1, stepE s.2.2.2 x)) (fun y : Y63 => y.2) R23_25_step (fun s => s.2.2.2.1.length = 32 ∧ s.2.2.2.2.length = 32) (backw ws z57 ws.length) (old, root, rest, a, b) ⟨ha, hb⟩ (fun s y hy hs => by
    have hx : y.2.1.length = 32 := hw y.2 (backw_mem hy)
    obtain ⟨s0, s1, s2, s3, s4⟩ := s
    have h3 := G48_eq hx hs.1
    have h4 := G48_eq hx hs.2
    dsimp only at h3 h4 ⊢
    unfold stepE R23_25_step R23_25_r
    cases y.2.2.1 with
    | true =>
      simp only [cond_true, P48_of _ _ h3, F48_of _ _ h3, P48_of _ _ h4, F48_of _ _ h4, if_true]
      exact ⟨trivial, joinD_len _ _, joinD_len _ _⟩
    | false =>
      simp only [cond_true, cond_false, P48_of _ _ h4, F48_of _ _ h4]
      exact ⟨rfl, hs.1, joinD_len _ _⟩)
  have h := hf.1
  rw [show (backw ws z57 ws.length).map (fun y : Y63 => y.2) = ws.reverse from backw_snd _ _] at h
  rw [h]
  have : ∀ (l : List D57) (s : Str × Str), l.foldl (fun (s : Str × Str × List Str × Str × Str) (x : D57) => (s.1, s.2.1, s.2.2.1, stepE s.2.2.2 x)) (old, root, rest, s) = (old, root, rest, l.foldl stepE s) := by
    intro l
    induction l with
    | nil => intros; rfl
    | cons x l ih => intro s; rw [List.foldl_cons, List.foldl_cons, ih]
  rw [this]
/-- Does a proof show that a list begins with another? -/
def verE (old : Str) (m : Int) (root : Str) (n : Int) (p : List Str) : Bool :=
  decide (0 ≤ m) && decide (m ≤ n) && allD p && isD old && isD root && (if m = 0 then p.isEmpty && old == sha [] else if m = n then p.isEmpty && old == root else
    match mboth old m.toNat n.toNat p.reverse true with
    | some (a, b) => a == old && b == root
    | none => false)
theorem len0_rev (rest : List Str) : (((rest.reverse.length : Nat) : Int) == 0) = rest.isEmpty := by cases rest <;> simp; omega
theorem len0_emp (rest : List Str) : (((rest.length : Nat) : Int) == 0) = rest.isEmpty := by cases rest <;> simp; omega
theorem G23_eq {old root : Str} {m n : Int} {p : List Str} (hn : n ≤ 9223372036854775807) (hp : p.length ≤ 100000) : G23 old m root n p = some (verE old m root n p) := by
  unfold G23 verE
  by_cases h : 0 ≤ m ∧ m ≤ n
  · obtain ⟨j, rfl⟩ := Int.eq_ofNat_of_zero_le h.1
    obtain ⟨k, rfl⟩ := Int.eq_ofNat_of_zero_le (show 0 ≤ n by omega)
    have e1 : decide ((j : Int) < 0) = false := by simp
    have e2 : decide ((j : Int) > (k : Int)) = false := by simp; omega
    have e3 : decide ((0 : Int) ≤ (j : Int)) = true := by simp
    have e4 : decide ((j : Int) ≤ (k : Int)) = true := by simp; omega
    simp only [e1, e2, cond_false, P45_eq (l := p) (by omega), F45_eq (l := p) (by omega), Bool.true_or, cond_true, e3, e4, Bool.true_and, Int.toNat_natCast, P51_eq, F51_eq]
    cases hD : allD p with
    | false => rfl
    | true =>
    cases hO : isD old with
    | false => rfl
    | true =>
    cases hR : isD root with
    | false => rfl
    | true =>
      simp only [Bool.not_true, cond_false, Bool.true_and]
      by_cases hj : j = 0
      · subst hj
        have e5 : (((0 : Nat) : Int) == 0) = true := rfl
        have e6 : (((0 : Nat) : Int) = 0) = True := by simp
        have h0 : ([] : List UInt8).length ≤ 1000000000 := by simp
        simp only [e5, cond_true, P30_eq h0, F30_eq h0, Bool.true_or, len0_emp, e6, if_true]
        cases p.isEmpty <;> rfl
      · have e5 : (((j : Nat) : Int) == 0) = false := by simp; omega
        have e6 : (((j : Nat) : Int) = 0) = False := by simp; omega
        simp only [e5, cond_false, e6, if_false]
        by_cases hjk : j = k
        · subst hjk
          have e7 : (((j : Nat) : Int) == (j : Int)) = true := by simp
          simp only [e7, cond_true, len0_emp, if_true]
          cases p.isEmpty <;> rfl
        · have e7 : (((j : Nat) : Int) == (k : Int)) = false := by simp; omega
          have e8 : (((j : Nat) : Int) = (k : Int)) = False := by simp; omega
          have ho : old.length = 32 := by simpa [isD] using hO
          simp only [e7, cond_false, e8, if_false]
          have hv := ext_loop old root p.reverse j k [] true (by omega) (by omega) (by omega) (by simp; omega)
          rw [List.reverse_reverse] at hv
          rcases hv with ⟨k1, k2⟩ | ⟨m', n', rest, ws, w', k1, k2, k3, k4, k5⟩
          · simp only [k1, k2, Option.bind_some]
          · rw [List.nil_append] at k2
            have hwl : ws.length ≤ 100000 := by simp at k5; omega
            have hws : ∀ x ∈ ws, x.1.length = 32 := fun x hx => allD_mem hD (by simpa using k3 x hx)
            have hrs : ∀ x ∈ rest, x.length = 32 := fun x hx => allD_mem hD (by simpa using k4 x hx)
            simp only [k1, k2, Option.bind_some, P47_of _ (G47_eq _), F47_of _ (G47_eq _), List.take_length, W63_eq (l := ws) (by omega)]
            cases w' with
            | true =>
              simp only [Bool.not_true, cond_false, cond_true, ext_fold hws ho ho, Option.bind_some, len0_rev]
              cases rest with
              | nil =>
                simp only [base2, if_true, Option.map_some, List.isEmpty_nil, cond_true]
                cases ((List.foldl stepE (old, old) ws.reverse).1 == old) <;> rfl
              | cons y rest => simp [base2]
            | false =>
              simp only [Bool.not_false, cond_true]
              cases rest with
              | nil => rfl
              | cons y rest =>
                cases rest with
                | nil =>
                  have hy : y.length = 32 := hrs y (by simp)
                  have e9 : ((([y].reverse.length : Nat) : Int) != 1) = false := rfl
                  have e10 : (decide ((0 : Int) ≤ 0) && decide ((0 : Int) < (([y].reverse.length : Nat) : Int))) = true := rfl
                  have e11 : List.getD [y].reverse (Int.toNat 0) [] = y := rfl
                  have e12 : (((([] : List Str).length : Nat) : Int) == 0) = true := rfl
                  simp only [e9, e10, e11, cond_false, cond_true, ext_fold hws hy hy, Option.bind_some, e12]
                  simp only [base2, Option.map_some, Bool.false_eq_true, if_false]
                  cases ((List.foldl stepE (y, y) ws.reverse).1 == old) <;> rfl
                | cons z rest =>
                  have e9 : ((((y :: z :: rest).reverse.length : Nat) : Int) != 1) = true := by simp; omega
                  simp only [e9, cond_true]
                  simp [base2]
  · have e : (bif decide (m < 0) then true else decide (m > n)) = true := by
      by_cases h1 : m < 0
      · simp [h1]
      · have : m > n := by omega
        simp [h1, this]
    have e2 : (decide (0 ≤ m) && decide (m ≤ n)) = false := by
      simp only [Bool.and_eq_false_iff, decide_eq_false_iff_not]; omega
    simp only [e, e2, Bool.not_true, Bool.false_and, Bool.not_false, Bool.or_true, cond_true]
theorem P23_eq {old root : Str} {m n : Int} {p : List Str} (hn : n ≤ 9223372036854775807) (hp : p.length ≤ 100000) : P23 old m root n p = true := P23_of _ _ _ _ _ (G23_eq hn hp)
theorem F23_eq {old root : Str} {m n : Int} {p : List Str} (hn : n ≤ 9223372036854775807) (hp : p.length ≤ 100000) : F23 old m root n p = verE old m root n p := F23_of _ _ _ _ _ (G23_eq hn hp)
end Go.Ev.D

namespace Go.Ev.D
open Go Go.Ev
theorem sliceT {a b n : Nat} (h1 : a ≤ b) (h2 : b ≤ n) : sliceTest (a : Int) (b : Int) (n : Int) = true := by simp [sliceTest]; omega
theorem min60 (k n : Nat) : (if (k : Int) < (n : Int) then (k : Int) else (n : Int)) = ((min k n : Nat) : Int) := by
  by_cases h : (k : Int) < (n : Int)
  · rw [if_pos h]; omega
  · rw [if_neg h]; omega
theorem minS (k : Nat) (s : Str) : cut s 0 ((min k s.length : Nat) : Int) = s.take k := by
  rw [cut0]
  rw [Nat.min_def]
  split
  · rfl
  · rw [List.take_length, List.take_of_length_le (by omega)]
def few (l : List Str) (n : Nat) : List Str := (l.take n).map (·.take 60)
theorem few_len (l : List Str) (n : Nat) : (few l n).length ≤ n := by simp [few]; omega
theorem l13_go {l o o' : List Str} {n i i' : Int} (h : L13_3_r l n o i = some (.inl (l, n, o', i'))) : L13_3 (l, n, o, i) = L13_3 (l, n, o', i') :=
  lim_go (r := fun s : List Str × Int × List Str × Int => L13_3_r s.1 s.2.1 s.2.2.1 s.2.2.2) (s := (l, n, o, i)) h
theorem l13_end {l o : List Str} {n i : Int} {x : List Str × Int × List Str × Int} (h : L13_3_r l n o i = some (.inr x)) : L13_3 (l, n, o, i) = some x :=
  lim_end (r := fun s : List Str × Int × List Str × Int => L13_3_r s.1 s.2.1 s.2.2.1 s.2.2.2) (s := (l, n, o, i)) h
theorem few_loop (l : List Str) (n : Nat) (hn : n ≤ 1000) : ∀ k i, i + k = min n l.length → L13_3 (l, (n : Int), few l i, (i : Int)) = some (l, (n : Int), few l n, ((min n l.length : Nat) : Int))
  | 0, i, hi => by
    have hi' : i = min n l.length := by omega
    subst hi'
    have e : (bif decide (((min n l.length : Nat) : Int) < (l.length : Int)) then decide (((min n l.length : Nat) : Int) < (n : Int)) else false) = false := by
      by_cases h : l.length ≤ n
      · have : decide (((min n l.length : Nat) : Int) < (l.length : Int)) = false := by simp; omega
        rw [this]; rfl
      · have : decide (((min n l.length : Nat) : Int) < (n : Int)) = false := by simp; omega
        rw [this]; cases decide (((min n l.length : Nat) : Int) < (l.length : Int)) <;> rfl
    have e2 : few l (min n l.length) = few l n := by
      unfold few; congr 1; rw [Nat.min_def]; split
      · rfl
      · rw [List.take_length, List.take_of_length_le (by omega)]
    refine l13_end ?_
    unfold L13_3_r
    simp only [e, cond_false, e2]
  | k + 1, i, hi => by
    have h1 : i < l.length := by omega
    have h2 : i < n := by omega
    have e1 : decide ((i : Int) < (l.length : Int)) = true := by simp; omega
    have e2 : decide ((i : Int) < (n : Int)) = true := by simp; omega
    have e3 : decide ((0 : Int) ≤ (i : Int)) = true := by simp
    have e4 : IntKind.i64.wrap ((i : Int) + 1) = ((i + 1 : Nat) : Int) := by rw [wrapI (by omega) (by omega)]; omega
    have g : l.getD i [] = l[i] := by simp [List.getD_eq_getElem?_getD, h1]
    have e5 : (if (60 : Int) < (l[i].length : Int) then (60 : Int) else (l[i].length : Int)) = ((min 60 l[i].length : Nat) : Int) := min60 60 _
    have e6 : sliceTest (0 : Int) ((min 60 l[i].length : Nat) : Int) (l[i].length : Int) = true := sliceT (a := 0) (by omega) (by omega)
    have hf := few_len l i
    have f1 : ∀ x : Str, decide ((few l i).length + [x].length ≤ 100000000000) = true := fun x => by simp; omega
    have e7 : few l i ++ [l[i].take 60] = few l (i + 1) := by unfold few; rw [List.take_add_one (l := l) (i := i), List.getElem?_eq_getElem h1, List.map_append]; rfl
    have step : L13_3_r l (n : Int) (few l i) (i : Int) = some (.inl (l, (n : Int), few l (i + 1), ((i + 1 : Nat) : Int))) := by
      unfold L13_3_r
      simp only [e1, e2, e3, e4, g, e5, e6, Bool.and_self, cond_true, Int.toNat_natCast, minS, one_set, List.take_length, f1, e7]
    rw [l13_go step]
    exact few_loop l n hn k (i + 1) (by omega)
theorem G13_eq (l : List Str) (n : Nat) (hn : n ≤ 1000) : G13 l (n : Int) = some (few l n) := by
  have h := few_loop l n hn (min n l.length) 0 (by omega)
  have h' : L13_3 (l, (n : Int), ([] : List Str), (0 : Int)) = some (l, (n : Int), few l n, ((min n l.length : Nat) : Int)) := h
  unfold G13
  simp only [h', Option.bind_some, List.take_length]
theorem P13_eq (l : List Str) (n : Nat) (hn : n ≤ 1000) : P13 l (n : Int) = true := P13_of _ _ (G13_eq l n hn)
theorem F13_eq (l : List Str) (n : Nat) (hn : n ≤ 1000) : F13 l (n : Int) = few l n := F13_of _ _ (G13_eq l n hn)
/-! ### Same -/
/-! ### How many halvings -/
/-! ### Hex -/
def hexd (n : Nat) : UInt8 := ([48, 49, 50, 51, 52, 53, 54, 55, 56, 57, 97, 98, 99, 100, 101, 102] : List UInt8).getD n 0
def hexM (s : Str) : Str := s.flatMap fun b => [hexd (b.toNat / 16), hexd (b.toNat % 16)]
theorem l39_go {s o o' : Str} {i i' : Int} (h : L39_3_r s o i = some (.inl (s, o', i'))) : L39_3 (s, o, i) = L39_3 (s, o', i') :=
  lim_go (r := fun s : Str × Str × Int => L39_3_r s.1 s.2.1 s.2.2) (s := (s, o, i)) h
theorem l39_end {s o : Str} {i : Int} {x : Str × Str × Int} (h : L39_3_r s o i = some (.inr x)) : L39_3 (s, o, i) = some x :=
  lim_end (r := fun s : Str × Str × Int => L39_3_r s.1 s.2.1 s.2.2) (s := (s, o, i)) h
theorem hexd_cut {n : Nat} (h : n < 16) : cut ([48, 49, 50, 51, 52, 53, 54, 55, 56, 57, 97, 98, 99, 100, 101, 102] : List UInt8) (n : Int) ((n + 1 : Nat) : Int) = [hexd n] := by
  have : ∀ k : Fin 16, cut ([48, 49, 50, 51, 52, 53, 54, 55, 56, 57, 97, 98, 99, 100, 101, 102] : List UInt8) (k.1 : Int) ((k.1 + 1 : Nat) : Int) = [hexd k.1] := by decide +kernel
  exact this ⟨n, h⟩
theorem hex_loop {s : Str} (hs : s.length ≤ 1000) : ∀ k i o, i + k = s.length → o.length ≤ 2 * i → L39_3 (s, o, (i : Int)) = some (s, o ++ hexM (s.drop i), (s.length : Int))
  | 0, i, o, hi, ho => by
    have : i = s.length := by omega
    subst this
    refine l39_end ?_
    have e : decide ((s.length : Int) < (s.length : Int)) = false := by simp
    unfold L39_3_r
    simp only [e, cond_false]
    simp [hexM]
  | k + 1, i, o, hi, ho => by
    have h1 : i < s.length := by omega
    have e1 : decide ((i : Int) < (s.length : Int)) = true := by simp; omega
    have e3 : decide ((0 : Int) ≤ (i : Int)) = true := by simp
    have e4 : IntKind.i64.wrap ((i : Int) + 1) = ((i + 1 : Nat) : Int) := by rw [wrapI (by omega) (by omega)]; omega
    have g1 : s.getD i 0 = s[i] := by simp [List.getD_eq_getElem?_getD, h1]
    have hb : s[i].toNat < 256 := UInt8.toNat_lt _
    generalize hB : s[i].toNat = B at hb
    have q1 : IntKind.u8.wrap (Int.tdiv (B : Int) 16) = ((B / 16 : Nat) : Int) := by
      rw [show Int.tdiv (B : Int) 16 = ((B / 16 : Nat) : Int) from rfl]; exact wrap_u8 (by omega)
    have q2 : IntKind.u8.wrap (((B / 16 : Nat) : Int) + 1) = ((B / 16 + 1 : Nat) : Int) := by rw [show ((B / 16 : Nat) : Int) + 1 = ((B / 16 + 1 : Nat) : Int) by omega]; exact wrap_u8 (by omega)
    have q3 : Int.tmod (B : Int) 16 = ((B % 16 : Nat) : Int) := rfl
    have q4 : IntKind.u8.wrap (((B % 16 : Nat) : Int) + 1) = ((B % 16 + 1 : Nat) : Int) := by rw [show ((B % 16 : Nat) : Int) + 1 = ((B % 16 + 1 : Nat) : Int) by omega]; exact wrap_u8 (by omega)
    have t1 : sliceTest ((B / 16 : Nat) : Int) ((B / 16 + 1 : Nat) : Int) ((([48, 49, 50, 51, 52, 53, 54, 55, 56, 57, 97, 98, 99, 100, 101, 102] : List UInt8).length : Nat) : Int) = true := sliceT (by omega) (by simp; omega)
    have t2 : sliceTest ((B % 16 : Nat) : Int) ((B % 16 + 1 : Nat) : Int) ((([48, 49, 50, 51, 52, 53, 54, 55, 56, 57, 97, 98, 99, 100, 101, 102] : List UInt8).length : Nat) : Int) = true := sliceT (by omega) (by simp; omega)
    have c1 : decide (o.length + [hexd (B / 16)].length ≤ 9223372036854775807) = true := by simp; omega
    have c2 : decide ((o ++ [hexd (B / 16)]).length + [hexd (B % 16)].length ≤ 9223372036854775807) = true := by simp; omega
    have step : L39_3_r s o (i : Int) = some (.inl (s, o ++ [hexd (B / 16)] ++ [hexd (B % 16)], ((i + 1 : Nat) : Int))) := by
      unfold L39_3_r
      simp only [e1, e3, e4, g1, hB, Bool.and_self, cond_true, Int.toNat_natCast, q1, q2, q3, q4, t1, t2, hexd_cut (show B / 16 < 16 by omega), hexd_cut (show B % 16 < 16 by omega), c1, c2]
    rw [l39_go step, hex_loop hs k (i + 1) _ (by omega) (by simp; omega)]
    have d1 : s.drop i = s[i] :: s.drop (i + 1) := List.drop_eq_getElem_cons h1
    rw [d1, hexM, hexM, List.flatMap_cons, hB]
    simp only [List.append_assoc, List.singleton_append, List.cons_append, List.nil_append]
theorem G39_eq {s : Str} (hs : s.length ≤ 1000) : G39 s = some (hexM s) := by
  have h := hex_loop hs s.length 0 [] (by omega) (by simp)
  have h' : L39_3 (s, ([] : Str), (0 : Int)) = some (s, [] ++ hexM (s.drop 0), (s.length : Int)) := h
  unfold G39
  simp only [h', Option.bind_some, List.drop_zero, List.nil_append]
theorem P39_eq {s : Str} (hs : s.length ≤ 1000) : P39 s = true := P39_of _ (G39_eq hs)
theorem F39_eq {s : Str} (hs : s.length ≤ 1000) : F39 s = hexM s := F39_of _ (G39_eq hs)
end Go.Ev.D

namespace Go.Ev.D
open Go Go.Ev
theorem lft2 : lft 2 = 1 := by decide +kernel
theorem lft3 : lft 3 = 2 := by decide +kernel
theorem mroot_two (a b : Str) : mroot [a, b] = node (leaf a) (leaf b) := by
  rw [mroot_split (l := [a, b]) (Nat.le_refl 2), show [a, b].length = 2 from rfl, lft2]
  show node (mroot [a]) (mroot [b]) = _
  rw [mroot_one, mroot_one]
theorem mroot_three (a b c : Str) : mroot [a, b, c] = node (node (leaf a) (leaf b)) (leaf c) := by
  rw [mroot_split (l := [a, b, c]) (by simp), show [a, b, c].length = 3 from rfl, lft3]
  show node (mroot [a, b]) (mroot [c]) = _
  rw [mroot_two, mroot_one]
theorem proof3 (a b c : Str) : proofM [a, b, c] 2 = ([node (leaf a) (leaf b)], 0) := by
  unfold proofM
  rw [if_pos (by simp), show (2 : Int).toNat = 2 from rfl, mproof]
  simp only [show [a, b, c].length = 3 from rfl, lft3]
  rw [dif_pos (by omega), if_neg (by omega), show [a, b, c].drop 2 = [c] from rfl, show [a, b, c].take 2 = [a, b] from rfl, mproof, dif_neg (by simp), mroot_two]
  rfl
theorem proof3' (a b c : Str) : proofM [a, b, c] 3 = ([], 2) := by
  unfold proofM
  rw [if_neg (by simp)]
theorem ext3 (a b c : Str) : extM [a, b, c] 1 = ([leaf b, leaf c], 0) := by
  unfold extM
  rw [if_pos (by simp), if_neg (by omega), show (1 : Int).toNat = 1 from rfl, mpart]
  simp only [show [a, b, c].length = 3 from rfl, lft3]
  rw [dif_pos (by omega), if_pos (by omega), show [a, b, c].drop 2 = [c] from rfl, show [a, b, c].take 2 = [a, b] from rfl, mpart]
  simp only [show [a, b].length = 2 from rfl, lft2]
  rw [dif_pos (by omega), if_pos (by omega), show [a, b].drop 1 = [b] from rfl, show [a, b].take 1 = [a] from rfl, mpart, dif_neg (by simp), mroot_one, mroot_one, mroot_one]
  rfl
theorem ver3 (r s x : Str) (hx : isD x = true) : verM r 3 2 s [x] = (node x (leaf s) == r) := by
  unfold verM
  have hm : mval 3 2 s [x] = some (node x (leaf s), []) := by
    rw [mval]
    simp only [lft3]
    rw [if_neg (by omega), if_neg (by omega), mval, if_pos (by omega)]
    rfl
  have ha : allD [x] = true := by unfold allD; simp [hx]
  rw [ha, show (3 : Int).toNat = 3 from rfl, show (2 : Int).toNat = 2 from rfl, show [x].reverse = [x] from rfl, hm]
  rfl
theorem ext3v (o r x y : Str) (ho : isD o = true) (hr : isD r = true) (hx : isD x = true) (hy : isD y = true) : verE o 1 r 3 [x, y] = (o == o && node (node o x) y == r) := by
  unfold verE
  have hm : mboth o 1 3 [y, x] true = some (o, node (node o x) y) := by
    rw [mboth]
    simp only [lft3]
    rw [if_pos (by omega), if_pos (by omega), mboth]
    simp only [lft2]
    rw [if_pos (by omega), if_pos (by omega), mboth, if_neg (by omega)]
    rfl
  have ha : allD [x, y] = true := by unfold allD; simp [hx, hy]
  rw [ha, ho, hr, show (3 : Int).toNat = 3 from rfl, show (1 : Int).toNat = 1 from rfl, show [x, y].reverse = [y, x] from rfl, hm]
  rfl
theorem sha_a : (hexM (sha []) == ([101, 51, 98, 48, 99, 52, 52, 50, 57, 56, 102, 99, 49, 99, 49, 52, 57, 97, 102, 98, 102, 52, 99, 56, 57, 57, 54, 102, 98, 57, 50, 52, 50, 55, 97, 101, 52, 49, 101, 52, 54, 52, 57, 98, 57, 51, 52, 99, 97, 52, 57, 53, 57, 57, 49, 98, 55, 56, 53, 50, 98, 56, 53, 53] : List UInt8)) = true := by decide +kernel
theorem sha_b : (hexM (sha [97, 98, 99]) == ([98, 97, 55, 56, 49, 54, 98, 102, 56, 102, 48, 49, 99, 102, 101, 97, 52, 49, 52, 49, 52, 48, 100, 101, 53, 100, 97, 101, 50, 50, 50, 51, 98, 48, 48, 51, 54, 49, 97, 51, 57, 54, 49, 55, 55, 97, 57, 99, 98, 52, 49, 48, 102, 102, 54, 49, 102, 50, 48, 48, 49, 53, 97, 100] : List UInt8)) = true := by decide +kernel
theorem isD_sha (s : Str) : isD (sha s) = true := by unfold isD; rw [sha_len]; rfl
theorem isD_node (a b : Str) : isD (node a b) = true := isD_sha _
theorem isD_leaf (a : Str) : isD (leaf a) = true := isD_sha _
def kx : Str := node (leaf [97]) (leaf [98])
theorem known1 : (node kx (leaf [100]) == node kx (leaf [99])) = false := by decide +kernel
theorem known2 : (node (node kx (leaf [98])) (leaf [99]) == node kx (leaf [99])) = false := by decide +kernel
set_option maxRecDepth 100000 in
theorem G12_eq : G12 = some true := by
  have hl : Small [[97], [98], [99]] := ⟨by simp, by intro x hx; simp at hx; rcases hx with rfl | rfl | rfl <;> simp⟩
  have v1 : List.set (List.set (List.set (List.replicate 3 ([] : List UInt8)) 0 ([97] : List UInt8)) 1 ([98] : List UInt8)) 2 ([99] : List UInt8) = [[97], [98], [99]] := rfl
  have p14 := fun i => P14_of _ _ (G14_eq hl i)
  have f14 := fun i => F14_of _ _ (G14_eq hl i)
  have p16 := fun i => P16_of _ _ (G16_eq hl i)
  have f16 := fun i => F16_of _ _ (G16_eq hl i)
  have h0 : ([] : Str).length ≤ 1000000000 := by simp
  have h3 : ([97, 98, 99] : Str).length ≤ 1000000000 := by simp
  have hs : ∀ s, (sha s).length ≤ 1000 := fun s => by rw [sha_len]; omega
  have c1 : cut [[97], [98], [99]] (0 : Int) 1 = ([[97]] : List Str) := rfl
  have c2 : cut [[97], [98], [99]] (0 : Int) 2 = ([[97], [98]] : List Str) := rfl
  have t1 : sliceTest (0 : Int) 1 (([[97], [98], [99]] : List Str).length : Nat) = true := rfl
  have t2 : sliceTest (0 : Int) 2 (([[97], [98], [99]] : List Str).length : Nat) = true := rfl
  have p21 : ∀ (r s x : Str), s.length ≤ 100000 → P21 r 3 2 s [x] = true := fun r s x h => P21_eq (by omega) h (by simp)
  have f21 : ∀ (r s x : Str), s.length ≤ 100000 → F21 r 3 2 s [x] = verM r 3 2 s [x] := fun r s x h => F21_eq (by omega) h (by simp)
  have p23 : ∀ (r s x y : Str), P23 r 1 s 3 [x, y] = true := fun r s x y => P23_eq (by omega) (by simp)
  have f23 : ∀ (r s x y : Str), F23 r 1 s 3 [x, y] = verE r 1 s 3 [x, y] := fun r s x y => F23_eq (by omega) (by simp)
  have s1 : Small [[97]] := hl.take 1
  have s2 : Small [[97], [98]] := hl.take 2
  have k1 := known1
  have k2 := known2
  unfold kx at k1 k2
  have u1 : ([99] : Str).length ≤ 100000 := by simp
  have u2 : ([100] : Str).length ≤ 100000 := by simp
  unfold G12
  simp only [v1, List.take_length, p14, f14, p16, f16, cond_true, P19_eq hl, F19_eq hl, P30_eq h0, F30_eq h0, P30_eq h3, F30_eq h3, P39_eq (hs _), F39_eq (hs _), proof3, proof3', ext3, c1, c2, t1, t2, P19_eq s1, F19_eq s1, P19_eq s2, F19_eq s2, p21 _ _ _ u1, f21 _ _ _ u1, p21 _ _ _ u2, f21 _ _ _ u2, p23, f23, Bool.true_or, ver3 _ _ _ (isD_node _ _), ext3v _ _ _ _ (isD_leaf _) (isD_node _ _) (isD_leaf _) (isD_leaf _), ext3v _ _ _ _ (isD_node _ _) (isD_node _ _) (isD_leaf _) (isD_leaf _), sha_a, sha_b, mroot_three, mroot_two, mroot_one, k1, k2, beq_self_eq_true]
  rfl
theorem P12_eq : P12 = true := P12_of G12_eq
theorem F12_eq : F12 = true := F12_of G12_eq
end Go.Ev.D

namespace Go.Ev.D
open Go Go.Ev
theorem mval_one {n i : Nat} {s : Str} {rp : List Str} (h : n ≤ 1) : mval n i s rp = some (leaf s, rp) := by
  rw [mval.eq_def]; simp only [if_pos h]
theorem eqv_bool (a b : Bool) : eqv .bool a b = (a == b) := rfl
theorem i64_of {x : Int} (h : (Lit.int .i64 x).wf = true) : -9223372036854775808 ≤ x ∧ x ≤ 9223372036854775807 := by
  simp [Lit.wf, IntKind.min, IntKind.max, IntKind.signed, IntKind.bits] at h
  omega
end Go.Ev.D

namespace Go.Ev.D
open Go Go.Ev
theorem mboth_base {old : Str} {m n : Nat} {rp : List Str} {w : Bool} (h : ¬ m < n) : mboth old m n rp w = base2 old rp w := by
  rw [mboth.eq_def]; simp only [if_neg h]
end Go.Ev.D

namespace Go.Ev.D
open Go Go.Ev
/-! ### The way of a proof -/
end Go.Ev.D

namespace Go.Ev.D
open Go Go.Ev
end Go.Ev.D

namespace Go.Ev.D
open Go Go.Ev
end Go.Ev.D

namespace Go.Ev.D
open Go Go.Proofs Go.Ev
theorem globs_of_laid {W : World} (h : laidMetH Tryd.prog [("newswire/digest.round", Go.Proofs.YtockaglkljgnhaaDoor.Rows.laid_newswire_digest_round)] W) : GlobR glob (fun b => b < W.heap.size) W := by
  rw [MakeChecks.laidMetH_plain _ _ _ (by kernel_rfl)] at h
  obtain ⟨ps, ⟨g, t, cs, fuel, p, q, hg, ht, hv, hd, _, _⟩, _, _⟩ := h
  obtain rfl := Option.some.inj ((show Tryd.prog.globalNamed "newswire/digest.round" = some 0 by kernel_rfl).symm.trans hg)
  obtain rfl := Option.some.inj ((show (Tryd.prog.globals[0]?).map (·.type) = some 88 by kernel_rfl).symm.trans ht)
  obtain ⟨xs, m, _, ex, _, hl, hel⟩ := DataW.trod_array Tryd.underlying88 hd
  have c5 : Tryd.prog.cellsOf 69 = 1 := by kernel_rfl
  have hcell : ∀ r, r < 64 → W.cell? ⟨0, r, none⟩ = some (.int .u32 (roundK.getD r 0)) := fun r hr => by
    have hE := hel r hr
    rw [c5, Nat.mul_one, List.getElem?_eq_getElem (by omega)] at hE
    obtain ⟨z, e1, e2, _⟩ := DataW.trod_int Tryd.underlying69 hE
    have e3 : (xs.map (·.1)) = roundK.map fun n => .lit (.int .u32 n) := (DataW.agg.inj (Prod.mk.inj ex).1).symm
    have e4 : (xs.map (·.1))[r]? = (roundK.map fun n => (DataW.lit (.int .u32 n) : DataW Unit))[r]? := by rw [e3]
    have hlen : roundK.length = 64 := rfl
    rw [List.getElem?_map, List.getElem?_map, List.getElem?_eq_getElem (by omega : r < xs.length), List.getElem?_eq_getElem (by omega : r < roundK.length), e2] at e4
    have hz : z = roundK.getD r 0 := by
      simp only [Option.map_some, Option.some.injEq, DataW.lit.injEq, Lit.int.injEq, true_and] at e4
      rw [e4, List.getD, List.getElem?_eq_getElem (by omega : r < roundK.length)]; rfl
    rw [World.var?_cell hg hv r, ← hz]
    have : cs.toList[r]? = some (.int .u32 z) := by
      have h0 : ((cs.toList.drop r).take 1)[0]? = some (.int .u32 z) := by rw [e1]; rfl
      simpa using h0
    simpa using this
  intro k d hk
  match k, hk with
  | 0, hk =>
    cases hk
    refine ⟨roundK.map fun n => Value.int .u32 n, ⟨rfl, rows_ints _⟩, fun _ => ?_, fun j hj => ?_⟩
    · have := hcell 0 (by omega)
      cases hb : W.heap[0]? with
      | none => simp [World.cell?, hb] at this
      | some o => exact (Array.getElem?_eq_some_iff.1 hb).1
    · have hj' : j < 64 := by rw [List.length_map] at hj; exact hj
      rw [Nat.zero_add, hcell j hj']
      have hlen : roundK.length = 64 := rfl
      simp [List.getD_eq_getElem?_getD, List.getElem?_eq_getElem (by omega : j < roundK.length)]
  | _ + 1, hk => simp [glob] at hk
end Go.Ev.D

namespace Go.Ev.D
open Go Go.Ev
/-! ### The rounds' parts -/
theorem rr (x p q : Int) : or32 (Int.fdiv x p) (w32 (x * q)) = rot x p q := or32_comm _ _
theorem x7 (x : Int) : G69 x 7 = some (rot x 128 33554432) := (show G69 x 7 = some (or32 (Int.fdiv x 128) (w32 (x * 33554432))) by kernel_rfl).trans (congrArg some (rr _ _ _))
theorem x18 (x : Int) : G69 x 18 = some (rot x 262144 16384) := (show G69 x 18 = some (or32 (Int.fdiv x 262144) (w32 (x * 16384))) by kernel_rfl).trans (congrArg some (rr _ _ _))
theorem x17 (x : Int) : G69 x 17 = some (rot x 131072 32768) := (show G69 x 17 = some (or32 (Int.fdiv x 131072) (w32 (x * 32768))) by kernel_rfl).trans (congrArg some (rr _ _ _))
theorem x19 (x : Int) : G69 x 19 = some (rot x 524288 8192) := (show G69 x 19 = some (or32 (Int.fdiv x 524288) (w32 (x * 8192))) by kernel_rfl).trans (congrArg some (rr _ _ _))
theorem x6 (x : Int) : G69 x 6 = some (rot x 64 67108864) := (show G69 x 6 = some (or32 (Int.fdiv x 64) (w32 (x * 67108864))) by kernel_rfl).trans (congrArg some (rr _ _ _))
theorem x11 (x : Int) : G69 x 11 = some (rot x 2048 2097152) := (show G69 x 11 = some (or32 (Int.fdiv x 2048) (w32 (x * 2097152))) by kernel_rfl).trans (congrArg some (rr _ _ _))
theorem x25 (x : Int) : G69 x 25 = some (rot x 33554432 128) := (show G69 x 25 = some (or32 (Int.fdiv x 33554432) (w32 (x * 128))) by kernel_rfl).trans (congrArg some (rr _ _ _))
theorem x2 (x : Int) : G69 x 2 = some (rot x 4 1073741824) := (show G69 x 2 = some (or32 (Int.fdiv x 4) (w32 (x * 1073741824))) by kernel_rfl).trans (congrArg some (rr _ _ _))
theorem x13 (x : Int) : G69 x 13 = some (rot x 8192 524288) := (show G69 x 13 = some (or32 (Int.fdiv x 8192) (w32 (x * 524288))) by kernel_rfl).trans (congrArg some (rr _ _ _))
theorem x22 (x : Int) : G69 x 22 = some (rot x 4194304 1024) := (show G69 x 22 = some (or32 (Int.fdiv x 4194304) (w32 (x * 1024))) by kernel_rfl).trans (congrArg some (rr _ _ _))
theorem G70_eq : G70 = some roundK := by kernel_rfl
theorem P70_eq : P70 = true := P70_of G70_eq
theorem F70_eq : F70 = roundK := F70_of G70_eq
/-! ### Words -/
theorem rw_go {h b out : List Int} (hb : b.length = 64) {i : Nat} (hi : i < 16) (ho : out.length ≤ 1000) : L58_3_r h b out (i : Int) = some (.inl (h, b, out ++ [word b i], ((i + 1 : Nat) : Int))) := by
  have t1 : decide ((i : Int) < 16) = true := by simp; omega
  have e0 : IntKind.i64.wrap (4 * (i : Int)) = ((4 * i : Nat) : Int) := by rw [wrapI (by omega) (by omega)]; omega
  have e1 : IntKind.i64.wrap (((4 * i : Nat) : Int) + 1) = ((4 * i + 1 : Nat) : Int) := by rw [wrapI (by omega) (by omega)]; omega
  have e2 : IntKind.i64.wrap (((4 * i : Nat) : Int) + 2) = ((4 * i + 2 : Nat) : Int) := by rw [wrapI (by omega) (by omega)]; omega
  have e3 : IntKind.i64.wrap (((4 * i : Nat) : Int) + 3) = ((4 * i + 3 : Nat) : Int) := by rw [wrapI (by omega) (by omega)]; omega
  have t : ∀ k : Nat, k < 64 → (decide (0 ≤ (k : Int)) && decide ((k : Int) < (b.length : Int))) = true := fun k hk => by simp; omega
  have e4 : IntKind.i64.wrap ((i : Int) + 1) = ((i + 1 : Nat) : Int) := by rw [wrapI (by omega) (by omega)]; omega
  have p1 : (2 ^ min (Int.toNat (24 : Int)) (IntKind.u32.bits) : Int) = 16777216 := rfl
  have p2 : (2 ^ min (Int.toNat (16 : Int)) (IntKind.u32.bits) : Int) = 65536 := rfl
  have p3 : (2 ^ min (Int.toNat (8 : Int)) (IntKind.u32.bits) : Int) = 256 := rfl
  have s1 : ∀ x : Int, List.set (List.replicate 1 (0 : Int)) 0 x = [x] := fun _ => rfl
  have f1 : ∀ x : Int, decide (out.length + [x].length ≤ 100000000000) = true := fun x => by simp; omega
  unfold L58_3_r
  simp only [t1, e0, e1, e2, e3, t _ (show 4 * i < 64 by omega), t _ (show 4 * i + 1 < 64 by omega), t _ (show 4 * i + 2 < 64 by omega), t _ (show 4 * i + 3 < 64 by omega), e4, p1, p2, p3, cond_true, Int.toNat_natCast, s1, f1, List.take_length]
  rfl
theorem rw_end {h b out : List Int} : L58_3_r h b out ((16 : Nat) : Int) = some (.inr (h, b, out, ((16 : Nat) : Int))) := by unfold L58_3_r; rfl
theorem rw_loop {h b : List Int} (hb : b.length = 64) : L58_3 (h, b, [], 0) = some (h, b, (wordsOf b 16).reverse, 16) := by
  unfold L58_3
  have := lim_inv (r := fun s : List Int × List Int × List Int × Int => L58_3_r s.1 s.2.1 s.2.2.1 s.2.2.2) (fun i => (h, b, (wordsOf b i).reverse, ((i : Nat) : Int))) (h, b, (wordsOf b 16).reverse, ((16 : Nat) : Int)) 16 (fun i hi => by
    show L58_3_r h b _ (i : Int) = _
    rw [rw_go hb hi (by simp [wordsOf_len]; omega), wordsOf, fz_eq, List.reverse_cons]) rw_end 0 (by omega)
  exact this
theorem rm_go {h r : List Int} {i : Nat} (hr : r.length = i) (h1 : 16 ≤ i) (hi : i < 64) : L58_7_r h r.reverse (i : Int) = some (.inl (h, (nextW r :: r).reverse, ((i + 1 : Nat) : Int))) := by
  have t1 : decide ((i : Int) < 64) = true := by simp; omega
  have e : ∀ k : Nat, 1 ≤ k → k ≤ 16 → IntKind.i64.wrap ((i : Int) - (k : Int)) = ((i - k : Nat) : Int) := fun k h2 h3 => by rw [wrapI (by omega) (by omega)]; omega
  have e15 := e 15 (by omega) (by omega)
  have e2 := e 2 (by omega) (by omega)
  have e16 := e 16 (by omega) (by omega)
  have e7 := e 7 (by omega) (by omega)
  have hl : r.reverse.length = i := by simp; omega
  have q : ∀ k : Nat, 1 ≤ k → k ≤ i → (decide (0 ≤ ((i - k : Nat) : Int)) && decide (((i - k : Nat) : Int) < ((r.reverse.length : Nat) : Int))) = true := fun k h2 h3 => by rw [hl]; simp; omega
  have q' : ∀ k : Nat, 1 ≤ k → k ≤ i → decide (i - k < r.reverse.length) = true := fun k h2 h3 => by rw [hl]; simp; omega
  have d : ∀ k : Nat, 1 ≤ k → k ≤ i → r.reverse.getD (i - k) 0 = r.getD (k - 1) 0 := fun k h2 h3 => by
    have := getD_rev r [] (k - 1) (0 : Int) (by omega)
    rw [List.append_nil] at this
    rw [← this]; congr 1; omega
  have e4 : IntKind.i64.wrap ((i : Int) + 1) = ((i + 1 : Nat) : Int) := by rw [wrapI (by omega) (by omega)]; omega
  have p1 : (2 ^ min (Int.toNat (3 : Int)) (IntKind.u32.bits) : Int) = 8 := rfl
  have p2 : (2 ^ min (Int.toNat (10 : Int)) (IntKind.u32.bits) : Int) = 1024 := rfl
  have c15 : ((15 : Nat) : Int) = 15 := rfl
  have c2 : ((2 : Nat) : Int) = 2 := rfl
  have c16 : ((16 : Nat) : Int) = 16 := rfl
  have c7 : ((7 : Nat) : Int) = 7 := rfl
  rw [c15] at e15; rw [c2] at e2; rw [c16] at e16; rw [c7] at e7
  have s1 : ∀ x : Int, List.set (List.replicate 1 (0 : Int)) 0 x = [x] := fun _ => rfl
  have f1 : ∀ x : Int, decide (r.reverse.length + [x].length ≤ 100000000000) = true := fun x => by rw [hl]; simp; omega
  rw [List.reverse_cons]
  unfold L58_7_r
  simp only [t1, e15, e2, e16, e7, Int.toNat_natCast, q 15 (by omega) (by omega), q 2 (by omega) (by omega), q 16 (by omega) (by omega), q 7 (by omega) (by omega), q' 15 (by omega) (by omega), q' 2 (by omega) (by omega), q' 16 (by omega) (by omega), q' 7 (by omega) (by omega),
    d 15 (by omega) (by omega), d 2 (by omega) (by omega), d 16 (by omega) (by omega), d 7 (by omega) (by omega), e4, p1, p2, P69_of _ _ (x7 _), F69_of _ _ (x7 _), P69_of _ _ (x18 _), F69_of _ _ (x18 _), P69_of _ _ (x17 _), F69_of _ _ (x17 _), P69_of _ _ (x19 _), F69_of _ _ (x19 _), cond_true, s1, f1, List.take_length]
  have hx : nextW r = w32 (w32 (w32 (r.getD 15 0 + sig0 (r.getD 14 0)) + r.getD 6 0) + sig1 (r.getD 1 0)) := rfl
  rw [hx]
  rfl
theorem rm_end {h r : List Int} : L58_7_r h r ((64 : Nat) : Int) = some (.inr (h, r, ((64 : Nat) : Int))) := by unfold L58_7_r; rfl
theorem rm_loop {h b : List Int} : L58_7 (h, (wordsOf b 16).reverse, 16) = some (h, sched b, 64) := by
  unfold L58_7
  have := lim_inv (r := fun s : List Int × List Int × Int => L58_7_r s.1 s.2.1 s.2.2) (fun i => (h, (extW i (wordsOf b 16)).reverse, ((16 + i : Nat) : Int))) (h, sched b, ((64 : Nat) : Int)) 48 (fun i hi => by
    show L58_7_r h _ ((16 + i : Nat) : Int) = _
    have hl : (extW i (wordsOf b 16)).length = 16 + i := by rw [extW_len, wordsOf_len]; omega
    rw [rm_go hl (by omega) (by omega), extW_succ]
    rfl) (by
    show L58_7_r h _ ((64 : Nat) : Int) = _
    rw [rm_end]; rfl) 0 (by omega)
  exact this
/-! ### Rounds -/
theorem rround_go {h0 w v : List Int} (hv : v.length = 8) (hw : w.length = 64) {i : Nat} (hi : i < 64) :
    L58_16_r h0 w roundK v (i : Int) = some (.inl (h0, w, roundK, stepC v (roundK.getD i 0, w.getD i 0), ((i + 1 : Nat) : Int))) := by
  obtain ⟨a, b, c, d, e, f, g, h, rfl⟩ := eight hv
  have t0 : decide ((i : Int) < 64) = true := by simp; omega
  have tk : (decide (0 ≤ (i : Int)) && decide ((i : Int) < ((roundK.length : Nat) : Int))) = true := by rw [roundK_len]; simp; omega
  have tw : (decide (0 ≤ (i : Int)) && decide ((i : Int) < ((w.length : Nat) : Int))) = true := by rw [hw]; simp; omega
  have t2 : decide (i < w.length) = true := by rw [hw]; simp; omega
  have t3 : IntKind.i64.wrap ((i : Int) + 1) = ((i + 1 : Nat) : Int) := by rw [wrapI (by omega) (by omega)]; omega
  unfold L58_16_r
  simp only [t0, tk, tw, Int.toNat_natCast, t2, t3, cond_true, P69_of _ _ (x6 _), F69_of _ _ (x6 _), P69_of _ _ (x11 _), F69_of _ _ (x11 _), P69_of _ _ (x25 _), F69_of _ _ (x25 _), P69_of _ _ (x2 _), F69_of _ _ (x2 _), P69_of _ _ (x13 _), F69_of _ _ (x13 _), P69_of _ _ (x22 _), F69_of _ _ (x22 _)]
  generalize roundK.getD i 0 = k
  generalize w.getD i 0 = q
  generalize ((i + 1 : Nat) : Int) = j
  change _ = _
  kernel_rfl
theorem rround_end {h0 w v : List Int} : L58_16_r h0 w roundK v ((64 : Nat) : Int) = some (.inr (h0, w, roundK, v, ((64 : Nat) : Int))) := by unfold L58_16_r; rfl
theorem rrounds {h0 w v : List Int} (hv : v.length = 8) (hw : w.length = 64) : L58_16 (h0, w, roundK, v, 0) = some (h0, w, roundK, (roundK.zip w).foldl stepC v, 64) := by
  have hz : (roundK.zip w).length = 64 := by simp [roundK_len, hw]
  have := lim_inv (r := fun s : List Int × List Int × List Int × List Int × Int => L58_16_r s.1 s.2.1 s.2.2.1 s.2.2.2.1 s.2.2.2.2) (fun i => (h0, w, roundK, ((roundK.zip w).take i).foldl stepC v, ((i : Nat) : Int))) (h0, w, roundK, (roundK.zip w).foldl stepC v, ((64 : Nat) : Int)) 64 (fun i hi => by
    show L58_16_r h0 w roundK _ (i : Int) = _
    rw [rround_go (foldC_len _ hv) hw hi, zip_take_succ roundK w i 0 0 (by rw [roundK_len]; exact hi) (by omega), List.foldl_append]
    rfl) (by
    show L58_16_r h0 w roundK _ ((64 : Nat) : Int) = _
    rw [rround_end, List.take_of_length_le (by omega)]) 0 (by omega)
  exact this
theorem radd_loop {hh v : List Int} (h1 : hh.length = 8) (h2 : v.length = 8) : L58_25 (hh, v, [], 0) = some (hh, v, addAll hh v, 8) := by
  obtain ⟨a, b, c, d, e, f, g, h, rfl⟩ := eight h1
  obtain ⟨a', b', c', d', e', f', g', h', rfl⟩ := eight h2
  rw [addAll8]
  unfold L58_25
  have s8 : ∀ x, L58_25_r [a, b, c, d, e, f, g, h] [a', b', c', d', e', f', g', h'] x 8 = some (.inr ([a, b, c, d, e, f, g, h], [a', b', c', d', e', f', g', h'], x, 8)) := fun x => by kernel_rfl
  have s0 : L58_25_r [a, b, c, d, e, f, g, h] [a', b', c', d', e', f', g', h'] [] 0 = some (.inl ([a, b, c, d, e, f, g, h], [a', b', c', d', e', f', g', h'], [w32 (a + a')], 1)) := by kernel_rfl
  have s1 : ∀ x, L58_25_r [a, b, c, d, e, f, g, h] [a', b', c', d', e', f', g', h'] [x] 1 = some (.inl ([a, b, c, d, e, f, g, h], [a', b', c', d', e', f', g', h'], [x, w32 (b + b')], 2)) := fun x => by kernel_rfl
  have s2 : ∀ x y, L58_25_r [a, b, c, d, e, f, g, h] [a', b', c', d', e', f', g', h'] [x, y] 2 = some (.inl ([a, b, c, d, e, f, g, h], [a', b', c', d', e', f', g', h'], [x, y, w32 (c + c')], 3)) := fun x y => by kernel_rfl
  have s3 : ∀ x y z, L58_25_r [a, b, c, d, e, f, g, h] [a', b', c', d', e', f', g', h'] [x, y, z] 3 = some (.inl ([a, b, c, d, e, f, g, h], [a', b', c', d', e', f', g', h'], [x, y, z, w32 (d + d')], 4)) := fun x y z => by kernel_rfl
  have s4 : ∀ x y z u, L58_25_r [a, b, c, d, e, f, g, h] [a', b', c', d', e', f', g', h'] [x, y, z, u] 4 = some (.inl ([a, b, c, d, e, f, g, h], [a', b', c', d', e', f', g', h'], [x, y, z, u, w32 (e + e')], 5)) := fun x y z u => by kernel_rfl
  have s5 : ∀ x y z u t, L58_25_r [a, b, c, d, e, f, g, h] [a', b', c', d', e', f', g', h'] [x, y, z, u, t] 5 = some (.inl ([a, b, c, d, e, f, g, h], [a', b', c', d', e', f', g', h'], [x, y, z, u, t, w32 (f + f')], 6)) := fun x y z u t => by kernel_rfl
  have s6 : ∀ x y z u t s, L58_25_r [a, b, c, d, e, f, g, h] [a', b', c', d', e', f', g', h'] [x, y, z, u, t, s] 6 = some (.inl ([a, b, c, d, e, f, g, h], [a', b', c', d', e', f', g', h'], [x, y, z, u, t, s, w32 (g + g')], 7)) := fun x y z u t s => by kernel_rfl
  have s7 : ∀ x y z u t s r, L58_25_r [a, b, c, d, e, f, g, h] [a', b', c', d', e', f', g', h'] [x, y, z, u, t, s, r] 7 = some (.inl ([a, b, c, d, e, f, g, h], [a', b', c', d', e', f', g', h'], [x, y, z, u, t, s, r, w32 (h + h')], 8)) := fun x y z u t s r => by kernel_rfl
  rw [lim_go s0, lim_go (s1 _), lim_go (s2 _ _), lim_go (s3 _ _ _), lim_go (s4 _ _ _ _), lim_go (s5 _ _ _ _ _), lim_go (s6 _ _ _ _ _ _), lim_go (s7 _ _ _ _ _ _ _), lim_end (s8 _)]
theorem G58_eq {b h : List Int} (hb : b.length = 64) (hh : h.length = 8) : G58 h b = some (block h b) := by
  have z2 : (List.take ([] : List Int).length ([] : List Int)) = [] := rfl
  have f0 : decide (([] : List Int).length + h.length ≤ 100000000000) = true := by simp; omega
  unfold G58
  simp only [rw_loop hb, Option.bind_some, rm_loop, P70_eq, F70_eq, cond_true, z2, f0, List.nil_append, rrounds hh (sched_len b), radd_loop hh (foldC_len _ hh), List.take_length, block_eq hh]
theorem P58_eq {b h : List Int} (hb : b.length = 64) (hh : h.length = 8) : P58 h b = true := P58_of _ _ (G58_eq hb hh)
theorem F58_eq {b h : List Int} (hb : b.length = 64) (hh : h.length = 8) : F58 h b = block h b := F58_of _ _ (G58_eq hb hh)
/-! ### What is added -/
theorem rc_go {s : Str} {i : Nat} (hi : i < s.length) (hs : s.length ≤ 1000000000) : L57_3_r s (bytesI (s.take i)) (i : Int) = some (.inl (s, bytesI (s.take (i + 1)), ((i + 1 : Nat) : Int))) := by
  have e1 : decide ((i : Int) < (s.length : Int)) = true := by simp; omega
  have e3 : decide ((0 : Int) ≤ (i : Int)) = true := by simp
  have e4 : IntKind.i64.wrap ((i : Int) + 1) = ((i + 1 : Nat) : Int) := by rw [wrapI (by omega) (by omega)]; omega
  have g1 : s.getD i 0 = s[i] := by simp [List.getD_eq_getElem?_getD, hi]
  have s1 : ∀ x : Int, List.set (List.replicate 1 (0 : Int)) 0 x = [x] := fun _ => rfl
  have f1 : ∀ x : Int, decide ((bytesI (s.take i)).length + [x].length ≤ 100000000000) = true := fun x => by simp [bytesI]; omega
  have e7 : bytesI (s.take i) ++ [(s[i].toNat : Int)] = bytesI (s.take (i + 1)) := by
    unfold bytesI; rw [List.take_add_one (l := s) (i := i), List.getElem?_eq_getElem hi, List.map_append]; rfl
  unfold L57_3_r
  simp only [e1, e3, e4, g1, Bool.and_self, cond_true, Int.toNat_natCast, s1, f1, List.take_length, e7]
theorem rc_end {s : Str} {b : List Int} : L57_3_r s b (s.length : Int) = some (.inr (s, b, (s.length : Int))) := by
  have e : decide ((s.length : Int) < (s.length : Int)) = false := by simp
  unfold L57_3_r
  simp only [e, cond_false]
theorem rc_loop {s : Str} (hs : s.length ≤ 1000000000) : L57_3 (s, [], 0) = some (s, bytesI s, (s.length : Int)) := by
  unfold L57_3
  have := lim_inv (r := fun s : Str × List Int × Int => L57_3_r s.1 s.2.1 s.2.2) (fun i => (s, bytesI (s.take i), ((i : Nat) : Int))) (s, bytesI s, (s.length : Int)) s.length (fun i hi => rc_go hi hs) (by
    show L57_3_r s (bytesI (s.take s.length)) (s.length : Int) = _
    rw [rc_end, List.take_length]) 0 (by omega)
  exact this
theorem rp_go {s : List UInt8} {b : List Int} (h : b.length % 64 ≠ 56) (hb : b.length ≤ 10000000000) : L57_7_r s b = some (.inl (s, b ++ [0])) := by
  have e1 : Int.tmod ((b.length : Nat) : Int) 64 = ((b.length % 64 : Nat) : Int) := rfl
  have e2 : (((b.length % 64 : Nat) : Int) != 56) = true := by simp; omega
  have e3 : List.set (List.replicate 1 (0 : Int)) 0 (0 : Int) = [0] := rfl
  have e4 : decide (b.length + [(0 : Int)].length ≤ 100000000000) = true := by simp; omega
  unfold L57_7_r
  simp only [e1, e2, e3, List.take_length, e4, cond_true]
theorem rp_end {s : List UInt8} {b : List Int} (h : b.length % 64 = 56) : L57_7_r s b = some (.inr (s, b)) := by
  have e1 : Int.tmod ((b.length : Nat) : Int) 64 = ((b.length % 64 : Nat) : Int) := rfl
  have e2 : (((b.length % 64 : Nat) : Int) != 56) = false := by rw [h]; rfl
  unfold L57_7_r
  simp only [e1, e2, cond_false]
theorem rp_loop {s : List UInt8} {b : List Int} {n : Nat} (hb : b.length = n + 1) (hn : n ≤ 1000000000) : L57_7 (s, b) = some (s, b ++ List.replicate (padZ n) 0) := by
  have hp : padZ n < 64 := by unfold padZ; omega
  have hp2 : (n + 1 + padZ n) % 64 = 56 := by unfold padZ; omega
  have hp3 : ∀ k, k < padZ n → (n + 1 + k) % 64 ≠ 56 := fun k hk => by unfold padZ at hk; omega
  have := lim_inv (r := fun t : List UInt8 × List Int => L57_7_r t.1 t.2) (fun i => (s, b ++ List.replicate i 0)) (s, b ++ List.replicate (padZ n) 0) (padZ n) (fun i hi => by
    show L57_7_r s (b ++ List.replicate i 0) = _
    rw [rp_go (by rw [List.length_append, List.length_replicate, hb]; exact hp3 i hi) (by simp; omega), List.append_assoc, ← List.replicate_succ']) (by
    show L57_7_r s (b ++ List.replicate (padZ n) 0) = _
    rw [rp_end (by rw [List.length_append, List.length_replicate, hb]; exact hp2)]) 0 (by omega)
  simpa [L57_7] using this
theorem rl_go {s : List UInt8} {b : List Int} {i : Nat} (hi : i < 8) (hs : s.length ≤ 1000000000) (hb : b.length ≤ 10000000000) : L57_10_r s b (i : Int) = some (.inl (s, b ++ [lenB s.length i], (i : Int) - 1)) := by
  have e0 : decide ((i : Int) ≥ 0) = true := by simp
  have e1 : IntKind.i64.wrap (8 * ((s.length : Nat) : Int)) = 8 * (s.length : Int) := wrapI (by omega) (by omega)
  have e2 : IntKind.i64.wrap (8 * (i : Int)) = ((8 * i : Nat) : Int) := by rw [wrapI (by omega) (by omega)]; omega
  have e3 : decide (0 ≤ ((8 * i : Nat) : Int)) = true := by simp; omega
  have e4 : (2 ^ min (8 * i) (IntKind.i64.bits) : Int) = 2 ^ (8 * i) := by rw [Nat.min_eq_left (by simp [IntKind.bits]; omega)]
  have e5 : ∀ x : Int, List.set (List.replicate 1 (0 : Int)) 0 x = [x] := fun _ => rfl
  have e6 : ∀ x : Int, decide (b.length + [x].length ≤ 100000000000) = true := fun x => by simp; omega
  have e7 : IntKind.i64.wrap ((i : Int) - 1) = (i : Int) - 1 := wrapI (by omega) (by omega)
  unfold L57_10_r
  simp only [e0, e1, e2, e3, Int.toNat_natCast, e4, e5, List.take_length, e6, e7, cond_true]
  rfl
theorem rl_end {s : List UInt8} {b : List Int} : L57_10_r s b (-1) = some (.inr (s, b, -1)) := by unfold L57_10_r; rfl
theorem rl_loop {s : List UInt8} {b : List Int} (hs : s.length ≤ 1000000000) (hb : b.length ≤ 1000001000) : L57_10 (s, b, 7) = some (s, b ++ [lenB s.length 7, lenB s.length 6, lenB s.length 5, lenB s.length 4, lenB s.length 3, lenB s.length 2, lenB s.length 1, lenB s.length 0], -1) := by
  unfold L57_10
  rw [lim_go (rl_go (i := 7) (by omega) hs (by simp; omega)), lim_go (rl_go (i := 6) (by omega) hs (by simp; omega)), lim_go (rl_go (i := 5) (by omega) hs (by simp; omega)), lim_go (rl_go (i := 4) (by omega) hs (by simp; omega)), lim_go (rl_go (i := 3) (by omega) hs (by simp; omega)), lim_go (rl_go (i := 2) (by omega) hs (by simp; omega)), lim_go (rl_go (i := 1) (by omega) hs (by simp; omega)), lim_go (rl_go (i := 0) (by omega) hs (by simp; omega)), lim_end rl_end]
  simp
theorem G57_eq {s : Str} (hs : s.length ≤ 1000000000) : G57 s = some (padded s) := by
  have e2 : List.set (List.replicate 1 (0 : Int)) 0 (128 : Int) = [128] := rfl
  have e3 : decide ((bytesI s).length + [(128 : Int)].length ≤ 100000000000) = true := by simp [bytesI]; omega
  have hl := rp_loop (s := s) (b := bytesI s ++ [128]) (n := s.length) (by simp [bytesI]) hs
  have hp : padZ s.length < 64 := by unfold padZ; omega
  have hl2 := rl_loop (s := s) (b := bytesI s ++ [128] ++ List.replicate (padZ s.length) 0) hs (by simp [bytesI]; omega)
  have hpad : bytesI s ++ [128] ++ List.replicate (padZ s.length) 0 ++ [lenB s.length 7, lenB s.length 6, lenB s.length 5, lenB s.length 4, lenB s.length 3, lenB s.length 2, lenB s.length 1, lenB s.length 0] = padded s := by simp [padded, bytesI]
  rw [hpad] at hl2
  unfold G57
  simp only [rc_loop hs, Option.bind_some, e2, List.take_length, e3, cond_true, hl, hl2]
theorem P57_eq {s : Str} (hs : s.length ≤ 1000000000) : P57 s = true := P57_of _ (G57_eq hs)
theorem F57_eq {s : Str} (hs : s.length ≤ 1000000000) : F57 s = padded s := F57_of _ (G57_eq hs)
/-! ### The sum -/
theorem blocks_len : ∀ (n : Nat) (h b : List Int), b.length = 64 * n → h.length = 8 → (blocks n h b).length = 8
  | 0, h, b, _, hh => hh
  | n + 1, h, b, hb, hh => by
    rw [blocks]
    exact blocks_len n _ _ (by simp; omega) (block_len hh _)
theorem rs_loop : ∀ (n : Nat) (h b : List Int) (i : Nat), b.length = 64 * (i + n) → b.length ≤ 10000000000 → h.length = 8 → L33_4 (h, b, ((64 * i : Nat) : Int)) = some (blocks n h (b.drop (64 * i)), b, (b.length : Int))
  | 0, h, b, i, hb, hm, hh => by
    have e : decide (((64 * i : Nat) : Int) < (b.length : Int)) = false := by simp only [decide_eq_false_iff_not]; omega
    have hi : ((64 * i : Nat) : Int) = (b.length : Int) := by omega
    unfold L33_4
    rw [lim_end (r := fun s : List Int × List Int × Int => L33_4_r s.1 s.2.1 s.2.2) (s := (h, b, ((64 * i : Nat) : Int))) (x := (h, b, ((64 * i : Nat) : Int))) (by
      show L33_4_r h b ((64 * i : Nat) : Int) = _
      unfold L33_4_r
      simp only [e, cond_false]), hi]
    rfl
  | n + 1, h, b, i, hb, hm, hh => by
    have e1 : decide (((64 * i : Nat) : Int) < (b.length : Int)) = true := by simp only [decide_eq_true_eq]; omega
    have e2 : IntKind.i64.wrap (((64 * i : Nat) : Int) + 64) = ((64 * (i + 1) : Nat) : Int) := by rw [wrapI (by omega) (by omega)]; omega
    have e3 : sliceTest ((64 * i : Nat) : Int) ((64 * (i + 1) : Nat) : Int) (b.length : Int) = true := sliceT (by omega) (by omega)
    have hc : cut b ((64 * i : Nat) : Int) ((64 * (i + 1) : Nat) : Int) = (b.drop (64 * i)).take 64 := by
      rw [cut_eq, List.drop_take]
      congr 1; omega
    have hcl : ((b.drop (64 * i)).take 64).length = 64 := by simp; omega
    have step : L33_4_r h b ((64 * i : Nat) : Int) = some (.inl (block h ((b.drop (64 * i)).take 64), b, ((64 * (i + 1) : Nat) : Int))) := by
      unfold L33_4_r
      simp only [e1, e2, e3, cond_true, hc, P58_eq hcl hh, F58_eq hcl hh]
    have ih := rs_loop n (block h ((b.drop (64 * i)).take 64)) b (i + 1) (by omega) hm (block_len hh _)
    unfold L33_4 at ih ⊢
    rw [lim_go (r := fun s : List Int × List Int × Int => L33_4_r s.1 s.2.1 s.2.2) (s := (h, b, ((64 * i : Nat) : Int))) step, ih, blocks, List.drop_drop]
    rfl
theorem ro_loop (a b c d e f g h : Int) : L33_9 ([a, b, c, d, e, f, g, h], [], 0) = some ([a, b, c, d, e, f, g, h], [a, b, c, d, e, f, g, h].flatMap (fun x => [byteI x 0, byteI x 1, byteI x 2, byteI x 3]), 8) := by
  have st : ∀ (i : Nat) (o : List Int), i < 8 → o.length ≤ 100 → L33_9_r [a, b, c, d, e, f, g, h] o (i : Int) = some (.inl ([a, b, c, d, e, f, g, h], o ++ [byteI ([a, b, c, d, e, f, g, h].getD i 0) 0, byteI ([a, b, c, d, e, f, g, h].getD i 0) 1, byteI ([a, b, c, d, e, f, g, h].getD i 0) 2, byteI ([a, b, c, d, e, f, g, h].getD i 0) 3], ((i + 1 : Nat) : Int))) := fun i o hi ho => by
    have t0 : decide ((i : Int) < 8) = true := by simp; omega
    have hl8 : [a, b, c, d, e, f, g, h].length = 8 := rfl
    have t1 : (decide (0 ≤ (i : Int)) && decide ((i : Int) < (([a, b, c, d, e, f, g, h].length : Nat) : Int))) = true := by rw [hl8]; simp; omega
    have t3 : IntKind.i64.wrap ((i : Int) + 1) = ((i + 1 : Nat) : Int) := by rw [wrapI (by omega) (by omega)]; omega
    have s4 : ∀ x y z u : Int, List.set (List.set (List.set (List.set (List.replicate 4 (0 : Int)) 0 x) 1 y) 2 z) 3 u = [x, y, z, u] := fun _ _ _ _ => rfl
    have f1 : ∀ x y z u : Int, decide (o.length + [x, y, z, u].length ≤ 100000000000) = true := fun x y z u => by simp; omega
    have p1 : (2 ^ min (Int.toNat (24 : Int)) (IntKind.u32.bits) : Int) = 2 ^ (24 - 8 * 0) := rfl
    have p2 : (2 ^ min (Int.toNat (16 : Int)) (IntKind.u32.bits) : Int) = 2 ^ (24 - 8 * 1) := rfl
    have p3 : (2 ^ min (Int.toNat (8 : Int)) (IntKind.u32.bits) : Int) = 2 ^ (24 - 8 * 2) := rfl
    have h3 : ∀ x : Int, byteI x 3 = IntKind.u8.wrap x := fun x => by
      unfold byteI
      rw [show Int.fdiv x (2 ^ (24 - 8 * 3)) = x by simp]
    unfold L33_9_r
    simp only [t0, t1, t3, s4, f1, p1, p2, p3, cond_true, Int.toNat_natCast, List.take_length, h3]
    rfl
  have en : ∀ o, L33_9_r [a, b, c, d, e, f, g, h] o ((8 : Nat) : Int) = some (.inr ([a, b, c, d, e, f, g, h], o, ((8 : Nat) : Int))) := fun o => by unfold L33_9_r; rfl
  unfold L33_9
  rw [lim_go (st 0 [] (by omega) (by simp)), lim_go (st 1 _ (by omega) (by simp)), lim_go (st 2 _ (by omega) (by simp)), lim_go (st 3 _ (by omega) (by simp)), lim_go (st 4 _ (by omega) (by simp)), lim_go (st 5 _ (by omega) (by simp)), lim_go (st 6 _ (by omega) (by simp)), lim_go (st 7 _ (by omega) (by simp)), lim_end (en _)]
  rfl
theorem G33_eq {s : Str} (hs : s.length ≤ 1000000000) : G33 s = some (sha s) := by
  obtain ⟨m, hm, hm2⟩ := padded_len s
  have hd : (padded s).length / 64 = m := by omega
  have hh : List.set (List.set (List.set (List.set (List.set (List.set (List.set (List.set (List.replicate 8 (0 : Int)) 0 (1779033703 : Int)) 1 (3144134277 : Int)) 2 (1013904242 : Int)) 3 (2773480762 : Int)) 4 (1359893119 : Int)) 5 (2600822924 : Int)) 6 (528734635 : Int)) 7 (1541459225 : Int) = h0 := rfl
  have hl := rs_loop m h0 (padded s) 0 (by omega) (by omega) rfl
  have hl' : L33_4 (h0, padded s, 0) = some (blocks m h0 (padded s), padded s, ((padded s).length : Int)) := hl
  obtain ⟨a, b, c, d, e, f, g, i, hb⟩ := eight (blocks_len m h0 (padded s) hm rfl)
  unfold G33
  simp only [hh, P57_eq hs, F57_eq hs, cond_true, hl', Option.bind_some, hb, ro_loop, List.take_length]
  unfold sha
  rw [hd, hb, List.map_flatMap]
  have hbo : ∀ x : Int, bytesOf x = [UInt8.ofNat (byteI x 0).toNat, UInt8.ofNat (byteI x 1).toNat, UInt8.ofNat (byteI x 2).toNat, UInt8.ofNat (byteI x 3).toNat] := fun x => by
    have : Int.fdiv x (2 ^ (24 - 8 * 3)) = x := by simp
    unfold bytesOf byteI
    rw [this]; rfl
  congr 1
  congr 1
  funext x
  exact (hbo x).symm
theorem P33_eq {s : Str} (hs : s.length ≤ 1000000000) : P33 s = true := P33_of _ (G33_eq hs)
theorem F33_eq {s : Str} (hs : s.length ≤ 1000000000) : F33 s = sha s := F33_of _ (G33_eq hs)
end Go.Ev.D

namespace Go.Ev.D
open Go Go.Ev
theorem G34_eq {s : Str} (hs : s.length ≤ 100000) : G34 s = some (leaf s) := by
  have e1 : decide (([0] : List UInt8).length + s.length ≤ 9223372036854775807) = true := by simp; omega
  have hl : (([0] : List UInt8) ++ s).length ≤ 1000000000 := by simp; omega
  unfold G34
  simp only [e1, cond_true, P33_eq hl, F33_eq hl]
  rfl
theorem P34_eq {s : Str} (hs : s.length ≤ 100000) : P34 s = true := P34_of _ (G34_eq hs)
theorem F34_eq {s : Str} (hs : s.length ≤ 100000) : F34 s = leaf s := F34_of _ (G34_eq hs)
theorem G35_eq {a b : Str} (h : a.length + b.length ≤ 100000) : G35 a b = some (node a b) := by
  have e1 : decide (([1] : List UInt8).length + a.length ≤ 9223372036854775807) = true := by simp; omega
  have e2 : decide ((([1] : List UInt8) ++ a).length + b.length ≤ 9223372036854775807) = true := by simp; omega
  have hl : (([1] : List UInt8) ++ a ++ b).length ≤ 1000000000 := by simp; omega
  unfold G35
  simp only [e1, e2, cond_true, P33_eq hl, F33_eq hl]
  rfl
theorem P35_eq {a b : Str} (h : a.length + b.length ≤ 100000) : P35 a b = true := P35_of _ _ (G35_eq h)
theorem F35_eq {a b : Str} (h : a.length + b.length ≤ 100000) : F35 a b = node a b := F35_of _ _ (G35_eq h)
end Go.Ev.D

namespace Go.Ev.D
open Go Go.Ev
theorem G42_eq {n : Nat} (h1 : 2 ≤ n) (h2 : n ≤ 9223372036854775807) : G42 (n : Int) = some (lft n : Int) := G31_eq h1 h2
theorem P42_eq {n : Nat} (h1 : 2 ≤ n) (h2 : n ≤ 9223372036854775807) : P42 (n : Int) = true := P42_of _ (G42_eq h1 h2)
theorem F42_eq {n : Nat} (h1 : 2 ≤ n) (h2 : n ≤ 9223372036854775807) : F42 (n : Int) = (lft n : Int) := F42_of _ (G42_eq h1 h2)
end Go.Ev.D

namespace Go.Ev.D
open Go Go.Ev
/-! ### Verification -/
theorem l49_go {l : List Str} {i i' : Int} (h : L49_2_r l i = some (.inl (l, i'))) : L49_2 (l, i) = L49_2 (l, i') :=
  lim_go (r := fun s : List Str × Int => L49_2_r s.1 s.2) (s := (l, i)) h
theorem l49_end {l : List Str} {i : Int} {x : Bool ⊕ (List Str × Int)} (h : L49_2_r l i = some (.inr x)) : L49_2 (l, i) = some x :=
  lim_end (r := fun s : List Str × Int => L49_2_r s.1 s.2) (s := (l, i)) h
theorem ds_loop {l : List Str} (hl : l.length ≤ 1000000) : ∀ k i, i + k = l.length → (L49_2 (l, (i : Int)) = some (.inl false) ∧ allD (l.drop i) = false) ∨ (∃ s, L49_2 (l, (i : Int)) = some (.inr s) ∧ allD (l.drop i) = true)
  | 0, i, hi => by
    have : i = l.length := by omega
    subst this
    refine .inr ⟨(l, (l.length : Int)), l49_end ?_, by simp [allD]⟩
    have e : decide ((l.length : Int) < (l.length : Int)) = false := by simp
    unfold L49_2_r
    simp only [e, cond_false]
  | k + 1, i, hi => by
    have hlt : i < l.length := by omega
    have e1 : decide ((i : Int) < (l.length : Int)) = true := by simp; omega
    have e2 : decide ((0 : Int) ≤ (i : Int)) = true := by simp
    have e3 : IntKind.i64.wrap ((i : Int) + 1) = ((i + 1 : Nat) : Int) := by rw [wrapI (by omega) (by omega)]; omega
    have g : l.getD i [] = l[i] := by simp [List.getD_eq_getElem?_getD, hlt]
    have hd : l.drop i = l[i] :: l.drop (i + 1) := List.drop_eq_getElem_cons hlt
    cases hD : isD l[i] with
    | false =>
      have hne : (((l[i].length : Nat) : Int) != 32) = true := by
        have : l[i].length ≠ 32 := by intro h; unfold isD at hD; rw [h] at hD; cases hD
        simp; omega
      refine .inl ⟨l49_end ?_, by rw [hd]; unfold allD; rw [List.all_cons, hD]; rfl⟩
      unfold L49_2_r
      simp only [e1, e2, Bool.and_self, cond_true, Int.toNat_natCast, g, hne]
    | true =>
      have h32 : l[i].length = 32 := by simpa [isD] using hD
      have hne : (((l[i].length : Nat) : Int) != 32) = false := by rw [h32]; rfl
      have step : L49_2_r l (i : Int) = some (.inl (l, ((i + 1 : Nat) : Int))) := by
        unfold L49_2_r
        simp only [e1, e2, Bool.and_self, cond_true, Int.toNat_natCast, g, hne, cond_false, e3]
      have ha : allD (l.drop i) = allD (l.drop (i + 1)) := by rw [hd]; unfold allD; rw [List.all_cons, hD]; rfl
      rw [l49_go step, ha]
      exact ds_loop hl k (i + 1) (by omega)
theorem G49_eq {l : List Str} (hl : l.length ≤ 1000000) : G49 l = some (allD l) := by
  unfold G49
  have h := ds_loop hl l.length 0 (by omega)
  rw [List.drop_zero] at h
  rcases h with ⟨h1, h2⟩ | ⟨s, h1, h2⟩
  · have h1' : L49_2 (l, 0) = some (.inl false) := h1
    simp only [h1', Option.bind_some, h2]
  · have h1' : L49_2 (l, 0) = some (.inr s) := h1
    simp only [h1', Option.bind_some, h2]
theorem P49_eq {l : List Str} (hl : l.length ≤ 1000000) : P49 l = true := P49_of _ (G49_eq hl)
theorem F49_eq {l : List Str} (hl : l.length ≤ 1000000) : F49 l = allD l := F49_of _ (G49_eq hl)
/-- What is asked of the value: it is the value of the whole proof. -/
def okV (n i : Nat) (s : Str) (rp : List Str) (v : Str) (b : Bool) : Prop :=
  v.length ≤ 100 ∧ (b = true → mval n i s rp = some (v, [])) ∧ (b = false → ∀ v', mval n i s rp ≠ some (v', []))
theorem Gn50_eq : ∀ (rp : List Str) (k n i : Nat) (s : Str), rp.length < k → 1 ≤ n → n ≤ 9223372036854775807 → i < n → s.length ≤ 100 → (∀ x ∈ rp, x.length = 32) → rp.length ≤ 1000 → ∃ v b, Gn50 k (n : Int) (i : Int) s rp.reverse = some (v, b) ∧ okV n i s rp v b
  | rp, 0, n, i, s, hk, _, _, _, _, _, _ => by omega
  | rp, k + 1, n, i, s, hk, h1, hn, hi, hs, hr, hl => by
    have e2 : IntKind.i64.wrap (((rp.reverse.length : Nat) : Int) - 1) = (rp.length : Int) - 1 := by rw [List.length_reverse, wrapI (by omega) (by omega)]
    rw [Gn50, Gs50]
    by_cases hn1 : n = 1
    · subst hn1
      have e0 : ((((1 : Nat) : Int)) == 1) = true := rfl
      simp only [e0, e2, cond_true, P34_eq (s := s) (by omega), F34_eq (s := s) (by omega)]
      refine ⟨leaf s, _, rfl, by rw [leaf_len]; omega, fun h => ?_, fun h v' => ?_⟩
      · have : rp = [] := List.length_eq_zero_iff.1 (by simp at h; omega)
        rw [this, mval_one (by omega)]
      · rw [mval_one (by omega)]
        intro h'
        simp only [Option.some.injEq, Prod.mk.injEq] at h'
        rw [h'.2] at h
        simp at h
    · have hn2 : 2 ≤ n := by omega
      have e0 : ((n : Int) == 1) = false := by simp; omega
      have hkk := lft_lt hn2
      have hk1 := lft_pos n
      cases rp with
      | nil =>
        have e3 : decide ((([] : List Str).length : Int) - 1 < 0) = true := rfl
        simp only [e0, e2, e3, cond_true, cond_false]
        exact ⟨[], false, rfl, by simp, fun h => (by cases h), fun _ v' => by rw [mval, if_neg (by omega)]; simp⟩
      | cons x r =>
        have hl' : r.length + 1 ≤ 1000 := by simpa using hl
        have hx := hr x (by simp)
        have hr' : ∀ y ∈ r, y.length = 32 := fun y hy => hr y (List.mem_cons_of_mem _ hy)
        have hlc : (((x :: r).length : Nat) : Int) - 1 = (r.length : Int) := by simp
        have hlen : (r.reverse ++ [x]).length = r.length + 1 := by simp
        have e3 : decide ((r.length : Int) < 0) = false := by simp
        have t1 : (decide (0 ≤ (r.length : Int)) && decide ((r.length : Int) < ((r.length + 1 : Nat) : Int))) = true := by simp; omega
        have e5 : sliceTest (0 : Int) (r.length : Int) ((r.length + 1 : Nat) : Int) = true := sliceT (a := 0) (by omega) (by omega)
        have g : (r.reverse ++ [x]).getD r.length [] = x := by simp [List.getD_eq_getElem?_getD]
        have c : cut (r.reverse ++ [x]) 0 (r.length : Int) = r.reverse := by rw [cut0]; exact List.take_left' (by simp)
        rw [hlc, List.reverse_cons, hlen] at e2
        rw [List.reverse_cons]
        by_cases hc : i < lft n
        · have e6 : decide ((i : Int) < (lft n : Int)) = true := by simp; omega
          obtain ⟨v, b, ih, o1, o2, o3⟩ := Gn50_eq r k (lft n) i s (by simp at hk; omega) hk1 (by omega) hc hs hr' (by omega)
          simp only [e0, hlen, e2, e3, e5, e6, cond_true, cond_false, P42_eq hn2 hn, F42_eq hn2 hn, c, ih, Option.isSome_some, Option.getD_some, t1, Int.toNat_natCast, g, P35_eq (a := v) (b := x) (by omega), F35_eq (a := v) (b := x) (by omega)]
          refine ⟨node v x, b, rfl, by rw [node_len]; omega, fun h => ?_, fun h v' => ?_⟩
          · rw [mval, if_neg (by omega)]; simp only [if_pos hc, o2 h, Option.map_some]
          · rw [mval, if_neg (by omega)]; simp only [if_pos hc]
            intro h'
            obtain ⟨⟨a, q⟩, h1, h2⟩ := Option.map_eq_some_iff.1 h'
            simp only [Prod.mk.injEq] at h2
            rw [h2.2] at h1
            exact o3 h a h1
        · have e6 : decide ((i : Int) < (lft n : Int)) = false := by simp; omega
          have e7 : IntKind.i64.wrap ((n : Int) - (lft n : Int)) = ((n - lft n : Nat) : Int) := by rw [wrapI (by omega) (by omega)]; omega
          have e8 : IntKind.i64.wrap ((i : Int) - (lft n : Int)) = ((i - lft n : Nat) : Int) := by rw [wrapI (by omega) (by omega)]; omega
          obtain ⟨v, b, ih, o1, o2, o3⟩ := Gn50_eq r k (n - lft n) (i - lft n) s (by simp at hk; omega) (by omega) (by omega) (by omega) hs hr' (by omega)
          simp only [e0, hlen, e2, e3, e5, e6, e7, e8, cond_true, cond_false, P42_eq hn2 hn, F42_eq hn2 hn, c, ih, Option.isSome_some, Option.getD_some, t1, Int.toNat_natCast, g, P35_eq (a := x) (b := v) (by omega), F35_eq (a := x) (b := v) (by omega)]
          refine ⟨node x v, b, rfl, by rw [node_len]; omega, fun h => ?_, fun h v' => ?_⟩
          · rw [mval, if_neg (by omega)]; simp only [if_neg hc, o2 h, Option.map_some]
          · rw [mval, if_neg (by omega)]; simp only [if_neg hc]
            intro h'
            obtain ⟨⟨a, q⟩, h1, h2⟩ := Option.map_eq_some_iff.1 h'
            simp only [Prod.mk.injEq] at h2
            rw [h2.2] at h1
            exact o3 h a h1
theorem G22_eq {root : Str} {n i : Int} {s : Str} {p : List Str} (hn : n ≤ 9223372036854775807) (hs : s.length ≤ 100) (hp : p.length ≤ 900) : G22 root n i s p = some (verM root n i s p) := by
  unfold G22 verM
  by_cases h : 0 ≤ i ∧ i < n
  · obtain ⟨j, rfl⟩ := Int.eq_ofNat_of_zero_le h.1
    obtain ⟨m, rfl⟩ := Int.eq_ofNat_of_zero_le (show 0 ≤ n by omega)
    have e1 : decide ((j : Int) < 0) = false := by simp
    have e2 : decide ((j : Int) ≥ (m : Int)) = false := by simp; omega
    have e3 : decide ((0 : Int) ≤ (j : Int)) = true := by simp
    have e4 : decide ((j : Int) < (m : Int)) = true := by simp; omega
    simp only [e1, e2, cond_false, P49_eq (l := p) (by omega), F49_eq (l := p) (by omega), cond_true, e3, e4, Bool.true_and, Int.toNat_natCast]
    cases hD : allD p with
    | false => rfl
    | true =>
      have hr : ∀ x ∈ p.reverse, x.length = 32 := fun x hx => allD_mem hD (by simpa using hx)
      obtain ⟨v, b, hg, o1, o2, o3⟩ := Gn50_eq p.reverse recDepth m j s (by simp; unfold recDepth; omega) (by omega) (by omega) (by omega) hs hr (by simp; omega)
      rw [List.reverse_reverse] at hg
      have hg' : G50 (m : Int) (j : Int) s p = some (v, b) := hg
      simp only [Bool.not_true, cond_false, P50_of _ _ _ _ hg', F50_of _ _ _ _ hg', cond_true, Bool.true_and]
      cases b with
      | true => rw [o2 rfl]; rfl
      | false =>
        cases hm : mval m j s p.reverse with
        | none => rfl
        | some q =>
          obtain ⟨a, t⟩ := q
          cases t with
          | nil => exact absurd hm (o3 rfl a)
          | cons y z => rfl
  · have e : (bif decide (i < 0) then true else decide (i ≥ n)) = true := by
      by_cases h1 : i < 0
      · simp [h1]
      · have : i ≥ n := by omega
        simp [h1, this]
    have e2 : (decide (0 ≤ i) && decide (i < n)) = false := by
      simp only [Bool.and_eq_false_iff, decide_eq_false_iff_not]; omega
    simp only [e, e2, P49_eq (l := p) (by omega), Bool.false_and, cond_true]
def okE (old : Str) (m n : Nat) (rp : List Str) (w : Bool) (a b : Str) (ok : Bool) : Prop :=
  a.length ≤ 100 ∧ b.length ≤ 100 ∧ (ok = true → mboth old m n rp w = some (a, b)) ∧ (ok = false → mboth old m n rp w = none)
theorem Gn52_eq {old : Str} (ho : old.length = 32) : ∀ (rp : List Str) (k m n : Nat) (w : Bool), rp.length < k → 1 ≤ m → m ≤ n → n ≤ 9223372036854775807 → (∀ x ∈ rp, x.length = 32) → rp.length ≤ 1000 → ∃ a b ok, Gn52 k old (m : Int) (n : Int) rp.reverse w = some (a, b, ok) ∧ okE old m n rp w a b ok
  | rp, 0, m, n, w, hk, _, _, _, _, _ => by omega
  | rp, k + 1, m, n, w, hk, h0, h1, hn, hr, hl => by
    have e2 : IntKind.i64.wrap (((rp.reverse.length : Nat) : Int) - 1) = (rp.length : Int) - 1 := by rw [List.length_reverse, wrapI (by omega) (by omega)]
    rw [Gn52, Gs52]
    by_cases hmn : m = n
    · subst hmn
      have e0 : ((m : Int) == (m : Int)) = true := by simp
      cases w with
      | true =>
        simp only [e0, e2, cond_true]
        refine ⟨old, old, _, rfl, by omega, by omega, fun h => ?_, fun h => ?_⟩
        · have : rp = [] := List.length_eq_zero_iff.1 (by simp at h; omega)
          rw [this, mboth_base (by omega)]; rfl
        · rw [mboth_base (by omega)]
          cases rp with
          | nil => simp at h
          | cons x r => rfl
      | false =>
        cases rp with
        | nil =>
          have e3 : ((([] : List Str).length : Int) - 1 != 0) = true := rfl
          simp only [e0, e2, e3, cond_true, cond_false]
          exact ⟨[], [], false, rfl, by simp, by simp, fun h => (by cases h), fun _ => by rw [mboth_base (by omega)]; rfl⟩
        | cons x r =>
          cases r with
          | nil =>
            have hx := hr x (by simp)
            have e3 : (([x].length : Int) - 1 != 0) = false := rfl
            have t1 : (decide (0 ≤ (0 : Int)) && decide ((0 : Int) < (([x].reverse.length : Nat) : Int))) = true := rfl
            have g : List.getD [x].reverse (Int.toNat 0) [] = x := rfl
            simp only [e0, e2, e3, t1, g, cond_true, cond_false]
            exact ⟨x, x, true, rfl, by omega, by omega, fun _ => by rw [mboth_base (by omega)]; rfl, fun h => by cases h⟩
          | cons y z =>
            have e3 : ((((x :: y :: z).length : Nat) : Int) - 1 != 0) = true := by simp; omega
            simp only [e0, e2, e3, cond_true, cond_false]
            exact ⟨[], [], false, rfl, by simp, by simp, fun h => (by cases h), fun _ => by rw [mboth_base (by omega)]; rfl⟩
    · have hlt : m < n := by omega
      have hn2 : 2 ≤ n := by omega
      have e0 : ((m : Int) == (n : Int)) = false := by simp; omega
      have hkk := lft_lt hn2
      have hk1 := lft_pos n
      cases rp with
      | nil =>
        have e3 : decide ((([] : List Str).length : Int) - 1 < 0) = true := rfl
        simp only [e0, e2, e3, cond_true, cond_false]
        exact ⟨[], [], false, rfl, by simp, by simp, fun h => (by cases h), fun _ => by rw [mboth, if_pos hlt]⟩
      | cons x r =>
        have hl' : r.length + 1 ≤ 1000 := by simpa using hl
        have hx := hr x (by simp)
        have hr' : ∀ y ∈ r, y.length = 32 := fun y hy => hr y (List.mem_cons_of_mem _ hy)
        have hlc : (((x :: r).length : Nat) : Int) - 1 = (r.length : Int) := by simp
        have hlen : (r.reverse ++ [x]).length = r.length + 1 := by simp
        have e3 : decide ((r.length : Int) < 0) = false := by simp
        have t1 : (decide (0 ≤ (r.length : Int)) && decide ((r.length : Int) < ((r.length + 1 : Nat) : Int))) = true := by simp; omega
        have e5 : sliceTest (0 : Int) (r.length : Int) ((r.length + 1 : Nat) : Int) = true := sliceT (a := 0) (by omega) (by omega)
        have g : (r.reverse ++ [x]).getD r.length [] = x := by simp [List.getD_eq_getElem?_getD]
        have c : cut (r.reverse ++ [x]) 0 (r.length : Int) = r.reverse := by rw [cut0]; exact List.take_left' (by simp)
        rw [hlc, List.reverse_cons, hlen] at e2
        rw [List.reverse_cons]
        by_cases hc : m ≤ lft n
        · have e6 : decide ((m : Int) ≤ (lft n : Int)) = true := by simp; omega
          obtain ⟨a, b, ok, ih, o1, o2, o3, o4⟩ := Gn52_eq ho r k m (lft n) w (by simp at hk; omega) h0 hc (by omega) hr' (by omega)
          simp only [e0, hlen, e2, e3, e5, e6, cond_true, cond_false, P42_eq hn2 hn, F42_eq hn2 hn, c, ih, Option.isSome_some, Option.getD_some, t1, Int.toNat_natCast, g, P35_eq (a := b) (b := x) (by omega), F35_eq (a := b) (b := x) (by omega)]
          refine ⟨a, node b x, ok, rfl, o1, by rw [node_len]; omega, fun h => ?_, fun h => ?_⟩
          · rw [mboth, if_pos hlt]; simp only [if_pos hc, o3 h, Option.map_some]; rfl
          · rw [mboth, if_pos hlt]; simp only [if_pos hc, o4 h, Option.map_none]
        · have e6 : decide ((m : Int) ≤ (lft n : Int)) = false := by simp; omega
          have e7 : IntKind.i64.wrap ((n : Int) - (lft n : Int)) = ((n - lft n : Nat) : Int) := by rw [wrapI (by omega) (by omega)]; omega
          have e8 : IntKind.i64.wrap ((m : Int) - (lft n : Int)) = ((m - lft n : Nat) : Int) := by rw [wrapI (by omega) (by omega)]; omega
          obtain ⟨a, b, ok, ih, o1, o2, o3, o4⟩ := Gn52_eq ho r k (m - lft n) (n - lft n) false (by simp at hk; omega) (by omega) (by omega) (by omega) hr' (by omega)
          simp only [e0, hlen, e2, e3, e5, e6, e7, e8, cond_true, cond_false, P42_eq hn2 hn, F42_eq hn2 hn, c, ih, Option.isSome_some, Option.getD_some, t1, Int.toNat_natCast, g, P35_eq (a := x) (b := a) (by omega), F35_eq (a := x) (b := a) (by omega), P35_eq (a := x) (b := b) (by omega), F35_eq (a := x) (b := b) (by omega)]
          refine ⟨node x a, node x b, ok, rfl, by rw [node_len]; omega, by rw [node_len]; omega, fun h => ?_, fun h => ?_⟩
          · rw [mboth, if_pos hlt]; simp only [if_neg hc, o3 h, Option.map_some]; rfl
          · rw [mboth, if_pos hlt]; simp only [if_neg hc, o4 h, Option.map_none]
theorem len32 (s : Str) : (((s.length : Nat) : Int) != 32) = !isD s := by
  have e : (((s.length : Nat) : Int) == 32) = (s.length == 32) := by rw [Bool.eq_iff_iff]; simp; omega
  unfold isD bne; rw [e]
theorem G24_eq {old root : Str} {m n : Int} {p : List Str} (hn : n ≤ 9223372036854775807) (hp : p.length ≤ 900) : G24 old m root n p = some (verE old m root n p) := by
  unfold G24 verE
  by_cases h : 0 ≤ m ∧ m ≤ n
  · obtain ⟨j, rfl⟩ := Int.eq_ofNat_of_zero_le h.1
    obtain ⟨k, rfl⟩ := Int.eq_ofNat_of_zero_le (show 0 ≤ n by omega)
    have e1 : decide ((j : Int) < 0) = false := by simp
    have e2 : decide ((j : Int) > (k : Int)) = false := by simp; omega
    have e3 : decide ((0 : Int) ≤ (j : Int)) = true := by simp
    have e4 : decide ((j : Int) ≤ (k : Int)) = true := by simp; omega
    simp only [e1, e2, cond_false, P49_eq (l := p) (by omega), F49_eq (l := p) (by omega), cond_true, e3, e4, Bool.true_and, Int.toNat_natCast, len32]
    cases hD : allD p with
    | false => rfl
    | true =>
    cases hO : isD old with
    | false => rfl
    | true =>
    cases hR : isD root with
    | false => rfl
    | true =>
      simp only [Bool.not_true, cond_false, Bool.true_and]
      by_cases hj : j = 0
      · subst hj
        have e5 : (((0 : Nat) : Int) == 0) = true := rfl
        have e6 : (((0 : Nat) : Int) = 0) = True := by simp
        have h0 : ([] : List UInt8).length ≤ 1000000000 := by simp
        simp only [e5, cond_true, P33_eq h0, F33_eq h0, Bool.true_or, len0_emp, e6, if_true]
        cases p.isEmpty <;> rfl
      · have e5 : (((j : Nat) : Int) == 0) = false := by simp; omega
        have e6 : (((j : Nat) : Int) = 0) = False := by simp; omega
        simp only [e5, cond_false, e6, if_false]
        by_cases hjk : j = k
        · subst hjk
          have e7 : (((j : Nat) : Int) == (j : Int)) = true := by simp
          simp only [e7, cond_true, len0_emp, if_true]
          cases p.isEmpty <;> rfl
        · have e7 : (((j : Nat) : Int) == (k : Int)) = false := by simp; omega
          have e8 : (((j : Nat) : Int) = (k : Int)) = False := by simp; omega
          have ho : old.length = 32 := by simpa [isD] using hO
          have hr : ∀ x ∈ p.reverse, x.length = 32 := fun x hx => allD_mem hD (by simpa using hx)
          obtain ⟨a, b, ok, hg, o1, o2, o3, o4⟩ := Gn52_eq ho p.reverse recDepth j k true (by simp; unfold recDepth; omega) (by omega) (by omega) (by omega) hr (by simp; omega)
          rw [List.reverse_reverse] at hg
          have hg' : G52 old (j : Int) (k : Int) p true = some (a, b, ok) := hg
          simp only [e7, cond_false, e8, if_false, P52_of _ _ _ _ _ hg', F52_of _ _ _ _ _ hg', cond_true]
          cases ok with
          | true => rw [o3 rfl]; show some (bif (bif true then a == old else false) then b == root else false) = some (a == old && b == root); cases (a == old) <;> rfl
          | false => rw [o4 rfl]; rfl
  · have e : (bif decide (m < 0) then true else decide (m > n)) = true := by
      by_cases h1 : m < 0
      · simp [h1]
      · have : m > n := by omega
        simp [h1, this]
    have e2 : (decide (0 ≤ m) && decide (m ≤ n)) = false := by
      simp only [Bool.and_eq_false_iff, decide_eq_false_iff_not]; omega
    simp only [e, e2, P49_eq (l := p) (by omega), Bool.false_and, cond_true]
theorem DigestVerifyMatchesReference_pure (x0 x1 : Str) (x2 x3 : Int) (x4 : Str) (x5 : List Str) (g0 : x0.length ≤ 140737488351232) (g1 : x1.length ≤ 140737488351232) (g2 : (Lit.int .i64 x2).wf = true) (g3 : (Lit.int .i64 x3).wf = true) (g4 : x4.length ≤ 140737488351232) (g5 : x5.length * 16 ≤ 140737488351232 ∧ ∀ x ∈ x5, x.length ≤ 140737488351232) : G4 x0 x1 x2 x3 x4 x5 = some true := by
  have i2 := i64_of g2
  have i3 := i64_of g3
  clear g0 g1 g2 g3 g4 g5
  have p13 : ∀ l, P13 l (70 : Int) = true := fun l => P13_eq l 70 (by omega)
  have f13 : ∀ l, F13 l (70 : Int) = few l 70 := fun l => F13_eq l 70 (by omega)
  have e5 : ∀ x : Str, (if (60 : Int) < (x.length : Int) then (60 : Int) else (x.length : Int)) = ((min 60 x.length : Nat) : Int) := fun x => min60 60 _
  have e6 : ∀ x : Str, sliceTest (0 : Int) ((min 60 x.length : Nat) : Int) (x.length : Int) = true := fun x => sliceT (a := 0) (by omega) (by omega)
  obtain ⟨s, hS⟩ : ∃ s, s = x4.take 60 := ⟨_, rfl⟩
  obtain ⟨p, hP⟩ : ∃ p, p = few x5 70 := ⟨_, rfl⟩
  have hs : s.length ≤ 60 := by rw [hS]; simp; omega
  have hp : p.length ≤ 70 := by rw [hP]; exact few_len _ _
  have g22 := G22_eq (root := x1) (n := x2) (i := x3) (s := s) (p := p) (by omega) (by omega) (by omega)
  have g24 := G24_eq (old := x0) (m := x3) (root := x1) (n := x2) (p := p) (by omega) (by omega)
  unfold G4
  simp only [P12_eq, F12_eq, cond_true, p13, f13, e5, e6, minS, ← hS, ← hP, P21_eq (root := x1) (n := x2) (i := x3) (s := s) (p := p) (by omega) (by omega) (by omega), F21_eq (root := x1) (n := x2) (i := x3) (s := s) (p := p) (by omega) (by omega) (by omega), P22_of _ _ _ _ _ g22, F22_of _ _ _ _ _ g22, P23_eq (old := x0) (m := x3) (root := x1) (n := x2) (p := p) (by omega) (by omega), F23_eq (old := x0) (m := x3) (root := x1) (n := x2) (p := p) (by omega) (by omega), P24_of _ _ _ _ _ g24, F24_of _ _ _ _ _ g24, eqv_bool, beq_self_eq_true, Bool.true_or]
end Go.Ev.D
