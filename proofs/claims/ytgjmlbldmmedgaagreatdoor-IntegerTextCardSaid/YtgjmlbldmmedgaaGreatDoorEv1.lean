/- A library for the proofs of this seat: an evaluator of the code over abstract states, and its soundness. It states nothing of the program. -/
import Derived.Below
import Derived.OwnWalk
import Derived.Laws.Slices
import Derived.Maps.AppendAt
import Derived.Lib.ConvBytes
import Derived.CallsIn
import Derived.TacticsInMore
import Derived.WalkKit
import Derived.Laws.BytesString
set_option linter.unusedSimpArgs false
set_option linter.unusedVariables false
set_option linter.deprecated false
namespace Go.Ev
open Go.RowKit

/-- The types of data. A struct is a chain of pairs that ends in unit. An error: is it there? A method of a value, bound: the value. -/
inductive Ty where
  | int (k : IntKind) | bool | str | unit
  | list (t : Ty) | pair (a b : Ty) | arr (n : Nat) (t : Ty) | err | bnd (f : Nat) (t : Ty)
  deriving DecidableEq, Inhabited

abbrev Ty.den : Ty → Type
  | .int _ => Int | .bool => Bool | .str => List UInt8 | .unit => Unit
  | .list t => List t.den | .pair a b => a.den × b.den | .arr _ t => List t.den
  | .err => Bool | .bnd _ t => Option t.den

/-- How many cells a value takes. -/
def Ty.sz : Ty → Nat
  | .int _ | .bool | .str | .list _ | .err | .bnd _ _ => 1
  | .unit => 0 | .pair a b => a.sz + b.sz | .arr n t => n * t.sz

def Ty.zero : (t : Ty) → t.den
  | .int _ => (0 : Int) | .bool => false | .str => ([] : List UInt8) | .unit => () | .list _ => [] | .pair a b => (a.zero, b.zero) | .arr n t => List.replicate n t.zero | .err => false | .bnd _ t => (none : Option t.den)

def strOf (l : List UInt8) : ByteArray := ⟨l.toArray⟩

/-- The cells of a zero value. -/
def Ty.zeroCells : Ty → List Value
  | .int k => [.int k 0] | .bool => [.bool false] | .str => [.string (strOf [])] | .unit => [] | .list _ => [.slice none 0 0] | .err => [.nilIface] | .bnd _ _ => [.nilFunc]
  | .pair a b => a.zeroCells ++ b.zeroCells | .arr n t => (List.replicate n t.zeroCells).flatten

/-- Is a value of this type an aggregate in the model? -/
def Ty.isAgg : Ty → Bool
  | .unit | .pair _ _ | .arr _ _ => true
  | _ => false
/-- Does its reading ask nothing of memory? -/
def Ty.flat : Ty → Bool
  | .int _ | .bool | .str | .unit | .err => true
  | .list _ | .bnd _ _ => false | .pair a b => a.flat && b.flat | .arr _ t => t.flat

/-- Cells that lie one after the other, each group read by R. -/
inductive Rows {α : Type} (R : α → List Value → Prop) : List α → List Value → Prop
  | nil : Rows R [] []
  | cons {x : α} {xs : List α} {c cs : List Value} (h : R x c) (t : Rows R xs cs) : Rows R (x :: xs) (c ++ cs)

theorem Rows.imp {α : Type} {R R' : α → List Value → Prop} {xs : List α} {cs : List Value} (h : Rows R xs cs) (hi : ∀ x c, R x c → R' x c) : Rows R' xs cs := by
  induction h with
  | nil => exact .nil
  | cons h _ ih => exact .cons (hi _ _ h) ih
theorem Rows.append {α : Type} {R : α → List Value → Prop} {xs ys : List α} {cs ds : List Value} (h : Rows R xs cs) (k : Rows R ys ds) : Rows R (xs ++ ys) (cs ++ ds) := by
  induction h with
  | nil => exact k
  | cons h _ ih => rw [List.cons_append, List.append_assoc]; exact .cons h ih
theorem Rows.length {α : Type} {R : α → List Value → Prop} {n : Nat} (hR : ∀ x c, R x c → c.length = n) {xs : List α} {cs : List Value} (h : Rows R xs cs) : cs.length = xs.length * n := by
  induction h with
  | nil => simp
  | cons h _ ih => simp [hR _ _ h, ih, Nat.add_mul, Nat.add_comm]
theorem Rows.get {α : Type} {R : α → List Value → Prop} {n : Nat} (hR : ∀ x c, R x c → c.length = n) {xs : List α} {cs : List Value} (h : Rows R xs cs) :
    ∀ i, ∀ hi : i < xs.length, R xs[i] ((cs.drop (i * n)).take n) := by
  induction h with
  | nil => intro i hi; simp at hi
  | @cons x xs c cs h _ ih =>
    intro i hi
    have hc := hR _ _ h
    cases i with
    | zero => simpa [← hc] using h
    | succ i =>
      have e : (c ++ cs).drop ((i + 1) * n) = cs.drop (i * n) := by
        rw [Nat.add_mul, Nat.one_mul, Nat.add_comm, ← List.drop_drop, ← hc, List.drop_left]
      simpa [e] using ih i (by simpa using hi)
theorem Rows.take {α : Type} {R : α → List Value → Prop} {n : Nat} (hR : ∀ x c, R x c → c.length = n) {xs : List α} {cs : List Value} (h : Rows R xs cs) :
    ∀ k, Rows R (xs.take k) (cs.take (k * n)) := by
  induction h with
  | nil => intro k; simpa using Rows.nil
  | @cons x xs c cs h _ ih =>
    intro k
    have hc := hR _ _ h
    cases k with
    | zero => simpa using Rows.nil
    | succ k =>
      have e : (c ++ cs).take ((k + 1) * n) = c ++ cs.take (k * n) := by
        rw [List.take_append, List.take_of_length_le (by rw [hc, Nat.add_mul]; omega), hc]; congr 2; rw [Nat.add_mul]; omega
      rw [e]; exact .cons h (ih k)
theorem Rows.drop {α : Type} {R : α → List Value → Prop} {n : Nat} (hR : ∀ x c, R x c → c.length = n) {xs : List α} {cs : List Value} (h : Rows R xs cs) :
    ∀ k, Rows R (xs.drop k) (cs.drop (k * n)) := by
  induction h with
  | nil => intro k; simpa using Rows.nil
  | @cons x xs c cs h t ih =>
    intro k
    have hc := hR _ _ h
    cases k with
    | zero => simpa using Rows.cons h t
    | succ k =>
      have e : (c ++ cs).drop ((k + 1) * n) = cs.drop (k * n) := by
        rw [Nat.add_mul, Nat.one_mul, Nat.add_comm, ← List.drop_drop, ← hc, List.drop_left]
      rw [e]; exact ih k
theorem Rows.set {α : Type} {R : α → List Value → Prop} {n : Nat} (hR : ∀ x c, R x c → c.length = n) {xs : List α} {cs : List Value} (h : Rows R xs cs) :
    ∀ i, i < xs.length → ∀ {y : α} {d : List Value}, R y d → Rows R (xs.set i y) (cs.take (i * n) ++ d ++ cs.drop ((i + 1) * n)) := by
  intro i hi y d hd
  have h1 := h.take hR i
  have h2 := h.drop hR (i + 1)
  have h3 : xs.set i y = xs.take i ++ [y] ++ xs.drop (i + 1) := by
    rw [List.set_eq_take_append_cons_drop, if_pos hi]; simp
  rw [h3]
  have h4 : Rows R [y] d := by have := Rows.cons hd (Rows.nil (R := R)); simpa using this
  exact (h1.append h4).append h2
theorem Rows.replicate {α : Type} {R : α → List Value → Prop} {x : α} {c : List Value} (h : R x c) (n : Nat) : Rows R (List.replicate n x) (List.replicate n c).flatten := by
  induction n with
  | zero => exact .nil
  | succ n ih => rw [List.replicate_succ, List.replicate_succ, List.flatten_cons]; exact .cons h ih

/-- The value whose cells are cs. -/
def valOf (t : Ty) (cs : List Value) : Value := if t.isAgg then .agg cs.toArray else cs.getD 0 undef
/-- **The cells cs read as x**, in a world of which only the blocks that satisfy Pr are asked. -/
def RV (Pr : Nat → Prop) (w : World) : (t : Ty) → t.den → List Value → Prop
  | .int k, n, cs => cs = [.int k n]
  | .bool, b, cs => cs = [.bool b]
  | .str, s, cs => cs = [.string (strOf s)]
  | .unit, _, cs => cs = []
  | .err, b, cs => (b = false → cs = [.nilIface]) ∧ (b = true → ∃ T v, cs = [.iface T v])
  | .bnd f t, x, cs => match x with
    | none => cs = [.nilFunc]
    | some y => ∃ c, RV Pr w t y c ∧ cs = [.func (.func f) #[valOf t c] #[]]
  | .pair a b, x, cs => ∃ c d, cs = c ++ d ∧ RV Pr w a x.1 c ∧ RV Pr w b x.2 d
  | .arr n t, xs, cs => xs.length = n ∧ Rows (RV Pr w t) xs cs
  | .list t, xs, cs => ∃ A cap, cs = [.slice A xs.length cap] ∧ xs.length ≤ cap ∧ xs.length ≤ 9223372036854775807 ∧
      (0 < xs.length → ∃ ad ds, A = some ad ∧ Pr ad.block ∧ Rows (RV Pr w t) xs ds ∧ ∀ j, ∀ hj : j < ds.length, w.cell? (ad.add j) = some ds[j])

theorem RV.len {Pr : Nat → Prop} {w : World} : ∀ {t : Ty} {x : t.den} {cs : List Value}, RV Pr w t x cs → cs.length = t.sz
  | .int _, _, _, h => by simp only [RV] at h; simp [h, Ty.sz]
  | .bool, _, _, h => by simp only [RV] at h; simp [h, Ty.sz]
  | .str, _, _, h => by simp only [RV] at h; simp [h, Ty.sz]
  | .unit, _, _, h => by simp only [RV] at h; simp [h, Ty.sz]
  | .err, b, _, h => by
    cases b with
    | false => rw [h.1 rfl]; rfl
    | true => obtain ⟨T, v, rfl⟩ := h.2 rfl; rfl
  | .bnd f t, x, _, h => by
    cases x with
    | none => rw [show _ = _ from h]; rfl
    | some y => obtain ⟨c, _, rfl⟩ := h; rfl
  | .pair a b, _, _, h => by
    obtain ⟨c, d, rfl, h1, h2⟩ := h
    simp [Ty.sz, RV.len h1, RV.len h2]
  | .arr n t, xs, _, h => by
    have := h.2.length (fun x c hc => RV.len hc)
    rw [h.1] at this
    simpa [Ty.sz] using this
  | .list t, _, _, h => by
    obtain ⟨A, cap, rfl, _⟩ := h
    simp [Ty.sz]

/-- A reading is kept wherever the blocks that it may ask are. -/
theorem RV.keep {Pr Pr' : Nat → Prop} {w w' : World} (hk : ∀ b, Pr b → w'.heap[b]? = w.heap[b]?) (hp : ∀ b, Pr b → Pr' b) : ∀ {t : Ty} {x : t.den} {cs : List Value}, RV Pr w t x cs → RV Pr' w' t x cs
  | .int _, _, _, h => h
  | .bool, _, _, h => h
  | .str, _, _, h => h
  | .unit, _, _, h => h
  | .err, _, _, h => h
  | .bnd f t, x, _, h => by
    cases x with
    | none => exact h
    | some y => obtain ⟨c, h1, h2⟩ := h; exact ⟨c, RV.keep hk hp h1, h2⟩
  | .pair a b, _, _, h => by
    obtain ⟨c, d, rfl, h1, h2⟩ := h
    exact ⟨c, d, rfl, RV.keep hk hp h1, RV.keep hk hp h2⟩
  | .arr n t, xs, _, h => ⟨h.1, h.2.imp fun _ _ hc => RV.keep hk hp hc⟩
  | .list t, _, _, h => by
    obtain ⟨A, cap, rfl, h1, h2, h3⟩ := h
    refine ⟨A, cap, rfl, h1, h2, fun h0 => ?_⟩
    obtain ⟨ad, ds, hA, hpr, hr, hc⟩ := h3 h0
    refine ⟨ad, ds, hA, hp _ hpr, hr.imp fun _ _ hc => RV.keep hk hp hc, fun j hj => ?_⟩
    have hb : (ad.add j).block = ad.block := by unfold Addr.add; split <;> rfl
    exact (World.cell?_of_block (w := w) (by rw [hb]; exact hk _ hpr)).trans (hc j hj)

theorem RV.flat_any {Pr Pr' : Nat → Prop} {w w' : World} : ∀ {t : Ty}, t.flat = true → ∀ {x : t.den} {cs : List Value}, RV Pr w t x cs → RV Pr' w' t x cs
  | .int _, _, _, _, h => h
  | .bool, _, _, _, h => h
  | .str, _, _, _, h => h
  | .unit, _, _, _, h => h
  | .err, _, _, _, h => h
  | .bnd _ _, hf, _, _, h => by simp [Ty.flat] at hf
  | .pair a b, hf, _, _, h => by
    simp only [Ty.flat, Bool.and_eq_true] at hf
    obtain ⟨c, d, rfl, h1, h2⟩ := h
    exact ⟨c, d, rfl, RV.flat_any hf.1 h1, RV.flat_any hf.2 h2⟩
  | .arr n t, hf, xs, _, h => ⟨h.1, h.2.imp fun _ _ hc => RV.flat_any (by simpa [Ty.flat] using hf) hc⟩
  | .list t, hf, _, _, h => by simp [Ty.flat] at hf

theorem RV.zero {Pr : Nat → Prop} {w : World} : ∀ (t : Ty), RV Pr w t t.zero t.zeroCells
  | .int _ => rfl
  | .bool => rfl
  | .str => rfl
  | .unit => rfl
  | .err => ⟨fun _ => rfl, fun h => by simp [Ty.zero] at h⟩
  | .bnd _ _ => rfl
  | .pair a b => ⟨_, _, rfl, RV.zero a, RV.zero b⟩
  | .arr n t => ⟨by simp [Ty.zero], Rows.replicate (RV.zero t) n⟩
  | .list t => ⟨none, 0, rfl, by simp [Ty.zero], by simp [Ty.zero], by simp [Ty.zero]⟩

/-- Every cell of a reading is the value of one cell. -/
theorem RV.one {Pr : Nat → Prop} {w : World} : ∀ {t : Ty} {x : t.den} {cs : List Value}, RV Pr w t x cs → ∀ u ∈ cs, u.oneCell' = true
  | .int _, _, _, h, u, hu => by simp only [RV] at h; subst h; simp at hu; subst hu; rfl
  | .bool, _, _, h, u, hu => by simp only [RV] at h; subst h; simp at hu; subst hu; rfl
  | .str, _, _, h, u, hu => by simp only [RV] at h; subst h; simp at hu; subst hu; rfl
  | .unit, _, _, h, u, hu => by simp only [RV] at h; subst h; simp at hu
  | .err, b, _, h, u, hu => by
    cases b with
    | false => rw [h.1 rfl] at hu; simp at hu; subst hu; rfl
    | true => obtain ⟨T, v, rfl⟩ := h.2 rfl; simp at hu; subst hu; rfl
  | .bnd f t, x, _, h, u, hu => by
    cases x with
    | none => rw [show _ = _ from h] at hu; simp at hu; subst hu; rfl
    | some y => obtain ⟨c, _, rfl⟩ := h; simp at hu; subst hu; rfl
  | .pair a b, _, _, h, u, hu => by
    obtain ⟨c, d, rfl, h1, h2⟩ := h
    rcases List.mem_append.1 hu with hu | hu
    · exact RV.one h1 u hu
    · exact RV.one h2 u hu
  | .arr n t, xs, _, h, u, hu => by
    replace h := h.2
    induction h with
    | nil => simp at hu
    | cons h _ ih =>
      rcases List.mem_append.1 hu with hu | hu
      · exact RV.one h u hu
      · exact ih hu
  | .list t, _, _, h, u, hu => by
    obtain ⟨A, cap, rfl, _⟩ := h
    simp at hu; subst hu; rfl

theorem valOf_cells {Pr : Nat → Prop} {w : World} {t : Ty} {x : t.den} {cs : List Value} (h : RV Pr w t x cs) : (valOf t cs).cells = cs.toArray := by
  cases t <;> simp only [RV] at h
  case int => subst h; rfl
  case bool => subst h; rfl
  case str => subst h; rfl
  case unit => subst h; rfl
  case err =>
    cases x with
    | false => rw [h.1 rfl]; rfl
    | true => obtain ⟨T, v, rfl⟩ := h.2 rfl; rfl
  case bnd f t =>
    cases x with
    | none => rw [show _ = _ from h]; rfl
    | some y => obtain ⟨c, _, rfl⟩ := h; rfl
  case pair => rfl
  case arr => rfl
  case list => obtain ⟨A, cap, rfl, _⟩ := h; rfl
end Go.Ev

namespace Go.Ev
open Go.RowKit

/-- No cell of a row of n cells is frozen. -/
def Thawed (fz : Nat × Nat) (n : Nat) : Prop := fz = (0, 0) ∨ n ≤ fz.1
def ownsQ (w : World) (e : TypeId) (size : Nat) (v : Value) (n : Nat) (xs : List Value) : Prop :=
  xs.length = n * size ∧
  ((v = .slice none 0 0 ∧ n = 0) ∨
   ∃ g cap cur, v = .slice (some ⟨g, 0, none⟩) n cap ∧ (∃ fz, Thawed fz cur.size ∧ w.heap[g]? = some (.cells cur e fz)) ∧ n ≤ cap ∧ cap ≤ maxLen ∧ cur.size = cap * size ∧ cur.toList.take (n * size) = xs)
theorem ownsQ_of {w : World} {e : TypeId} {size : Nat} {v : Value} {n : Nat} {xs : List Value} (h : w.ownsRow 0 e size v n xs) : ownsQ w e size v n xs := by
  refine ⟨h.1, ?_⟩
  rcases h.2 with hn | ⟨g, cap, cur, hv, _, hg, rest⟩
  · exact .inl hn
  · exact .inr ⟨g, cap, cur, hv, ⟨_, .inl rfl, hg⟩, rest⟩
theorem ownsQ_nil (w : World) (e : TypeId) (size : Nat) : ownsQ w e size (.slice none 0 0) 0 [] := ownsQ_of (World.ownsRow_nil w 0 e size)
theorem ownsQ.lt {w : World} {e : TypeId} {size : Nat} {v : Value} {n : Nat} {xs : List Value} (h : ownsQ w e size v n xs) : ∀ k, v.ownBlock = some k → k < w.heap.size := by
  intro k hk
  rcases h.2 with ⟨rfl, _⟩ | ⟨g, cap, cur, rfl, ⟨fz, _, hg⟩, _⟩
  · simp [Value.ownBlock] at hk
  · simp [Value.ownBlock] at hk
    subst hk
    exact (Array.getElem?_eq_some_iff.1 hg).1
theorem ownsQ.cells {w : World} {e : TypeId} {size : Nat} {v : Value} {n : Nat} {xs : List Value} (h : ownsQ w e size v n xs) {g : Nat} (hg : v.ownBlock = some g) : ∀ j u, xs[j]? = some u → w.cell? ((⟨g, 0, none⟩ : Addr).add j) = some u := by
  intro j u hu
  rcases h.2 with ⟨rfl, _⟩ | ⟨g', cap, cur, rfl, ⟨fz, _, hgg⟩, _, _, _, htake⟩
  · simp [Value.ownBlock] at hg
  · simp [Value.ownBlock] at hg
    subst hg
    have hadd : (⟨g', 0, none⟩ : Addr).add j = ⟨g', j, none⟩ := by unfold Addr.add; split <;> simp_all
    rw [hadd, cell_of_row w g' j cur e fz hgg]
    rw [← htake, List.getElem?_take] at hu
    split at hu
    · simpa using hu
    · cases hu
theorem grownBy_self (w : World) (r : Option Nat) : w.grownBy w r := ⟨rfl, rfl, rfl, Nat.le_refl _, fun _ _ _ => rfl⟩
/-- Cells stored one after the other. -/
theorem store_cells {P : Program} (gb e o : Nat) (fz : Nat × Nat) : ∀ (vs : List Value) (i : Nat) (cur : Array Value) (w : World), w.heap[gb]? = some (.cells cur e fz) → Thawed fz cur.size → o + i + vs.length ≤ cur.size → (∀ v ∈ vs, v.oneCell' = true) →
    ∃ w', (storeCells ⟨gb, o, none⟩ vs i).run P w = .ok () w' ∧ w'.heap[gb]? = some (.cells ((vs.zipIdx i).foldl (fun cs (p : Value × Nat) => cs.setIfInBounds (o + p.2) p.1) cur) e fz) ∧ w.grownBy w' (some gb)
  | [], i, cur, w, hg, _, hl, _ => ⟨w, rfl, by simpa using hg, grownBy_self _ _⟩
  | v :: rest, i, cur, w, hg, hf, hl, h1 => by
    have hi : o + i < cur.size := by simp at hl; omega
    have hcell : w.cell? ⟨gb, o + i, none⟩ = some cur[o + i] := by simp [World.cell?, hg, hi]
    have hfro : w.frozen? ⟨gb, o + i, none⟩ = false := by
      rcases hf with rfl | hf
      · simp [World.frozen?, hg]
      · simp [World.frozen?, hg]; omega
    have hadd : (⟨gb, o, none⟩ : Addr).add i = ⟨gb, o + i, none⟩ := by unfold Addr.add; split <;> simp_all
    have hst : (store ((⟨gb, o, none⟩ : Addr).add i) v).run P w = .ok () (w.setRow gb (cur.setIfInBounds (o + i) v)) := by
      rw [hadd, run_store P w _ v _ (h1 v (by simp)), hcell]
      simp [hfro, setCell_eq_setRow w gb (o + i) cur e fz v hg]
    obtain ⟨w', h2, h3, h4⟩ := store_cells (P := P) gb e o fz rest (i + 1) (cur.setIfInBounds (o + i) v) (w.setRow gb (cur.setIfInBounds (o + i) v)) (setRow_heap w gb cur _ e _ hg) (by simpa using hf) (by simp at hl ⊢; omega) (fun x hx => h1 x (by simp [hx]))
    refine ⟨w', ?_, ?_, ?_⟩
    · simp only [storeCells, Sem.run_bind, hst, Result.andThen_ok, h2]
    · simpa using h3
    · refine ⟨h4.os, h4.tape, h4.output, by have := h4.size; simpa using this, fun k hk hne => ?_⟩
      rw [h4.block k (by simpa using hk) hne]
      exact setRow_other w gb k _ (fun e => hne (by rw [e]))
theorem foldl_set' (o : Nat) : ∀ (vs : List Value) (i : Nat) (cur : Array Value), o + i + vs.length ≤ cur.size →
    ((vs.zipIdx i).foldl (fun cs (p : Value × Nat) => cs.setIfInBounds (o + p.2) p.1) cur).toList = cur.toList.take (o + i) ++ vs ++ cur.toList.drop (o + i + vs.length)
  | [], i, cur, h => by simp
  | v :: r, i, cur, h => by
    simp only [List.length_cons] at h
    rw [List.zipIdx_cons, List.foldl_cons, foldl_set' o r (i + 1) _ (by simp; omega)]
    simp only [Array.toList_setIfInBounds, List.length_cons]
    rw [List.take_set, List.drop_set_of_lt (by omega)]
    have e1 : (cur.toList.take (o + (i + 1))).set (o + i) v = cur.toList.take (o + i) ++ [v] := by
      rw [← Nat.add_assoc, List.take_add_one, List.getElem?_eq_getElem (by simp; omega), List.set_append_right _ _ (by simp; omega)]
      have : o + i - (cur.toList.take (o + i)).length = 0 := by simp; omega
      rw [this]; simp
    rw [e1, show o + (i + 1) + r.length = o + i + (r.length + 1) by omega]
    simp
/-- append to what is owned. -/
theorem run_append_Q {P : Program} (w : World) (t ty e : TypeId) (i : TypeInfo) (z : Value) (size bytes : Nat) (ht : P.underlying t = some (.slice e)) (hi : P.info? e = some i) (hz : i.zero = some z)
    (hsize : i.size = size) (hby : i.bytes = bytes) (hzs : z.cells.size = size) (hsz : 0 < size)
    (v : Value) (n : Nat) (xs : List Value) (hown : ownsQ w e size v n xs)
    (a : Addr) (m c : Nat) (news : List Value) (hl : news.length = m * size) (hnews : ∀ j u, news[j]? = some u → w.cell? (a.add j) = some u) (h1 : ∀ u ∈ news, u.oneCell' = true)
    (h63 : n + m ≤ maxLen) (hbytes : (n + m) * bytes ≤ 140737488355328) :
    ∃ v' w', (Builtin.append_ #[t, t] ty #[v, .slice (some a) m c]).run P w = .ok v' w' ∧ ownsQ w' e size v' (n + m) (xs ++ news) ∧ w.grownBy w' v.ownBlock ∧
      (v'.ownBlock = v.ownBlock ∨ v'.ownBlock = some w.heap.size) := by
  have old : w.ownsRow 0 e size v n xs → ∃ v' w', (Builtin.append_ #[t, t] ty #[v, .slice (some a) m c]).run P w = .ok v' w' ∧ ownsQ w' e size v' (n + m) (xs ++ news) ∧ w.grownBy w' v.ownBlock ∧ (v'.ownBlock = v.ownBlock ∨ v'.ownBlock = some w.heap.size) := fun ho => by
    obtain ⟨v', w', k1, k2, k3, _, k5⟩ := run_append_own_at (P := P) w 0 t ty e i z size bytes ht hi hz hsize hby hzs hsz v n xs ho a m c news hl hnews h1 h63 hbytes (Nat.zero_le _)
    exact ⟨v', w', k1, ownsQ_of k2, k3, k5⟩
  rcases hown.2 with hn | ⟨g, cap, cur, hv, ⟨fz, hf, hg⟩, hnc, hcm, hcs, htake⟩
  · exact old ⟨hown.1, .inl hn⟩
  rcases hf with hf | hf
  · subst hf
    exact old ⟨hown.1, .inr ⟨g, cap, cur, hv, Nat.zero_le _, hg, hnc, hcm, hcs, htake⟩⟩
  subst hv
  subst hsize
  subst hby
  have hlen : (xs ++ news).length = (n + m) * i.size := by rw [List.length_append, hown.1, hl, Nat.add_mul]
  by_cases hroom : n + m ≤ cap
  · have hfit : n * i.size + news.length ≤ cur.size := by rw [hl, hcs, ← Nat.add_mul]; exact Nat.mul_le_mul_right _ hroom
    have hfc := run_firstCells_some (P := P) w i.size m a m c news hl hnews
    obtain ⟨w', s1, s2, s3⟩ := store_cells (P := P) g e (n * i.size) fz news 0 cur w hg (.inr hf) (by simpa using hfit) h1
    have s4 := foldl_set' (n * i.size) news 0 cur (by simpa using hfit)
    simp only [Nat.add_zero] at s4
    refine ⟨.slice (some ⟨g, 0, none⟩) (n + m) cap, w', ?_, ⟨hlen, .inr ⟨g, cap, _, rfl, ⟨fz, .inr ?_, s2⟩, hroom, hcm, ?_, ?_⟩⟩, s3, .inl rfl⟩
    · simp [Builtin.append_, run_underlying ht, sizeOf, typeInfo, hi, Builtin.lenOf, hroom, hfc, Addr.add_lit, s1]
    · rw [← Array.length_toList, s4]
      simp only [List.length_append, List.length_take, List.length_drop, Array.length_toList]
      omega
    · rw [← Array.length_toList, s4]
      simp only [List.length_append, List.length_take, List.length_drop, Array.length_toList]
      omega
    · rw [s4, htake, ← hlen]
      exact List.take_left
  · have holds : ∀ j u, xs[j]? = some u → w.cell? ((⟨g, 0, none⟩ : Addr).add j) = some u := hown.cells (g := g) rfl
    have hr := run_append_grow (P := P) w t ty e i z ht hi hz ⟨g, 0, none⟩ n cap xs hown.1 holds a m c news hl hnews (by omega) (by simp only [maxLen] at h63; omega) (growslice_fits (by omega) hbytes)
    have hge := grownCap_ge w (n + m) cap e
    have hcm' : grownCap w (n + m) cap e ≤ maxLen := grownCap_le_maxLen w (n + m) cap e h63
    refine ⟨_, _, hr, ⟨hlen, .inr ⟨w.heap.size, _, _, rfl, ⟨(0, 0), .inl rfl, heap_alloc_new w.drew _⟩, hge, hcm', ?_, ?_⟩⟩, ⟨rfl, rfl, rfl, by simp, fun k hk _ => by first | exact heap_alloc_old w.drew _ k hk | exact heap_alloc_old w.drew _ hk⟩, .inr rfl⟩
    · simp only [Array.size_append, List.size_toArray, size_zeroCells, hzs, hown.1, hl, ← Nat.add_mul]
      congr 1
      omega
    · simp only [Array.toList_append, List.append_assoc]
      rw [← List.append_assoc, ← hlen]
      exact List.take_left
end Go.Ev

namespace Go.Ev

inductive Loc where
  | slot (n : Nat) | comp (n i : Nat) | cell (b o : Nat) | box (b : Nat)
  deriving DecidableEq, Inhabited
def Loc.eq : Loc → Loc → Bool
  | .slot a, .slot b => Nat.beq a b
  | .comp a i, .comp b j => Nat.beq a b && Nat.beq i j
  | .cell a i, .cell b j => Nat.beq a b && Nat.beq i j
  | .box a, .box b => Nat.beq a b
  | _, _ => false
theorem Loc.eq_iff {a b : Loc} : a.eq b = true ↔ a = b := by
  cases a <;> cases b <;> simp [Loc.eq]

inductive AV where
  | dead
  | dat (t : Ty) (x : t.den)
  | own (e : Nat) (t : Ty) (xs : List t.den) (st : Nat)
  | view (l : Loc) (st : Nat) (t : Ty) (n : Nat)
  | ptr (b o : Nat)
  | eptr (l : Loc) (st : Nat) (t : Ty) (i o : Nat)
  | dptr (t : Ty) (x : t.den) (o : Nat)
  | fn (f : Nat) (caps : List Nat)
  | nil
  | tup (n : Nat)
  | bx (e n : Nat)
  | nilp
  | mptr (b o : Nat) (p : Bool)
  | datn (t : Ty) (x : t.den) (ns : List Nat)
  | junk
  | yld
  | opt (c : List (Nat × Bool)) (v : AV)
  | aview (b o k n : Nat)
  deriving Inhabited

/-- What is told of a place whose slice was given up. -/
def deadAt : Loc → AV
  | .cell _ _ => .junk
  | _ => .dead
/-! ### Questions to a state, logged -/
inductive Q (α : Type) where
  | pure (a : α)
  | ask (l : Loc) (k : AV → Q α)
  | fail
def Q.bind {α β : Type} : Q α → (α → Q β) → Q β
  | .pure a, f => f a
  | .ask l k, f => .ask l fun v => (k v).bind f
  | .fail, _ => .fail
instance : Monad Q := {
  pure := Q.pure
  bind := Q.bind }

def Q.run {α : Type} (g : Loc → AV) : Q α → Option α
  | .pure a => some a
  | .ask l k => (k (g l)).run g
  | .fail => none
def Q.reads {α : Type} (g : Loc → AV) : Q α → List Loc
  | .pure _ => []
  | .ask l k => l :: (k (g l)).reads g
  | .fail => []

/-- What an operation does: a test that must stand, and what it writes. -/
structure Eff where
  test : Bool
  writes : List (Loc × AV)

/-! ### Types -/
structure Tab where
  ty : Nat → Option Ty
  el : Nat → Option Nat        -- a slice type's element type
  eq : Nat → Bool              -- structs and arrays that may be compared
  nils : Nat → List (Nat × Nat × Ty)   -- a type's slices: their offsets, their element types
  ref : Nat → Option Bool := fun _ => none   -- pointer types (true), function types (false)
def ofO {α : Type} : Option α → Q α
  | some a => .pure a
  | none => .fail
/-- The whole, where the whole is asked. -/
def Ty.here (t : Ty) (x : t.den) (o : Nat) (u : Ty) : Option u.den := if h : o = 0 ∧ t = u then some (h.2 ▸ x) else none
/-- A part of data, at a cell's offset. -/
def Ty.sub : (t : Ty) → t.den → Nat → (u : Ty) → Option u.den
  | .pair a b, x, o, u => match Ty.here (.pair a b) x o u with
    | some y => some y
    | none => if o < a.sz then a.sub x.1 o u else b.sub x.2 (o - a.sz) u
  | .unit, x, o, u => Ty.here .unit x o u
  | .int k, x, o, u => Ty.here (.int k) x o u
  | .bool, x, o, u => Ty.here .bool x o u
  | .str, x, o, u => Ty.here .str x o u
  | .list t, x, o, u => Ty.here (.list t) x o u
  | .arr n t, x, o, u => Ty.here (.arr n t) x o u
  | .err, x, o, u => Ty.here .err x o u
  | .bnd f t, x, o, u => Ty.here (.bnd f t) x o u
def Ty.put (t : Ty) (o : Nat) (u : Ty) (y : u.den) : Option t.den := if h : o = 0 ∧ u = t then some (h.2 ▸ y) else none
def Ty.upd : (t : Ty) → t.den → Nat → (u : Ty) → u.den → Option t.den
  | .pair a b, x, o, u, y => match Ty.put (.pair a b) o u y with
    | some z => some z
    | none => if o < a.sz then (a.upd x.1 o u y).map (fun z => (z, x.2)) else (b.upd x.2 (o - a.sz) u y).map (fun z => (x.1, z))
  | .unit, _, o, u, y => Ty.put .unit o u y
  | .int k, _, o, u, y => Ty.put (.int k) o u y
  | .bool, _, o, u, y => Ty.put .bool o u y
  | .str, _, o, u, y => Ty.put .str o u y
  | .list t, _, o, u, y => Ty.put (.list t) o u y
  | .arr n t, _, o, u, y => Ty.put (.arr n t) o u y
  | .err, _, o, u, y => Ty.put .err o u y
  | .bnd f t, _, o, u, y => Ty.put (.bnd f t) o u y
/-- A struct's field: its offset, its type. -/
def Ty.fieldAt : Ty → Nat → Option (Nat × Ty)
  | .pair a _, 0 => some (0, a)
  | .pair a b, n + 1 => (b.fieldAt n).map fun p => (a.sz + p.1, p.2)
  | _, _ => none
def scatter (b : Nat) : (t : Ty) → t.den → Nat → List (Loc × AV)
  | .pair s t, x, o => scatter b s x.1 o ++ scatter b t x.2 (o + s.sz)
  | .unit, _, _ => []
  | t, x, o => [(.cell b o, .dat t x)]
/-- What lies at an offset. -/
def Ty.leafAt : Ty → Nat → Option Ty
  | .pair s t, o => if o < s.sz then s.leafAt o else t.leafAt (o - s.sz)
  | .unit, _ => none
  | t, o => if o = 0 then some t else none
/-- The slices of a new box: nil, and its own. -/
def nilsOk (look : Nat → AV) (t : Ty) (ns : List (Nat × Nat × Ty)) : Bool := ns.all fun p => (match t.leafAt p.1 with
  | some (.list u) => u == p.2.2
  | _ => false) && Nat.blt 0 p.2.2.sz && match look p.1 with
    | .dat (.list u) _ => u == p.2.2
    | _ => false
def nilsW (d st : Nat) (ns : List (Nat × Nat × Ty)) : List (Loc × AV) := ns.map fun p => (.cell d p.1, .own p.2.1 p.2.2 [] st)
def castD (t u : Ty) (x : t.den) : Q u.den := if h : t = u then .pure (h ▸ x) else .fail
def isPair : Ty → Bool
  | .pair _ _ | .unit => true
  | _ => false

/-! ### Guards: an entry 'opt c v' is told where all of c stand -/
abbrev Ctx := List (Nat × Bool)
def ctxEq : Ctx → Ctx → Bool
  | [], [] => true
  | (a, x) :: c, (b, y) :: d => Nat.beq a b && (x == y) && ctxEq c d
  | _, _ => false
def suffix (c : Ctx) : Ctx → Bool
  | [] => ctxEq c []
  | d :: ds => ctxEq c (d :: ds) || suffix c ds
def strip (ctx : Ctx) : AV → Q AV
  | .opt c v => if suffix c ctx then .pure v else .fail
  | v => .pure v
def boolOf : AV → Q Bool
  | .dat .bool x => .pure x
  | _ => .fail
/-- Do all guards stand? -/
def gcond : Ctx → Q Bool
  | [] => .pure true
  | (s, want) :: c => .ask (.slot s) fun v => (strip c v).bind fun v => (boolOf v).bind fun x => (gcond c).bind fun r => .pure ((if want then x else !x) && r)

/-! ### States -/
abbrev St := List (Loc × AV)
def St.get : St → Loc → AV
  | [], _ => .dead
  | (k, v) :: r, l => bif k.eq l then v else St.get r l
def St.sets (st : St) : List (Loc × AV) → St
  | [] => st
  | p :: r => St.sets (p :: st) r

/-- What a place holds, but for the data. -/
inductive Kd where
  | dat (t : Ty) | own (e : Nat) (t : Ty) | ptr (b o : Nat) | bx (e n : Nat) | dptr (t : Ty) (o : Nat) | dead | nil
  | fn (f : Nat) (caps : List Nat) | nilp | mptr (b o : Nat) | yld
  deriving DecidableEq
abbrev Kd.den : Kd → Type
  | .dat t => t.den | .own _ t => List t.den | .dptr t _ => t.den | .mptr _ _ => Bool | _ => Unit
abbrev Shape := List (Loc × Kd)
abbrev Tup : Shape → Type
  | [] => Unit
  | p :: r => p.2.den × Tup r
def Kd.mk : (k : Kd) → k.den → AV
  | .dat t, x => .dat t x
  | .own e t, xs => .own e t xs 0
  | .ptr b o, _ => .ptr b o
  | .bx e n, _ => .bx e n
  | .dptr t o, x => .dptr t x o
  | .dead, _ => .dead
  | .nil, _ => .nil
  | .fn f caps, _ => .fn f caps
  | .nilp, _ => .nilp
  | .mptr b o, p => .mptr b o p
  | .yld, _ => .yld
def mkSt : (sh : Shape) → Tup sh → St
  | [], _ => []
  | p :: r, s => (p.1, p.2.mk s.1) :: mkSt r s.2
def Kd.zero : (k : Kd) → k.den
  | .dat t => t.zero
  | .own _ _ => []
  | .dptr t _ => t.zero
  | .mptr _ _ => false
  | .ptr _ _ | .bx _ _ | .dead | .nil | .fn _ _ | .nilp | .yld => ()
def Tup.zero : (sh : Shape) → Tup sh
  | [] => ()
  | p :: r => (p.2.zero, Tup.zero r)
def natsEq : List Nat → List Nat → Bool
  | [], [] => true
  | a :: as, b :: bs => Nat.beq a b && natsEq as bs
  | _, _ => false
def Kd.un : (k : Kd) → AV → Option k.den
  | .dat t, .dat t' x => if h : t' = t then some (h ▸ x) else none
  | .own e t, .own e' t' xs s => if h : t' = t then (if Nat.beq e' e && Nat.beq s 0 then some (h ▸ xs) else none) else none
  | .ptr b o, .ptr b' o' => if Nat.beq b' b && Nat.beq o' o then some () else none
  | .bx e n, .bx e' n' => if Nat.beq e' e && Nat.beq n' n then some () else none
  | .dptr t o, .dptr t' x o' => if h : t' = t then (if Nat.beq o' o then some (h ▸ x) else none) else none
  | .dead, .dead => some ()
  | .nil, .nil => some ()
  | .fn f c, .fn f' c' => if Nat.beq f' f && natsEq c' c then some () else none
  | .nilp, .nilp => some ()
  | .yld, .yld => some ()
  | .mptr b o, .mptr b' o' p => if Nat.beq b' b && Nat.beq o' o then some p else none
  | _, _ => none
def unSt : (sh : Shape) → St → Option (Tup sh)
  | [], [] => some ()
  | p :: r, q :: st => bif p.1.eq q.1 then (match p.2.un q.2 with
    | some x => (match unSt r st with
      | some s => some (x, s)
      | none => none)
    | none => none) else none
  | _, _ => none
/-! ### Callees -/
structure Dat where
  t : Ty
  x : t.den
def Dat.as (d : Dat) (t : Ty) : t.den := if h : d.1 = t then h ▸ d.2 else t.zero
inductive RK where
  | dat (t : Ty) | own (e : Nat) (t : Ty)
structure Spec where
  params : List Ty
  results : List RK
  pre : List Dat → Bool
  val : List Dat → List Dat
/-- A callee that is handed boxes, or function values: what it is handed, what it hands back. -/
structure Spec2 where
  pin : Shape
  pout : Shape
  f : Tup pin → Option (Tup pout)
/-- A callee that changes a slice in place: its other arguments are plain functions; what becomes of the slice. -/
structure InSpec where
  e : Nat
  t : Ty
  g : List t.den → Option (List t.den)
structure Env where
  tab : Tab
  spec : Nat → Option Spec
  glob : Nat → Option Dat
  spec2 : Nat → List Nat → Option Spec2 := fun _ _ => none
  held : Nat → Bool := fun _ => false      -- names of boxes that no new one may take
  inpl : Nat → Option (List Nat × InSpec) := fun _ => none      -- callees that change a slice in place
  bldT : Nat → Option Nat := fun _ => none      -- builders: the type of their bytes
  bld : Nat → Option (Bool × Nat × Nat) := fun _ => none      -- a builder's methods: does it write?, the builder's type, its bytes' type
/-- A new box's type: its name is free. -/
def Env.tyB (E : Env) (d T : Nat) : Option Ty := bif E.held d then none else E.tab.ty T
theorem Env.tyB_some {E : Env} {d T : Nat} {t : Ty} (h : E.tyB d T = some t) : E.held d = false ∧ E.tab.ty T = some t := by
  unfold Env.tyB at h
  cases hh : E.held d with
  | true => rw [hh] at h; cases h
  | false => rw [hh] at h; exact ⟨rfl, h⟩

/-! ### Operands -/
def rd (E : Env) (ctx : Ctx) : Operand → Q AV
  | .tmp t => .ask (.slot t) (strip ctx)
  | .const (.int k n) => .pure (.dat (.int k) n)
  | .const (.bool b) => .pure (.dat .bool b)
  | .const (.string s) => .pure (.dat .str s.data.toList)
  | .const (.slice none 0 0) => .pure .nil
  | .const (.pointer none) => .pure .nilp
  | .const _ => .pure .junk
  | .global g => (ofO (E.glob g)).bind fun d => .pure (.dptr d.1 d.2 0)
  | .func f => .pure (.fn f [])
/-- An operand as data; what is owned is frozen. -/
def toDat (x : Operand) : AV → Q (Dat × List (Loc × AV))
  | .dat t y => .pure (⟨t, y⟩, [])
  | .own _ t xs _ => match x with
    | .tmp s => .pure (⟨.list t, xs⟩, [(.slot s, .dat (.list t) xs)])
    | _ => .fail
  | .view l st t n => .ask l fun
    | .own _ t' xs st' => if Nat.beq st st' then (castD (.list t') (.list t) xs).bind fun xs => .pure (⟨.list t, xs.take n⟩, [(l, .dat (.list t) xs)]) else .fail
    | _ => .fail
  | .datn t y _ => .pure (⟨t, y⟩, [])
  | _ => .fail
/-- The same, of a nil slice too, whose type is told by the place. -/
def toDatAs (E : Env) (T : Nat) (x : Operand) : AV → Q (Dat × List (Loc × AV))
  | .nil => (ofO (E.tab.ty T)).bind fun
    | .list t => .pure (⟨.list t, []⟩, [])
    | _ => .fail
  | v => toDat x v
def rdInt (E : Env) (ctx : Ctx) (x : Operand) : Q (IntKind × Int) := (rd E ctx x).bind fun
  | .dat (.int k) n => .pure (k, n)
  | _ => .fail

/-! ### Reckoning -/
def eqv : (t : Ty) → t.den → t.den → Bool
  | .int _, a, b => a == b
  | .bool, a, b => a == b
  | .str, a, b => a == b
  | .unit, _, _ => true
  | .pair s t, a, b => eqv s a.1 b.1 && eqv t a.2 b.2
  | .list _, _, _ | .err, _, _ | .bnd _ _, _, _ => false
  | .arr _ t, a, b => (a.zip b).all fun p => eqv t p.1 p.2
def binInt (op : BinOp) (k : IntKind) (x y : Int) : Option (Bool × Dat) :=
  match op with
  | .add => some (true, ⟨.int k, k.wrap (x + y)⟩)
  | .sub => some (true, ⟨.int k, k.wrap (x - y)⟩)
  | .mul => some (true, ⟨.int k, k.wrap (x * y)⟩)
  | .quo => some (!(y == 0), ⟨.int k, k.wrap (x.tdiv y)⟩)
  | .rem => some (!(y == 0), ⟨.int k, x.tmod y⟩)
  | .and | .or | .xor | .andNot => some (true, ⟨.int k, bits op k x y⟩)
  | .eql => some (true, ⟨.bool, x == y⟩)
  | .neq => some (true, ⟨.bool, x != y⟩)
  | .lss => some (true, ⟨.bool, decide (x < y)⟩)
  | .leq => some (true, ⟨.bool, decide (x ≤ y)⟩)
  | .gtr => some (true, ⟨.bool, decide (x > y)⟩)
  | .geq => some (true, ⟨.bool, decide (x ≥ y)⟩)
  | .shl | .shr => none
def binStr (op : BinOp) (x y : List UInt8) : Option (Bool × Dat) :=
  match op with
  | .add => some (decide (x.length + y.length ≤ 9223372036854775807), ⟨.str, x ++ y⟩)
  | .eql => some (true, ⟨.bool, x == y⟩)
  | .neq => some (true, ⟨.bool, !(x == y)⟩)
  | .lss => some (true, ⟨.bool, Op.bytesLess x y⟩)
  | .leq => some (true, ⟨.bool, Op.bytesLess x y || x == y⟩)
  | .gtr => some (true, ⟨.bool, !(Op.bytesLess x y || x == y)⟩)
  | .geq => some (true, ⟨.bool, !Op.bytesLess x y⟩)
  | _ => none
def bin (op : BinOp) (x y : Dat) : Option (Bool × Dat) :=
  match op, x, y with
  | .shl, ⟨.int k, a⟩, ⟨.int _, b⟩ => some (decide (0 ≤ b), ⟨.int k, k.wrap (a * 2 ^ min b.toNat k.bits)⟩)
  | .shr, ⟨.int k, a⟩, ⟨.int _, b⟩ => some (decide (0 ≤ b), ⟨.int k, a.fdiv (2 ^ min b.toNat k.bits)⟩)
  | op, ⟨.int k, a⟩, ⟨.int k', b⟩ => if k = k' then binInt op k a b else none
  | op, ⟨.str, a⟩, ⟨.str, b⟩ => binStr op a b
  | _, _, _ => none
def una (op : UnOp) : Dat → Option Dat
  | ⟨.int k, a⟩ => match op with
    | .neg => some ⟨.int k, k.wrap (0 - a)⟩
    | .xor => some ⟨.int k, bits .xor k (if k.signed then -1 else k.max) a⟩
    | _ => none
  | ⟨.bool, a⟩ => match op with
    | .not => some ⟨.bool, !a⟩
    | _ => none
  | _ => none
def conv (src dst : Ty) : Dat → Option (Bool × Dat)
  | ⟨.int k', n⟩ => match src, dst with
    | .int _, .int k => some (true, ⟨.int k, k.wrap n⟩)
    | _, _ => none
  | ⟨.str, s⟩ => match src, dst with
    | .str, .str => some (true, ⟨.str, s⟩)
    | .str, .list (.int .u8) => some (decide (s.length ≤ 9223372036854775807), ⟨.list (.int .u8), s.map fun b => (b.toNat : Int)⟩)
    | _, _ => none
  | ⟨.list (.int .u8), xs⟩ => match src, dst with
    | .list (.int .u8), .str => some (true, ⟨.str, xs.map fun n => UInt8.ofNat n.toNat⟩)
    | _, _ => none
  | _ => none

/-- A string's bytes are new memory. -/
def convW (E : Env) (ctx : Ctx) (i d : Nat) (s : Ty) (dst : Nat) (r : Bool × Dat) : Q Eff :=
  match ctx, s, r.2 with
  | [], .str, ⟨.list (.int .u8), xs⟩ => (ofO (E.tab.el dst)).bind fun e => .pure ⟨r.1, [(.slot d, .own e (.int .u8) xs (i + 1))]⟩
  | _, _, _ => .pure ⟨r.1, [(.slot d, .dat r.2.1 r.2.2)]⟩
/-- An error is compared with nil. -/
def errEqQ (d : Nat) (op : BinOp) (b : Bool) (y : Operand) : Q Eff := match y with
  | .const .nilIface => (match op with
    | .neq => .pure ⟨true, [(.slot d, .dat .bool b)]⟩
    | .eql => .pure ⟨true, [(.slot d, .dat .bool !b)]⟩
    | _ => .fail)
  | _ => .fail
/-- Does '==' go by the type? -/
def eqTy : Ty → Bool
  | .int _ | .str | .list _ => false
  | _ => true
/-! ### The operations -/
def sureD : Option Nat → Q Nat
  | some d => .pure d
  | none => .fail
def lenOf (l : List (Loc × AV)) : Nat := l.length
/-- A slice, array or string, to be looked at: its length. -/
def lenQ (t : Ty) : AV → Q Int
  | .dat .str s => if t = .str then .pure s.length else .fail
  | .dat (.list u) xs => if t = .list u then .pure xs.length else .fail
  | .own _ u xs _ => if t = .list u then .pure xs.length else .fail
  | .view _ _ u n => if t = .list u then .pure n else .fail
  | .nil => (match t with
    | .list _ => .pure 0
    | _ => .fail)
  | _ => match t with
    | .arr n _ => .pure n
    | _ => .fail
/-- The contents of an owned slice behind a value, the place that owns it, how many of them the value reaches. -/
structure Root where
  l : Loc
  e : Nat
  t : Ty
  xs : List t.den
  n : Nat
def rootOf (x : Operand) : AV → Q Root
  | .own e t xs _ => match x with
    | .tmp s => .pure ⟨.slot s, e, t, xs, xs.length⟩
    | _ => .fail
  | .view l st t n => .ask l fun
    | .own e t' xs st' => if Nat.beq st st' then (if t' = t then .pure ⟨l, e, t', xs, n⟩ else .fail) else .fail
    | _ => .fail
  | _ => .fail
def stampOf : AV → Nat
  | .own _ _ _ st => st
  | .view _ st _ _ => st
  | _ => 0
/-- The fields or elements of a literal. -/
def setField : (t : Ty) → t.den → Nat → Dat → Option t.den
  | .pair a b, x, 0, y => if h : y.1 = a then some ((h ▸ y.2), x.2) else none
  | .pair _ b, x, n + 1, y => (setField b x.2 n y).map fun z => (x.1, z)
  | _, _, _, _ => none
def setPart : (t : Ty) → t.den → Nat → Dat → Option t.den
  | .arr n t, xs, i, y => if h : y.1 = t then (if i < n then some (List.set xs i (h ▸ y.2)) else none) else none
  | .pair a b, x, i, y => setField (.pair a b) x i y
  | _, _, _, _ => none
def partsQ (E : Env) (ctx : Ctx) (t : Ty) (fT : Nat → Nat) : t.den → List (Nat × Operand) → Q (t.den × List (Loc × AV))
  | x, [] => .pure (x, [])
  | x, (i, o) :: r => (rd E ctx o).bind fun v => (match v with
      | .nil => (match t.fieldAt i with
        | some (_, .list u) => Q.pure ((⟨.list u, []⟩ : Dat), ([] : List (Loc × AV)))
        | _ => .fail)
      | v => toDat o v).bind fun (d, ws) => (ofO (setPart t x i d)).bind fun x' => (partsQ E ctx t fT x' r).bind fun (x2, ws2) => .pure (x2, ws ++ ws2)
/-- Which slices of a literal are nil. -/
def nilsQ (E : Env) (ctx : Ctx) (t : Ty) : List Nat → List (Nat × Operand) → Q (List Nat)
  | ns, [] => .pure ns
  | ns, (i, o) :: r => match t.fieldAt i with
    | some q => (rd E ctx o).bind fun v => nilsQ E ctx t (ns.filter (fun k => Nat.blt k q.1 || Nat.ble (q.1 + q.2.sz) k) ++ (match v with
        | .nil => [q.1]
        | .datn _ _ ms => ms.map (q.1 + ·)
        | _ => [])) r
    | none => .pure []
def nils0 (E : Env) (T : Nat) (t : Ty) : List Nat := ((E.tab.nils T).filter fun p => match t.leafAt p.1 with
  | some (.list _) => true
  | _ => false).map (·.1)
def nilsOfAV : AV → List Nat
  | .datn _ _ ns => ns
  | _ => []
/-- Places that hold a pointer or a function. -/
def refAV : AV → Bool
  | .ptr _ _ | .mptr _ _ _ | .nilp | .fn _ _ => true
  | _ => false
def isTmp (d : Nat) : Operand → Bool
  | .tmp s => Nat.beq s d
  | _ => false
def allocRefQ (E : Env) (ctx : Ctx) (dst : Option Nat) (T : Nat) (b : Bool) : Q Eff :=
  (sureD dst).bind fun d => if ctx.isEmpty && !E.held d then .ask (.box d) fun
    | .dead => .pure ⟨true, [(.box d, .bx T 1), (.slot d, .ptr d 0), (.cell d 0, if b then .nilp else .junk)]⟩
    | _ => .fail
  else .fail
def boxRefQ (E : Env) (ctx : Ctx) (dst : Option Nat) (T : Nat) (x : Operand) : Q Eff :=
  (sureD dst).bind fun d => if ctx.isEmpty && !E.held d && !isTmp d x then (rd E ctx x).bind fun v => if refAV v then .ask (.box d) fun
    | .dead => .pure ⟨true, [(.box d, .bx T 1), (.slot d, .ptr d 0), (.cell d 0, v)]⟩
    | _ => .fail
  else .fail else .fail
def loadRefQ (E : Env) (ctx : Ctx) (dst : Option Nat) (p : Operand) : Q Eff :=
  (sureD dst).bind fun d => (rd E ctx p).bind fun
    | .ptr b o => .ask (.cell b o) fun v => if refAV v then .pure ⟨true, [(.slot d, v)]⟩ else .fail
    | _ => .fail
def isJunk : AV → Bool
  | .junk => true
  | _ => false
def storeRefQ (E : Env) (ctx : Ctx) (dst : Option Nat) (p x : Operand) : Q Eff := match dst with
  | none => if ctx.isEmpty then (rd E ctx p).bind fun
    | .ptr b o => (rd E ctx x).bind fun v => if refAV v then .ask (.cell b o) fun old => if refAV old || isJunk old then .pure ⟨true, [(.cell b o, v)]⟩ else .fail else .fail
    | _ => .fail
    else .fail
  | some _ => .fail
/-- A load out of a box. -/
def gather (b : Nat) : (t : Ty) → Nat → Q (t.den × List (Loc × AV))
  | .pair s t, o => (gather b s o).bind fun (x, ws) => (gather b t (o + s.sz)).bind fun (y, us) => .pure ((x, y), ws ++ us)
  | .unit, _ => .pure ((), [])
  | t, o => .ask (.cell b o) fun
    | .dat t' x => (castD t' t x).bind fun x => .pure (x, [])
    | .own _ t' xs _ => (castD (.list t') t xs).bind fun x => .pure (x, [(.cell b o, .dat t x)])
    | _ => .fail
def isCell : Loc → Bool
  | .cell _ _ => true
  | _ => false
def elemQ (l : Loc) (st : Nat) (t : Ty) : AV → Q (List t.den × (List t.den → AV))
  | .own e t' xs st' => if Nat.beq st st' then (if h : t' = t then .pure (h ▸ xs, fun ys => .own e t ys st') else .fail) else .fail
  | .dat (.arr n t') xs => if isCell l then (if h : t' = t then .pure (h ▸ xs, fun ys => .dat (.arr n t) ys) else .fail) else .fail
  | _ => .fail
def loadQ (E : Env) (d T : Nat) : AV → Q Eff
  | .ptr b o => (ofO (E.tab.ty T)).bind fun t =>
    if isPair t then (gather b t o).bind fun (x, ws) => .pure ⟨true, ws ++ [(.slot d, .dat t x)]⟩
    else .ask (.cell b o) fun
      | .dat t' x => if t' = t then .pure ⟨true, [(.slot d, .dat t' x)]⟩ else .fail
      | .own _ t' xs st => if .list t' = t then .pure ⟨true, [(.slot d, .view (.cell b o) st t' xs.length)]⟩ else .fail
      | _ => .fail
  | .eptr l st t i o => (ofO (E.tab.ty T)).bind fun u => .ask l fun v => (elemQ l st t v).bind fun (xs, _) =>
      (ofO (t.sub (xs.getD i t.zero) o u)).bind fun y => .pure ⟨decide (i < xs.length), [(.slot d, .dat u y)]⟩
  | .dptr t x o => (ofO (E.tab.ty T)).bind fun u => (ofO (t.sub x o u)).bind fun y => .pure ⟨true, [(.slot d, .dat u y)]⟩
  | _ => .fail
/-- A store into a box: each leaf lies there already, with the same type. -/
def leafLike (t : Ty) : AV → Bool
  | .dat t' _ => t' == t
  | .own _ t' _ _ => .list t' == t
  | .junk => (match t with
    | .list _ => true
    | _ => false)
  | _ => false
def scatterQ (b : Nat) : (t : Ty) → t.den → Nat → Q (List (Loc × AV))
  | .pair s t, x, o => (scatterQ b s x.1 o).bind fun ws => (scatterQ b t x.2 (o + s.sz)).bind fun us => .pure (ws ++ us)
  | .unit, _, _ => .pure []
  | t, x, o => .ask (.cell b o) fun v => if leafLike t v then .pure [(.cell b o, .dat t x)] else .fail
/-- The slices of what is stored into a whole box that are nil. -/
def storeNils (E : Env) (T o : Nat) (v : AV) : List (Nat × Nat × Ty) := if Nat.beq o 0 then (E.tab.nils T).filter fun p => (nilsOfAV v).any (Nat.beq p.1) else []
def storeQ (E : Env) (i T : Nat) (p : AV) (x : Operand) (v : AV) : Q Eff :=
  match p with
  | .ptr b o => match v, x with
    | .own e t xs _, .tmp s => (ofO (E.tab.ty T)).bind fun u => if u = .list t then .ask (.cell b o) fun v => if leafLike u v then .pure ⟨true, [(.slot s, .view (.cell b o) (i + 1) t xs.length), (.cell b o, .own e t xs (i + 1))]⟩ else .fail else .fail
    | v, x => (toDatAs E T x v).bind fun y => (ofO (E.tab.ty T)).bind fun u => if y.1.1 = u ∧ 0 < u.sz then (scatterQ b u (y.1.as u) o).bind fun us => match storeNils E T o v with
      | [] => .pure ⟨true, y.2 ++ us⟩
      | L => if nilsOk (fun o => St.get (St.sets [] us) (.cell b o)) u L then .pure ⟨true, (y.2 ++ us) ++ nilsW b (i + 1) L⟩ else .fail
      else .fail
  | .eptr l st t j o => (toDatAs E T x v).bind fun y => (ofO (E.tab.ty T)).bind fun u => if y.1.1 = u ∧ (y.2.any fun p => p.1.eq l) = false then .ask l fun v => (elemQ l st t v).bind fun r =>
      (ofO (t.upd (r.1.getD j t.zero) o u (y.1.as u))).bind fun z => .pure ⟨decide (j < r.1.length), y.2 ++ [(l, r.2 (r.1.set j z))]⟩ else .fail
  | _ => .fail
def boundsQ (E : Env) (ctx : Ctx) (n : Int) (lo hi : Option Operand) : Q (Int × Int) :=
  (match hi with
    | some o => (rdInt E ctx o).bind fun p => .pure p.2
    | none => .pure n).bind fun h =>
  (match lo with
    | some o => (rdInt E ctx o).bind fun p => .pure p.2
    | none => Q.pure (0 : Int)).bind fun l => .pure (l, h)
def sliceTest (l h n : Int) : Bool := decide (0 ≤ l) && decide (l ≤ h) && decide (h ≤ n)
def cut {α : Type} (xs : List α) (l h : Int) : List α := (xs.take h.toNat).drop l.toNat
def argsQ (E : Env) (ctx : Ctx) (frz : Bool) : List Ty → List Operand → List Nat → Q (List Dat × List (Loc × AV))
  | [], [], _ => .pure ([], [])
  | t :: ts, o :: os, Ts => (rd E ctx o).bind fun v => (toDatAs E (Ts.headD 0) o v).bind fun (d, ws) =>
      if d.1 = t then (argsQ E ctx frz ts os Ts.tail).bind fun (ds, us) => .pure (d :: ds, (if frz then ws else []) ++ us) else .fail
  | _, _, _ => .fail
def RK.flat : RK → Bool
  | .dat t => t.flat
  | .own _ t => t.flat
def RK.ty : RK → Ty
  | .dat t => t
  | .own _ t => .list t
/-- A result as an abstract value; guarded: never owned. -/
def RK.av (i : Nat) (g : Bool) (d : Dat) : RK → AV
  | .dat t => .dat t (d.as t)
  | .own e t => if g then .dat (.list t) (d.as (.list t)) else .own e t (d.as (.list t)) (i + 1)
def resultsW (d i : Nat) (g : Bool) : Nat → List RK → List Dat → List (Loc × AV)
  | _, [], _ => []
  | j, k :: ks, ds => (.comp d j, k.av i g (ds.headD ⟨.unit, ()⟩)) :: resultsW d i g (j + 1) ks ds.tail
def callQ (E : Env) (ctx : Ctx) (i : Nat) (d : Option Nat) (f : Nat) (os : List Operand) (Ts : List Nat) : Q Eff :=
  (ofO (E.spec f)).bind fun S => (argsQ E ctx (!S.results.all RK.flat) S.params os Ts).bind fun (ds, ws) =>
    let g := !ctx.isEmpty
    match d, S.results with
    | some d, [k] => .pure ⟨S.pre ds, ws ++ [(.slot d, k.av i g ((S.val ds).headD ⟨.unit, ()⟩))]⟩
    | some d, ks => if g then .fail else .pure ⟨S.pre ds, ws ++ (.slot d, .tup ks.length) :: resultsW d i g 0 ks (S.val ds)⟩
    | none, _ => .pure ⟨S.pre ds, ws⟩
/-- A bound method is called: its value comes first. -/
def callBQ (E : Env) (ctx : Ctx) (i : Nat) (d : Option Nat) (f : Nat) (t0 : Ty) (x : Option t0.den) (os : List Operand) (Ts : List Nat) : Q Eff :=
  (ofO (E.spec f)).bind fun S => match S.params with
    | t :: ts => if t = t0 then (argsQ E ctx (!S.results.all RK.flat) ts os Ts).bind fun (ds, ws) =>
        match d, S.results with
        | some d, [k] => .pure ⟨x.isSome && S.pre (⟨t0, x.getD t0.zero⟩ :: ds), ws ++ [(.slot d, k.av i (!ctx.isEmpty) ((S.val (⟨t0, x.getD t0.zero⟩ :: ds)).headD ⟨.unit, ()⟩))]⟩
        | _, _ => .fail
      else .fail
    | [] => .fail
def minmaxQ (mx : Bool) : Int → List Int → Int
  | a, [] => a
  | a, b :: r => minmaxQ mx (if mx then (if b > a then b else a) else (if b < a then b else a)) r
def intsQ (E : Env) (ctx : Ctx) : List Operand → Q (List (IntKind × Int))
  | [] => .pure []
  | o :: os => (rdInt E ctx o).bind fun p => (intsQ E ctx os).bind fun r => .pure (p :: r)
/-- What is appended; a look at an array in a box, too. -/
def appArg (E : Env) (T : Nat) (b : Operand) : AV → Q (Bool × Dat)
  | .aview c o 0 n => .ask (.cell c o) fun
    | .dat (.arr m t) xs => .pure (decide (n ≤ m), ⟨.list t, List.take n xs⟩)
    | _ => .fail
  | v => (toDatAs E T b v).bind fun p => .pure (true, p.1)
def appendQ (E : Env) (ctx : Ctx) (i d : Nat) (T : Nat) (a b : Operand) : Q Eff :=
  (ofO (E.tab.ty T)).bind fun
    | .list t => (ofO (E.tab.el T)).bind fun e => (rd E ctx a).bind fun va => (rd E ctx b).bind fun vb =>
      (appArg E T b vb).bind fun (q, y) => if y.1 = .list t then
        match va with
        | .nil => .pure ⟨q && decide ((y.as (.list t)).length ≤ 100000000000), [(.slot d, .own e t (y.as (.list t)) (i + 1))]⟩
        | va => (rootOf a va).bind fun r => if r.t = t ∧ r.e = e then
            .pure ⟨q && decide ((((⟨.list r.t, r.xs⟩ : Dat).as (.list t)).take r.n).length + (y.as (.list t)).length ≤ 100000000000), [(r.l, deadAt r.l), (.slot d, .own e t (((⟨.list r.t, r.xs⟩ : Dat).as (.list t)).take r.n ++ y.as (.list t)) (i + 1))]⟩
          else .fail
      else .fail
    | _ => .fail
def sliceQ (E : Env) (ctx : Ctx) (d T : Nat) (x : Operand) (lo hi : Option Operand) (v : AV) : Q Eff :=
  (ofO (E.tab.ty T)).bind fun tt =>
  match v with
  | .dat .str s => if tt = .str then (boundsQ E ctx s.length lo hi).bind fun p => .pure ⟨sliceTest p.1 p.2 s.length, [(.slot d, .dat .str (cut s p.1 p.2))]⟩ else .fail
  | .dat (.list t) xs => if tt = .list t then (boundsQ E ctx xs.length lo hi).bind fun p => .pure ⟨sliceTest p.1 p.2 xs.length, [(.slot d, .dat (.list t) (cut xs p.1 p.2))]⟩ else .fail
  | .ptr b o => (match lo with
    | none => .ask (.cell b o) fun
      | .dat (.arr m t) _ => if tt = .arr m t then (boundsQ E ctx m lo hi).bind fun p => .pure ⟨sliceTest p.1 p.2 m, [(.slot d, .aview b o 0 p.2.toNat)]⟩ else .fail
      | _ => .fail
    | some _ => .ask (.cell b o) fun
      | .dat (.arr m t) _ => if tt = .arr m t ∧ t.sz = 1 then (boundsQ E ctx m lo hi).bind fun p => .pure ⟨sliceTest p.1 p.2 m && decide (p.1 < (m : Int)), [(.slot d, .aview b o p.1.toNat (p.2.toNat - p.1.toNat))]⟩ else .fail
      | _ => .fail)
  | v => (rootOf x v).bind fun r => if tt = .list r.t then (boundsQ E ctx r.n lo hi).bind fun p =>
      match lo with
      | none => .pure ⟨sliceTest p.1 p.2 r.n, [(.slot d, .view r.l (stampOf v) r.t p.2.toNat)]⟩
      | some _ => .pure ⟨sliceTest p.1 p.2 r.n, [(r.l, .dat (.list r.t) r.xs), (.slot d, .dat (.list r.t) (cut r.xs p.1 p.2))]⟩
      else .fail
/-- A slice whose capacity is told, of data. -/
def slice3Q (E : Env) (ctx : Ctx) (d T : Nat) (lo hi : Option Operand) (m : Operand) (v : AV) : Q Eff :=
  (ofO (E.tab.ty T)).bind fun tt => match v with
  | .dat (.list t) xs => if tt = .list t ∧ hi.isSome = true then (boundsQ E ctx xs.length lo hi).bind fun p => (rdInt E ctx m).bind fun q => .pure ⟨sliceTest p.1 p.2 xs.length && (decide (p.2 ≤ q.2) && decide (q.2 ≤ xs.length)), [(.slot d, .dat (.list t) (cut xs p.1 p.2))]⟩ else .fail
  | _ => .fail
def indexAddrQ (E : Env) (ctx : Ctx) (d T : Nat) (x : Operand) (v : AV) (k : Operand) : Q Eff :=
  (ofO (E.tab.ty T)).bind fun tt => (rdInt E ctx k).bind fun p =>
  match v with
  | .dat (.list t) xs => if tt = .list t then .pure ⟨decide (0 ≤ p.2) && decide (p.2 < xs.length), [(.slot d, .dptr t (xs.getD p.2.toNat t.zero) 0)]⟩ else .fail
  | .dptr (.arr n t) xs 0 => if tt = .arr n t then .pure ⟨decide (0 ≤ p.2) && decide (p.2 < n), [(.slot d, .dptr t (List.getD xs p.2.toNat t.zero) 0)]⟩ else .fail
  | .ptr b o => .ask (.cell b o) fun
      | .dat (.arr n t) _ => if tt = .arr n t then .pure ⟨decide (0 ≤ p.2) && decide (p.2 < n), [(.slot d, .eptr (.cell b o) 0 t p.2.toNat 0)]⟩ else .fail
      | _ => .fail
  | v => (rootOf x v).bind fun r => if tt = .list r.t then .pure ⟨decide (0 ≤ p.2) && decide (p.2 < r.n), [(.slot d, .eptr r.l (stampOf v) r.t p.2.toNat 0)]⟩ else .fail
/-- What may be told of two places. -/
def mayMove : AV → Bool
  | .own _ _ _ _ | .tup _ | .bx _ _ | .opt _ _ | .dead => false
  | _ => true
/-- What a tuple's component may be told as. -/
def compAV : AV → Bool
  | .own _ _ _ _ | .dat _ _ | .ptr _ _ | .mptr _ _ _ | .fn _ _ | .nil | .nilp => true
  | _ => false
/-- The components of a tuple go from one slot to another. -/
def movesQ (s d : Nat) : Nat → Q (List (Loc × AV))
  | 0 => .pure []
  | n + 1 => .ask (.comp s n) fun v => if compAV v then (movesQ s d n).bind fun ws => .pure (ws ++ [(.comp s n, .dead), (.comp d n, v)]) else .fail
/-- A copy between looks at arrays. -/
def copyQ (E : Env) (ctx : Ctx) (d T : Nat) (a b : Operand) : Q Eff :=
  if ctx.isEmpty then (ofO (E.tab.ty T)).bind fun tt => (rd E ctx a).bind fun va => (rd E ctx b).bind fun vb => match va, vb with
    | .aview c o k n, .aview c' o' k' n' => .ask (.cell c o) fun u => .ask (.cell c' o') fun v => match u, v with
      | .dat (.arr m t) ys, .dat (.arr m' t') zs => if h : t' = t then (if tt = .list t ∧ t.sz = 1 ∧ t.flat = true then
          .pure ⟨decide (k + min n' n ≤ m) && decide (k' + min n' n ≤ m'), [(.cell c o, .dat (.arr m t) (List.take k ys ++ List.take (min n' n) (List.drop k' (h ▸ zs : List t.den)) ++ List.drop (k + min n' n) ys)), (.slot d, .dat (.int .i64) ((min n' n : Nat) : Int))]⟩ else .fail) else .fail
      | _, _ => .fail
    | _, _ => .fail
  else .fail
def builtinQ (E : Env) (ctx : Ctx) (i : Nat) (dst : Option Nat) (b : Builtin) (xs : List Operand) (Ts : List Nat) : Q Eff :=
  match b with
  | .len => (match xs, Ts with
    | [x], [T] => (sureD dst).bind fun d => (ofO (E.tab.ty T)).bind fun t => (rd E ctx x).bind fun v => (lenQ t v).bind fun n => .pure ⟨true, [(.slot d, .dat (.int .i64) n)]⟩
    | _, _ => .fail)
  | .min => (sureD dst).bind fun d => (intsQ E ctx xs).bind fun
    | p :: r => if r.all (fun q => q.1 == p.1) then .pure ⟨true, [(.slot d, .dat (.int p.1) (minmaxQ false p.2 (r.map (·.2))))]⟩ else .fail
    | [] => .fail
  | .max => (sureD dst).bind fun d => (intsQ E ctx xs).bind fun
    | p :: r => if r.all (fun q => q.1 == p.1) then .pure ⟨true, [(.slot d, .dat (.int p.1) (minmaxQ true p.2 (r.map (·.2))))]⟩ else .fail
    | [] => .fail
  | .append => (match xs, Ts with
    | [a, b], [T, U] => if Nat.beq T U then (sureD dst).bind fun d => appendQ E ctx i d T a b else .fail
    | _, _ => .fail)
  | .copy => (match xs, Ts with
    | [a, b], [T, U] => if Nat.beq T U then (sureD dst).bind fun d => copyQ E ctx d T a b else .fail
    | _, _ => .fail)
  | _ => .fail
def AV.size : AV → Nat
  | .dat t _ => t.sz
  | _ => 1
def isDead : AV → Bool
  | .dead => true
  | _ => false
/-! ### Callees that are handed boxes -/
/-- The callee's names of boxes, and the caller's. -/
abbrev Names := List (Nat × Nat)
def look (m : Names) (b : Nat) : Option Nat := match m with
  | [] => none
  | p :: r => bif Nat.beq p.1 b then some p.2 else look r b
def bindN (m : Names) (b c : Nat) : Option Names := match look m b with
  | some c' => bif Nat.beq c' c then some m else none
  | none => bif m.any (fun p => Nat.beq p.2 c) then none else some ((b, c) :: m)
def bindAll (m : Names) : List Nat → List Nat → Option Names
  | [], [] => some m
  | b :: bs, c :: cs => match bindN m b c with
    | some m' => bindAll m' bs cs
    | none => none
  | _, _ => none
/-- What is handed in, at an operand: its data; the names; what is frozen. -/
def inArg (m : Names) (x : Operand) : (k : Kd) → AV → Q (k.den × Names × List (Loc × AV))
  | .dat t, v => (match v, t with
    | .nil, .list t => Q.pure (([] : List t.den), m, [])
    | v, t => (toDat x v).bind fun d => if h : d.1.1 = t then .pure ((h ▸ d.1.2 : t.den), m, d.2) else .fail)
  | .ptr b o, .ptr c o' => if Nat.beq o' o then (ofO (bindN m b c)).bind fun m' => .pure ((), m', []) else .fail
  | .mptr b o, .mptr c o' p => if Nat.beq o' o then (ofO (bindN m b c)).bind fun m' => .pure (p, m', []) else .fail
  | .fn f bs, .fn f' cs => if Nat.beq f' f then (ofO (bindAll m bs cs)).bind fun m' => .pure ((), m', []) else .fail
  | .dead, _ => .pure ((), m, [])
  | _, _ => .fail
/-- At a cell of a box that is handed in. -/
def inCell (m : Names) (l : Loc) : (k : Kd) → AV → Q (k.den × Names × List (Loc × AV))
  | .dat t, v => (match v, t with
    | .nil, .list t => Q.pure (([] : List t.den), m, [])
    | .own _ t' xs _, t => if h : .list t' = t then .pure ((h ▸ xs : t.den), m, [(l, .dat (.list t') xs)]) else .fail
    | .dat t' x, t => if h : t' = t then .pure ((h ▸ x : t.den), m, []) else .fail
    | _, _ => .fail)
  | .own e t, v => (match v with
    | .own e' t' xs _ => if h : t' = t then (if Nat.beq e' e then .pure ((h ▸ xs : List t.den), m, []) else .fail) else .fail
    | .nil => if Nat.blt 0 t.sz then .pure (([] : List t.den), m, []) else .fail
    | _ => .fail)
  | .ptr b o, .ptr c o' => if Nat.beq o' o then (ofO (bindN m b c)).bind fun m' => .pure ((), m', []) else .fail
  | .mptr b o, .mptr c o' p => if Nat.beq o' o then (ofO (bindN m b c)).bind fun m' => .pure (p, m', []) else .fail
  | .fn f bs, .fn f' cs => if Nat.beq f' f then (ofO (bindAll m bs cs)).bind fun m' => .pure ((), m', []) else .fail
  | .nil, .nil => .pure ((), m, [])
  | .dead, _ => .pure ((), m, [])
  | _, _ => .fail
/-- An argument: an operand, or what a function value has captured. -/
inductive Arg where
  | opd (x : Operand) | cap (b : Nat)
def rdArg (E : Env) (ctx : Ctx) : Arg → Q AV
  | .opd x => rd E ctx x
  | .cap b => .pure (.ptr b 0)
def Arg.opd' : Arg → Operand
  | .opd x => x
  | .cap _ => .const .nilIface
def inQ (E : Env) (ctx : Ctx) (xs : List Arg) : (sh : Shape) → Names → Q (Tup sh × Names × List (Loc × AV))
  | [], m => .pure ((), m, [])
  | (.slot n, k) :: r, m => match xs[n]? with
    | some x => (rdArg E ctx x).bind fun v => (inArg m x.opd' k v).bind fun p => (inQ E ctx xs r p.2.1).bind fun q => .pure ((p.1, q.1), q.2.1, p.2.2 ++ q.2.2)
    | none => .fail
  | (.box b, .bx e n) :: r, m => match look m b with
    | some c => .ask (.box c) fun
      | .bx e' n' => if Nat.beq e' e && Nat.beq n' n then (inQ E ctx xs r m).bind fun q => .pure (((), q.1), q.2) else .fail
      | _ => .fail
    | none => .fail
  | (.cell b o, k) :: r, m => match look m b with
    | some c => .ask (.cell c o) fun v => (inCell m (.cell c o) k v).bind fun p => (inQ E ctx xs r p.2.1).bind fun q => .pure ((p.1, q.1), q.2.1, p.2.2 ++ q.2.2)
    | none => .fail
  | _, _ => .fail
/-- The caller's name of a box that comes back. -/
def backN (m : Names) (d b : Nat) : Nat := match look m b with
  | some c => c
  | none => (d + 1) * 100000 + b
/-- What comes back, in the caller's names; guarded: never owned. -/
def outAV (m : Names) (d st : Nat) : AV → AV
  | .dat t x => .dat t x
  | .own e t xs _ => .own e t xs st
  | .ptr b o => .ptr (backN m d b) o
  | .mptr b o p => .mptr (backN m d b) o p
  | .fn f cs => .fn f (cs.map (backN m d))
  | .bx e n => .bx e n
  | .dptr t x o => .dptr t x o
  | .nil => .nil
  | .nilp => .nilp
  | _ => .dead
/-- The cells of a box of which something is told. -/
def offsQ (b : Nat) (n : Nat) : Nat → Nat → Q (List Nat)
  | 0, _ => .pure []
  | k + 1, o => if o ≤ n then .ask (.cell b o) fun v => if isDead v then offsQ b n k (o + 1) else (offsQ b n k (o + max 1 v.size)).bind fun os => .pure (o :: os)
    else .pure []
def outOffs (b : Nat) : Shape → List Nat
  | [] => []
  | (.cell c o, _) :: r => bif Nat.beq c b then o :: outOffs b r else outOffs b r
  | _ :: r => outOffs b r
def outBoxes : Shape → List Nat
  | [] => []
  | (.box b, _) :: r => b :: outBoxes r
  | _ :: r => outBoxes r
def arrAt (so : St) (b o : Nat) : Option (Nat × Ty) := match so.get (.cell b o) with
  | .dat (.arr n t) _ => some (n, t)
  | _ => none
/-- The box b comes back: its cells; one that was handed in has the same block. -/
def outBox (m : Names) (d st : Nat) (so : St) (pout : Shape) (b : Nat) : Q (List (Loc × AV)) :=
  .ask (.box (backN m d b)) fun v => match look m b, v, so.get (.box b) with
    | some c, .bx e n, .bx e' n' => if Nat.beq e' e && Nat.beq n' n then (offsQ c n (n + 1) 0).bind fun os =>
        (arrsQ c (outOffs b pout)).bind fun _ => .pure ((os ++ outOffs b pout).map fun o => (.cell c o, outAV m d st (so.get (.cell b o)))) else .fail
    | none, .dead, .bx e' n' => .pure ((.box (backN m d b), .bx e' n') :: (outOffs b pout).map fun o => (.cell (backN m d b) o, outAV m d st (so.get (.cell b o))))
    | _, _, _ => .fail
  where
  /-- An array lies where the same array lay. -/
  arrsQ (c : Nat) : List Nat → Q Unit
    | [] => .pure ()
    | o :: r => match arrAt so b o with
      | some (n, t) => .ask (.cell c o) fun
        | .dat (.arr n' t') _ => if Nat.beq n' n && t' == t then arrsQ c r else .fail
        | _ => .fail
      | none => arrsQ c r
def outBoxesQ (m : Names) (d st : Nat) (so : St) (pout : Shape) : List Nat → Q (List (Loc × AV))
  | [] => .pure []
  | b :: r => (outBox m d st so pout b).bind fun ws => (outBoxesQ m d st so pout r).bind fun us => .pure (ws ++ us)
def distinct : List Nat → Bool
  | [] => true
  | a :: r => !(r.any fun b => Nat.beq b a) && distinct r
def outRes (m : Names) (d st : Nat) (so : St) : Nat → Nat → List (Loc × AV)
  | _, 0 => []
  | j, k + 1 => (.comp d j, outAV m d st (so.get (.slot j))) :: outRes m d st so (j + 1) k
/-- How many results there are. -/
def nres : Shape → Nat
  | [] => 0
  | (.slot n, _) :: r => max (n + 1) (nres r)
  | _ :: r => nres r
def resAV : AV → Bool
  | .own _ _ _ _ | .dat _ _ | .ptr _ _ | .mptr _ _ _ | .fn _ _ | .nil | .nilp => true
  | _ => false
def resOk (so : St) : Nat → Nat → Bool
  | _, 0 => true
  | j, k + 1 => resAV (so.get (.slot j)) && resOk so (j + 1) k
/-- Every box that is handed in is described, and comes back; its name is one of those that are handed in. -/
def namesOk (pin : Shape) (bs : List Nat) (n : Nat) (m : Names) : Bool := Nat.ble n 50000 && m.all fun p => (outBoxes pin).any (fun b => Nat.beq b p.1) && bs.any (fun b => Nat.beq b p.1) && Nat.ble 50000 p.1 && Nat.blt p.1 100000
/-- What is owned and handed in is not frozen. -/
def ownKept : Shape → Names → List (Loc × AV) → Bool
  | [], _, _ => true
  | (.cell b o, .own _ _) :: r, m, ws => (match look m b with
    | some c => ws.all fun p => !p.1.eq (.cell c o)
    | none => true) && ownKept r m ws
  | _ :: r, m, ws => ownKept r m ws
/-- A new box's name is free. -/
def newOk (held : Nat → Bool) (m : Names) (d b : Nat) : Bool := match look m b with
  | some _ => true
  | none => !held (backN m d b)
def call2Q (E : Env) (ctx : Ctx) (i : Nat) (dst : Option Nat) (S : Spec2) (xs : List Arg) : Q Eff :=
  (inQ E ctx xs S.pin []).bind fun q =>
    let d := dst.getD 0
    let o := (S.f q.1).getD (Tup.zero S.pout)
    let so := mkSt S.pout o
    let bs := outBoxes S.pout
    let k := nres S.pout
    if distinct (bs.map (backN q.2.1 d)) && namesOk S.pin bs xs.length q.2.1 && ownKept S.pin q.2.1 q.2.2 && resOk so 0 k && Nat.beq (nres S.pin) xs.length && bs.all (newOk E.held q.2.1 d) then
      (outBoxesQ q.2.1 d (i + 1) so S.pout bs).bind fun us =>
        match dst, k with
        | some d, 1 => .pure ⟨(S.f q.1).isSome, q.2.2 ++ us ++ [(.slot d, outAV q.2.1 d (i + 1) (so.get (.slot 0)))]⟩
        | some d, 0 => .pure ⟨(S.f q.1).isSome, q.2.2 ++ us ++ [(.slot d, .dead)]⟩
        | some d, k => .pure ⟨(S.f q.1).isSome, q.2.2 ++ us ++ outRes q.2.1 d (i + 1) so 0 k ++ [(.slot d, .tup k)]⟩
        | none, _ => .pure ⟨(S.f q.1).isSome, q.2.2 ++ us⟩
    else .fail
/-- The function values among the arguments, by which the contract is chosen. -/
def fnsQ (E : Env) (ctx : Ctx) : List Operand → Q (List Nat)
  | [] => .pure []
  | .tmp t :: r => .ask (.slot t) fun v => (match v with
    | .fn f _ => (fnsQ E ctx r).bind fun l => .pure (f :: l)
    | _ => fnsQ E ctx r)
  | .func f :: r => (fnsQ E ctx r).bind fun l => .pure (f :: l)
  | _ :: r => fnsQ E ctx r
/-- Plain functions among the operands. -/
def fnArgsQ (E : Env) (ctx : Ctx) : List Operand → Q (List Nat)
  | [] => .pure []
  | x :: r => (rd E ctx x).bind fun
    | .fn f [] => (fnArgsQ E ctx r).bind fun l => .pure (f :: l)
    | _ => .fail
/-- A slice is changed in place by the callee. -/
def inplQ (E : Env) (ctx : Ctx) (dst : Option Nat) (xs : List Operand) (fs : List Nat) (I : InSpec) : Q Eff := match xs with
  | [] => .fail
  | x :: r => if ctx.isEmpty then (sureD dst).bind fun d => (fnArgsQ E ctx r).bind fun l => if l = fs then (rd E ctx x).bind fun v => (rootOf x v).bind fun q =>
      if h : q.t = I.t then (if Nat.beq q.e I.e && !q.l.eq (.slot d) then
        .pure ⟨decide (q.n = q.xs.length) && (I.g (h ▸ q.xs : List I.t.den)).isSome, [(q.l, .own I.e I.t ((I.g (h ▸ q.xs : List I.t.den)).getD []) (stampOf v)), (.slot d, .dead)]⟩ else .fail) else .fail
    else .fail else .fail
/-- A builder is made. -/
def allocBldQ (E : Env) (ctx : Ctx) (dst : Option Nat) (T e st : Nat) : Q Eff :=
  (sureD dst).bind fun d => if ctx.isEmpty && !E.held d then .ask (.box d) fun
    | .dead => .pure ⟨true, [(.box d, .bx T 2), (.slot d, .ptr d 0), (.cell d 0, .mptr d 0 false), (.cell d 1, .own e (.int .u8) [] st)]⟩
    | _ => .fail
  else .fail
/-- What a builder's method does. -/
def bldEff (wr : Bool) (e st b d : Nat) (p : Bool) (ys : List Int) (s : List UInt8) : Eff :=
  bif wr then ⟨decide (ys.length + s.length ≤ 140737488355328), [(.cell b 0, .mptr b 0 true), (.cell b 1, .own e (.int .u8) (ys ++ s.map fun c => (c.toNat : Int)) st), (.slot d, .dead)]⟩
  else ⟨ys.all fun n => decide (0 ≤ n) && decide (n < 256), [(.cell b 0, .mptr b 0 p), (.cell b 1, .junk), (.slot d, .dat .str (ys.map fun n => UInt8.ofNat n.toNat))]⟩
def bldQ (E : Env) (ctx : Ctx) (dst : Option Nat) (wr : Bool) (T e st : Nat) (xs : List Operand) : Q Eff := match xs with
  | [] => .fail
  | x :: r => (sureD dst).bind fun d => if ctx.isEmpty && Nat.beq r.length (bif wr then 1 else 0) then (rd E ctx x).bind fun
    | .ptr b 0 => (match r with
      | [] => Q.pure ([] : List UInt8)
      | y :: _ => (rd E ctx y).bind fun
        | .dat .str s => .pure s
        | _ => .fail).bind fun s => .ask (.box b) fun
      | .bx T' 2 => if Nat.beq T' T then .ask (.cell b 2) fun
        | .dead => .ask (.cell b 0) fun
          | .mptr c 0 p => if Nat.beq c b then .ask (.cell b 1) fun
            | .own e' (.int .u8) ys _ => if Nat.beq e' e then .pure (bldEff wr e st b d p ys s) else .fail
            | _ => .fail
            else .fail
          | _ => .fail
        | _ => .fail
        else .fail
      | _ => .fail
    | _ => .fail
  else .fail
/-- The bytes of a look at an array, as a string. -/
def viewStrQ (E : Env) (d c o k m : Nat) : Q Eff := .ask (.cell c o) fun
  | .dat (.arr r t) xs => if h : t = .int .u8 then .pure ⟨decide (k + m ≤ r), [(.slot d, .dat .str (((List.take m (List.drop k (h ▸ xs : List (Ty.int .u8).den))).map fun n => UInt8.ofNat n.toNat)))]⟩ else .fail
  | _ => .fail
/-- What a function value captures: boxes. -/
def capsQ (E : Env) (ctx : Ctx) : List Operand → Q (List Nat)
  | [] => .pure []
  | x :: r => (rd E ctx x).bind fun
    | .ptr b 0 => (capsQ E ctx r).bind fun l => .pure (b :: l)
    | _ => .fail
def plan (E : Env) (ctx : Ctx) (i : Nat) (o : Oper) : Q Eff :=
  match o.op with
  | .move x => (rd E ctx x).bind fun v => (sureD o.dst).bind fun d =>
    match v, x with
    | .own _ t xs st, .tmp s => .pure ⟨true, [(.slot d, .view (.slot s) st t xs.length)]⟩
    | .tup n, .tmp s => if Nat.beq s d then .fail else (movesQ s d n).bind fun ws => .pure ⟨true, ws ++ [(.slot s, .dead), (.slot d, .tup n)]⟩
    | v, _ => if mayMove v then .pure ⟨true, [(.slot d, v)]⟩ else .fail
  | .assign x => (rd E ctx x).bind fun v => (sureD o.dst).bind fun d =>
    match v, x with
    | .own e t xs _, .tmp s => if Nat.beq s d then .fail else .pure ⟨true, [(.slot s, .view (.slot d) (i + 1) t xs.length), (.slot d, .own e t xs (i + 1))]⟩
    | .view l st t n, x => if l.eq (.slot d) then .ask l fun
      | .own e t' xs st' => if Nat.beq st st' then (if t' = t then .pure ⟨true, [(.slot d, .own e t' (xs.take n) (i + 1))]⟩ else .fail) else .fail
      | _ => .fail
      else (toDat x (.view l st t n)).bind fun y => .pure ⟨true, y.2 ++ [(.slot d, .dat y.1.1 y.1.2)]⟩
    | .nil, _ => (ofO (E.tab.ty o.type)).bind fun
      | .list t => (ofO (E.tab.el o.type)).bind fun e => .pure ⟨true, [(.slot d, .own e t [] (i + 1))]⟩
      | _ => .fail
    | v, _ => if mayMove v then .pure ⟨true, [(.slot d, v)]⟩ else .fail
  | .pick (.tmp s) a b => (sureD o.dst).bind fun d => (rd E ctx (.tmp s)).bind fun vc => (boolOf vc).bind fun c => (rd E ((s, true) :: ctx) a).bind fun va => (rd E ((s, false) :: ctx) b).bind fun vb =>
    match va, vb with
    | .dat t x, .dat u y => if u = t then .pure ⟨true, [(.slot d, .dat t (bif c then x else (⟨u, y⟩ : Dat).as t))]⟩ else .fail
    | _, _ => .fail
  | .alloc T => match E.tab.ref T with
    | some b => allocRefQ E ctx o.dst T b
    | none => match E.bldT T with
    | some e => allocBldQ E ctx o.dst T e (i + 1)
    | none => (sureD o.dst).bind fun d => (ofO (E.tyB d T)).bind fun t => .ask (.box d) fun
    | .dead => if nilsOk (fun o => St.get (St.sets [] ((.box d, .bx T t.sz) :: scatter d t t.zero 0 ++ [(.slot d, .ptr d 0)])) (.cell d o)) t (E.tab.nils T) then .pure ⟨true, ((.box d, .bx T t.sz) :: scatter d t t.zero 0 ++ [(.slot d, .ptr d 0)]) ++ nilsW d (i + 1) (E.tab.nils T)⟩ else .fail
    | _ => .fail
  | .box T x => match E.tab.ref T with
    | some _ => boxRefQ E ctx o.dst T x
    | none => (sureD o.dst).bind fun d => (ofO (E.tyB d T)).bind fun t => (rd E ctx x).bind fun v => (toDatAs E T x v).bind fun (y, ws) => .ask (.box d) fun
    | .dead => if y.1 = t then (match (E.tab.nils T).filter fun p => (nilsOfAV v).any (Nat.beq p.1) with
      | [] => .pure ⟨true, ws ++ (.box d, .bx T t.sz) :: scatter d t (y.as t) 0 ++ [(.slot d, .ptr d 0)]⟩
      | L => if nilsOk (fun o => St.get (St.sets [] ((.box d, .bx T t.sz) :: scatter d t (y.as t) 0 ++ [(.slot d, .ptr d 0)])) (.cell d o)) t L then .pure ⟨true, (ws ++ (.box d, .bx T t.sz) :: scatter d t (y.as t) 0 ++ [(.slot d, .ptr d 0)]) ++ nilsW d (i + 1) L⟩ else .fail) else .fail
    | _ => .fail
  | .build T parts => (sureD o.dst).bind fun d => (ofO (E.tab.ty T)).bind fun t => if t.isAgg then (partsQ E ctx t (fun _ => 0) t.zero parts.toList).bind fun (x, ws) => (nilsQ E ctx t (nils0 E T t) parts.toList).bind fun
    | [] => .pure ⟨true, ws ++ [(.slot d, .dat t x)]⟩
    | ns => .pure ⟨true, ws ++ [(.slot d, .datn t x ns)]⟩ else .fail
  | .buildSlice T n parts => (sureD o.dst).bind fun d => (ofO (E.tab.ty T)).bind fun
    | .list t => (ofO (E.tab.el T)).bind fun e => if n * t.sz ≤ 16777216 then (partsQ E ctx (.arr n t) (fun _ => 0) (List.replicate n t.zero) parts.toList).bind fun (xs, ws) => .pure ⟨true, ws ++ [(.slot d, .own e t xs (i + 1))]⟩ else .fail
    | _ => .fail
  | .load T p => match E.tab.ref T with
    | some _ => loadRefQ E ctx o.dst p
    | none => (sureD o.dst).bind fun d => (rd E ctx p).bind fun v => loadQ E d T v
  | .store T p x => match E.tab.ref T with
    | some _ => storeRefQ E ctx o.dst p x
    | none => match o.dst with
    | none => (rd E ctx p).bind fun v => (rd E ctx x).bind fun u => storeQ E i T v x u
    | some _ => .fail
  | .nilCheck x => (sureD o.dst).bind fun d => (rd E ctx x).bind fun
    | .ptr b k => .pure ⟨true, [(.slot d, .ptr b k)]⟩
    | .eptr l st t j k => .pure ⟨true, [(.slot d, .eptr l st t j k)]⟩
    | .dptr t y k => .pure ⟨true, [(.slot d, .dptr t y k)]⟩
    | .mptr b k p => .pure ⟨p, [(.slot d, .ptr b k)]⟩
    | _ => .fail
  | .binOp op T x y _ => (sureD o.dst).bind fun d => (rd E ctx x).bind fun v => (rd E ctx y).bind fun u =>
    match v, u with
    | .dat t a, .dat s b => if eqTy t then (if t = s ∧ E.tab.ty T = some s ∧ E.tab.eq T then (match op with
        | .eql => .pure ⟨true, [(.slot d, .dat .bool (eqv s ((⟨t, a⟩ : Dat).as s) b))]⟩
        | .neq => .pure ⟨true, [(.slot d, .dat .bool (!eqv s ((⟨t, a⟩ : Dat).as s) b))]⟩
        | _ => .fail) else .fail) else (ofO (bin op ⟨t, a⟩ ⟨s, b⟩)).bind fun r => .pure ⟨r.1, [(.slot d, .dat r.2.1 r.2.2)]⟩
    | .dat .err b, .junk => if E.tab.ty T = some .err then errEqQ d op b y else .fail
    | _, _ => .fail
  | .unOp op _ x => (sureD o.dst).bind fun d => (rd E ctx x).bind fun
    | .dat t a => (ofO (una op ⟨t, a⟩)).bind fun r => .pure ⟨true, [(.slot d, .dat r.1 r.2)]⟩
    | _ => .fail
  | .convert src dst x => (sureD o.dst).bind fun d => (ofO (E.tab.ty src)).bind fun s => (ofO (E.tab.ty dst)).bind fun t => (rd E ctx x).bind fun v => match v with
    | .aview c p k m => if s = .list (.int .u8) ∧ t = .str then viewStrQ E d c p k m else .fail
    | v => (toDat x v).bind fun y => (ofO (conv s t y.1)).bind fun r => convW E ctx i d s dst r
  | .makeSlice T n c => (sureD o.dst).bind fun d => (ofO (E.tab.ty T)).bind fun
    | .list t => (ofO (E.tab.el T)).bind fun e => (rdInt E ctx n).bind fun p => (rdInt E ctx c).bind fun q =>
      .pure ⟨decide (0 ≤ p.2) && decide (p.2 ≤ q.2) && decide (q.2 ≤ 100000000000), [(.slot d, .own e t (List.replicate p.2.toNat t.zero) (i + 1))]⟩
    | _ => .fail
  | .slice T x lo hi none => (sureD o.dst).bind fun d => (rd E ctx x).bind fun v => sliceQ E ctx d T x lo hi v
  | .slice T x lo hi (some m) => (sureD o.dst).bind fun d => (rd E ctx x).bind fun v => slice3Q E ctx d T lo hi m v
  | .fieldAddr T p f => (sureD o.dst).bind fun d => (ofO (E.tab.ty T)).bind fun t => (ofO (t.fieldAt f)).bind fun q => if Nat.beq q.2.sz 0 then .fail else (rd E ctx p).bind fun
    | .ptr b k => .pure ⟨true, [(.slot d, .ptr b (k + q.1))]⟩
    | .eptr l st u j k => .pure ⟨true, [(.slot d, .eptr l st u j (k + q.1))]⟩
    | .dptr u y k => .pure ⟨true, [(.slot d, .dptr u y (k + q.1))]⟩
    | _ => .fail
  | .field T x f => (sureD o.dst).bind fun d => (ofO (E.tab.ty T)).bind fun tt => (rd E ctx x).bind fun
    | .dat t y => if t = tt then (ofO (t.fieldAt f)).bind fun q => (ofO (t.sub y q.1 q.2)).bind fun z => .pure ⟨true, [(.slot d, .dat q.2 z)]⟩ else .fail
    | _ => .fail
  | .indexAddr T x k => (sureD o.dst).bind fun d => (rd E ctx x).bind fun v => indexAddrQ E ctx d T x v k
  | .index T x k => (sureD o.dst).bind fun d => (ofO (E.tab.ty T)).bind fun tt => (rd E ctx x).bind fun v => (rdInt E ctx k).bind fun p =>
    match v with
    | .dat .str s => if tt = .str then .pure ⟨decide (0 ≤ p.2) && decide (p.2 < s.length), [(.slot d, .dat (.int .u8) ((s.getD p.2.toNat 0).toNat : Int))]⟩ else .fail
    | .dat (.arr n t) xs => if tt = .arr n t then .pure ⟨decide (0 ≤ p.2) && decide (p.2 < n), [(.slot d, .dat t (List.getD xs p.2.toNat t.zero))]⟩ else .fail
    | _ => .fail
  | .extract (.tmp s) k => (sureD o.dst).bind fun d => .ask (.slot s) fun
    | .tup n => if k < n then .ask (.comp s k) fun v => match v with
      | .own e t xs _ => .pure ⟨true, [(.comp s k, .dead), (.slot d, .own e t xs (i + 1))]⟩
      | v => if compAV v then .pure ⟨true, [(.slot d, v)]⟩ else .fail
      else .fail
    | _ => .fail
  | .call c => (match c.callee with
    | .builtin b => builtinQ E ctx i o.dst b c.args.toList c.argTypes.toList
    | .value (.func f) => (match E.spec f with
      | some _ => callQ E ctx i o.dst f c.args.toList c.argTypes.toList
      | none => (match E.inpl f with
        | some p => inplQ E ctx o.dst c.args.toList p.1 p.2
        | none => (match E.bld f with
          | some q => bldQ E ctx o.dst q.1 q.2.1 q.2.2 (i + 1) c.args.toList
          | none => (fnsQ E ctx c.args.toList).bind fun l => (ofO (E.spec2 f l)).bind fun S => call2Q E ctx i o.dst S (c.args.toList.map .opd))))
    | .value (.tmp t) => (rd E ctx (.tmp t)).bind fun
      | .fn f cs => (fnsQ E ctx c.args.toList).bind fun l => (ofO (E.spec2 f l)).bind fun S => call2Q E ctx i o.dst S (c.args.toList.map .opd ++ cs.map .cap)
      | .dat (.bnd f t) x => callBQ E ctx i o.dst f t x c.args.toList c.argTypes.toList
      | _ => .fail
    | _ => .fail)
  | .makeFunc (.func f) first caps => if first.isEmpty then (sureD o.dst).bind fun d => (capsQ E ctx caps.toList).bind fun l => .pure ⟨true, [(.slot d, .fn f l)]⟩ else if caps.isEmpty then (match first.toList with
      | [x] => (sureD o.dst).bind fun d => (rd E ctx x).bind fun
        | .dat t y => .pure ⟨true, [(.slot d, .dat (.bnd f t) (some y))]⟩
        | _ => .fail
      | _ => .fail) else .fail
  | _ => .fail

/-! ### Regions -/
/-- The guards of operation j, the nearest one first. -/
def ctxOf (ops : List Oper) : Nat → Option (Nat × Bool) → Option Ctx
  | _, none => some []
  | 0, some _ => none
  | n + 1, some (j, want) => match ops[j]? with
    | some o => match o.dst, ctxOf ops n o.guard with
      | some d, some c => some ((d, want) :: c)
      | _, _ => none
    | none => none
/-- What stands behind a guarded operation: the new, or what was there. -/
def mergeAV (c : Bool) (st : Nat) : AV → AV → Option AV
  | .dat t x, .dat t' x' => if h : t' = t then some (.dat t (bif c then x else (h ▸ x' : t.den))) else none
  | .own e t xs s, .own e' t' xs' s' => if h : t' = t then (if Nat.beq e' e then (if Nat.beq s s' then some (.own e t (bif c then xs else (h ▸ xs' : List t.den)) s) else if Nat.beq s st then some (.own e t (bif c then xs else (h ▸ xs' : List t.den)) st) else none) else none) else none
  | .ptr b o, .ptr b' o' => if Nat.beq b' b && Nat.beq o' o then some (.ptr b o) else none
  | .bx e n, .bx e' n' => if Nat.beq e' e && Nat.beq n' n then some (.bx e n) else none
  | .fn f cs, .fn f' cs' => if Nat.beq f' f && natsEq cs' cs then some (.fn f cs) else none
  | .mptr b o p, .mptr b' o' p' => if Nat.beq b' b && Nat.beq o' o then some (.mptr b o (bif c then p else p')) else none
  | .dead, .dead => some .dead
  | .nil, .nil => some .nil
  | .nilp, .nilp => some .nilp
  | .junk, .junk => some .junk
  | _, _ => none
def isSlotD (d : Option Nat) (l : Loc) : Bool := match d with
  | some e => l.eq (.slot e)
  | none => false
def lastW (l : Loc) : List (Loc × AV) → Option AV
  | [] => none
  | p :: r => match lastW l r with
    | some v => some v
    | none => bif p.1.eq l then some p.2 else none
def effQ (c : Bool) (st : Nat) (d : Option Nat) : List (Loc × AV) → Q (List (Loc × AV))
  | [] => .pure []
  | p :: r => bif isSlotD d p.1 || r.any (fun q => q.1.eq p.1) then effQ c st d r else .ask p.1 fun old => (ofO (mergeAV c st p.2 old)).bind fun u => (effQ c st d r).bind fun us => .pure ((p.1, u) :: us)
def slotW (ctx : Ctx) (d : Option Nat) (ws : List (Loc × AV)) : Option (List (Loc × AV)) := match d with
  | none => some []
  | some e => match lastW (.slot e) ws with
    | some v => (match v with
      | .own _ t xs _ => some [(.slot e, .opt ctx (.dat (.list t) xs))]
      | .opt _ _ | .tup _ | .bx _ _ => none
      | v => some [(.slot e, .opt ctx v)])
    | none => none
def guardQ (c : Bool) (ctx : Ctx) (st : Nat) (d : Option Nat) (ws : List (Loc × AV)) : Q (List (Loc × AV)) :=
  (effQ c st d ws).bind fun us => (ofO (slotW ctx d ws)).bind fun vs => .pure (us ++ vs)
/-- The slots that guards stand in are written by their own operations alone. -/
def isGuardSlot (ops : List Oper) (s : Nat) : Bool := ops.any fun o => match o.guard with
  | some (k, _) => match ops[k]? with
    | some p => match p.dst with
      | some d => Nat.beq d s
      | none => false
    | none => false
  | none => false
def okW (ops : List Oper) (dst : Option Nat) (ws : List (Loc × AV)) : Bool := ws.all fun p => match p.1 with
  | .slot s => (match dst with | some d => Nat.beq d s | none => false) || !isGuardSlot ops s
  | _ => true
/-- An operation without a guard fills its slot, and tells nothing under a guard. -/
def plainW (dst : Option Nat) (ws : List (Loc × AV)) : Bool := (ws.all fun p => match p.2 with | .opt _ _ => false | _ => true) && match dst with
  | none => true
  | some d => ws.any fun p => p.1.eq (.slot d)
def opQ (E : Env) (ops : List Oper) (i : Nat) (o : Oper) : Q Eff :=
  (ofO (ctxOf ops ops.length o.guard)).bind fun ctx =>
  match ctx with
  | [] => (plan E [] i o).bind fun f => if okW ops o.dst f.writes && plainW o.dst f.writes then .pure f else .fail
  | p :: c => (gcond (p :: c)).bind fun g => (plan E (p :: c) i o).bind fun f => (guardQ g (p :: c) (i + 1) o.dst f.writes).bind fun ws => if okW ops o.dst ws then .pure ⟨f.test || !g, ws⟩ else .fail

/-- What is kept behind a region: places, and what becomes of what is owned there, or nil. -/
inductive Hint where
  | own | frz | nilOwn (e : Nat) (t : Ty) | nilDat (t : Ty)
def Hint.isFrz : Hint → Bool
  | .frz => true
  | _ => false
abbrev Keep := List (Loc × Hint)
def keptBox (k : Keep) (b : Nat) : Bool := k.any fun p => p.1.eq (.box b)
def frozenAt (k : Keep) (l : Loc) : Bool := match k.find? fun p => p.1.eq l with
  | some p => p.2.isFrz
  | none => true
def clean (k : Keep) (st : St) (h : Hint) : AV → AV
  | .dat t x => .dat t x
  | .own e t xs _ => if h.isFrz then .dat (.list t) xs else .own e t xs 0
  | .ptr b o => if keptBox k b then .ptr b o else .dead
  | .dptr t x o => .dptr t x o
  | .fn f caps => if caps.all (keptBox k) then .fn f caps else .dead
  | .view l s t n => if frozenAt k l then (match st.get l with
    | .own _ t' xs s' => if Nat.beq s s' then (if h : t' = t then .dat (.list t) ((h ▸ xs : List t.den).take n) else .dead) else .dead
    | _ => .dead) else .dead
  | .tup n => .tup n
  | .bx e n => .bx e n
  | .nil => (match h with
    | .nilOwn e t => if Nat.blt 0 t.sz then .own e t [] 0 else .nil
    | .nilDat t => .dat (.list t) []
    | _ => .nil)
  | .nilp => .nilp
  | .mptr b o p => if keptBox k b then .mptr b o p else .dead
  | .datn t x ns => .datn t x ns
  | .yld => .yld
  | _ => .dead
def placeOk (k : Keep) : Loc → Bool
  | .cell b _ => keptBox k b
  | _ => true
def norm (k : Keep) (st : St) : St := k.map fun p => (p.1, if placeOk k p.1 then clean k st p.2 (st.get p.1) else .dead)

abbrev Cont (R : Type) := Exit → St → Option R

def evOps {R : Type} (E : Env) (ops : List Oper) : List Oper → Nat → St → (St → Option R) → Option R
  | [], _, st, K => K st
  | o :: r, i, st, K => match (opQ E ops i o).run st.get with
    | some f => bif f.test then evOps E ops r (i + 1) (st.sets f.writes) K else none
    | none => none

/-! ### Draw regions: what each operation reads and writes, in the text's order -/
structure Log where
  reads : List Loc
  writes : List Loc
def logOps (E : Env) (ops : List Oper) : List Oper → Nat → St → List Log
  | [], _, _ => []
  | o :: r, i, st => match (opQ E ops i o).run st.get with
    | some f => ⟨(opQ E ops i o).reads st.get, f.writes.map (·.1)⟩ :: logOps E ops r (i + 1) (st.sets f.writes)
    | none => []
def meets (a b : List Loc) : Bool := a.any fun l => b.any fun k => l.eq k
def clash (a b : Log) : Bool := meets a.writes b.writes || meets a.writes b.reads || meets a.reads b.writes
/-- Who is waited for, directly or through others, as bits. -/
def maskOf (done : List Nat) (o : Oper) : Nat := o.after.toList.foldl (fun m e => bif Region.binds .any e then m ||| (done.getD e.on 0 ||| 2 ^ e.on) else m) 0
/-- Earlier operations that clash are waited for. -/
def ordered1 (m : Nat) (b : Log) : Nat → List Log → Bool
  | _, [] => true
  | j, a :: as => (!clash a b || Nat.testBit m j) && ordered1 m b (j + 1) as
def orderedAll : List Oper → List Log → List Nat → List Log → Bool
  | [], _, _, _ => true
  | o :: os, done, ms, l :: ls => ordered1 (maskOf ms o) l 0 done && orderedAll os (done ++ [l]) (ms ++ [maskOf ms o]) ls
  | _ :: _, _, _, [] => false
def drawOk (E : Env) (ops : List Oper) (st : St) : Bool := orderedAll ops [] [] (logOps E ops ops 0 st)

/-! ### Code -/
def loopN {R : Type} (step : St → Cont R → Option R) : Nat → St → Cont R → Option R
  | 0, _, _ => none
  | n + 1, st, K => step st fun e st' => match e with
    | .normal => loopN step n st' K
    | e => K e st'
def condQ (st : St) : Operand → Option Bool
  | .tmp t => match st.get (.slot t) with
    | .dat .bool b => some b
    | _ => none
  | .const (.bool b) => some b
  | _ => none
/-- What is kept ahead of a region, and behind it; how many slots there are. -/
structure Orc where
  n : Nat
  i : Nat → Option Keep
  o : Nat → Keep
  c : Nat → Bool      -- conditions that are asked again
def normO (k : Option Keep) (st : St) : St := match k with
  | some k => norm k st
  | none => st
def dropO (kp : Nat → Bool) (b : Bool) (st : St) : Operand → St
  | .tmp t => bif kp t then (.slot t, .dat .bool b) :: st.filter fun p => !p.1.eq (.slot t) else st.filter fun p => !p.1.eq (.slot t)
  | _ => st
/-- Slots are there; who is waited for comes first; a guard comes first, is waited for, and is the one writer of its slot. -/
def regionOk1 (N : Nat) (ops : List Oper) (i : Nat) (o : Oper) : Bool :=
  (match o.dst with | some d => Nat.blt d N | none => true) &&
  o.after.toList.all (fun e => !Region.binds .any e || Nat.blt e.on i) &&
  match o.guard with
    | none => true
    | some (k, _) => Nat.blt k i && o.after.toList.any (fun e => Nat.beq e.on k && Region.binds .any e) && match ops[k]? with
      | some p => match p.dst with
        | some d => ops.zipIdx.all fun (q, j) => Nat.beq j k || (match q.dst with | some d' => !Nat.beq d' d | none => true)
        | none => false
      | none => false
def regionOk (N : Nat) (ops : List Oper) : Bool := ops.zipIdx.all fun p => regionOk1 N ops p.2 p.1
def ev {R : Type} (E : Env) (O : Orc) (fuel : Nat) : Code → St → Cont R → Option R
  | .skip, st, K => K .normal st
  | .region id ops draw, st, K =>
    bif regionOk O.n ops.toList && (!draw || drawOk E ops.toList (normO (O.i id) st)) then evOps E ops.toList ops.toList 0 (normO (O.i id) st) fun st' => K .normal (norm (O.o id) st') else none
  | .seq a b, st, K => ev E O fuel a st fun e st' => match e with
    | .normal => ev E O fuel b st' K
    | e => K e st'
  | .cond c x y, st, K => match condQ st c with
    | some b => bif b then ev E O fuel x (dropO O.c true st c) K else ev E O fuel y (dropO O.c false st c) K
    | none => none
  | .block id c, st, K => ev E O fuel c st fun e st' => match e with
    | .exit id' => if id' = id then K .normal st' else K (.exit id') st'
    | e => K e st'
  | .scope c, st, K => ev E O fuel c st fun e st' => match e with
    | .goto _ => none
    | e => K e st'
  | .loop c, st, K => loopN (fun st K => ev E O fuel c st K) fuel st K
  | .exit id, st, K => K (.exit id) st
  | .ret, st, K => K .ret st
  | .label _, st, K => K .normal st
  | _, _, _ => none
end Go.Ev

namespace Go.Ev
open Go.RowKit

abbrev Mem := Loc → AV
def Mem.upd (g : Mem) (l : Loc) (v : AV) : Mem := fun k => bif l.eq k then v else g k
theorem Mem.upd_same (g : Mem) (l : Loc) (v : AV) : g.upd l v l = v := by simp [Mem.upd, Loc.eq_iff.2 rfl]
theorem Mem.upd_ne (g : Mem) {l k : Loc} (v : AV) (h : l ≠ k) : g.upd l v k = g k := by
  have : l.eq k = false := by cases e : l.eq k <;> simp_all [Loc.eq_iff]
  simp [Mem.upd, this]

abbrev Ghost := Loc → Option Nat
/-- What stays through a function's run: the blocks that it may change, where the boxes that it was handed lie, the deferred calls. -/
structure OwS where
  ow : Nat → Prop
  pin : Nat → Option Nat
  dl : List Deferred
instance : CoeFun OwS (fun _ => Nat → Prop) := ⟨OwS.ow⟩
def OwS.none : OwS := ⟨fun _ => False, fun _ => Option.none, []⟩
/-- Names of boxes that were handed in. -/
def pinMax : Nat := 100000
/-- The blocks that are looked at; the loop whose yield is called. -/
structure ZS where
  z : Nat → Prop
  yl : Nat
instance : CoeFun ZS (fun _ => Nat → Prop) := ⟨ZS.z⟩
/-- Blocks that nobody of the state owns: they stay as they are. -/
structure free (Z : ZS) (G : Ghost) (w : World) (b : Nat) : Prop where
  lt : b < w.heap.size
  no : ∀ l, G l ≠ some b
  z : Z b

def compOf : Value → Nat → Value
  | .tuple vs, i => vs.getD i undef
  | _, _ => undef
def rootVal (G : Ghost) (a : Act) (w : World) : Loc → Value
  | .slot n => a.tmps.getD n undef
  | .comp n i => compOf (a.tmps.getD n undef) i
  | .cell b o => match G (.box b) with
    | some gb => (w.cell? ⟨gb, o, none⟩).getD undef
    | none => undef
  | .box _ => undef

def prefixOf : Value → Nat → Value
  | .slice A _ cap, n => .slice A n cap
  | v, _ => v
def OwnR (Pr : Nat → Prop) (w : World) (gb : Option Nat) (e : Nat) (t : Ty) (xs : List t.den) (v : Value) : Prop :=
  0 < t.sz ∧ ∃ cells, Rows (RV Pr w t) xs cells ∧ ownsQ w e t.sz v xs.length cells ∧ v.ownBlock = gb
/-- Cells from an address on. -/
def At (w : World) (b o : Nat) (cs : List Value) : Prop := ∀ j, ∀ hj : j < cs.length, w.cell? ⟨b, o + j, none⟩ = some cs[j]

/-- A block's cells, all of them. -/
def Whole (w : World) (b : Nat) (cs : List Value) : Prop := At w b 0 cs ∧ (cs ≠ [] → ∃ cur e fz, w.heap[b]? = some (.cells cur e fz) ∧ cur.toList = cs)

def AVR (Z : ZS) (g : Mem) (G : Ghost) (a : Act) (w : World) : AV → Loc → Value → Prop
  | .dead, _, _ => True
  | .dat t x, _, v => ∃ cs, RV (free Z G w) w t x cs ∧ v = valOf t cs
  | .own e t xs _, l, v => OwnR (free Z G w) w (G l) e t xs v
  | .view l st t n, _, v => (∃ A cap, v = .slice A n cap) ∧ ∀ e xs, g l = .own e t xs st → n ≤ xs.length ∧ v = prefixOf (rootVal G a w l) n
  | .ptr b o, _, v => ∃ e n gb, g (.box b) = .bx e n ∧ G (.box b) = some gb ∧ v = .pointer (some ⟨gb, o, none⟩)
  | .eptr l st t i o, _, v => ∃ bb cc, v = .pointer (some ⟨bb, cc + o, none⟩) ∧ (∀ e xs, g l = .own e t xs st → G l = some bb ∧ cc = i * t.sz) ∧
      (∀ b o' n xs, l = .cell b o' → g l = .dat (.arr n t) xs → ∃ e m, g (.box b) = .bx e m ∧ G (.box b) = some bb ∧ cc = o' + i * t.sz) ∧
      (∀ b o', l = .cell b o' → ∃ e m, g (.box b) = .bx e m)
  | .dptr t x o, _, v => ∃ b k cs, RV (free Z G w) w t x cs ∧ (cs ≠ [] → free Z G w b) ∧ v = .pointer (some ⟨b, k + o, none⟩) ∧ At w b k cs
  | .fn f caps, _, v => ∃ vs : Array Value, v = .func (.func f) #[] vs ∧ vs.size = caps.length ∧
      ∀ (i b : Nat), caps[i]? = some b → ∃ e n gb, g (.box b) = .bx e n ∧ G (.box b) = some gb ∧ vs.getD i undef = .pointer (some ⟨gb, 0, none⟩)
  | .nil, _, v => v = .slice none 0 0
  | .nilp, _, v => v = .pointer none
  | .junk, _, _ => True
  | .yld, _, v => v = .func (.yield Z.yl) #[] #[]
  | .mptr b o p, _, v => (p = true → ∃ e n gb, g (.box b) = .bx e n ∧ G (.box b) = some gb ∧ v = .pointer (some ⟨gb, o, none⟩)) ∧ (p = false → v = .pointer none)
  | .datn t x ns, _, v => ∃ cs, RV (free Z G w) w t x cs ∧ v = valOf t cs ∧ ∀ o ∈ ns, cs[o]? = some (.slice none 0 0)
  | .tup n, _, v => ∃ vs : Array Value, v = .tuple vs ∧ vs.size = n
  | .bx _ _, _, _ => False
  | .opt c u, l, v => (gcond c).run g = some true → AVR Z g G a w u l v
  | .aview b o q n, _, v => ∃ e k gb c, g (.box b) = .bx e k ∧ G (.box b) = some gb ∧ v = .slice (some ⟨gb, o + q, none⟩) n c

/-- Places that views and pointers may look at. -/
def isRoot : Loc → Prop
  | .slot _ | .cell _ _ => True
  | _ => False
/-- The stamps that a value bears. -/
def stampIn (S : Nat → Prop) : AV → Prop
  | .own _ _ _ st => S st
  | .view l st _ _ => S st ∧ isRoot l
  | .eptr l st _ _ _ => S st ∧ isRoot l
  | .opt _ _ => True
  | _ => True
/-- A leaf in a box. -/
def LeafR (Z : ZS) (g : Mem) (G : Ghost) (a : Act) (w : World) (l : Loc) (o : Nat) (cur : Array Value) : AV → Prop
  | .dead => True
  | .dat t x => o + t.sz ≤ cur.size ∧ RV (free Z G w) w t x ((cur.toList.drop o).take t.sz)
  | v => o < cur.size ∧ AVR Z g G a w v l (cur.getD o undef)

structure Rel (Z : ZS) (E : Env) (N : Nat) (w0 : World) (Ow : OwS) (S D : Nat → Prop) (g : Mem) (G : Ghost) (a : Act) (w : World) : Prop where
  defers : a.defers = Ow.dl
  tmps : a.tmps.size = N
  os : w.os = w0.os
  tape : w.tape = w0.tape
  output : w.output = w0.output
  size : w0.heap.size ≤ w.heap.size
  low : ∀ k, k < w0.heap.size → ¬ Ow k → w.heap[k]? = w0.heap[k]?
  bnd : ∀ l b, G l = some b → b < w.heap.size ∧ (Ow b ∨ w0.heap.size ≤ b)
  zow : ∀ b, (Ow b ∨ w0.heap.size ≤ b) → Z b
  inj : ∀ l l' b, G l = some b → G l' = some b → l = l'
  gone : ∀ l b, G l = some b → (∃ e t xs s, g l = .own e t xs s) ∨ (∃ e n, g l = .bx e n)
  slots : ∀ n, AVR Z g G a w (g (.slot n)) (.slot n) (a.tmps.getD n undef)
  comps : ∀ n k i, g (.slot n) = .tup k → i < k → AVR Z g G a w (g (.comp n i)) (.comp n i) (compOf (a.tmps.getD n undef) i)
  boxes : ∀ b e n, g (.box b) = .bx e n → ∃ gb cur, G (.box b) = some gb ∧ w.heap[gb]? = some (.cells cur e (0, 0)) ∧ cur.size = n
  cells : ∀ b o, g (.cell b o) ≠ .dead → ∃ e n gb cur, g (.box b) = .bx e n ∧ G (.box b) = some gb ∧ w.heap[gb]? = some (.cells cur e (0, 0)) ∧ LeafR Z g G a w (.cell b o) o cur (g (.cell b o))
  apart : ∀ b o o', g (.cell b o) ≠ .dead → g (.cell b o') ≠ .dead → o ≠ o' → o + (g (.cell b o)).size ≤ o' ∨ o' + (g (.cell b o')).size ≤ o
  boxAV : ∀ b, g (.box b) = .dead ∨ ∃ e n, g (.box b) = .bx e n
  stamps : ∀ l, stampIn S (g l)
  ctx : ∀ l c v, g l = .opt c v → (∀ p ∈ c, D p.1) ∧ (∀ c' v', v ≠ .opt c' v') ∧ (∀ e t xs s, v ≠ .own e t xs s) ∧ (∀ n, v ≠ .tup n) ∧ ((gcond c).run g = some true → stampIn S v)
  dbool : ∀ k, D k → ∃ x, g (.slot k) = .dat .bool x ∨ ∃ c, g (.slot k) = .opt c (.dat .bool x)
  globs : ∀ k d, E.glob k = some d → ∃ cs, RV (free Z G w) w d.t d.x cs ∧ (cs ≠ [] → free Z G w k) ∧ Whole w k cs
  pins : ∀ b gb, Ow.pin b = some gb → g (.box b) ≠ .dead → G (.box b) = some gb
  pinR : ∀ b gb, Ow.pin b = some gb → (N ≤ b ∧ b < pinMax) ∨ E.held b = true

/-- A place that views and pointers look at is as it was, for who bears this stamp. -/
def RootKept (g : Mem) (G : Ghost) (a : Act) (w : World) (g' : Mem) (G' : Ghost) (a' : Act) (w' : World) (l : Loc) (st : Nat) : Prop :=
  (∀ e t xs', g' l = .own e t xs' st → ∃ xs, g l = .own e t xs st ∧ xs.length = xs'.length ∧ rootVal G' a' w' l = rootVal G a w l ∧ G' l = G l) ∧
  (∀ b o n t xs', l = .cell b o → g' l = .dat (.arr n t) xs' → (∃ e m, g (.box b) = .bx e m) → ∃ xs, g l = .dat (.arr n t) xs)

theorem At.keep {w w' : World} {b o : Nat} {cs : List Value} (h : At w b o cs) (hb : cs ≠ [] → w'.heap[b]? = w.heap[b]?) : At w' b o cs := by
  intro j hj
  have hne : cs ≠ [] := by rintro rfl; simp at hj
  exact (World.cell?_of_block (w := w) (a := ⟨b, o + j, none⟩) (hb hne)).trans (h j hj)

theorem Whole.keep {w w' : World} {b : Nat} {cs : List Value} (h : Whole w b cs) (hb : cs ≠ [] → w'.heap[b]? = w.heap[b]?) : Whole w' b cs :=
  ⟨h.1.keep hb, fun hne => by rw [hb hne]; exact h.2 hne⟩

theorem OwnR.keep {Pr Pr' : Nat → Prop} {w w' : World} {gb : Option Nat} {e : Nat} {t : Ty} {xs : List t.den} {v : Value} (h : OwnR Pr w gb e t xs v)
    (hk : ∀ b, Pr b → Pr' b ∧ w'.heap[b]? = w.heap[b]?) (hb : ∀ b, gb = some b → w'.heap[b]? = w.heap[b]?) : OwnR Pr' w' gb e t xs v := by
  obtain ⟨h0, cells, hr, ho, hbk⟩ := h
  refine ⟨h0, cells, hr.imp fun _ _ hc => hc.keep (fun b h => (hk b h).2) (fun b h => (hk b h).1), ?_, hbk⟩
  refine ⟨ho.1, ?_⟩
  rcases ho.2 with hn | ⟨g, cap, cur, rfl, h1, h2, h3⟩
  · exact .inl hn
  · obtain ⟨fz, h4, h5⟩ := h1
    exact .inr ⟨g, cap, cur, rfl, ⟨fz, h4, (hb g (by simpa [Value.ownBlock] using hbk.symm)).trans h5⟩, h2, h3⟩

/-! ### Questions -/
theorem Q.run_bind {α β : Type} (g : Mem) (q : Q α) (f : α → Q β) : (q.bind f).run g = (q.run g).bind fun a => (f a).run g := by
  induction q with
  | pure a => rfl
  | ask l k ih => exact ih (g l)
  | fail => rfl
theorem Q.reads_bind {α β : Type} (g : Mem) (q : Q α) (f : α → Q β) : (q.bind f).reads g = q.reads g ++ (match q.run g with | some a => (f a).reads g | none => []) := by
  induction q with
  | pure a => simp [Q.bind, Q.reads, Q.run]
  | ask l k ih => simp [Q.bind, Q.reads, Q.run, ih]
  | fail => rfl
theorem Q.congr {α : Type} {g g' : Mem} (q : Q α) (h : ∀ l ∈ q.reads g, g' l = g l) : q.run g' = q.run g ∧ q.reads g' = q.reads g := by
  induction q with
  | pure a => exact ⟨rfl, rfl⟩
  | ask l k ih =>
    have e : g' l = g l := h l (by simp [Q.reads])
    simp only [Q.run, Q.reads, e]
    have := ih (g l) (fun m hm => h m (by simp [Q.reads, hm]))
    exact ⟨this.1, by rw [this.2]⟩
  | fail => exact ⟨rfl, rfl⟩
theorem strip_run (g g' : Mem) (c : Ctx) (v : AV) : (strip c v).run g' = (strip c v).run g := by
  cases v <;> simp only [strip] <;> first | rfl | (split <;> rfl)
theorem boolOf_run (g g' : Mem) (v : AV) : (boolOf v).run g' = (boolOf v).run g := by
  unfold boolOf; split <;> rfl
theorem gcond_congr {g g' : Mem} : ∀ {c : Ctx}, (∀ p ∈ c, g' (.slot p.1) = g (.slot p.1)) → (gcond c).run g' = (gcond c).run g
  | [], _ => rfl
  | (s, want) :: c, hs => by
    have e : g' (.slot s) = g (.slot s) := hs (s, want) (by simp)
    have ih := gcond_congr (c := c) (fun p hp => hs p (by simp [hp]))
    simp only [gcond, Q.run, e, Q.run_bind, ih]
    rw [strip_run g g']
    congr 1; funext x
    rw [boolOf_run g g']

theorem AVR.keep {Z Z' : ZS} {g g' : Mem} {G G' : Ghost} {a a' : Act} {w w' : World} (S D : Nat → Prop) (hyl : Z'.yl = Z.yl)
    (hk : ∀ b, free Z G w b → free Z' G' w' b ∧ w'.heap[b]? = w.heap[b]?)
    (hroot : ∀ l st, S st → isRoot l → RootKept g G a w g' G' a' w' l st)
    (hbox : ∀ b e n, g (.box b) = .bx e n → g' (.box b) = .bx e n ∧ G' (.box b) = G (.box b))
    (hctx : ∀ d, D d → g' (.slot d) = g (.slot d))
    {l : Loc} {val : Value} (hl : ∀ e t xs s, g l = .own e t xs s → G' l = G l ∧ ∀ b, G l = some b → w'.heap[b]? = w.heap[b]?) :
    ∀ {v : AV}, (∀ e t xs s, v = .own e t xs s → g l = v) → stampIn S v → (∀ c u, v = .opt c u → (∀ p ∈ c, D p.1) ∧ (∀ c' v', u ≠ .opt c' v') ∧ (∀ e t xs s, u ≠ .own e t xs s) ∧ ((gcond c).run g = some true → stampIn S u)) → AVR Z g G a w v l val → AVR Z' g' G' a' w' v l val := by
  intro v
  induction v with
  | dead => intros; trivial
  | dat t x => rintro _ _ _ ⟨cs, h, rfl⟩; exact ⟨cs, h.keep (fun b hb => (hk b hb).2) (fun b hb => (hk b hb).1), rfl⟩
  | own e t xs s =>
    intro ho _ _ h
    obtain ⟨e1, e2⟩ := hl e t xs s (ho e t xs s rfl)
    simp only [AVR] at h ⊢
    rw [e1]
    exact h.keep hk e2
  | view l' st t n =>
    rintro _ hs _ ⟨h0, h⟩
    refine ⟨h0, fun e xs' hx => ?_⟩
    obtain ⟨xs, h1, h2, h3, _⟩ := (hroot l' st hs.1 hs.2).1 e t xs' hx
    obtain ⟨h4, h5⟩ := h e xs h1
    exact ⟨by omega, by rw [h3]; exact h5⟩
  | ptr b o =>
    rintro _ _ _ ⟨e, n, gb, h1, h2, rfl⟩
    exact ⟨e, n, gb, (hbox b e n h1).1, (hbox b e n h1).2.trans h2, rfl⟩
  | eptr l' st t i o =>
    rintro _ hs _ ⟨bb, cc, h0, h1, h2, hlive⟩
    refine ⟨bb, cc, h0, fun e xs' hx => ?_, fun b o' n xs' hb hx => ?_, fun b o' hb => ?_⟩
    · obtain ⟨xs, h3, _, _, h4⟩ := (hroot l' st hs.1 hs.2).1 e t xs' hx
      obtain ⟨h5, h6⟩ := h1 e xs h3
      exact ⟨h4.trans h5, h6⟩
    · obtain ⟨xs, h3⟩ := (hroot l' st hs.1 hs.2).2 b o' n t xs' hb hx (hlive b o' hb)
      obtain ⟨e, m, h5, h6, h7⟩ := h2 b o' n xs hb h3
      exact ⟨e, m, (hbox b e m h5).1, (hbox b e m h5).2.trans h6, h7⟩
    · obtain ⟨e, m, h5⟩ := hlive b o' hb
      exact ⟨e, m, (hbox b e m h5).1⟩
  | dptr t x o =>
    rintro _ _ _ ⟨b, k, cs, h1, h2, h3, h4⟩
    exact ⟨b, k, cs, h1.keep (fun b hb => (hk b hb).2) (fun b hb => (hk b hb).1), fun hne => (hk b (h2 hne)).1, h3, h4.keep fun hne => (hk b (h2 hne)).2⟩
  | fn f caps =>
    rintro _ _ _ ⟨vs, h1, h2, h3⟩
    refine ⟨vs, h1, h2, fun i b hi => ?_⟩
    obtain ⟨e, n, gb, h4, h5, h6⟩ := h3 i b hi
    exact ⟨e, n, gb, (hbox b e n h4).1, (hbox b e n h4).2.trans h5, h6⟩
  | nil => intro _ _ _ h; exact h
  | nilp => intro _ _ _ h; exact h
  | junk => intros; trivial
  | yld => intro _ _ _ h; simp only [AVR] at h ⊢; rw [hyl]; exact h
  | mptr b o p =>
    rintro _ _ _ ⟨h1, h2⟩
    refine ⟨fun hp => ?_, h2⟩
    obtain ⟨e, n, gb, h3, h4, h5⟩ := h1 hp
    exact ⟨e, n, gb, (hbox b e n h3).1, (hbox b e n h3).2.trans h4, h5⟩
  | datn t x ns => rintro _ _ _ ⟨cs, h, rfl, h2⟩; exact ⟨cs, h.keep (fun b hb => (hk b hb).2) (fun b hb => (hk b hb).1), rfl, h2⟩
  | tup n => intro _ _ _ h; exact h
  | bx e n => intro _ _ _ h; exact h
  | aview b o q n =>
    rintro _ _ _ ⟨e, k, gb, c, h1, h2, rfl⟩
    exact ⟨e, k, gb, c, (hbox b e k h1).1, (hbox b e k h1).2.trans h2, rfl⟩
  | opt c u ih =>
    intro _ hs hc h hg
    obtain ⟨h1, h2, h3, h4⟩ := hc c u rfl
    have hg' : (gcond c).run g = some true := by rw [← gcond_congr (g := g) (g' := g') (fun p hp => hctx _ (h1 p hp))]; exact hg
    exact ih (fun e t xs s e' => absurd e' (h3 e t xs s)) (h4 hg') (fun c' u' e' => absurd e' (h2 c' u')) (h hg')

section
variable {Z : ZS} {E : Env} {N : Nat} {w0 : World} {Ow : OwS} {S S' D : Nat → Prop} {g g' : Mem} {G G' : Ghost} {a a' : Act} {w w' : World}
/-- **The relation behind a change of some places.** -/
theorem Rel.change (h : Rel Z E N w0 Ow S D g G a w) (Ch : Loc → Prop)
    (hg : ∀ l, ¬ Ch l → g' l = g l) (hG : ∀ l, ¬ Ch l → G' l = G l)
    (hd : a'.defers = Ow.dl) (hN : a'.tmps.size = N) (hos : w'.os = w.os) (htape : w'.tape = w.tape) (hout : w'.output = w.output) (hsize : w.heap.size ≤ w'.heap.size)
    (hlow : ∀ k, k < w0.heap.size → ¬ Ow k → w'.heap[k]? = w.heap[k]?)
    (hk : ∀ b, free Z G w b → free Z G' w' b ∧ w'.heap[b]? = w.heap[b]?)
    (hblk : ∀ l, ¬ Ch l → ∀ b, G l = some b → w'.heap[b]? = w.heap[b]?)
    (hroot : ∀ l st, S st → isRoot l → RootKept g G a w g' G' a' w' l st)
    (hbox : ∀ b e n, g (.box b) = .bx e n → g' (.box b) = .bx e n ∧ G' (.box b) = G (.box b) ∧ ∀ gb, G (.box b) = some gb → (Ch (.box b) ∧ ∀ o, Ch (.cell b o)) ∨ w'.heap[gb]? = w.heap[gb]?)
    (hctx : ∀ d, D d → g' (.slot d) = g (.slot d)) (hSS : ∀ n, S n → S' n)
    (htmp : ∀ n, ¬ Ch (.slot n) → a'.tmps.getD n undef = a.tmps.getD n undef)
    (cslots : ∀ n, Ch (.slot n) → AVR Z g' G' a' w' (g' (.slot n)) (.slot n) (a'.tmps.getD n undef))
    (ccomps : ∀ n k i, g' (.slot n) = .tup k → i < k → (Ch (.slot n) ∨ Ch (.comp n i)) → AVR Z g' G' a' w' (g' (.comp n i)) (.comp n i) (compOf (a'.tmps.getD n undef) i))
    (cboxes : ∀ b e n, Ch (.box b) → g' (.box b) = .bx e n → ∃ gb cur, G' (.box b) = some gb ∧ w'.heap[gb]? = some (.cells cur e (0, 0)) ∧ cur.size = n)
    (ccells : ∀ b o, Ch (.cell b o) → g' (.cell b o) ≠ .dead → ∃ e n gb cur, g' (.box b) = .bx e n ∧ G' (.box b) = some gb ∧ w'.heap[gb]? = some (.cells cur e (0, 0)) ∧ LeafR Z g' G' a' w' (.cell b o) o cur (g' (.cell b o)))
    (capart : ∀ b o o', (Ch (.cell b o) ∨ Ch (.cell b o')) → g' (.cell b o) ≠ .dead → g' (.cell b o') ≠ .dead → o ≠ o' → o + (g' (.cell b o)).size ≤ o' ∨ o' + (g' (.cell b o')).size ≤ o)
    (cboxAV : ∀ b, Ch (.box b) → g' (.box b) = .dead ∨ ∃ e n, g' (.box b) = .bx e n)
    (cstamps : ∀ l, Ch l → stampIn S' (g' l))
    (cctx : ∀ l c v, Ch l → g' l = .opt c v → (∀ p ∈ c, D p.1) ∧ (∀ c' v', v ≠ .opt c' v') ∧ (∀ e t xs s, v ≠ .own e t xs s) ∧ (∀ n, v ≠ .tup n) ∧ ((gcond c).run g = some true → stampIn S v))
    (cbnd : ∀ l b, Ch l → G' l = some b → b < w'.heap.size ∧ (Ow b ∨ w0.heap.size ≤ b))
    (cgone : ∀ l b, Ch l → G' l = some b → (∃ e t xs s, g' l = .own e t xs s) ∨ (∃ e n, g' l = .bx e n))
    (cinj : ∀ l l' b, Ch l → G' l = some b → G' l' = some b → l = l')
    (cpin : ∀ b gb, Ch (.box b) → g (.box b) = .dead → g' (.box b) ≠ .dead → Ow.pin b = some gb → G' (.box b) = some gb := by intro b gb hc; exact absurd hc (by simp)) :
    Rel Z E N w0 Ow S' D g' G' a' w' := by
  have stampMono : ∀ {v : AV}, stampIn S v → stampIn S' v := fun {v} hv => by
    cases v with
    | own => exact hSS _ hv
    | view => exact ⟨hSS _ hv.1, hv.2⟩
    | eptr => exact ⟨hSS _ hv.1, hv.2⟩
    | _ => trivial
  have keep : ∀ {l : Loc} {val : Value}, ¬ Ch l → AVR Z g G a w (g l) l val → AVR Z g' G' a' w' (g l) l val := fun {l val} hc hv =>
    AVR.keep S D rfl hk hroot (fun b e n hb => ⟨(hbox b e n hb).1, (hbox b e n hb).2.1⟩) hctx (fun e t xs s _ => ⟨hG l hc, fun b hb => hblk l hc b hb⟩) (fun _ _ _ _ e => e ▸ rfl) (h.stamps l)
      (fun c u e => ⟨(h.ctx l c u e).1, (h.ctx l c u e).2.1, (h.ctx l c u e).2.2.1, (h.ctx l c u e).2.2.2.2⟩) hv
  refine ⟨hd, hN, hos.trans h.os, htape.trans h.tape, hout.trans h.output, Nat.le_trans h.size hsize, fun k h1 h2 => (hlow k h1 h2).trans (h.low k h1 h2), ?_, h.zow, ?_, ?_, ?_, ?_, ?_, ?_, ?_, ?_, ?_, ?_, ?_, ?_, ?_, h.pinR⟩
  · intro l b hb
    by_cases hc : Ch l
    · exact cbnd l b hc hb
    · rw [hG l hc] at hb
      have := h.bnd l b hb
      exact ⟨by omega, this.2⟩
  · intro l l' b h1 h2
    by_cases hc : Ch l
    · exact cinj l l' b hc h1 h2
    · by_cases hc' : Ch l'
      · exact (cinj l' l b hc' h2 h1).symm
      · rw [hG l hc] at h1; rw [hG l' hc'] at h2
        exact h.inj l l' b h1 h2
  · intro l b hb
    by_cases hc : Ch l
    · exact cgone l b hc hb
    · rw [hG l hc] at hb
      rw [hg l hc]
      exact h.gone l b hb
  · intro n
    by_cases hc : Ch (.slot n)
    · exact cslots n hc
    · rw [hg _ hc, htmp n hc]
      exact keep hc (h.slots n)
  · intro n k i h1 h2
    by_cases hc : Ch (.slot n) ∨ Ch (.comp n i)
    · exact ccomps n k i h1 h2 hc
    · have hc1 : ¬ Ch (.slot n) := fun e => hc (.inl e)
      have hc2 : ¬ Ch (.comp n i) := fun e => hc (.inr e)
      rw [hg _ hc1] at h1
      rw [hg _ hc2, htmp n hc1]
      exact keep hc2 (h.comps n k i h1 h2)
  · intro b e n hb
    by_cases hc : Ch (.box b)
    · exact cboxes b e n hc hb
    · rw [hg _ hc] at hb
      obtain ⟨gb, cur, h1, h2, h3⟩ := h.boxes b e n hb
      obtain ⟨_, h5, h6⟩ := hbox b e n hb
      exact ⟨gb, cur, h5.trans h1, ((h6 gb h1).resolve_left (fun e => hc e.1)).trans h2, h3⟩
  · intro b o hne
    by_cases hc : Ch (.cell b o)
    · exact ccells b o hc hne
    · rw [hg _ hc] at hne ⊢
      obtain ⟨e, n, gb, cur, h1, h2, h3, h4⟩ := h.cells b o hne
      obtain ⟨h5, h6, h7⟩ := hbox b e n h1
      refine ⟨e, n, gb, cur, h5, h6.trans h2, ((h7 gb h2).resolve_left (fun e => hc (e.2 o))).trans h3, ?_⟩
      cases hv : g (.cell b o) with
      | dead => trivial
      | dat t x =>
        rw [hv] at h4
        exact ⟨h4.1, h4.2.keep (fun b hb => (hk b hb).2) (fun b hb => (hk b hb).1)⟩
      | _ => rw [hv] at h4; exact ⟨h4.1, by have := keep hc (val := cur.getD o undef); rw [hv] at this; exact this h4.2⟩
  · intro b o o' h1 h2 hne
    by_cases hc : Ch (.cell b o) ∨ Ch (.cell b o')
    · exact capart b o o' hc h1 h2 hne
    · rw [hg _ (fun e => hc (.inl e))] at h1 ⊢
      rw [hg _ (fun e => hc (.inr e))] at h2 ⊢
      exact h.apart b o o' h1 h2 hne
  · intro b
    by_cases hc : Ch (.box b)
    · exact cboxAV b hc
    · rw [hg _ hc]; exact h.boxAV b
  · intro l
    by_cases hc : Ch l
    · exact cstamps l hc
    · rw [hg _ hc]; exact stampMono (h.stamps l)
  · intro l c v hv
    have key : (∀ p ∈ c, D p.1) ∧ (∀ c' v', v ≠ .opt c' v') ∧ (∀ e t xs s, v ≠ .own e t xs s) ∧ (∀ n, v ≠ .tup n) ∧ ((gcond c).run g = some true → stampIn S v) := by
      by_cases hc : Ch l
      · exact cctx l c v hc hv
      · rw [hg _ hc] at hv
        exact h.ctx l c v hv
    exact ⟨key.1, key.2.1, key.2.2.1, key.2.2.2.1, fun hgc => stampMono (key.2.2.2.2 (by rw [← gcond_congr (g := g) (g' := g') (fun p hp => hctx _ (key.1 p hp))]; exact hgc))⟩
  · intro k hk'
    obtain ⟨x, hx⟩ := h.dbool k hk'
    exact ⟨x, by rw [hctx k hk']; exact hx⟩
  · intro k d hd'
    obtain ⟨cs, h1, h2, h3⟩ := h.globs k d hd'
    exact ⟨cs, h1.keep (fun b hb => (hk b hb).2) (fun b hb => (hk b hb).1), fun hne => (hk k (h2 hne)).1, h3.keep fun hne => (hk k (h2 hne)).2⟩
  · intro b gb hp hne
    rcases h.boxAV b with hd0 | ⟨e, n, hb⟩
    · by_cases hc : Ch (.box b)
      · exact cpin b gb hc hd0 hne hp
      · rw [hg _ hc] at hne; exact absurd hd0 hne
    · rw [(hbox b e n hb).2.1]
      exact h.pins b gb hp (by rw [hb]; simp)
end
end Go.Ev

namespace Go.Ev
open Go.RowKit
section
variable {Z : ZS} {E : Env} {N : Nat} {w0 : World} {Ow : OwS} {S S' D D' : Nat → Prop} {g g' : Mem} {G G' : Ghost} {a a' : Act} {w w' : World}

def Ghost.upd (G : Ghost) (l : Loc) (v : Option Nat) : Ghost := fun k => if l = k then v else G k
theorem Ghost.upd_same (G : Ghost) (l : Loc) (v : Option Nat) : G.upd l v l = v := by simp [Ghost.upd]
theorem Ghost.upd_ne (G : Ghost) {l k : Loc} (v : Option Nat) (h : l ≠ k) : G.upd l v k = G k := by simp [Ghost.upd, h]

def plainAV : AV → Bool
  | .own _ _ _ _ | .tup _ | .bx _ _ => false
  | .opt _ (.own _ _ _ _) | .opt _ (.tup _) | .opt _ (.bx _ _) | .opt _ (.opt _ _) => false
  | _ => true

theorem put_tmps (a : Act) (d : Nat) (v : Value) (hd : d < a.tmps.size) : (a.put (some d) v).tmps.getD d undef = v := by
  simp [Act.put, Array.getD_eq_getD_getElem?, hd]
theorem put_tmps_ne (a : Act) {d n : Nat} (v : Value) (h : d ≠ n) : (a.put (some d) v).tmps.getD n undef = a.tmps.getD n undef := by
  simp [Act.put, Array.getD_eq_getD_getElem?, Array.getElem?_setIfInBounds_ne h]
theorem put_size (a : Act) (d : Option Nat) (v : Value) : (a.put d v).tmps.size = a.tmps.size := by cases d <;> simp [Act.put]
theorem put_defers (a : Act) (d : Option Nat) (v : Value) : (a.put d v).defers = a.defers := by cases d <;> rfl

/-- A value that owns nothing is told at any place. -/
theorem AVR.place {l l' : Loc} {val : Value} : ∀ {v : AV}, plainAV v = true → AVR Z g G a w v l val → AVR Z g G a w v l' val := by
  intro v hv h
  cases v <;> simp [plainAV] at hv <;> try exact h
  rename_i c u
  intro hc
  have := h hc
  cases u <;> simp [plainAV] at hv <;> exact this

theorem free_of_upd_none {l : Loc} {b : Nat} (h : free Z G w b) : free Z (G.upd l none) w b := ⟨h.1, fun k e => by
  by_cases hk : l = k
  · subst hk; simp [Ghost.upd] at e
  · rw [Ghost.upd_ne _ _ hk] at e; exact h.2 k e, h.3⟩

/-- **A slot is filled with what owns nothing.** -/
theorem Rel.put' (h : Rel Z E N w0 Ow S D g G a w) {d : Nat} {v : AV} {val : Value} (hv : plainAV v = true) (hst : stampIn S v)
    (hD : ¬ D d) (hc : ∀ c u, v = .opt c u → (∀ p ∈ c, D p.1) ∧ ((gcond c).run g = some true → stampIn S u))
    (hr : AVR Z g G a w v (.slot d) val) (hdef : a'.defers = Ow.dl) (hsz : a'.tmps.size = N) (hval : a'.tmps.getD d undef = val) (hoth : ∀ n, d ≠ n → a'.tmps.getD n undef = a.tmps.getD n undef) :
    Rel Z E N w0 Ow S D (g.upd (.slot d) v) (G.upd (.slot d) none) a' w := by
  have hne : ∀ l, ¬ l = .slot d → g.upd (.slot d) v l = g l := fun l hl => Mem.upd_ne g v (Ne.symm hl)
  have hneG : ∀ l, ¬ l = .slot d → G.upd (.slot d) none l = G l := fun l hl => Ghost.upd_ne G none (Ne.symm hl)
  have hbox : ∀ b e n, g (.box b) = .bx e n → g.upd (.slot d) v (.box b) = .bx e n ∧ G.upd (.slot d) none (.box b) = G (.box b) := fun b e n hb => ⟨by rw [hne _ (by simp)]; exact hb, hneG _ (by simp)⟩
  have hk : ∀ b, free Z G w b → free Z (G.upd (.slot d) none) w b ∧ w.heap[b]? = w.heap[b]? := fun b hb => ⟨free_of_upd_none hb, rfl⟩
  have hroot : ∀ l st, S st → isRoot l → RootKept g G a w (g.upd (.slot d) v) (G.upd (.slot d) none) a' w l st := by
    intro l st _ hrt
    by_cases hl : l = .slot d
    · subst hl
      refine ⟨fun e t xs' hx => ?_, fun b o n t xs' hb => by cases hb⟩
      rw [Mem.upd_same] at hx; subst hx; simp [plainAV] at hv
    · refine ⟨fun e t xs' hx => ?_, fun b o n t xs' _ hx _ => ⟨xs', by rwa [hne l hl] at hx⟩⟩
      rw [hne l hl] at hx
      refine ⟨xs', hx, rfl, ?_, hneG l hl⟩
      cases l with
      | slot n => exact hoth n (fun e => hl (by rw [e]))
      | comp n i => exact hrt.elim
      | cell b o => simp only [rootVal]; rw [hneG _ (by simp)]
      | box b => rfl
  have hctx : ∀ k, D k → g.upd (.slot d) v (.slot k) = g (.slot k) := fun k hk => hne _ (fun e => hD (by cases e; exact hk))
  refine h.change (· = .slot d) hne hneG hdef hsz rfl rfl rfl (Nat.le_refl _) (fun _ _ _ => rfl) hk (fun _ _ _ _ => rfl) hroot
    (fun b e n hb => ⟨(hbox b e n hb).1, (hbox b e n hb).2, fun _ _ => .inr rfl⟩) hctx (fun _ h => h) (fun n hn => hoth n (fun e => hn (by rw [e]))) ?_ ?_ ?_ ?_ ?_ ?_ ?_ ?_ ?_ ?_ ?_
  · rintro n hn; cases hn
    rw [Mem.upd_same, hval]
    have hvo : ∀ e t xs s, v ≠ .own e t xs s := fun e t xs s e' => by rw [e'] at hv; simp [plainAV] at hv
    -- told anew at a place that is not the root of anything
    have key : ∀ l' : Loc, (∀ e t xs s, g l' ≠ .own e t xs s) → AVR Z (g.upd (.slot d) v) (G.upd (.slot d) none) a' w v l' val := fun l' hl' =>
      AVR.keep S D rfl hk hroot hbox hctx (fun e t xs s e' => absurd e' (hl' e t xs s)) (fun e t xs s e' => absurd e' (hvo e t xs s)) hst (fun c u e' => by
        refine ⟨(hc c u e').1, fun c' v' e2 => ?_, fun e t xs s e2 => ?_, (hc c u e').2⟩
        · rw [e', e2] at hv; simp [plainAV] at hv
        · rw [e', e2] at hv; simp [plainAV] at hv) (hr.place hv)
    exact (key (.box 0) (fun e t xs s e' => by
      rcases h.boxAV 0 with h0 | ⟨e0, n0, h0⟩ <;> rw [h0] at e' <;> cases e')).place hv
  · intro n k i hn _ hch
    rcases hch with e | e
    · cases e; rw [Mem.upd_same] at hn; rw [hn] at hv; simp [plainAV] at hv
    · cases e
  · intro b e n hb; cases hb
  · intro b o hb; cases hb
  · intro b o o' hb; rcases hb with hb | hb <;> cases hb
  · intro b hb; cases hb
  · rintro l hl; cases hl; rw [Mem.upd_same]; exact hst
  · rintro l c u hl e; cases hl; rw [Mem.upd_same] at e
    refine ⟨(hc c u e).1, fun c' v' e2 => ?_, fun e' t xs s e2 => ?_, fun n e2 => ?_, (hc c u e).2⟩
    · rw [e, e2] at hv; simp [plainAV] at hv
    · rw [e, e2] at hv; simp [plainAV] at hv
    · rw [e, e2] at hv; simp [plainAV] at hv
  · rintro l b hl e; cases hl; simp [Ghost.upd] at e
  · rintro l b hl e; cases hl; simp [Ghost.upd] at e
  · rintro l l' b hl e; cases hl; simp [Ghost.upd] at e

theorem Rel.put (h : Rel Z E N w0 Ow S D g G a w) {d : Nat} (hd : d < N) {v : AV} {val : Value} (hv : plainAV v = true) (hst : stampIn S v)
    (hD : ¬ D d) (hc : ∀ c u, v = .opt c u → (∀ p ∈ c, D p.1) ∧ ((gcond c).run g = some true → stampIn S u))
    (hr : AVR Z g G a w v (.slot d) val) : Rel Z E N w0 Ow S D (g.upd (.slot d) v) (G.upd (.slot d) none) (a.put (some d) val) w :=
  h.put' hv hst hD hc hr (by rw [put_defers]; exact h.defers) (by rw [put_size]; exact h.tmps) (put_tmps a d val (by rw [h.tmps]; exact hd)) (fun _ hn => put_tmps_ne a val hn)
/-- A slot is told otherwise; its value stays. -/
theorem Rel.retell (h : Rel Z E N w0 Ow S D g G a w) {d : Nat} (hd : d < N) {v : AV} (hv : plainAV v = true) (hst : stampIn S v)
    (hD : ¬ D d) (hc : ∀ c u, v = .opt c u → (∀ p ∈ c, D p.1) ∧ ((gcond c).run g = some true → stampIn S u))
    (hr : AVR Z g G a w v (.slot d) (a.tmps.getD d undef)) : Rel Z E N w0 Ow S D (g.upd (.slot d) v) (G.upd (.slot d) none) a w :=
  h.put' hv hst hD hc hr h.defers h.tmps rfl (fun _ _ => rfl)

/-- More stamps, more guards: it stays. -/
theorem Rel.more (h : Rel Z E N w0 Ow S D g G a w) (hS : ∀ n, S n → S' n) (hD : ∀ n, D n → D' n) (hDb : ∀ k, D' k → ∃ x, g (.slot k) = .dat .bool x ∨ ∃ c, g (.slot k) = .opt c (.dat .bool x)) : Rel Z E N w0 Ow S' D' g G a w :=
  { h with
    stamps := fun l => by
      have := h.stamps l
      generalize g l = v at this
      cases v with
      | own => exact hS _ this
      | view => exact ⟨hS _ this.1, this.2⟩
      | eptr => exact ⟨hS _ this.1, this.2⟩
      | _ => trivial
    ctx := fun l c v hv => ⟨fun p hp => hD _ ((h.ctx l c v hv).1 p hp), (h.ctx l c v hv).2.1, (h.ctx l c v hv).2.2.1, (h.ctx l c v hv).2.2.2.1, fun hg => by
      have := (h.ctx l c v hv).2.2.2.2 hg
      cases v with
      | own => exact hS _ this
      | view => exact ⟨hS _ this.1, this.2⟩
      | eptr => exact ⟨hS _ this.1, this.2⟩
      | _ => trivial⟩
    dbool := hDb }

/-- A world that differs in what nobody looks at. -/
theorem Rel.world (h : Rel Z E N w0 Ow S D g G a w) (hh : w'.heap = w.heap) (h1 : w'.os = w.os) (h2 : w'.tape = w.tape) (h3 : w'.output = w.output) : Rel Z E N w0 Ow S D g G a w' := by
  have hk : ∀ b, free Z G w b → free Z G w' b ∧ w'.heap[b]? = w.heap[b]? := fun b hb => ⟨⟨by rw [hh]; exact hb.1, hb.2, hb.3⟩, by rw [hh]⟩
  refine h.change (fun _ => False) (fun _ _ => rfl) (fun _ _ => rfl) h.defers h.tmps h1 h2 h3 (by rw [hh]; exact Nat.le_refl _) (fun _ _ _ => by rw [hh]) hk (fun _ _ _ _ => by rw [hh]) ?_
    (fun b e n hb => ⟨hb, rfl, fun _ _ => .inr (by rw [hh])⟩) (fun _ _ => rfl) (fun _ h => h) (fun _ _ => rfl) ?_ ?_ ?_ ?_ ?_ ?_ ?_ ?_ ?_ ?_ ?_
  · intro l st _ hrt
    refine ⟨fun e t xs hx => ⟨xs, hx, rfl, ?_, rfl⟩, fun b o n t xs _ hx _ => ⟨xs, hx⟩⟩
    cases l with
    | slot n => rfl
    | comp n i => rfl
    | cell b o =>
      simp only [rootVal]
      cases G (.box b) with
      | none => rfl
      | some gb => simp only [World.cell?, hh]
    | box b => rfl
  all_goals first
    | (intro _ h; exact h.elim)
    | (intro _ _ h; exact h.elim)
    | (intro _ _ _ h; exact h.elim)
    | (intro _ _ _ h _; rcases h with h | h <;> exact h.elim)
    | (intro _ _ _ _ _ h; rcases h with h | h <;> exact h.elim)

/-- **A slot comes to own a slice**: out of a root that gives it up, or of new memory. -/
theorem Rel.putOwn' (h : Rel Z E N w0 Ow S D g G a w) {d : Nat} (hd : d < N) (r : Option Loc) (st' : Nat) (hst' : ¬ S st') (hD : ¬ D d)
    (hr : ∀ l, r = some l → ∃ e t xs s, g l = .own e t xs s)
    {e : Nat} {t : Ty} {xs : List t.den} {v : Value} {cells : List Value}
    (hw : w.grownBy w' (r.bind G))
    (hb : ∀ b, v.ownBlock = some b → r.bind G = some b ∨ (w.heap.size ≤ b ∧ b < w'.heap.size))
    (h0 : 0 < t.sz) (hrows : Rows (RV (fun k => (free Z G w k ∨ (w.heap.size ≤ k ∧ k < w'.heap.size)) ∧ v.ownBlock ≠ some k) w' t) xs cells) (hown : ownsQ w' e t.sz v xs.length cells)
    (hdef : a'.defers = Ow.dl) (hsz : a'.tmps.size = N) (hval : a'.tmps.getD d undef = v) (hoth : ∀ n, d ≠ n → a'.tmps.getD n undef = a.tmps.getD n undef) :
    ∃ g2 G2, (∀ l, g2 l = if l = .slot d then .own e t xs st' else if some l = r then deadAt l else g l) ∧ Rel Z E N w0 Ow (fun n => S n ∨ n = st') D g2 G2 a' w' := by
  refine ⟨fun l => if l = .slot d then .own e t xs st' else if some l = r then deadAt l else g l, fun l => if l = .slot d then v.ownBlock else if some l = r then none else G l, fun l => rfl, ?_⟩
  have hrG : ∀ l b, some l = r → G l = some b → r.bind G = some b := fun l b e hb => by rw [← e]; exact hb
  have hk : ∀ b, free Z G w b → free Z (fun l => if l = .slot d then v.ownBlock else if some l = r then none else G l) w' b ∧ w'.heap[b]? = w.heap[b]? := by
    intro b hf
    have hne : r.bind G ≠ some b := fun e => by
      cases hr' : r with
      | none => rw [hr'] at e; cases e
      | some l => rw [hr'] at e; exact hf.2 l e
    refine ⟨⟨Nat.lt_of_lt_of_le hf.1 hw.size, fun l e => ?_, hf.3⟩, hw.block b hf.1 (fun e => hne e.symm)⟩
    try dsimp only at e
    split at e
    · rcases hb b e with e | e
      · exact hne e
      · exact absurd hf.1 (by omega)
    · split at e
      · cases e
      · exact hf.2 l e
  have hblk : ∀ l b, G l = some b → ¬ some l = r → w'.heap[b]? = w.heap[b]? := by
    intro l b hl hlr
    refine hw.block b (h.bnd l b hl).1 (fun e => ?_)
    cases hr' : r with
    | none => rw [hr'] at e; cases e
    | some l' => rw [hr'] at e; exact hlr (by rw [hr', h.inj l l' b hl e.symm])
  have hbx : ∀ b e n, g (.box b) = .bx e n → ¬ (some (Loc.box b) = r) := fun b e n hb e' => by
    obtain ⟨e1, t1, xs1, s1, h1⟩ := hr _ e'.symm
    rw [hb] at h1; cases h1
  refine h.change (fun l => l = .slot d ∨ some l = r) ?_ ?_ hdef hsz hw.os hw.tape hw.output hw.size ?_ hk ?_ ?_ ?_ ?_ (fun _ h => .inl h) (fun n hn => hoth n (fun e => hn (.inl (by rw [e])))) ?_ ?_ ?_ ?_ ?_ ?_ ?_ ?_ ?_ ?_ ?_ (fun b gb hc hd0 => by
    rcases hc with e | e
    · cases e
    · obtain ⟨_, _, _, _, h1⟩ := hr _ e.symm
      rw [hd0] at h1; cases h1)
  · intro l hl; rw [if_neg (fun e => hl (.inl e)), if_neg (fun e => hl (.inr e))]
  · intro l hl; rw [if_neg (fun e => hl (.inl e)), if_neg (fun e => hl (.inr e))]
  · intro k hk1 hk2
    refine hw.block k (Nat.lt_of_lt_of_le hk1 h.size) (fun e => ?_)
    cases hr' : r with
    | none => rw [hr'] at e; cases e
    | some l => rw [hr'] at e; rcases (h.bnd l k e.symm).2 with h1 | h1 <;> first | exact hk2 h1 | omega
  · intro l hl b hb; exact hblk l b hb (fun e => hl (.inr e))
  · intro l st hs hrt
    by_cases h1 : l = .slot d
    · subst h1
      refine ⟨fun e1 t1 xs1 hx => ?_, fun b o n t1 xs1 hb => by cases hb⟩
      simp at hx; exact absurd (hx.2.2.2 ▸ hs) hst'
    · by_cases h2 : some l = r
      · refine ⟨fun e1 t1 xs1 hx => ?_, fun b o n t1 xs1 hb hx => ?_⟩ <;> simp [h1, h2] at hx <;> cases l <;> simp [deadAt] at hx
      · refine ⟨fun e1 t1 xs1 hx => ?_, fun b o n t1 xs1 hb hx _ => ⟨xs1, by simpa [h1, h2] using hx⟩⟩
        simp [h1, h2] at hx
        refine ⟨xs1, hx, rfl, ?_, by simp [h1, h2]⟩
        cases l with
        | slot n => exact hoth n (fun e => h1 (by rw [e]))
        | comp n i => exact hrt.elim
        | cell b o =>
          simp only [rootVal]
          obtain ⟨e2, n2, gb, cur, h3, h4, h5, _⟩ := h.cells b o (by rw [hx]; simp)
          have h6 := hbx b e2 n2 h3
          simp only [h6, if_false, reduceCtorEq, h4]
          rw [World.cell?_of_block (w := w) (a := ⟨gb, o, none⟩) (hblk (.box b) gb h4 h6)]
        | box b => rfl
  · intro b e1 n hb'
    have h6 := hbx b e1 n hb'
    exact ⟨by simp [h6, hb'], by simp [h6], fun gb hgb => .inr (hblk (.box b) gb hgb h6)⟩
  · intro k hk'
    have h1 : ¬ (Loc.slot k = .slot d) := fun e => hD (by cases e; exact hk')
    have h2 : ¬ some (Loc.slot k) = r := fun e2 => by
      obtain ⟨e1, t1, xs1, s1, h3⟩ := hr _ e2.symm
      obtain ⟨x, h4 | ⟨c, h4⟩⟩ := h.dbool k hk' <;> rw [h3] at h4 <;> cases h4
    simp only [h1, h2, if_false]
  · intro n hn
    by_cases h1 : Loc.slot n = .slot d
    · cases h1
      rw [if_pos rfl, hval]
      refine ⟨h0, cells, hrows.imp fun _ _ hc => hc.keep (fun _ _ => rfl) (fun k hk' => ?_), hown, ?_⟩
      · refine ⟨?_, fun l e => ?_, ?_⟩
        · rcases hk'.1 with h1 | h1
          · exact Nat.lt_of_lt_of_le h1.1 hw.size
          · exact h1.2
        rotate_left
        · rcases hk'.1 with h1 | h1
          · exact h1.3
          · exact h.zow k (.inr (Nat.le_trans h.size h1.1))
        · try dsimp only at e
          split at e
          · exact hk'.2 e
          · split at e
            · cases e
            · rcases hk'.1 with h1 | h1
              · exact h1.2 l e
              · have := (h.bnd l k e).1; omega
      simp
    · rcases hn with hn | hn
      · exact absurd hn h1
      · rw [if_neg h1, if_pos hn]; exact True.intro
  · intro n k i hn hi hch
    by_cases h1 : Loc.slot n = .slot d
    · rw [if_pos h1] at hn; cases hn
    · rw [if_neg h1] at hn
      split at hn
      · simp [deadAt] at hn
      · rcases hch with (hch | hch) | (hch | hch)
        · exact absurd hch h1
        · exact absurd hch (by assumption)
        · cases hch
        · rw [if_neg (by simp), if_pos hch]; exact True.intro
  · intro b e1 n hch hb'
    rcases hch with hch | hch
    · cases hch
    · rw [if_neg (by simp), if_pos hch] at hb'; simp [deadAt] at hb'
  · intro b o hch hne
    rcases hch with hch | hch
    · cases hch
    · obtain ⟨e1, t1, xs1, s1, h1⟩ := hr _ hch.symm
      obtain ⟨e2, n2, gb, cur, h3, h4, h5, h6⟩ := h.cells b o (by rw [h1]; simp)
      have h7 := hbx b e2 n2 h3
      refine ⟨e2, n2, gb, cur, by simp [h7, h3], by simp [h7, h4], (hblk (.box b) gb h4 h7).trans h5, ?_⟩
      rw [if_neg (by simp), if_pos hch]
      rw [h1] at h6
      exact ⟨h6.1, trivial⟩
  · intro b o o' hch h1 h2 hne
    have key : ∀ o, (if Loc.cell b o = .slot d then AV.own e t xs st' else if some (Loc.cell b o) = r then deadAt (.cell b o) else g (.cell b o)) ≠ .dead → g (.cell b o) ≠ .dead ∧ (if Loc.cell b o = .slot d then AV.own e t xs st' else if some (Loc.cell b o) = r then deadAt (.cell b o) else g (.cell b o)).size = (g (.cell b o)).size := fun o hn => by
      rw [if_neg (by simp)] at hn ⊢
      by_cases hc : some (Loc.cell b o) = r
      · obtain ⟨e1, t1, xs1, s1, h1⟩ := hr _ hc.symm
        rw [if_pos hc, h1]
        exact ⟨by simp, rfl⟩
      · rw [if_neg hc] at hn ⊢
        exact ⟨hn, rfl⟩
    have k1 := key o h1
    have k2 := key o' h2
    have := h.apart b o o' k1.1 k2.1 hne
    rw [← k1.2, ← k2.2] at this
    exact this
  · intro b hch
    rcases hch with hch | hch
    · cases hch
    · rw [if_neg (by simp), if_pos hch]; exact .inl rfl
  · intro l hch
    by_cases h1 : l = .slot d
    · rw [if_pos h1]; exact .inr rfl
    · rcases hch with hch | hch
      · exact absurd hch h1
      · rw [if_neg h1, if_pos hch]; cases l <;> exact True.intro
  · intro l c u hch hu
    by_cases h1 : l = .slot d
    · rw [if_pos h1] at hu; cases hu
    · rcases hch with hch | hch
      · exact absurd hch h1
      · rw [if_neg h1, if_pos hch] at hu; cases l <;> cases hu
  · intro l b hch hb'
    by_cases h1 : l = .slot d
    · rw [if_pos h1] at hb'
      rcases hb b hb' with e1 | e1
      · cases hr' : r with
        | none => rw [hr'] at e1; cases e1
        | some l' => rw [hr'] at e1; have := h.bnd l' b e1; exact ⟨Nat.lt_of_lt_of_le this.1 hw.size, this.2⟩
      · exact ⟨e1.2, .inr (Nat.le_trans h.size e1.1)⟩
    · rcases hch with hch | hch
      · exact absurd hch h1
      · rw [if_neg h1, if_pos hch] at hb'; cases hb'
  · intro l b hch hb'
    by_cases h1 : l = .slot d
    · rw [if_pos h1]; exact .inl ⟨_, _, _, _, rfl⟩
    · rcases hch with hch | hch
      · exact absurd hch h1
      · rw [if_neg h1, if_pos hch] at hb'; cases hb'
  · intro l l' b hch hb1 hb2
    by_cases h1 : l = .slot d
    · rw [if_pos h1] at hb1
      by_cases h2 : l' = .slot d
      · rw [h1, h2]
      · rw [if_neg h2] at hb2
        split at hb2
        · cases hb2
        · rename_i h3
          rcases hb b hb1 with e1 | e1
          · cases hr' : r with
            | none => rw [hr'] at e1; cases e1
            | some l2 => rw [hr'] at e1; exact absurd (by rw [hr', h.inj l' l2 b hb2 e1]) h3
          · exact absurd (h.bnd l' b hb2).1 (by omega)
    · rcases hch with hch | hch
      · exact absurd hch h1
      · rw [if_neg h1, if_pos hch] at hb1; cases hb1

/-- .. what lies in it told in the world as it was. -/
theorem Rel.putOwn (h : Rel Z E N w0 Ow S D g G a w) {d : Nat} (hd : d < N) (r : Option Loc) (st' : Nat) (hst' : ¬ S st') (hD : ¬ D d)
    (hr : ∀ l, r = some l → ∃ e t xs s, g l = .own e t xs s)
    {e : Nat} {t : Ty} {xs : List t.den} {v : Value} {cells : List Value}
    (hw : w.grownBy w' (r.bind G))
    (hb : ∀ b, v.ownBlock = some b → r.bind G = some b ∨ (w.heap.size ≤ b ∧ b < w'.heap.size))
    (h0 : 0 < t.sz) (hrows : Rows (RV (free Z G w) w t) xs cells) (hown : ownsQ w' e t.sz v xs.length cells)
    (hdef : a'.defers = Ow.dl) (hsz : a'.tmps.size = N) (hval : a'.tmps.getD d undef = v) (hoth : ∀ n, d ≠ n → a'.tmps.getD n undef = a.tmps.getD n undef) :
    ∃ g2 G2, (∀ l, g2 l = if l = .slot d then .own e t xs st' else if some l = r then deadAt l else g l) ∧ Rel Z E N w0 Ow (fun n => S n ∨ n = st') D g2 G2 a' w' := by
  have hne : ∀ b, free Z G w b → r.bind G ≠ some b := fun b hf e => by
    cases hr' : r with
    | none => rw [hr'] at e; cases e
    | some l => rw [hr'] at e; exact hf.2 l e
  refine h.putOwn' hd r st' hst' hD hr hw hb h0 (hrows.imp fun _ _ hc => hc.keep (fun b hf => hw.block b hf.1 (fun e => hne b hf e.symm)) (fun b hf => ⟨.inl hf, fun e => ?_⟩)) hown hdef hsz hval hoth
  rcases hb b e with e | e
  · exact hne b hf e
  · have := hf.1; omega
end
end Go.Ev

namespace Go.Ev
open Go.RowKit
section
variable {Z : ZS} {E : Env} {N : Nat} {w0 : World} {Ow : OwS} {S S' D D' : Nat → Prop} {g g' : Mem} {G G' : Ghost} {a a' : Act} {w w' : World}

theorem add_plain (b o j : Nat) : (⟨b, o, none⟩ : Addr).add j = ⟨b, o + j, none⟩ := by unfold Addr.add; split <;> simp_all

theorem OwnR.frozen {Pr Pr' : Nat → Prop} {gb : Option Nat} {e : Nat} {t : Ty} {xs : List t.den} {v : Value} (h : OwnR Pr w gb e t xs v) (hp : ∀ b, Pr b → Pr' b) (hb : ∀ b, gb = some b → Pr' b) :
    RV Pr' w (.list t) xs [v] := by
  obtain ⟨h0, cells, hr, ho, rfl⟩ := h
  rcases ho.2 with ⟨rfl, hn⟩ | ⟨g, cap, cur, rfl, h2, h3, h4, h5, h6⟩
  · have hx : xs = [] := List.eq_nil_of_length_eq_zero hn
    subst hx
    exact ⟨none, 0, rfl, by simp, by simp, by simp⟩
  · refine ⟨_, cap, rfl, h3, by simp only [maxLen] at h4; omega, fun hpos => ⟨⟨g, 0, none⟩, cells, rfl, hb g rfl, hr.imp fun _ _ hc => hc.keep (fun _ _ => rfl) hp, fun j hj => ?_⟩⟩
    have := ho.cells (g := g) rfl j cells[j] (List.getElem?_eq_getElem hj)
    exact this

theorem OwnR.slice {Pr : Nat → Prop} {gb : Option Nat} {e : Nat} {t : Ty} {xs : List t.den} {v : Value} (h : OwnR Pr w gb e t xs v) : ∃ A cap, v = .slice A xs.length cap ∧ xs.length ≤ cap ∧ cap ≤ maxLen := by
  obtain ⟨h0, cells, hr, ho, rfl⟩ := h
  rcases ho.2 with ⟨rfl, hn⟩ | ⟨g, cap, cur, rfl, h2, h3, h4, h5, h6⟩
  · exact ⟨none, 0, by rw [hn], by omega, by unfold maxLen; omega⟩
  · exact ⟨_, cap, rfl, h3, h4⟩

/-- A shorter look at a frozen slice. -/
theorem RV.cutTo {Pr : Nat → Prop} {t : Ty} {xs : List t.den} {A : Option Addr} {m cap : Nat} (h : RV Pr w (.list t) xs [.slice A m cap]) {n : Nat} (hn : n ≤ xs.length) : RV Pr w (.list t) (xs.take n) [.slice A n cap] := by
  obtain ⟨A', cap', he, h1, h2, h3⟩ := h
  simp at he
  obtain ⟨rfl, rfl, rfl⟩ := he
  have hl : (xs.take n).length = n := by simp; omega
  refine ⟨A, cap, by rw [hl], by omega, by omega, fun h0 => ?_⟩
  obtain ⟨ad, ds, h4, h5, h6, h7⟩ := h3 (by omega)
  refine ⟨ad, ds.take (n * t.sz), h4, h5, h6.take (fun _ _ hc => hc.len) n, fun j hj => ?_⟩
  rw [h7 j (by simp at hj; omega)]
  simp

/-- What a kept place holds behind a region. -/
theorem get_norm (k : Keep) (st : St) (l : Loc) : St.get (norm k st) l = match k.find? fun p => p.1.eq l with
    | some p => if placeOk k l then clean k st p.2 (st.get l) else .dead
    | none => .dead := by
  unfold norm
  generalize hk : k = k0
  have : ∀ (m : Keep), St.get (m.map fun p => (p.1, if placeOk k0 p.1 then clean k0 st p.2 (st.get p.1) else .dead)) l = match m.find? fun p => p.1.eq l with
    | some p => if placeOk k0 l then clean k0 st p.2 (st.get l) else .dead
    | none => .dead := by
    intro m
    induction m with
    | nil => rfl
    | cons p m ih =>
      simp only [List.map_cons, St.get, List.find?_cons]
      cases he : p.1.eq l with
      | true =>
        have := Loc.eq_iff.1 he
        simp [this]
      | false => simpa using ih
  exact this k0

def sameAV : AV → Bool
  | .dat _ _ | .dptr _ _ _ | .nil | .tup _ | .bx _ _ | .nilp | .datn _ _ _ | .yld => true
  | _ => false
inductive Cl (k : Keep) (g : Mem) (h : Hint) : AV → AV → Prop
  | dead (v : AV) : Cl k g h v .dead
  | same {v : AV} (hs : sameAV v = true) : Cl k g h v v
  | own (e : Nat) (t : Ty) (xs : List t.den) (s : Nat) (hf : h.isFrz = false) : Cl k g h (.own e t xs s) (.own e t xs 0)
  | frz (e : Nat) (t : Ty) (xs : List t.den) (s : Nat) (hf : h.isFrz = true) : Cl k g h (.own e t xs s) (.dat (.list t) xs)
  | ptr (b o : Nat) (hb : keptBox k b = true) : Cl k g h (.ptr b o) (.ptr b o)
  | mptr (b o : Nat) (p : Bool) (hb : keptBox k b = true) : Cl k g h (.mptr b o p) (.mptr b o p)
  | fn (f : Nat) (caps : List Nat) (hb : caps.all (keptBox k) = true) : Cl k g h (.fn f caps) (.fn f caps)
  | view (l : Loc) (s : Nat) (t : Ty) (n e : Nat) (xs : List t.den) (hf : frozenAt k l = true) (hg : g l = .own e t xs s) : Cl k g h (.view l s t n) (.dat (.list t) (xs.take n))
  | nilOwn (e : Nat) (t : Ty) (hz : 0 < t.sz) (hf : h.isFrz = false) : Cl k g h .nil (.own e t [] 0)
  | nilDat (t : Ty) : Cl k g h .nil (.dat (.list t) [])

theorem clean_cl (k : Keep) (st : St) (g : Mem) (hst : ∀ l, St.get st l = g l) (hf : Hint) (v : AV) : Cl k g hf v (clean k st hf v) := by
  cases v <;> simp only [clean]
  case dead => exact .dead _
  case dat => exact .same rfl
  case own e t xs s =>
    split
    · rename_i h; exact .frz e t xs s h
    · rename_i h; exact .own e t xs s (by simpa using h)
  case view l s t n =>
    rw [hst]
    split
    · rename_i hf
      split
      · rename_i e t' xs s' hg
        split
        · rename_i hs
          split
          · rename_i ht
            subst ht
            have := Nat.eq_of_beq_eq_true hs
            subst this
            exact .view l s t' n e xs hf hg
          · exact .dead _
        · exact .dead _
      · exact .dead _
    · exact .dead _
  case ptr b o =>
    split
    · rename_i h; exact .ptr b o h
    · exact .dead _
  case eptr => exact .dead _
  case aview => exact .dead _
  case dptr => exact .same rfl
  case fn f caps =>
    split
    · rename_i h; exact .fn f caps h
    · exact .dead _
  case nil =>
    cases hf with
    | nilOwn e t =>
      simp only []
      split
      · rename_i hz; exact .nilOwn e t (by simpa using hz) rfl
      · exact .same rfl
    | nilDat t => exact .nilDat t
    | _ => exact .same rfl
  case nilp => exact .same rfl
  case mptr b o p =>
    split
    · rename_i h; exact .mptr b o p h
    · exact .dead _
  case datn => exact .same rfl
  case junk => exact .dead _
  case yld => exact .same rfl
  case tup => exact .same rfl
  case bx => exact .same rfl
  case opt => exact .dead _

theorem Rel.norm (h : Rel Z E N w0 Ow S D g G a w) (k : Keep) (st : St) (hst : ∀ l, St.get st l = g l) :
    ∃ G', Rel Z E N w0 Ow (fun n => n = 0) (fun _ => False) (St.get (norm k st)) G' a w := by
  obtain ⟨g', hg'⟩ : ∃ g' : Mem, g' = St.get (Ev.norm k st) := ⟨_, rfl⟩
  have hget : ∀ l, g' l = .dead ∨ ∃ p, (k.find? fun p => p.1.eq l) = some p ∧ placeOk k l = true ∧ Cl k g p.2 (g l) (g' l) := by
    intro l
    have : g' l = match k.find? fun p => p.1.eq l with
      | some p => if placeOk k l then clean k st p.2 (g l) else .dead
      | none => .dead := by rw [hg', get_norm, hst]
    split at this
    · rename_i p hp
      split at this
      · rename_i hok
        exact .inr ⟨p, hp, hok, by rw [this]; exact clean_cl k st g hst p.2 (g l)⟩
      · exact .inl this
    · exact .inl this
  rw [← hg']
  have hown : ∀ {l e t xs s}, g' l = .own e t xs s → s = 0 ∧ ((∃ s', g l = .own e t xs s') ∨ (g l = .nil ∧ xs = [])) ∧ ∃ p, (k.find? fun p => p.1.eq l) = some p ∧ p.2.isFrz = false := by
    intro l e t xs s hl
    rcases hget l with h0 | ⟨p, hp, _, hc⟩
    · rw [hl] at h0; cases h0
    · rw [hl] at hc
      generalize hv : g l = v at hc
      cases hc with
      | same hh => simp [sameAV] at hh
      | own e t xs s hf => exact ⟨rfl, .inl ⟨s, rfl⟩, p, hp, hf⟩
      | nilOwn e t hz hf => exact ⟨rfl, .inr ⟨rfl, rfl⟩, p, hp, hf⟩
  have hbx : ∀ {l e n}, g' l = .bx e n → g l = .bx e n := by
    intro l e n hl
    rcases hget l with h0 | ⟨p, hp, _, hc⟩
    · rw [hl] at h0; cases h0
    · rw [hl] at hc
      generalize hv : g l = v at hc
      cases hc with
      | same hh => rfl
  have hbx2 : ∀ {b e n}, g (.box b) = .bx e n → keptBox k b = true → g' (.box b) = .bx e n := by
    intro b e n hb hk
    rcases hget (.box b) with h0 | ⟨p, hp, _, hc⟩
    · have : g' (.box b) = match k.find? fun p => p.1.eq (.box b) with
        | some p => if placeOk k (.box b) then clean k st p.2 (g (.box b)) else .dead
        | none => .dead := by rw [hg', get_norm, hst]
      simp only [keptBox, List.any_eq_true] at hk
      obtain ⟨p, hp1, hp2⟩ := hk
      cases hf : k.find? fun p => p.1.eq (.box b) with
      | none => exact absurd hp2 (by simpa using List.find?_eq_none.1 hf p hp1)
      | some p => rw [hf] at this; simpa [placeOk, hb, clean] using this
    · rw [hb] at hc
      generalize hv : g' (.box b) = v at hc
      cases hc with
      | same hh => rfl
      | dead =>
        have : g' (.box b) = match k.find? fun p => p.1.eq (.box b) with
          | some p => if placeOk k (.box b) then clean k st p.2 (g (.box b)) else .dead
          | none => .dead := by rw [hg', get_norm, hst]
        rw [hp] at this
        simp [placeOk, hb, clean] at this
        rw [hv] at this; exact this
  let G' : Ghost := fun l => match g' l with
    | .own _ _ _ _ | .bx _ _ => G l
    | _ => none
  have hG1 : ∀ {l b}, G' l = some b → G l = some b := by
    intro l b hb
    simp only [G'] at hb
    split at hb <;> first | exact hb | cases hb
  have hGo : ∀ {l e t xs s}, g' l = .own e t xs s → G' l = G l := fun hl => by simp only [G', hl]
  have hGb : ∀ {l e n}, g' l = .bx e n → G' l = G l := fun hl => by simp only [G', hl]
  have hfree : ∀ b, free Z G w b → free Z G' w b := fun b hb => ⟨hb.1, fun l e => hb.2 l (hG1 e), hb.3⟩
  have hRV : ∀ {t : Ty} {x : t.den} {cs : List Value}, RV (free Z G w) w t x cs → RV (free Z G' w) w t x cs := fun hv => hv.keep (fun _ _ => rfl) hfree
  -- what was owned and is no more is free
  have hfreed : ∀ {l e t xs s}, g l = .own e t xs s → (∀ e t xs s, g' l ≠ .own e t xs s) → ∀ b, G l = some b → free Z G' w b := by
    intro l e t xs s hl hn b hb
    refine ⟨(h.bnd l b hb).1, fun l' e' => ?_, h.zow b (h.bnd l b hb).2⟩
    have := h.inj l' l b (hG1 e') hb
    subst this
    simp only [G'] at e'
    split at e'
    · rename_i e1 t1 xs1 s1 h1; exact hn _ _ _ _ h1
    · rename_i e1 n1 h1; have := hbx h1; rw [hl] at this; cases this
    · cases e'
  -- one value
  have key : ∀ {l : Loc} {val : Value}, AVR Z g G a w (g l) l val → AVR Z g' G' a w (g' l) l val := by
    intro l val hv
    rcases hget l with h0 | ⟨p, hp, hok, hc⟩
    · rw [h0]; trivial
    · generalize hu : g' l = u at hc
      generalize hu0 : g l = v at hc hv
      cases hc with
      | dead => trivial
      | same hs =>
        cases u <;> simp [sameAV] at hs
        · obtain ⟨cs, h1, h2⟩ := hv; exact ⟨cs, hRV h1, h2⟩
        · obtain ⟨b, k1, cs, h1, h2, h3, h4⟩ := hv; exact ⟨b, k1, cs, hRV h1, fun hne => hfree _ (h2 hne), h3, h4⟩
        · exact hv
        · exact hv
        · exact hv
        · exact hv
        · obtain ⟨cs, h1, h2, h3⟩ := hv; exact ⟨cs, hRV h1, h2, h3⟩
        · exact hv
      | mptr b o p hb =>
        refine ⟨fun hp => ?_, hv.2⟩
        obtain ⟨e, n, gb, h1, h2, h3⟩ := hv.1 hp
        have := hbx2 h1 hb
        exact ⟨e, n, gb, this, (hGb this).trans h2, h3⟩
      | nilOwn e t hz hf =>
        have hGn : G l = Option.none := by
          cases hgl : G l with
          | none => rfl
          | some b =>
            rcases h.gone l b hgl with ⟨e1, t1, xs1, s1, h1⟩ | ⟨e1, n1, h1⟩ <;> rw [hu0] at h1 <;> cases h1
        simp only [AVR] at hv ⊢
        rw [hGo hu, hGn, hv]
        exact ⟨hz, [], .nil, ⟨by simp, .inl ⟨rfl, rfl⟩⟩, rfl⟩
      | nilDat t =>
        simp only [AVR] at hv ⊢
        exact ⟨[.slice Option.none 0 0], ⟨Option.none, 0, rfl, by simp, by simp, by simp⟩, by rw [hv]; rfl⟩
      | own e t xs s hf =>
        simp only [AVR] at hv ⊢
        rw [hGo hu]
        exact hv.keep (fun b hb => ⟨hfree b hb, rfl⟩) (fun _ _ => rfl)
      | frz e t xs s hf =>
        simp only [AVR] at hv ⊢
        exact ⟨[val], hv.frozen hfree (hfreed hu0 (fun e t xs s e' => by rw [hu] at e'; cases e')), by simp [valOf, Ty.isAgg]⟩
      | ptr b o hb =>
        obtain ⟨e, n, gb, h1, h2, h3⟩ := hv
        have := hbx2 h1 hb
        exact ⟨e, n, gb, this, (hGb this).trans h2, h3⟩
      | fn f caps hb =>
        obtain ⟨vs, h1, h2, h3⟩ := hv
        refine ⟨vs, h1, h2, fun i b hi => ?_⟩
        obtain ⟨e, n, gb, h4, h5, h6⟩ := h3 i b hi
        have := hbx2 h4 (List.all_eq_true.1 hb b (List.mem_of_getElem? hi))
        exact ⟨e, n, gb, this, (hGb this).trans h5, h6⟩
      | view l' s t n e xs hf hg1 =>
        obtain ⟨h1, h2⟩ := hv.2 e xs hg1
        have hno : ∀ e t xs s, g' l' ≠ .own e t xs s := fun e1 t1 xs1 s1 e' => by
          obtain ⟨_, _, p', hp', hp2⟩ := hown e'
          simp [frozenAt, hp', hp2] at hf
        have hroot : AVR Z g G a w (g l') l' (rootVal G a w l') := by
          have hr := h.stamps l
          rw [hu0] at hr
          cases l' with
          | slot n => exact h.slots n
          | comp n i => exact hr.2.elim
          | cell b o =>
            obtain ⟨e2, n2, gb, cur, h3, h4, h5, h6⟩ := h.cells b o (by rw [hg1]; simp)
            rw [hg1] at h6 ⊢
            have h7 : rootVal G a w (.cell b o) = cur.getD o undef := by
              simp only [rootVal, h4]
              rw [cell_of_row w gb o cur e2 (0, 0) h5]
              exact Array.getD_eq_getD_getElem? .. |>.symm
            rw [h7]
            exact h6.2
          | box b => exact hr.2.elim
        rw [hg1] at hroot
        simp only [AVR] at hroot
        obtain ⟨A, cap, h3, h4, h5⟩ := hroot.slice
        have hfz := hroot.frozen hfree (hfreed hg1 hno)
        rw [h3] at hfz h2
        simp only [prefixOf] at h2
        subst h2
        exact ⟨_, hfz.cutTo h1, by simp [valOf, Ty.isAgg]⟩
  have hcl : ∀ {b o}, g' (.cell b o) ≠ .dead → g (.cell b o) ≠ .dead ∧ keptBox k b = true := by
    intro b o hne
    rcases hget (.cell b o) with h0 | ⟨p, hp, hok, hc⟩
    · exact absurd h0 hne
    · refine ⟨fun e => ?_, by simpa [placeOk] using hok⟩
      rw [e] at hc
      generalize hu : g' (.cell b o) = u at hc hne
      cases hc with
      | dead => exact hne rfl
      | same hs => exact hne rfl
  have hsz : ∀ {l}, g' l ≠ .dead → (g' l).size = (g l).size := by
    intro l hne
    rcases hget l with h0 | ⟨p, hp, hok, hc⟩
    · exact absurd h0 hne
    · generalize hu : g' l = u at hc hne
      generalize hu0 : g l = v at hc
      cases hc with
      | dead => exact absurd rfl hne
      | same hs => rfl
      | own => rfl
      | frz => rfl
      | ptr => rfl
      | fn => rfl
      | view => rfl
      | mptr => rfl
      | nilOwn => rfl
      | nilDat => rfl
  refine ⟨G', h.defers, h.tmps, h.os, h.tape, h.output, h.size, h.low, fun l b hb => h.bnd l b (hG1 hb), h.zow, fun l l' b h1 h2 => h.inj l l' b (hG1 h1) (hG1 h2), ?_, fun n => key (h.slots n), ?_, ?_, ?_, ?_, ?_, ?_, ?_, ?_, ?_, ?_, h.pinR⟩
  · intro l b hb
    simp only [G'] at hb
    split at hb
    · rename_i e t xs s h1; exact .inl ⟨e, t, xs, s, h1⟩
    · rename_i e n h1; exact .inr ⟨e, n, h1⟩
    · cases hb
  · intro n m i hn hi
    refine key (h.comps n m i ?_ hi)
    rcases hget (.slot n) with h0 | ⟨p, hp, hok, hc⟩
    · rw [hn] at h0; cases h0
    · rw [hn] at hc
      generalize hu0 : g (.slot n) = v at hc
      cases hc with
      | same hs => rfl
  · intro b e n hb
    obtain ⟨gb, cur, h1, h2, h3⟩ := h.boxes b e n (hbx hb)
    exact ⟨gb, cur, (hGb hb).trans h1, h2, h3⟩
  · intro b o hne
    obtain ⟨h1, h2⟩ := hcl hne
    obtain ⟨e, n, gb, cur, h3, h4, h5, h6⟩ := h.cells b o h1
    have h7 := hbx2 h3 h2
    refine ⟨e, n, gb, cur, h7, (hGb h7).trans h4, h5, ?_⟩
    have h8 := key (l := .cell b o) (val := cur.getD o undef)
    rcases hget (.cell b o) with h0 | ⟨p, hp, hok, hc⟩
    · exact absurd h0 hne
    · generalize hu : g' (.cell b o) = u at hc hne h8
      generalize hu0 : g (.cell b o) = v at hc h1 h6 h8
      cases hc with
      | dead => trivial
      | same hs =>
        cases u <;> simp [sameAV] at hs
        · exact ⟨h6.1, hRV h6.2⟩
        all_goals exact ⟨h6.1, h8 h6.2⟩
      | mptr b1 o1 p1 hb => exact ⟨h6.1, h8 h6.2⟩
      | nilOwn e1 t1 hz hf => exact ⟨h6.1, h8 h6.2⟩
      | nilDat t1 =>
        refine ⟨h6.1, ?_⟩
        obtain ⟨cs, h9, h10⟩ := h8 h6.2
        have h11 : (cur.toList.drop o).take (Ty.list t1).sz = [cur.getD o undef] := by
          rw [List.drop_eq_getElem_cons (by simpa using h6.1)]
          simp [Ty.sz, Array.getD_eq_getD_getElem?, h6.1]
        rw [h11]
        have h12 := h9.len
        match cs, h12, h9, h10 with
        | [c], _, h9, h10 =>
          have e10 : cur.getD o undef = c := h10
          rw [e10]; exact h9
      | own e1 t xs s hf => exact ⟨h6.1, h8 h6.2⟩
      | frz e1 t xs s hf =>
        refine ⟨h6.1, ?_⟩
        obtain ⟨cs, h9, h10⟩ := h8 h6.2
        have h11 : (cur.toList.drop o).take (Ty.list t).sz = [cur.getD o undef] := by
          rw [List.drop_eq_getElem_cons (by simpa using h6.1)]
          simp [Ty.sz, Array.getD_eq_getD_getElem?, h6.1]
        rw [h11]
        have h12 := h9.len
        match cs, h12, h9, h10 with
        | [c], _, h9, h10 =>
          have e10 : cur.getD o undef = c := h10
          rw [e10]; exact h9
      | ptr b1 o1 hb => exact ⟨h6.1, h8 h6.2⟩
      | fn f caps hb => exact ⟨h6.1, h8 h6.2⟩
      | view l1 s t n1 e1 xs hf hg1 =>
        refine ⟨h6.1, ?_⟩
        obtain ⟨cs, h9, h10⟩ := h8 h6.2
        have h11 : (cur.toList.drop o).take (Ty.list t).sz = [cur.getD o undef] := by
          rw [List.drop_eq_getElem_cons (by simpa using h6.1)]
          simp [Ty.sz, Array.getD_eq_getD_getElem?, h6.1]
        rw [h11]
        have h12 := h9.len
        match cs, h12, h9, h10 with
        | [c], _, h9, h10 =>
          have e10 : cur.getD o undef = c := h10
          rw [e10]; exact h9
  · intro b o o' h1 h2 hne
    rw [hsz h1, hsz h2]
    exact h.apart b o o' (hcl h1).1 (hcl h2).1 hne
  · intro b
    rcases hget (.box b) with h0 | ⟨p, hp, hok, hc⟩
    · exact .inl h0
    · rcases h.boxAV b with hb | ⟨e, n, hb⟩
      · rw [hb] at hc
        generalize hu : g' (.box b) = u at hc
        cases hc with
        | dead => exact .inl rfl
        | same hs => exact .inl rfl
      · rw [hb] at hc
        generalize hu : g' (.box b) = u at hc
        cases hc with
        | dead => exact .inl rfl
        | same hs => exact .inr ⟨e, n, rfl⟩
  · intro l
    rcases hget l with h0 | ⟨p, hp, hok, hc⟩
    · rw [h0]; trivial
    · generalize hu : g' l = u at hc
      generalize hu0 : g l = v at hc
      cases hc with
      | dead => trivial
      | same hs => cases u <;> simp [sameAV] at hs <;> trivial
      | own => exact rfl
      | frz => trivial
      | ptr => trivial
      | fn => trivial
      | view => trivial
      | mptr => trivial
      | nilOwn => exact rfl
      | nilDat => trivial
  · intro l c u hl
    exfalso
    rcases hget l with h0 | ⟨p, hp, hok, hc⟩
    · rw [hl] at h0; cases h0
    · rw [hl] at hc
      generalize hu0 : g l = v at hc
      cases hc with
      | same hs => simp [sameAV] at hs
  · intro n hn; exact hn.elim
  · intro n d hd
    obtain ⟨cs, h1, h2, h3⟩ := h.globs n d hd
    exact ⟨cs, hRV h1, fun hne => hfree _ (h2 hne), h3⟩
  · intro b gb hp hne
    rcases hget (.box b) with h0 | ⟨p, hp', hok, hc⟩
    · exact absurd h0 hne
    · rcases h.boxAV b with hb | ⟨e, n, hb⟩
      · rw [hb] at hc
        generalize hu : g' (.box b) = u at hc hne
        cases hc with
        | dead => exact absurd rfl hne
        | same hs => exact absurd rfl hne
      · rw [hb] at hc
        generalize hu : g' (.box b) = u at hc hne
        cases hc with
        | dead => exact absurd rfl hne
        | same hs => rw [hGb hu]; exact h.pins b gb hp (by rw [hb]; simp)
end
end Go.Ev

namespace Go.Ev
open Go.RowKit
section
variable {Z : ZS} {E : Env} {N : Nat} {w0 : World} {Ow : OwS} {S S' D D' : Nat → Prop} {g g' : Mem} {G G' : Ghost} {a a' : Act} {w w' : World}

theorem ctxEq_eq : ∀ {c d : Ctx}, ctxEq c d = true → c = d
  | [], [], _ => rfl
  | [], _ :: _, h => by simp [ctxEq] at h
  | _ :: _, [], h => by simp [ctxEq] at h
  | (a, x) :: c, (b, y) :: d, h => by
    simp only [ctxEq, Bool.and_eq_true, beq_iff_eq] at h
    obtain ⟨⟨h1, rfl⟩, h3⟩ := h
    rw [Nat.eq_of_beq_eq_true h1, ctxEq_eq h3]
theorem gcond_tail {p : Nat × Bool} {c : Ctx} (h : (gcond (p :: c)).run g = some true) : (gcond c).run g = some true := by
  obtain ⟨s, want⟩ := p
  simp only [gcond, Q.run, Q.run_bind, Option.bind_eq_some_iff] at h
  obtain ⟨v, _, x, _, r, hr, he⟩ := h
  simp only [Q.run, Option.some.injEq, Bool.and_eq_true] at he
  rw [hr, he.2]
theorem gcond_suffix {c : Ctx} : ∀ {d : Ctx}, suffix c d = true → (gcond d).run g = some true → (gcond c).run g = some true
  | [], h, hg => by rw [ctxEq_eq h]; exact hg
  | p :: d, h, hg => by
    simp only [suffix, Bool.or_eq_true] at h
    rcases h with h | h
    · rw [ctxEq_eq h]; exact hg
    · exact gcond_suffix h (gcond_tail hg)

/-- The world at a root. -/
theorem Rel.root (h : Rel Z E N w0 Ow S D g G a w) {l : Loc} (hl : isRoot l) {e : Nat} {t : Ty} {xs : List t.den} {s : Nat} (hg : g l = .own e t xs s) : OwnR (free Z G w) w (G l) e t xs (rootVal G a w l) := by
  cases l with
  | slot n => have := h.slots n; rw [hg] at this; exact this
  | comp n i => exact hl.elim
  | cell b o =>
    obtain ⟨e2, n2, gb, cur, h3, h4, h5, h6⟩ := h.cells b o (by rw [hg]; simp)
    rw [hg] at h6
    have h7 : rootVal G a w (.cell b o) = cur.getD o undef := by
      simp only [rootVal, h4]
      rw [cell_of_row w gb o cur e2 (0, 0) h5]
      exact Array.getD_eq_getD_getElem? .. |>.symm
    rw [h7]
    exact h6.2
  | box b => exact hl.elim

/-- An operand that was read. -/
structure Told (Z : ZS) (E : Env) (S : Nat → Prop) (g : Mem) (G : Ghost) (a : Act) (w : World) (x : Operand) (v : AV) : Prop where
  r : ∀ l, (∀ e t xs s, v = .own e t xs s → ∃ s', l = .slot s' ∧ x = .tmp s') → AVR Z g G a w v l (a.eval x)
  stamp : stampIn S v
  noOpt : ∀ c u, v ≠ .opt c u
  own : ∀ e t xs s, v = .own e t xs s → ∃ n, x = .tmp n ∧ g (.slot n) = v
  tup : ∀ n, v = .tup n → ∃ k, x = .tmp k ∧ g (.slot k) = v

theorem strip_some {ctx : Ctx} {v u : AV} (h : (strip ctx v).run g = some u) : (v = u ∧ ∀ c x, v ≠ .opt c x) ∨ ∃ c, v = .opt c u ∧ suffix c ctx = true := by
  cases v with
  | opt c x =>
    simp only [strip] at h
    split at h
    · simp [Q.run] at h; subst h; exact .inr ⟨c, rfl, by assumption⟩
    · simp [Q.run] at h
  | _ => simp [strip, Q.run] at h; subst h; exact .inl ⟨rfl, by simp⟩

theorem AVR.here {v : AV} {l l' : Loc} {val : Value} (hv : ∀ e t xs s, v ≠ .own e t xs s) (hn : ∀ c u, v ≠ .opt c u) (h : AVR Z g G a w v l val) : AVR Z g G a w v l' val := by
  cases v <;> first | exact h | exact absurd rfl (hv _ _ _ _) | exact absurd rfl (hn _ _)

theorem rd_told (h : Rel Z E N w0 Ow S D g G a w) {ctx : Ctx} (hg : (gcond ctx).run g = some true) {x : Operand} {v : AV} (hr : (rd E ctx x).run g = some v) : Told Z E S g G a w x v := by
  unfold rd at hr
  split at hr
  · rename_i t
    simp only [Q.run] at hr
    have hs := h.slots t
    have hst := h.stamps (.slot t)
    rcases strip_some hr with ⟨he, hno⟩ | ⟨c, he, hc⟩
    · rw [he] at hs hst hno
      refine ⟨fun l hl => ?_, hst, hno, fun e t' xs s e' => ⟨t, rfl, he⟩, fun n e' => ⟨t, rfl, he⟩⟩
      by_cases hown : ∃ e t' xs s, v = .own e t' xs s
      · obtain ⟨e, t', xs, s, hv⟩ := hown
        obtain ⟨s', rfl, hx⟩ := hl e t' xs s hv
        cases hx
        exact hs
      · exact hs.here (fun e t' xs s e' => hown ⟨e, t', xs, s, e'⟩) hno
    · have hcx := h.ctx _ _ _ he
      rw [he] at hs hst
      have hv := hs (gcond_suffix hc hg)
      refine ⟨fun l hl => hv.here hcx.2.2.1 hcx.2.1, hcx.2.2.2.2 (gcond_suffix hc hg), hcx.2.1, fun e t' xs s e' => absurd e' (hcx.2.2.1 _ _ _ _), fun n e' => absurd e' (hcx.2.2.2.1 n)⟩
  · simp [Q.run] at hr; subst hr
    exact ⟨fun _ _ => ⟨_, rfl, rfl⟩, trivial, by simp, by simp, by simp⟩
  · simp [Q.run] at hr; subst hr
    exact ⟨fun _ _ => ⟨_, rfl, rfl⟩, trivial, by simp, by simp, by simp⟩
  · simp [Q.run] at hr; subst hr
    exact ⟨fun _ _ => ⟨_, rfl, rfl⟩, trivial, by simp, by simp, by simp⟩
  · simp [Q.run] at hr; subst hr
    exact ⟨fun _ _ => rfl, trivial, by simp, by simp, by simp⟩
  · simp [Q.run] at hr; subst hr
    exact ⟨fun _ _ => rfl, trivial, by simp, by simp, by simp⟩
  · simp [Q.run] at hr; subst hr
    exact ⟨fun _ _ => trivial, trivial, by simp, by simp, by simp⟩
  · rename_i k
    cases hd : E.glob k with
    | none => simp [hd, ofO, Q.bind, Q.run] at hr
    | some d =>
      simp [hd, ofO, Q.bind, Q.run] at hr; subst hr
      obtain ⟨cs, h1, h2, h3⟩ := h.globs k d hd
      exact ⟨fun _ _ => ⟨k, 0, cs, h1, h2, rfl, h3.1⟩, trivial, by simp, by simp, by simp⟩
  · simp [Q.run] at hr; subst hr
    exact ⟨fun _ _ => ⟨#[], rfl, rfl, by simp⟩, trivial, by simp, by simp, by simp⟩

/-- **What is owned is frozen.** -/
theorem Rel.freeze (h : Rel Z E N w0 Ow S D g G a w) {l : Loc} (hl : isRoot l) {e : Nat} {t : Ty} {xs : List t.den} {s : Nat} (hg : g l = .own e t xs s) :
    Rel Z E N w0 Ow S D (g.upd l (.dat (.list t) xs)) (G.upd l none) a w := by
  have hne : ∀ k, ¬ k = l → g.upd l (.dat (.list t) xs) k = g k := fun k hk => Mem.upd_ne g _ (Ne.symm hk)
  have hneG : ∀ k, ¬ k = l → G.upd l none k = G k := fun k hk => Ghost.upd_ne G none (Ne.symm hk)
  have hf : ∀ b, free Z G w b → free Z (G.upd l none) w b := fun b hb => free_of_upd_none hb
  have hfb : ∀ b, G l = some b → free Z (G.upd l none) w b := fun b hb => ⟨(h.bnd l b hb).1, fun k e' => by
    by_cases hk : k = l
    · rw [hk, Ghost.upd_same] at e'; cases e'
    · rw [hneG k hk] at e'; exact hk (h.inj k l b e' hb), h.zow b (h.bnd l b hb).2⟩
  have hfz : RV (free Z (G.upd l none) w) w (.list t) xs [rootVal G a w l] := (h.root hl hg).frozen hf hfb
  have hdat : AVR Z (g.upd l (.dat (.list t) xs)) (G.upd l none) a w (.dat (.list t) xs) l (rootVal G a w l) := ⟨_, hfz, by simp [valOf, Ty.isAgg]⟩
  have hnb : ∀ b, l ≠ .box b := fun b e => by subst e; exact hl
  refine h.change (· = l) hne hneG h.defers h.tmps rfl rfl rfl (Nat.le_refl _) (fun _ _ _ => rfl) (fun b hb => ⟨hf b hb, rfl⟩) (fun _ _ _ _ => rfl) ?_
    (fun b e n hb => ⟨by rw [hne _ (Ne.symm (hnb b))]; exact hb, hneG _ (Ne.symm (hnb b)), fun _ _ => .inr rfl⟩) ?_ (fun _ h => h) (fun _ _ => rfl) ?_ ?_ ?_ ?_ ?_ ?_ ?_ ?_ ?_ ?_ ?_ (fun b _ hc => absurd hc (Ne.symm (hnb b)))
  · intro k st _ hrt
    by_cases hk : k = l
    · subst hk
      refine ⟨fun e t xs' hx => ?_, fun b o n t xs' hb hx => ?_⟩ <;> rw [Mem.upd_same] at hx <;> cases hx
    · refine ⟨fun e t xs' hx => ?_, fun b o n t xs' _ hx _ => ⟨xs', by rwa [hne k hk] at hx⟩⟩
      rw [hne k hk] at hx
      refine ⟨xs', hx, rfl, ?_, hneG k hk⟩
      cases k with
      | slot n => rfl
      | comp n i => rfl
      | cell b o => simp only [rootVal]; rw [hneG _ (Ne.symm (hnb b))]
      | box b => rfl
  · intro k hk
    refine hne _ (fun e' => ?_)
    obtain ⟨x, hx | ⟨c, hx⟩⟩ := h.dbool k hk <;> rw [e', hg] at hx <;> cases hx
  · rintro n rfl
    rw [Mem.upd_same]; exact hdat
  · intro n k i hn hi hch
    rcases hch with e' | e'
    · subst e'; rw [Mem.upd_same] at hn; cases hn
    · subst e'; exact hl.elim
  · rintro b e n rfl; exact hl.elim
  · rintro b o rfl _
    obtain ⟨e2, n2, gb, cur, h3, h4, h5, h6⟩ := h.cells b o (by rw [hg]; simp)
    rw [hg] at h6
    have h7 : rootVal G a w (.cell b o) = cur.getD o undef := by
      simp only [rootVal, h4]
      rw [cell_of_row w gb o cur e2 (0, 0) h5]
      exact Array.getD_eq_getD_getElem? .. |>.symm
    refine ⟨e2, n2, gb, cur, by rw [hne _ (by simp)]; exact h3, (hneG _ (by simp)).trans h4, h5, ?_⟩
    rw [Mem.upd_same]
    refine ⟨h6.1, ?_⟩
    have h11 : (cur.toList.drop o).take (Ty.list t).sz = [cur.getD o undef] := by
      rw [List.drop_eq_getElem_cons (by simpa using h6.1)]
      have := h6.1
      simp [Ty.sz, Array.getD_eq_getD_getElem?, this]
    rw [h11, ← h7]; exact hfz
  · intro b o o' hch h1 h2 hne'
    have hs : ∀ k, (g.upd l (.dat (.list t) xs) k).size = (g k).size := fun k => by
      by_cases hk : k = l
      · subst hk; rw [Mem.upd_same, hg]; rfl
      · rw [hne k hk]
    have hd : ∀ k, g.upd l (.dat (.list t) xs) k ≠ .dead → g k ≠ .dead := fun k h1 e' => by
      by_cases hk : k = l
      · subst hk; rw [hg] at e'; cases e'
      · rw [hne k hk] at h1; exact h1 e'
    rw [hs, hs]
    exact h.apart b o o' (hd _ h1) (hd _ h2) hne'
  · rintro b rfl; exact hl.elim
  · rintro k rfl; rw [Mem.upd_same]; trivial
  · rintro k c v rfl e'; rw [Mem.upd_same] at e'; cases e'
  · rintro k b rfl e'; rw [Ghost.upd_same] at e'; cases e'
  · rintro k b rfl e'; rw [Ghost.upd_same] at e'; cases e'
  · rintro k k' b rfl e'; rw [Ghost.upd_same] at e'; cases e'

def Mem.sets (g : Mem) : List (Loc × AV) → Mem
  | [] => g
  | p :: r => Mem.sets (g.upd p.1 p.2) r
theorem Mem.sets_append (g : Mem) (a b : List (Loc × AV)) : g.sets (a ++ b) = (g.sets a).sets b := by
  induction a generalizing g with
  | nil => rfl
  | cons p r ih => exact ih _

/-- **An operand as data**, what it owned frozen; what else is told stays told. -/
theorem toDat_frz (h : Rel Z E N w0 Ow S D g G a w) {x : Operand} {v : AV} (ht : Told Z E S g G a w x v) {d : Dat} {ws : List (Loc × AV)} (hr : (toDat x v).run g = some (d, ws)) :
    ∃ G1, Rel Z E N w0 Ow S D (g.sets ws) G1 a w ∧ (∃ cs, RV (free Z G1 w) w d.t d.x cs ∧ a.eval x = valOf d.t cs) ∧ (∀ b, free Z G w b → free Z G1 w b) ∧
      (∀ l, (∀ e t xs s, g l ≠ .own e t xs s) → g.sets ws l = g l) ∧ (∀ l, G1 l = none ∨ G1 l = G l) ∧ (∀ b, G1 (.box b) = G (.box b)) := by
  unfold toDat at hr
  split at hr
  · rename_i t y
    simp [Q.run] at hr
    obtain ⟨rfl, rfl⟩ := hr
    obtain ⟨cs, h1, h2⟩ := ht.r (.box 0) (by simp)
    exact ⟨G, h, ⟨cs, h1, h2⟩, fun _ hb => hb, fun _ _ => rfl, fun _ => .inr rfl, fun _ => rfl⟩
  · rename_i e t xs st
    split at hr
    · rename_i s
      simp [Q.run] at hr
      obtain ⟨rfl, rfl⟩ := hr
      obtain ⟨n, hx, hg⟩ := ht.own e t xs st rfl
      cases hx
      have h1 := h.freeze (l := .slot s) trivial hg
      refine ⟨_, h1, ?_, fun b hb => free_of_upd_none hb, fun l hl => ?_, fun l => ?_, fun b => Ghost.upd_ne _ _ (by simp)⟩
      · have := h1.slots s
        rw [Mem.upd_same] at this
        exact this
      · refine Mem.upd_ne g _ (fun e' => ?_)
        subst e'; exact hl _ _ _ _ hg
      · by_cases hl : l = .slot s
        · rw [hl]; exact .inl (Ghost.upd_same _ _ _)
        · exact .inr (Ghost.upd_ne _ _ (Ne.symm hl))
    · simp [Q.run] at hr
  · rename_i l st t n
    simp only [Q.run] at hr
    split at hr
    · rename_i e t' xs st' hg
      split at hr
      · rename_i hs
        have := Nat.eq_of_beq_eq_true hs
        subst this
        simp only [castD] at hr
        split at hr
        · rename_i htt
          cases htt
          simp [Q.run, Q.bind] at hr
          obtain ⟨rfl, rfl⟩ := hr
          have hl : isRoot l := ht.stamp.2
          have h1 := h.freeze hl hg
          have hv := (ht.r (.box 0) (by simp)).2 e xs hg
          obtain ⟨A, cap, h3, h4, h5⟩ := (h.root hl hg).slice
          have hfz := (h.root hl hg).frozen (Pr' := free Z (G.upd l none) w) (fun b hb => free_of_upd_none hb) (fun b hb => ⟨(h.bnd l b hb).1, fun k e' => by
            by_cases hk : k = l
            · rw [hk, Ghost.upd_same] at e'; cases e'
            · rw [Ghost.upd_ne _ _ (Ne.symm hk)] at e'; exact hk (h.inj k l b e' hb), h.zow b (h.bnd l b hb).2⟩)
          rw [h3] at hfz
          rw [h3] at hv
          refine ⟨_, h1, ⟨_, hfz.cutTo hv.1, ?_⟩, fun b hb => free_of_upd_none hb, fun k hk => ?_, fun k => ?_, fun b => Ghost.upd_ne _ _ (fun e' => by subst e'; exact hl)⟩
          · rw [hv.2]; simp [valOf, Ty.isAgg, prefixOf]
          · refine Mem.upd_ne g _ (fun e' => ?_)
            subst e'; exact hk _ _ _ _ hg
          · by_cases hk : k = l
            · rw [hk]; exact .inl (Ghost.upd_same _ _ _)
            · exact .inr (Ghost.upd_ne _ _ (Ne.symm hk))
        · simp [Q.run, Q.bind] at hr
      · simp [Q.run] at hr
    · simp [Q.run] at hr
  · simp [Q.run] at hr
    obtain ⟨rfl, rfl⟩ := hr
    obtain ⟨cs, h1, h2, _⟩ := ht.r (.box 0) (by simp)
    exact ⟨G, h, ⟨cs, h1, h2⟩, fun _ hb => hb, fun _ _ => rfl, fun _ => .inr rfl, fun _ => rfl⟩
  · simp [Q.run] at hr
end
end Go.Ev

namespace Go.Ev
open Go.RowKit

/-- A type's shape in the program, one step deep. -/
def FieldsOk (T : Tab) : Ty → List Field → Nat → Prop
  | .unit, [], _ => True
  | .pair a b, f :: fs, off => T.ty f.type = some a ∧ f.offset = off ∧ FieldsOk T b fs (off + a.sz)
  | _, _, _ => False
def ShapeOk (P : Program) (T : Tab) (id : Nat) : Ty → Prop
  | .int k => P.underlying id = some (.int k)
  | .bool => P.underlying id = some .bool
  | .str => P.underlying id = some .string
  | .list t => ∃ e, P.underlying id = some (.slice e) ∧ T.el id = some e ∧ T.ty e = some t ∧ 0 < t.sz ∧
      ∃ bytes, bytes ≤ 1000 ∧ (P.info? e).map (fun i => (i.zero, i.size, i.bytes)) = some (some (valOf t t.zeroCells), t.sz, bytes)
  | .unit => ∃ fs, P.underlying id = some (.struct fs) ∧ FieldsOk T .unit fs.toList 0
  | .pair a b => ∃ fs, P.underlying id = some (.struct fs) ∧ FieldsOk T (.pair a b) fs.toList 0
  | .arr n t => ∃ e, P.underlying id = some (.array n e) ∧ T.ty e = some t ∧ 0 < t.sz ∧ (P.info? e).map (·.size) = some t.sz
  | .err => ∃ ms, P.underlying id = some (.interface ms)
  | .bnd _ _ => ∃ ps rs v, P.underlying id = some (.func ps rs v)
structure TyOk (P : Program) (T : Tab) (id : Nat) (t : Ty) : Prop where
  shape : ShapeOk P T id t
  info : (P.info? id).map (fun i => (i.zero, i.size)) = some (some (valOf t t.zeroCells), t.sz)
/-- Equality of aggregates, as the model has it. -/
def EqOk (P : Program) (id : Nat) (t : Ty) : Prop :=
  ∀ (w : World) (Pr : Nat → Prop) (x y : t.den) (cs ds : List Value) (p q : Operand), RV Pr w t x cs → RV Pr w t y ds →
    (do eqGuard .eql id p q (valOf t cs) (valOf t ds); binOp .eql id (valOf t cs) (valOf t ds)).run P w = .ok (.bool (eqv t x y)) w ∧
    (do eqGuard .neq id p q (valOf t cs) (valOf t ds); binOp .neq id (valOf t cs) (valOf t ds)).run P w = .ok (.bool (!eqv t x y)) w
/-- A type of pointers, or of functions: one cell. -/
def RefOk (P : Program) (id : Nat) (b : Bool) : Prop :=
  (P.info? id).map (fun i => (i.zero, i.size)) = some (some (if b then .pointer none else .nilFunc), 1) ∧ ∃ u, P.underlying id = some u ∧ (match u with
    | .pointer _ | .func .. => True
    | _ => False)
structure TabOk (P : Program) (T : Tab) : Prop where
  ty : ∀ id t, T.ty id = some t → TyOk P T id t
  eq : ∀ id t, T.ty id = some t → T.eq id = true → EqOk P id t
  ref : ∀ id b, T.ref id = some b → RefOk P id b

section
variable {Z : ZS} {E : Env} {N : Nat} {w0 : World} {Ow : OwS} {S S' D D' : Nat → Prop} {g g' : Mem} {G G' : Ghost} {a a' : Act} {w w' : World} {P : Program} {F : Fence} {n : Nat}

theorem wpIn_value {o : Oper} {next : Act → World → Prop} {Q : Exit → Act → World → Prop} {v : Value} (hF : ∀ f, F.fn f) (hnd : ∀ c, o.op ≠ .defer c) (hrun : (execOp a.eval o).run P w = .ok (.value v) w')
    (h : next (a.put o.dst v) w') : o.wpIn F n P a w next Q := by
  refine ⟨fun f _ => hF f, ?_⟩
  have : (o.semAt F.round a.eval).run P w = .ok (.value v) w' := by
    cases hr : F.round with
    | none => rw [Oper.semAt_none]; exact hrun
    | some l => rw [Oper.semAt_some l a.eval o hnd]; exact hrun
  rw [this]
  exact h
theorem wpIn_skip' {o : Oper} {next : Act → World → Prop} {Q : Exit → Act → World → Prop} (hF : ∀ f, F.fn f) (hnd : ∀ c, o.op ≠ .defer c) (hrun : (execOp a.eval o).run P w = .ok .skip w')
    (h : next (a.put o.dst undef) w') : o.wpIn F n P a w next Q := by
  refine ⟨fun f _ => hF f, ?_⟩
  have : (o.semAt F.round a.eval).run P w = .ok .skip w' := by
    cases hr : F.round with
    | none => rw [Oper.semAt_none]; exact hrun
    | some l => rw [Oper.semAt_some l a.eval o hnd]; exact hrun
  rw [this]
  exact h

/-- A fence that lets everything in: of a function, or of a round. -/
structure Plain (P : Program) (F : Fence) : Prop where
  fn : ∀ f, F.fn f
  depth : F.depth = none
  calls : ∀ {n : Nat} {f : FuncId} {args : Array Value} {w : World} {R : Ending → World → Prop}, Calls P f args w R → CallsIn F n P f args w R
theorem plain_wide (P : Program) : Plain P Fence.wide := ⟨fun _ => trivial, rfl, fun h => callsIn_wide.2 h⟩
theorem plain_round (P : Program) (l : Nat) : Plain P (Fence.wide.inRound l) := ⟨fun _ => trivial, rfl, fun h => callsIn_wide.2 h⟩
/-- What is to be shown of one operation. -/
def Sound (E : Env) (P : Program) (ctx : Ctx) (i : Nat) (o : Oper) : Prop :=
  ∀ {Z : ZS} {N : Nat} {w0 : World} {Ow : OwS} {S D : Nat → Prop} {g : Mem} {G : Ghost} {a : Act} {w : World} {F : Fence} {n : Nat} {f : Eff} {next : Act → World → Prop} {Q : Exit → Act → World → Prop},
    Rel Z E N w0 Ow S D g G a w → (gcond ctx).run g = some true → (plan E ctx i o).run g = some f → f.test = true → ¬ S (i + 1) → (∀ d, o.dst = some d → d < N ∧ ¬ D d) →
    (∀ f, F.fn f) → (Plain P F ∧ S 0) →
    (∀ a' w' g' G', (∀ l, g' l = g.sets f.writes l) → Rel Z E N w0 Ow (fun n => S n ∨ n = i + 1) D g' G' a' w' → next a' w') → o.wpIn F n P a w next Q

theorem sureD_some {d : Option Nat} {k : Nat} (h : (sureD d).run g = some k) : d = some k := by
  cases d <;> simp [sureD, Q.run] at h; rw [h]
theorem ofO_some {α : Type} {x : Option α} {y : α} (h : (ofO x).run g = some y) : x = some y := by
  cases x <;> simp [ofO, Q.run] at h; rw [h]

/-- A slot is filled, the world as it is. -/
theorem fill1 {next : Act → World → Prop} {i d : Nat} {o : Oper} {v : AV} {val : Value} (h : Rel Z E N w0 Ow S D g G a w) (hdst : ∀ d, o.dst = some d → d < N ∧ ¬ D d) (hd : o.dst = some d)
    (hv : plainAV v = true) (hst : stampIn S v) (hc : ∀ c u, v ≠ .opt c u) (hr : AVR Z g G a w v (.slot d) val)
    (hn : ∀ a' w' g' G', (∀ l, g' l = g.sets [(.slot d, v)] l) → Rel Z E N w0 Ow (fun n => S n ∨ n = i + 1) D g' G' a' w' → next a' w') : next (a.put o.dst val) w := by
  obtain ⟨h1, h2⟩ := hdst d hd
  rw [hd]
  exact hn _ _ _ _ (fun _ => rfl) ((h.put h1 hv hst h2 (fun c u e => absurd e (hc c u)) hr).more (fun _ hs => .inl hs) (fun _ hd => hd) (h.put h1 hv hst h2 (fun c u e => absurd e (hc c u)) hr).dbool)

/-! ### Numbers, bools, strings -/
def scalar : Ty → Bool
  | .int _ | .bool | .str => true
  | _ => false
def sval : (t : Ty) → t.den → Value
  | .int k, n => .int k n
  | .bool, b => .bool b
  | .str, s => .string (strOf s)
  | _, _ => undef
theorem RV.scal {Pr : Nat → Prop} {t : Ty} {x : t.den} {cs : List Value} (ht : scalar t = true) (h : RV Pr w t x cs) : valOf t cs = sval t x := by
  cases t <;> simp [scalar] at ht <;> simp only [RV] at h <;> subst h <;> rfl
theorem RV.of_scal {Pr : Nat → Prop} {t : Ty} (x : t.den) (ht : scalar t = true) : ∃ cs, RV Pr w t x cs ∧ sval t x = valOf t cs := by
  cases t <;> simp [scalar] at ht <;> exact ⟨_, rfl, rfl⟩
theorem strOf_toList (l : List UInt8) : (strOf l).toList = l := by
  rw [ByteArray.toList_eq]; rfl
theorem strOf_size (l : List UInt8) : (strOf l).size = l.length := by simp [strOf, ByteArray.size]
theorem strOf_append (l m : List UInt8) : strOf l ++ strOf m = strOf (l ++ m) := by
  apply WideShapes.bytes_inj
  simp [strOf]

theorem una_run {op : UnOp} {d r : Dat} (h : una op d = some r) : scalar d.t = true ∧ scalar r.t = true ∧ (Op.unary op (sval d.t d.x)).run P w = .ok (sval r.t r.x) w := by
  unfold una at h
  split at h
  · split at h <;> cases h
    · exact ⟨rfl, rfl, by simp [sval, Op.unary, Op.intArith, Sem.run_pure]⟩
    · exact ⟨rfl, rfl, by simp [sval, Op.unary, Op.intBits, Sem.run_pure, bits]⟩
  · split at h <;> cases h
    exact ⟨rfl, rfl, by simp [sval, Op.unary, Sem.run_pure]⟩
  · cases h
theorem guard_run {op : BinOp} {T : Nat} {p q : Operand} {u v : Value} (hu : (∀ cs, u ≠ .agg cs) ∧ u ≠ .nilIface) : (eqGuard op T p q u v).run P w = .ok () w := by
  unfold eqGuard
  cases op <;> simp only [] <;> try rfl
  all_goals
    cases u <;> cases v <;> first | rfl | exact absurd rfl (hu.1 _) | exact absurd rfl hu.2
theorem bin_run {op : BinOp} {x y r : Dat} {b : Bool} (h : bin op x y = some (b, r)) (hb : b = true) {T : Nat} {p q : Operand} :
    scalar x.t = true ∧ scalar y.t = true ∧ scalar r.t = true ∧ (do eqGuard op T p q (sval x.t x.x) (sval y.t y.x); binOp op T (sval x.t x.x) (sval y.t y.x)).run P w = .ok (sval r.t r.x) w := by
  subst hb
  have hg : ∀ (t : Ty) (z : t.den) (v : Value), scalar t = true → (eqGuard op T p q (sval t z) v).run P w = .ok () w := fun t z v ht => guard_run (by
    cases t <;> simp [scalar] at ht <;> simp [sval])
  have key : scalar x.t = true ∧ scalar y.t = true ∧ scalar r.t = true ∧ (binOp op T (sval x.t x.x) (sval y.t y.x)).run P w = .ok (sval r.t r.x) w := by
    clear hg
    unfold bin at h
    split at h
    · simp only [Option.some.injEq, Prod.mk.injEq] at h
      obtain ⟨h1, rfl⟩ := h
      replace h1 := of_decide_eq_true h1
      refine ⟨rfl, rfl, rfl, ?_⟩
      rename_i k a k' b
      have h2 : ¬ (show Int from b) < 0 := Int.not_lt.2 h1
      simp [sval, binOp, Op.shift, h2, Sem.run_pure]
    · simp only [Option.some.injEq, Prod.mk.injEq] at h
      obtain ⟨h1, rfl⟩ := h
      replace h1 := of_decide_eq_true h1
      refine ⟨rfl, rfl, rfl, ?_⟩
      rename_i k a k' b
      have h2 : ¬ (show Int from b) < 0 := Int.not_lt.2 h1
      simp [sval, binOp, Op.shift, h2, Sem.run_pure]
    · split at h
      · rename_i k a k' b _ _ hk
        subst hk
        unfold binInt at h
        cases op <;> simp only [Option.some.injEq, Prod.mk.injEq, reduceCtorEq] at h <;> obtain ⟨h1, rfl⟩ := h <;> refine ⟨rfl, rfl, rfl, ?_⟩
        case quo | rem => simp at h1; simp [sval, binOp, Op.intDiv, h1, Sem.run_pure]
        all_goals simp [sval, binOp, Op.intArith, Op.intBits, Op.intCmp, bits, Sem.run_pure]
      · cases h
    · rename_i a b
      unfold binStr at h
      cases op <;> simp only [Option.some.injEq, Prod.mk.injEq, reduceCtorEq] at h <;> obtain ⟨h1, rfl⟩ := h <;> refine ⟨rfl, rfl, rfl, ?_⟩
      case add =>
        replace h1 := of_decide_eq_true h1
        have h2 : ¬ (((strOf a).size + (strOf b).size : Nat) : Int) > IntKind.i64.max := by rw [strOf_size, strOf_size]; simp [IntKind.max, IntKind.bits, IntKind.signed]; omega
        simp only [sval, binOp, Op.stringOp, h2, if_false, Sem.run_pure, strOf_append]
      all_goals simp [sval, binOp, Op.stringOp, Sem.run_pure, strOf_toList]
    · cases h
  refine ⟨key.1, key.2.1, key.2.2.1, ?_⟩
  simp only [Sem.run_bind, hg _ _ _ key.1, Result.andThen_ok, key.2.2.2]

/-- One value read, one slot filled with a number, a bool or a string. -/
theorem fillS {next : Act → World → Prop} {i d : Nat} {o : Oper} {r : Dat} (h : Rel Z E N w0 Ow S D g G a w) (hdst : ∀ d, o.dst = some d → d < N ∧ ¬ D d) (hd : o.dst = some d) (hr : scalar r.t = true)
    (hn : ∀ a' w' g' G', (∀ l, g' l = g.sets [(.slot d, .dat r.t r.x)] l) → Rel Z E N w0 Ow (fun n => S n ∨ n = i + 1) D g' G' a' w' → next a' w') : next (a.put o.dst (sval r.t r.x)) w :=
  fill1 (v := .dat r.t r.x) h hdst hd rfl trivial (by simp) (RV.of_scal r.x hr) hn

theorem Told.scal {x : Operand} {t : Ty} {y : t.den} (hT : Told Z E S g G a w x (.dat t y)) (ht : scalar t = true) : a.eval x = sval t y := by
  obtain ⟨cs, h1, h2⟩ := hT.r (.box 0) (by simp)
  rw [h2, h1.scal ht]

theorem sound_unOp {ctx : Ctx} {i : Nat} {o : Oper} {op : UnOp} {T : Nat} {x : Operand} (ho : o.op = .unOp op T x) : Sound E P ctx i o := by
  intro Z N w0 Ow S D g G a w F n f next Qp h hg hp ht hfr hdst hF _ hn
  simp only [plan, ho, Q.run_bind, Option.bind_eq_some_iff] at hp
  obtain ⟨d, hd, v, hv, hp⟩ := hp
  replace hd := sureD_some hd
  have hT := rd_told h hg hv
  split at hp
  · rename_i t y
    simp only [Q.run_bind, Option.bind_eq_some_iff] at hp
    obtain ⟨r, hr, hp⟩ := hp
    replace hr := ofO_some hr
    simp only [Q.run, Option.some.injEq] at hp
    subst hp
    obtain ⟨h1, h2, h3⟩ := una_run (P := P) (w := w) hr
    refine wpIn_value hF (by rw [ho]; simp) (v := sval r.t r.x) ?_ (fillS h hdst hd h2 hn)
    simp only [execOp, ho, hT.scal h1, Sem.run_bind, h3, Result.andThen_ok, Sem.run_pure]
  · simp [Q.run] at hp

theorem sound_binOp {ctx : Ctx} {i : Nat} {o : Oper} {op : BinOp} {T T' : Nat} {x y : Operand} (hE : TabOk P E.tab) (ho : o.op = .binOp op T x y T') : Sound E P ctx i o := by
  intro Z N w0 Ow S D g G a w F n f next Qp h hg hp ht hfr hdst hF _ hn
  simp only [plan, ho, Q.run_bind, Option.bind_eq_some_iff] at hp
  obtain ⟨d, hd, v, hv, u, hu, hp⟩ := hp
  replace hd := sureD_some hd
  have hT := rd_told h hg hv
  have hU := rd_told h hg hu
  split at hp
  · rename_i t p s q
    split at hp
    · split at hp
      · rename_i hc
        obtain ⟨rfl, h2, h3⟩ := hc
        have hq := hE.eq T t h2 h3
        obtain ⟨cs, h4, h5⟩ := hT.r (.box 0) (by simp)
        obtain ⟨ds, h6, h7⟩ := hU.r (.box 0) (by simp)
        have hp' : (⟨t, p⟩ : Dat).as t = p := by simp [Dat.as]
        rw [hp'] at hp
        split at hp <;> simp only [Q.run, Option.some.injEq, reduceCtorEq] at hp <;> subst hp
        · refine wpIn_value hF (by rw [ho]; simp) (v := sval .bool (eqv t p q)) ?_ (fillS (r := ⟨.bool, eqv t p q⟩) h hdst hd rfl hn)
          simp only [execOp, ho, h5, h7, Sem.run_bind]
          have := (hq w _ p q cs ds x y h4 h6).1
          rw [Sem.run_bind] at this
          rw [this]; rfl
        · refine wpIn_value hF (by rw [ho]; simp) (v := sval .bool (!eqv t p q)) ?_ (fillS (r := ⟨.bool, !eqv t p q⟩) h hdst hd rfl hn)
          simp only [execOp, ho, h5, h7, Sem.run_bind]
          have := (hq w _ p q cs ds x y h4 h6).2
          rw [Sem.run_bind] at this
          rw [this]; rfl
      · simp [Q.run] at hp
    · simp only [Q.run_bind, Option.bind_eq_some_iff] at hp
      obtain ⟨r, hr, hp⟩ := hp
      replace hr := ofO_some hr
      simp only [Q.run, Option.some.injEq] at hp
      subst hp
      obtain ⟨h1, h2, h3, h4⟩ := bin_run (P := P) (w := w) (T := T) (p := x) (q := y) hr ht
      refine wpIn_value hF (by rw [ho]; simp) (v := sval r.2.t r.2.x) ?_ (fillS h hdst hd h3 hn)
      simp only [execOp, ho, hT.scal h1, hU.scal h2]
      rw [Sem.run_bind, h4]; rfl
  · rename_i b
    split at hp
    case isFalse => simp [Q.run] at hp
    rename_i hty
    obtain ⟨ms, hms⟩ := (hE.ty T .err hty).shape
    obtain ⟨cs, h4, h5⟩ := hT.r (.box 0) (by simp)
    have hnil : ∀ op', (op' = .eql ∨ op' = .neq) → (do eqGuard op' T x (.const .nilIface) (a.eval x) .nilIface; binOp op' T (a.eval x) .nilIface).run P w = .ok (.bool (if op' = .eql then !b else b)) w := by
      intro op' ho'
      cases b with
      | false =>
        rw [h4.1 rfl] at h5
        rw [h5]
        have e1 : (Op.equalIn 10000 T .nilIface .nilIface).run P w = .ok true w := by rw [Op.equalIn]; simp [run_underlying hms]
        rcases ho' with rfl | rfl <;> simp [valOf, Ty.isAgg, eqGuard, binOp, Op.equal, Op.maxDepth, Sem.run_bind, Sem.run_pure, e1]
      | true =>
        obtain ⟨Tv, v, hv⟩ := h4.2 rfl
        rw [hv] at h5
        rw [h5]
        have e1 : (Op.equalIn 10000 T (.iface Tv v) .nilIface).run P w = .ok false w := by rw [Op.equalIn]; simp [run_underlying hms]
        rcases ho' with rfl | rfl <;> simp [valOf, Ty.isAgg, eqGuard, binOp, Op.equal, Op.maxDepth, Sem.run_bind, Sem.run_pure, e1]
    unfold errEqQ at hp
    split at hp
    · split at hp <;> simp only [Q.run, Option.some.injEq, reduceCtorEq] at hp <;> subst hp
      · refine wpIn_value hF (by rw [ho]; simp) (v := sval .bool b) ?_ (fillS (r := ⟨.bool, b⟩) h hdst hd rfl hn)
        simp only [execOp, ho]
        rw [Sem.run_bind, show (a.eval (.const .nilIface)) = Value.nilIface from rfl, hnil .neq (.inr rfl)]; rfl
      · refine wpIn_value hF (by rw [ho]; simp) (v := sval .bool (!b)) ?_ (fillS (r := ⟨.bool, !b⟩) h hdst hd rfl hn)
        simp only [execOp, ho]
        rw [Sem.run_bind, show (a.eval (.const .nilIface)) = Value.nilIface from rfl, hnil .eql (.inl rfl)]; rfl
    · simp [Q.run] at hp
  · simp [Q.run] at hp

theorem field_place (hE : TabOk P E.tab) {T k : Nat} {t : Ty} (ht : E.tab.ty T = some t) {q : Nat × Ty} (hq : t.fieldAt k = some q) :
    ∃ fs fl, P.underlying T = some (.struct fs) ∧ fs[k]? = some fl ∧ fl.offset = q.1 ∧ E.tab.ty fl.type = some q.2 := by
  have key : ∀ (t : Ty) (fs : List Field) (off k : Nat) (q : Nat × Ty), FieldsOk E.tab t fs off → t.fieldAt k = some q → ∃ fl, fs[k]? = some fl ∧ fl.offset = off + q.1 ∧ E.tab.ty fl.type = some q.2 := by
    intro t
    induction t with
    | pair a b _ ihb =>
      intro fs off k q hfs hk
      cases fs with
      | nil => exact hfs.elim
      | cons fl fs =>
        obtain ⟨h1, h2, h3⟩ := hfs
        cases k with
        | zero => simp [Ty.fieldAt] at hk; subst hk; exact ⟨fl, rfl, by simpa using h2, h1⟩
        | succ k =>
          simp only [Ty.fieldAt, Option.map_eq_some_iff] at hk
          obtain ⟨p, hp1, rfl⟩ := hk
          obtain ⟨fl', h4, h5, h6⟩ := ihb fs _ k p h3 hp1
          exact ⟨fl', by simpa using h4, by rw [h5]; omega, h6⟩
    | _ => intro fs off k q _ hk; simp [Ty.fieldAt] at hk
  have hs := (hE.ty T t ht).shape
  cases t with
  | pair t1 t2 =>
    obtain ⟨fs, h1, h2⟩ := hs
    obtain ⟨fl, h3, h4, h5⟩ := key _ _ 0 k q h2 hq
    exact ⟨fs, fl, h1, by simpa using h3, by simpa using h4, h5⟩
  | _ => simp [Ty.fieldAt] at hq
theorem size_of (hE : TabOk P E.tab) {T : Nat} {t : Ty} (ht : E.tab.ty T = some t) (w : World) : (sizeOf T).run P w = .ok t.sz w := by
  have hi := (hE.ty T t ht).info
  cases h : P.info? T with
  | none => rw [h] at hi; cases hi
  | some i =>
    rw [h] at hi
    simp only [Option.map_some, Option.some.injEq, Prod.mk.injEq] at hi
    simp [sizeOf, typeInfo, h, hi.2]
theorem beq_zero {n : Nat} (h : ¬ Nat.beq n 0 = true) : n ≠ 0 := fun e => h (by rw [e]; rfl)

theorem sound_fieldAddr {ctx : Ctx} {i : Nat} {o : Oper} {T k : Nat} {x : Operand} (hE : TabOk P E.tab) (ho : o.op = .fieldAddr T x k) : Sound E P ctx i o := by
  intro Z N w0 Ow S D g G a w F n f next Qp h hg hp ht hfr hdst hF _ hn
  simp only [plan, ho, Q.run_bind, Option.bind_eq_some_iff] at hp
  obtain ⟨d, hd, t, htt, q, hq, hp⟩ := hp
  split at hp
  · simp [Q.run] at hp
  rename_i hsz
  simp only [Q.run_bind, Option.bind_eq_some_iff] at hp
  obtain ⟨v, hv, hp⟩ := hp
  replace hd := sureD_some hd
  replace htt := ofO_some htt
  replace hq := ofO_some hq
  have hT := rd_told h hg hv
  obtain ⟨fs, fl, hu, hfl, hoff, hty⟩ := field_place hE htt hq
  have hz := beq_zero hsz
  have hrun : ∀ (b c : Nat), a.eval x = .pointer (some ⟨b, c, none⟩) → (execOp a.eval o).run P w = .ok (.value (.pointer (some ⟨b, c + q.1, none⟩))) w := by
    intro b c hx
    simp only [execOp, ho, hx, Instr.fieldAt, Sem.run_bind, run_underlying hu, Result.andThen_ok, hfl, Instr.sureAddr, Sem.run_pure, fieldPlace, size_of hE hty, hz, if_false, hoff, add_plain]
  split at hp <;> simp only [Q.run, Option.some.injEq, reduceCtorEq] at hp <;> subst hp
  · rename_i b c
    obtain ⟨e, m, gb, h1, h2, h3⟩ := hT.r (.box 0) (by simp)
    exact wpIn_value hF (by rw [ho]; simp) (hrun _ _ h3) (fill1 (v := .ptr b (c + q.1)) h hdst hd rfl trivial (by simp) ⟨e, m, gb, h1, h2, rfl⟩ hn)
  · rename_i l st u j c
    obtain ⟨bb, cc, h1, h2, h3⟩ := hT.r (.box 0) (by simp)
    exact wpIn_value hF (by rw [ho]; simp) (hrun _ _ h1) (fill1 (v := .eptr l st u j (c + q.1)) h hdst hd rfl hT.stamp (by simp) ⟨bb, cc, by rw [Nat.add_assoc], h2, h3⟩ hn)
  · rename_i u y c
    obtain ⟨b, k, cs, h1, h2, h3, h4⟩ := hT.r (.box 0) (by simp)
    exact wpIn_value hF (by rw [ho]; simp) (hrun _ _ h3) (fill1 (v := .dptr u y (c + q.1)) h hdst hd rfl trivial (by simp) ⟨b, k, cs, h1, h2, by rw [Nat.add_assoc], h4⟩ hn)

theorem sound_nilCheck {ctx : Ctx} {i : Nat} {o : Oper} {x : Operand} (ho : o.op = .nilCheck x) : Sound E P ctx i o := by
  intro Z N w0 Ow S D g G a w F n f next Qp h hg hp ht hfr hdst hF _ hn
  simp only [plan, ho, Q.run_bind, Option.bind_eq_some_iff] at hp
  obtain ⟨d, hd, v, hv, hp⟩ := hp
  replace hd := sureD_some hd
  have hT := rd_told h hg hv
  have hrun : ∀ (p : Addr), a.eval x = .pointer (some p) → (execOp a.eval o).run P w = .ok (.value (.pointer (some p))) w := by
    intro p hx
    simp only [execOp, ho, hx, Sem.run_pure]
  split at hp <;> simp only [Q.run, Option.some.injEq, reduceCtorEq] at hp <;> subst hp
  · rename_i b c
    obtain ⟨e, m, gb, h1, h2, h3⟩ := hT.r (.box 0) (by simp)
    exact wpIn_value hF (by rw [ho]; simp) (hrun _ h3) (fill1 (v := .ptr b c) h hdst hd rfl trivial (by simp) ⟨e, m, gb, h1, h2, rfl⟩ hn)
  · rename_i l st u j c
    obtain ⟨bb, cc, h1, h2, h3⟩ := hT.r (.box 0) (by simp)
    exact wpIn_value hF (by rw [ho]; simp) (hrun _ h1) (fill1 (v := .eptr l st u j c) h hdst hd rfl hT.stamp (by simp) ⟨bb, cc, rfl, h2, h3⟩ hn)
  · rename_i u y c
    obtain ⟨b, k, cs, h1, h2, h3, h4⟩ := hT.r (.box 0) (by simp)
    exact wpIn_value hF (by rw [ho]; simp) (hrun _ h3) (fill1 (v := .dptr u y c) h hdst hd rfl trivial (by simp) ⟨b, k, cs, h1, h2, rfl, h4⟩ hn)
  · rename_i b c p
    obtain ⟨e, m, gb, h1, h2, h3⟩ := (hT.r (.box 0) (by simp)).1 ht
    exact wpIn_value hF (by rw [ho]; simp) (hrun _ h3) (fill1 (v := .ptr b c) h hdst hd rfl trivial (by simp) ⟨e, m, gb, h1, h2, rfl⟩ hn)

theorem sound_pick {ctx : Ctx} {i : Nat} {o : Oper} {s : Nat} {x y : Operand} (ho : o.op = .pick (.tmp s) x y) : Sound E P ctx i o := by
  intro Z N w0 Ow S D g G a w F n f next Qp h hg hp ht hfr hdst hF _ hn
  simp only [plan, ho, Q.run_bind, Option.bind_eq_some_iff] at hp
  obtain ⟨d, hd, vc, hvc, c, hc, va, hva, vb, hvb, hp⟩ := hp
  replace hd := sureD_some hd
  have hC := rd_told h hg hvc
  have hcv : vc = .dat .bool c := by
    unfold boolOf at hc; split at hc <;> simp [Q.run] at hc; subst hc; rfl
  subst hcv
  have hcond : a.eval (.tmp s) = .bool c := hC.scal rfl
  have hguard : (gcond ((s, c) :: ctx)).run g = some true := by
    simp only [rd, Q.run] at hvc
    have hb : (boolOf (.dat .bool c)).run g = some c := rfl
    simp only [gcond, Q.run, Q.run_bind, hvc, hg, Option.bind_some, hb]
    cases c <;> rfl
  split at hp
  · rename_i t p u q
    split at hp
    · rename_i hu
      subst hu
      simp only [Q.run, Option.some.injEq] at hp
      subst hp
      have hq : (⟨u, q⟩ : Dat).as u = q := by simp [Dat.as]
      rw [hq] at hn
      cases c with
      | true =>
        obtain ⟨cs, h1, h2⟩ := (rd_told h hguard hva).r (.box 0) (by simp)
        refine wpIn_value hF (by rw [ho]; simp) (v := a.eval x) ?_ (fill1 (v := .dat u (bif true then p else q)) h hdst hd rfl trivial (by simp) ⟨cs, h1, h2⟩ hn)
        simp [execOp, ho, hcond, asBool]
      | false =>
        obtain ⟨cs, h1, h2⟩ := (rd_told h hguard hvb).r (.box 0) (by simp)
        refine wpIn_value hF (by rw [ho]; simp) (v := a.eval y) ?_ (fill1 (v := .dat u (bif false then p else q)) h hdst hd rfl trivial (by simp) ⟨cs, h1, h2⟩ hn)
        simp [execOp, ho, hcond, asBool]
    · simp [Q.run] at hp
  · simp [Q.run] at hp

theorem sound_len {ctx : Ctx} {i : Nat} {o : Oper} {xs : Array Operand} {Ts : Array Nat} (hE : TabOk P E.tab) (ho : o.op = .call { callee := .builtin .len, args := xs, argTypes := Ts }) : Sound E P ctx i o := by
  intro Z N w0 Ow S D g G a w F n f next Qp h hg hp ht hfr hdst hF _ hn
  simp only [plan, ho, builtinQ] at hp
  split at hp
  · rename_i x T hx hTs
    obtain ⟨xs⟩ := xs
    obtain ⟨Ts⟩ := Ts
    simp only at hx hTs
    subst hx; subst hTs
    simp only [Q.run_bind, Option.bind_eq_some_iff] at hp
    obtain ⟨d, hd, t, htt, v, hv, m, hm, hp⟩ := hp
    replace hd := sureD_some hd
    replace htt := ofO_some htt
    have hT := rd_told h hg hv
    simp only [Q.run, Option.some.injEq] at hp
    subst hp
    have hs := (hE.ty T t htt).shape
    suffices hr : (Builtin.len_ #[T] o.type #[a.eval x]).run P w = .ok (.int .i64 m) w by
      refine wpIn_value hF (by rw [ho]; simp) (v := sval (.int .i64) m) ?_ (fillS (r := ⟨.int .i64, m⟩) h hdst hd rfl hn)
      simp only [execOp, ho, resolve, invoke, builtin, Sem.run_bind, Sem.run_pure, Result.andThen_ok, List.map_toArray, List.map_cons, List.map_nil, hr, sval]
    unfold lenQ at hm
    split at hm
    · split at hm <;> simp [Q.run] at hm; subst hm
      rename_i s htt'; subst htt'
      obtain ⟨cs, h1, h2⟩ := hT.r (.box 0) (by simp)
      simp only [RV] at h1; subst h1
      simp [Builtin.len_, run_underlying hs, h2, valOf, Ty.isAgg, goInt, strOf_size]
    · split at hm <;> simp [Q.run] at hm; subst hm
      rename_i u ys htt'; subst htt'
      obtain ⟨e, hu, _⟩ := hs
      obtain ⟨cs, ⟨A, cap, rfl, _⟩, h2⟩ := hT.r (.box 0) (by simp)
      simp [Builtin.len_, run_underlying hu, h2, valOf, Ty.isAgg, goInt]
    · split at hm <;> simp [Q.run] at hm; subst hm
      rename_i e0 u ys st htt'; subst htt'
      obtain ⟨e, hu, _⟩ := hs
      obtain ⟨k, rfl, hg1⟩ := hT.own e0 u ys st rfl
      obtain ⟨A, cap, h3, _, _⟩ := (show OwnR _ _ _ _ _ _ _ from hT.r (.slot k) (fun _ _ _ _ _ => ⟨k, rfl, rfl⟩)).slice
      simp [Builtin.len_, run_underlying hu, h3, goInt]
    · split at hm <;> simp [Q.run] at hm; subst hm
      rename_i l st u k htt'; subst htt'
      obtain ⟨e, hu, _⟩ := hs
      obtain ⟨⟨A, cap, h3⟩, _⟩ := hT.r (.box 0) (by simp)
      simp [Builtin.len_, run_underlying hu, h3, goInt]
    · split at hm <;> simp [Q.run] at hm; subst hm
      obtain ⟨e, hu, _⟩ := hs
      have h3 : a.eval x = .slice none 0 0 := hT.r (.box 0) (by simp)
      simp [Builtin.len_, run_underlying hu, h3, goInt]
    · split at hm <;> simp [Q.run] at hm; subst hm
      obtain ⟨e, hu, _⟩ := hs
      simp [Builtin.len_, run_underlying hu, goInt]
  · simp [Q.run] at hp

theorem rdInt_told (h : Rel Z E N w0 Ow S D g G a w) {ctx : Ctx} (hg : (gcond ctx).run g = some true) {x : Operand} {p : IntKind × Int} (hr : (rdInt E ctx x).run g = some p) : a.eval x = .int p.1 p.2 := by
  simp only [rdInt, Q.run_bind, Option.bind_eq_some_iff] at hr
  obtain ⟨v, hv, hr⟩ := hr
  split at hr <;> simp [Q.run] at hr
  subst hr
  exact (rd_told h hg hv).scal rfl
theorem ints_told (h : Rel Z E N w0 Ow S D g G a w) {ctx : Ctx} (hg : (gcond ctx).run g = some true) : ∀ {xs : List Operand} {ps : List (IntKind × Int)}, (intsQ E ctx xs).run g = some ps → xs.map a.eval = ps.map fun p => .int p.1 p.2
  | [], ps, hr => by simp [intsQ, Q.run] at hr; subst hr; rfl
  | x :: xs, ps, hr => by
    simp only [intsQ, Q.run_bind, Option.bind_eq_some_iff] at hr
    obtain ⟨p, hp, r, hr', he⟩ := hr
    simp [Q.run] at he
    subst he
    simp [rdInt_told h hg hp, ints_told h hg hr']
theorem min_run (k : IntKind) : ∀ (r : List (IntKind × Int)) (a : Int), (∀ q ∈ r, q.1 = k) → (List.foldlM Builtin.min2 (.int k a) (r.map fun p => Value.int p.1 p.2)).run P w = .ok (.int k (minmaxQ false a (r.map (·.2)))) w
  | [], a, _ => by simp [minmaxQ, Sem.run_pure]
  | p :: r, a, h => by
    have h1 := h p (by simp)
    simp only [List.map_cons, List.foldlM_cons, Sem.run_bind, Builtin.min2, Sem.run_pure, Result.andThen_ok, minmaxQ]
    exact min_run k r _ (fun q hq => h q (by simp [hq]))
theorem max_run (k : IntKind) : ∀ (r : List (IntKind × Int)) (a : Int), (∀ q ∈ r, q.1 = k) → (List.foldlM Builtin.max2 (.int k a) (r.map fun p => Value.int p.1 p.2)).run P w = .ok (.int k (minmaxQ true a (r.map (·.2)))) w
  | [], a, _ => by simp [minmaxQ, Sem.run_pure]
  | p :: r, a, h => by
    have h1 := h p (by simp)
    simp only [List.map_cons, List.foldlM_cons, Sem.run_bind, Builtin.max2, Sem.run_pure, Result.andThen_ok, minmaxQ]
    exact max_run k r _ (fun q hq => h q (by simp [hq]))
theorem sound_minmax {ctx : Ctx} {i : Nat} {o : Oper} {xs : Array Operand} {Ts : Array Nat} {b : Builtin} (hb : b = .min ∨ b = .max) (ho : o.op = .call { callee := .builtin b, args := xs, argTypes := Ts }) : Sound E P ctx i o := by
  intro Z N w0 Ow S D g G a w F n f next Qp h hg hp ht hfr hdst hF _ hn
  obtain ⟨xs⟩ := xs
  rcases hb with rfl | rfl
  · simp only [plan, ho, builtinQ, Q.run_bind, Option.bind_eq_some_iff] at hp
    obtain ⟨d, hd, ps, hps, hp⟩ := hp
    replace hd := sureD_some hd
    have hx := ints_told h hg hps
    split at hp
    · rename_i p r
      split at hp <;> simp [Q.run] at hp; subst hp
      rename_i hall
      refine wpIn_value hF (by rw [ho]; simp) (v := .int p.1 (minmaxQ false p.2 (r.map (·.2)))) ?_ (fillS (r := ⟨.int p.1, minmaxQ false p.2 (r.map (·.2))⟩) h hdst hd rfl hn)
      have := min_run (P := P) (w := w) p.1 r p.2 (fun q hq => by have := List.all_eq_true.1 hall q hq; simpa using this)
      simp only [execOp, ho, resolve, invoke, builtin, Sem.run_bind, Sem.run_pure, Result.andThen_ok, List.map_toArray, hx, Builtin.min_, List.map_cons, this]
    · simp [Q.run] at hp
  · simp only [plan, ho, builtinQ, Q.run_bind, Option.bind_eq_some_iff] at hp
    obtain ⟨d, hd, ps, hps, hp⟩ := hp
    replace hd := sureD_some hd
    have hx := ints_told h hg hps
    split at hp
    · rename_i p r
      split at hp <;> simp [Q.run] at hp; subst hp
      rename_i hall
      refine wpIn_value hF (by rw [ho]; simp) (v := .int p.1 (minmaxQ true p.2 (r.map (·.2)))) ?_ (fillS (r := ⟨.int p.1, minmaxQ true p.2 (r.map (·.2))⟩) h hdst hd rfl hn)
      have := max_run (P := P) (w := w) p.1 r p.2 (fun q hq => by have := List.all_eq_true.1 hall q hq; simpa using this)
      simp only [execOp, ho, resolve, invoke, builtin, Sem.run_bind, Sem.run_pure, Result.andThen_ok, List.map_toArray, hx, Builtin.max_, List.map_cons, this]
    · simp [Q.run] at hp

/-- A part of data is read off its cells. -/
theorem RV.here_ {Pr : Nat → Prop} {t : Ty} {x : t.den} {cs : List Value} {o : Nat} {u : Ty} {y : u.den} (h : RV Pr w t x cs) (hc : t.here x o u = some y) : o + u.sz ≤ cs.length ∧ RV Pr w u y ((cs.drop o).take u.sz) := by
  unfold Ty.here at hc
  split at hc
  · rename_i he
    obtain ⟨rfl, rfl⟩ := he
    simp at hc
    subst hc
    have := h.len
    simp only [List.drop_zero, Nat.zero_add]
    rw [List.take_of_length_le (by omega)]
    exact ⟨by omega, h⟩
  · cases hc
theorem RV.sub_ {Pr : Nat → Prop} : ∀ {t : Ty} {x : t.den} {cs : List Value} {o : Nat} {u : Ty} {y : u.den}, RV Pr w t x cs → t.sub x o u = some y → o + u.sz ≤ cs.length ∧ RV Pr w u y ((cs.drop o).take u.sz) := by
  intro t
  induction t with
  | pair s t ih1 ih2 =>
    intro x cs o u y h hs
    simp only [Ty.sub] at hs
    split at hs
    · rename_i z hz
      cases hs
      exact h.here_ hz
    · obtain ⟨c, d, rfl, h1, h2⟩ := h
      have l1 := h1.len
      have l2 := h2.len
      split at hs
      · obtain ⟨h3, h4⟩ := ih1 h1 hs
        refine ⟨by simp; omega, ?_⟩
        rw [List.drop_append_of_le_length (by omega), List.take_append_of_le_length (by simp; omega)]
        exact h4
      · rename_i ho
        obtain ⟨h3, h4⟩ := ih2 h2 hs
        refine ⟨by simp; omega, ?_⟩
        have e : (c ++ d).drop o = d.drop (o - s.sz) := by
          rw [show o = c.length + (o - s.sz) by omega, ← List.drop_drop, List.drop_left]
          congr 1; omega
        rw [e]
        exact h4
  | _ => intro x cs o u y h hs; exact h.here_ hs

theorem part_run (hE : TabOk P E.tab) {T : Nat} {t : Ty} (ht : E.tab.ty T = some t) {Pr : Nat → Prop} {x : t.den} {cs : Array Value} {o : Nat} (ho : o + t.sz ≤ cs.size) (h : RV Pr w t x ((cs.toList.drop o).take t.sz)) :
    (part T cs o).run P w = .ok (valOf t ((cs.toList.drop o).take t.sz)) w := by
  have hs := (hE.ty T t ht).shape
  have hz := size_of hE ht w
  have hagg : ∀ (fs : TypeDesc), P.underlying T = some fs → ((match fs with | .struct _ | .array _ _ => true | _ => false) = t.isAgg) → (part T cs o).run P w = .ok (valOf t ((cs.toList.drop o).take t.sz)) w := by
    intro fs hu ha
    have hia : (isAgg T).run P w = .ok t.isAgg w := by
      simp only [isAgg, Sem.run_bind, run_underlying hu, Result.andThen_ok]
      rw [← ha]
      cases fs <;> rfl
    simp only [part, Sem.run_bind, hia, Result.andThen_ok]
    cases hb : t.isAgg with
    | true =>
      simp only [if_true, Sem.run_bind, hz, Result.andThen_ok, Sem.run_pure, valOf, hb]
      congr 2
      apply Array.ext'
      simp [Array.toList_extract, List.extract_eq_take_drop]
    | false =>
      have h1 : t.sz = 1 := by cases t <;> simp [Ty.isAgg] at hb <;> rfl
      have h2 : cs[o]? = some (cs.getD o undef) := by simp [Array.getD_eq_getD_getElem?, show o < cs.size by omega]
      simp only [Bool.false_eq_true, if_false, h2, Sem.run_pure, valOf, hb, h1]
      congr 1
      rw [List.drop_eq_getElem_cons (by simp; omega)]
      simp [Array.getD_eq_getD_getElem?, show o < cs.size by omega]
  cases t with
  | int k => exact hagg _ hs rfl
  | bool => exact hagg _ hs rfl
  | str => exact hagg _ hs rfl
  | unit => obtain ⟨fs, h1, _⟩ := hs; exact hagg _ h1 rfl
  | pair s u => obtain ⟨fs, h1, _⟩ := hs; exact hagg _ h1 rfl
  | list u => obtain ⟨e, h1, _⟩ := hs; exact hagg _ h1 rfl
  | arr m u => obtain ⟨e, h1, _⟩ := hs; exact hagg _ h1 rfl
  | err => obtain ⟨ms, h1⟩ := hs; exact hagg _ h1 rfl
  | bnd f u => obtain ⟨_, _, _, h1⟩ := hs; exact hagg _ h1 rfl

theorem sound_field {ctx : Ctx} {i : Nat} {o : Oper} {T k : Nat} {x : Operand} (hE : TabOk P E.tab) (ho : o.op = .field T x k) : Sound E P ctx i o := by
  intro Z N w0 Ow S D g G a w F n f next Qp h hg hp ht hfr hdst hF _ hn
  simp only [plan, ho, Q.run_bind, Option.bind_eq_some_iff] at hp
  obtain ⟨d, hd, tt, htt, v, hv, hp⟩ := hp
  replace hd := sureD_some hd
  replace htt := ofO_some htt
  have hT := rd_told h hg hv
  split at hp
  · rename_i t y
    split at hp
    · rename_i he; subst he
      simp only [Q.run_bind, Option.bind_eq_some_iff] at hp
      obtain ⟨q, hq, z, hz, hp⟩ := hp
      replace hq := ofO_some hq
      replace hz := ofO_some hz
      simp only [Q.run, Option.some.injEq] at hp
      subst hp
      obtain ⟨fs, fl, hu, hfl, hoff, hty⟩ := field_place hE htt hq
      obtain ⟨cs, h1, h2⟩ := hT.r (.box 0) (by simp)
      obtain ⟨h3, h4⟩ := h1.sub_ hz
      have hagg : t.isAgg = true := by
        cases t with
        | pair => rfl
        | _ => simp [Ty.fieldAt] at hq
      have h5 := part_run hE hty (cs := cs.toArray) (o := q.1) (by simpa using h3) (by simpa using h4)
      refine wpIn_value hF (by rw [ho]; simp) (v := valOf q.2 ((cs.drop q.1).take q.2.sz)) ?_ (fill1 (v := .dat q.2 z) h hdst hd rfl trivial (by simp) ⟨_, h4, rfl⟩ hn)
      simp only [execOp, ho, h2, Instr.field, Sem.run_bind, run_underlying hu, Result.andThen_ok, hfl, valOf, hagg, if_true, asAgg, Sem.run_pure, hoff, h5]
    · simp [Q.run] at hp
  · simp [Q.run] at hp
end
end Go.Ev

namespace Go.Ev
open Go.RowKit
section
variable {Z : ZS} {E : Env} {N : Nat} {w0 : World} {Ow : OwS} {S S' D D' : Nat → Prop} {g g' : Mem} {G G' : Ghost} {a a' : Act} {w w' : World} {P : Program} {F : Fence} {n : Nat}

theorem grownBy_refl (w : World) (r : Option Nat) : w.grownBy w r := ⟨rfl, rfl, rfl, Nat.le_refl _, fun _ _ _ => rfl⟩
theorem Mem.sets_cons (g : Mem) (p : Loc × AV) (r : List (Loc × AV)) : g.sets (p :: r) = (g.upd p.1 p.2).sets r := rfl
/-- What is owned comes to a slot from another place; the world stays. -/
theorem Rel.takeOwn (h : Rel Z E N w0 Ow S D g G a w) {d : Nat} (hd : d < N) {l : Loc} (hcl : deadAt l = .dead) {e : Nat} {t : Ty} {xs ys : List t.den} {s : Nat} (hgl : g l = .own e t ys s) (st' : Nat) (hst' : ¬ S st') (hD : ¬ D d)
    {v : Value} (hv : OwnR (free Z G w) w (G l) e t xs v) :
    ∃ G2, Rel Z E N w0 Ow (fun n => S n ∨ n = st') D (fun k => if k = .slot d then .own e t xs st' else if k = l then .dead else g k) G2 (a.put (some d) v) w := by
  obtain ⟨h0, cells, hr, ho, hb⟩ := hv
  obtain ⟨g2, G2, h1, h2⟩ := h.putOwn (w' := w) hd (some l) st' hst' hD (fun l' e' => by cases e'; exact ⟨e, t, ys, s, hgl⟩) (v := v) (cells := cells) (grownBy_refl _ _) (fun b hb' => .inl (by rw [Option.bind_some, ← hb]; exact hb')) h0 hr ho
    (by rw [put_defers]; exact h.defers) (by rw [put_size]; exact h.tmps) (put_tmps a d v (by rw [h.tmps]; exact hd)) (fun _ hn => put_tmps_ne a v hn)
  refine ⟨G2, ?_⟩
  have : g2 = fun k => if k = .slot d then .own e t xs st' else if k = l then .dead else g k := by
    funext k; rw [h1 k]
    by_cases hk : k = l
    · subst hk; simp [hcl]
    · simp [hk]
  rw [← this]; exact h2

theorem sound_extract {ctx : Ctx} {i : Nat} {o : Oper} {s k : Nat} (ho : o.op = .extract (.tmp s) k) : Sound E P ctx i o := by
  intro Z N w0 Ow S D g G a w F n f next Qp h hg hp ht hfr hdst hF _ hn
  simp only [plan, ho, Q.run_bind, Option.bind_eq_some_iff, Q.run] at hp
  obtain ⟨d, hd, hp⟩ := hp
  replace hd := sureD_some hd
  split at hp
  · rename_i m hs
    split at hp
    · rename_i hk
      obtain ⟨vs, hvs, hsz⟩ := (show AVR Z g G a w (.tup m) (.slot s) _ from hs ▸ h.slots s)
      have hc := h.comps s m k hs hk
      rw [hvs] at hc
      have hx : vs[k]? = some (vs.getD k undef) := by simp [Array.getD_eq_getD_getElem?, show k < vs.size by omega]
      have hrun : (execOp a.eval o).run P w = .ok (.value (vs.getD k undef)) w := by
        simp only [execOp, ho, Instr.extract, show a.eval (.tmp s) = .tuple vs from hvs, hx, Sem.run_bind, Sem.run_pure, Result.andThen_ok]
      simp only [Q.run] at hp
      split at hp
      · rename_i e t xs st hgc
        simp only [Q.run, Option.some.injEq] at hp
        subst hp
        rw [hgc] at hc
        obtain ⟨h1, h2⟩ := hdst d hd
        obtain ⟨G2, h3⟩ := h.takeOwn h1 (l := .comp s k) rfl hgc (i + 1) hfr h2 hc
        refine wpIn_value hF (by rw [ho]; simp) hrun ?_
        rw [hd]
        refine hn _ _ _ _ (fun l => ?_) h3
        simp only [Mem.sets, Mem.upd]
        by_cases e1 : Loc.slot d = l
        · subst e1; simp [Loc.eq_iff.2 rfl]
        · have e2 : (Loc.slot d).eq l = false := by cases e : (Loc.slot d).eq l <;> simp_all [Loc.eq_iff]
          rw [if_neg (Ne.symm e1), e2]
          by_cases e3 : Loc.comp s k = l
          · subst e3; simp [Loc.eq_iff.2 rfl]
          · have e4 : (Loc.comp s k).eq l = false := by cases e : (Loc.comp s k).eq l <;> simp_all [Loc.eq_iff]
            rw [if_neg (Ne.symm e3), e4]; rfl
      · rename_i hnown
        split at hp
        · rename_i hcv
          simp only [Q.run, Option.some.injEq] at hp
          subst hp
          generalize hgc : g (.comp s k) = v at hc hcv hnown hn
          have hpl : plainAV v = true := by cases v <;> first | exact absurd rfl (hnown _ _ _ _) | (simp [compAV] at hcv; done) | rfl
          have hno : ∀ e t xs s, v ≠ .own e t xs s := fun e t xs s e' => hnown e t xs s e'
          have hst := h.stamps (.comp s k)
          rw [hgc] at hst
          exact wpIn_value hF (by rw [ho]; simp) hrun (fill1 (v := v) h hdst hd hpl hst (fun c u e' => by subst e'; simp [compAV] at hcv) (hc.here hno (fun c u e' => by subst e'; simp [compAV] at hcv)) hn)
        · simp [Q.run] at hp
    · simp [Q.run] at hp
  · simp [Q.run] at hp

theorem Mem.upd_apply (g : Mem) (l : Loc) (v : AV) (k : Loc) : g.upd l v k = if k = l then v else g k := by
  by_cases h : k = l
  · subst h; simp [Mem.upd_same]
  · rw [Mem.upd_ne g v (Ne.symm h), if_neg h]

theorem moves_some {s d : Nat} (hsd : s ≠ d) : ∀ {n : Nat} {ws : List (Loc × AV)}, (movesQ s d n).run g = some ws →
    (∀ i, i < n → compAV (g (.comp s i)) = true) ∧ ∀ (g0 : Mem) l, g0.sets ws l = match l with
      | .comp m i => if m = d ∧ i < n then g (.comp s i) else if m = s ∧ i < n then .dead else g0 l
      | _ => g0 l := by
  intro n
  induction n with
  | zero =>
    intro ws h
    simp [movesQ, Q.run] at h; subst h
    refine ⟨by simp, fun g0 l => ?_⟩
    cases l <;> simp [Mem.sets]
  | succ n ih =>
    intro ws h
    simp only [movesQ, Q.run] at h
    split at h
    · rename_i hc
      simp only [Q.run_bind, Option.bind_eq_some_iff, Q.run, Option.some.injEq] at h
      obtain ⟨ws', h1, rfl⟩ := h
      obtain ⟨h2, h3⟩ := ih h1
      refine ⟨fun i hi => ?_, fun g0 l => ?_⟩
      · rcases Nat.lt_succ_iff_lt_or_eq.1 hi with hi | rfl
        · exact h2 i hi
        · exact hc
      · rw [Mem.sets_append]
        simp only [Mem.sets, Mem.upd_apply, h3]
        cases l with
        | comp m i =>
          simp only [Loc.comp.injEq]
          by_cases hm : m = d
          · subst hm
            by_cases hi : i = n
            · subst hi; simp
            · have : i < n + 1 ↔ i < n := by omega
              simp [hi, this, Ne.symm hsd]
          · by_cases hm2 : m = s
            · subst hm2
              by_cases hi : i = n
              · subst hi; simp [hm]
              · have : i < n + 1 ↔ i < n := by omega
                simp [hi, this, hm]
            · simp [hm, hm2]
        | _ => simp
    · simp [Q.run] at h

/-- **A tuple goes from one slot to another.** -/
theorem Rel.moveTup (h : Rel Z E N w0 Ow S D g G a w) {s d m : Nat} (hd : d < N) (hsd : s ≠ d) (hD : ¬ D d) (hs : g (.slot s) = .tup m) (hc : ∀ i, i < m → compAV (g (.comp s i)) = true)
    {g2 : Mem} (hg2 : ∀ l, g2 l = match l with
      | .comp n i => if n = d ∧ i < m then g (.comp s i) else if n = s ∧ i < m then .dead else g (.comp n i)
      | .slot n => if n = d then .tup m else if n = s then .dead else g (.slot n)
      | l => g l) :
    ∃ G2, Rel Z E N w0 Ow S D g2 G2 (a.put (some d) (a.tmps.getD s undef)) w := by
  obtain ⟨vs, hvs, hsz⟩ := (show AVR Z g G a w (.tup m) (.slot s) _ from hs ▸ h.slots s)
  let G2 : Ghost := fun l => match l with
    | .comp n i => if n = d then (if i < m then G (.comp s i) else none) else if n = s then (if i < m then none else G (.comp n i)) else G (.comp n i)
    | .slot n => if n = d then none else if n = s then none else G (.slot n)
    | l => G l
  have hG2 : ∀ l b, G2 l = some b → ∃ l', G l' = some b := by
    intro l b hb
    simp only [G2] at hb
    split at hb
    · split at hb
      · split at hb
        · exact ⟨_, hb⟩
        · cases hb
      · split at hb
        · split at hb
          · cases hb
          · exact ⟨_, hb⟩
        · exact ⟨_, hb⟩
    · split at hb
      · cases hb
      · split at hb
        · cases hb
        · exact ⟨_, hb⟩
    · exact ⟨_, hb⟩
  have hf : ∀ b, free Z G w b → free Z G2 w b := fun b hb => ⟨hb.1, fun l e => by obtain ⟨l', e'⟩ := hG2 l b e; exact hb.2 l' e', hb.3⟩
  have hsval : ∀ n, n ≠ d → (a.put (some d) (a.tmps.getD s undef)).tmps.getD n undef = a.tmps.getD n undef := fun n hn => put_tmps_ne a _ (Ne.symm hn)
  have hdval : (a.put (some d) (a.tmps.getD s undef)).tmps.getD d undef = a.tmps.getD s undef := put_tmps a d _ (by rw [h.tmps]; exact hd)
  have hcell : ∀ b o, g2 (.cell b o) = g (.cell b o) := fun b o => by rw [hg2]
  have hbox : ∀ b, g2 (.box b) = g (.box b) := fun b => by rw [hg2]
  refine ⟨G2, h.change (fun l => match l with | .slot n => n = s ∨ n = d | .comp n i => (n = s ∨ n = d) | _ => False) ?_ ?_ (by rw [put_defers]; exact h.defers) (by rw [put_size]; exact h.tmps) rfl rfl rfl (Nat.le_refl _) (fun _ _ _ => rfl) (fun b hb => ⟨hf b hb, rfl⟩) (fun _ _ _ _ => rfl) ?_
    (fun b e n hb => ⟨by rw [hbox]; exact hb, rfl, fun _ _ => .inr rfl⟩) ?_ (fun _ h => h) ?_ ?_ ?_ ?_ ?_ ?_ ?_ ?_ ?_ ?_ ?_ ?_⟩
  · intro l hl
    rw [hg2]
    cases l with
    | slot n => simp only [not_or] at hl; simp [hl.1, hl.2]
    | comp n i => simp only [not_or] at hl; simp [hl.1, hl.2]
    | _ => rfl
  · intro l hl
    cases l with
    | slot n => simp only [not_or] at hl; simp [G2, hl.1, hl.2]
    | comp n i => simp only [not_or] at hl; simp [G2, hl.1, hl.2]
    | _ => rfl
  · intro l st _ hrt
    cases l with
    | slot n =>
      refine ⟨fun e t xs' hx => ?_, fun b o n t xs' hb => by cases hb⟩
      rw [hg2] at hx
      simp only [] at hx
      split at hx
      · cases hx
      · split at hx
        · cases hx
        · rename_i h1 h2
          exact ⟨xs', hx, rfl, hsval n h1, by simp [G2, h1, h2]⟩
    | comp n i => exact hrt.elim
    | cell b o => exact ⟨fun e t xs' hx => ⟨xs', by rwa [hcell] at hx, rfl, rfl, rfl⟩, fun b' o' n t xs' _ hx _ => ⟨xs', by rwa [hcell] at hx⟩⟩
    | box b => exact hrt.elim
  · intro k hk
    rw [hg2]
    have h1 : k ≠ d := fun e => hD (e ▸ hk)
    have h2 : k ≠ s := fun e => by
      obtain ⟨x, hx | ⟨c, hx⟩⟩ := h.dbool k hk <;> rw [e, hs] at hx <;> cases hx
    simp [h1, h2]
  · intro n hn
    simp only [not_or] at hn
    exact hsval n hn.2
  · intro n hn
    rw [hg2]
    simp only []
    split
    · rename_i e; subst e
      rw [hdval]
      exact ⟨vs, hvs, hsz⟩
    · split
      · trivial
      · rename_i h1 h2; rcases hn with hn | hn
        · exact absurd hn h2
        · exact absurd hn h1
  · intro n k i hn hi _
    rw [hg2] at hn
    rw [hg2]
    simp only [] at hn ⊢
    split at hn
    · rename_i e; subst e
      cases hn
      rw [if_pos ⟨rfl, hi⟩, hdval]
      have hv := h.comps s m i hs hi
      have hci := hc i hi
      generalize hu : g (.comp s i) = u at hv hci
      cases u <;> simp [compAV] at hci
      · obtain ⟨cs, h1, h2⟩ := hv
        exact ⟨cs, h1.keep (fun _ _ => rfl) hf, h2⟩
      · simp only [AVR] at hv ⊢
        have : G2 (.comp n i) = G (.comp s i) := by simp [G2, hi]
        rw [this]
        exact hv.keep (fun b hb => ⟨hf b hb, rfl⟩) (fun _ _ => rfl)
      · obtain ⟨e1, n1, gb, k1, k2, k3⟩ := hv
        exact ⟨e1, n1, gb, by rw [hg2]; exact k1, k2, k3⟩
      · obtain ⟨vs1, k1, k2, k3⟩ := hv
        refine ⟨vs1, k1, k2, fun i1 b1 hi1 => ?_⟩
        obtain ⟨e1, n1, gb, k4, k5, k6⟩ := k3 i1 b1 hi1
        exact ⟨e1, n1, gb, by rw [hg2]; exact k4, k5, k6⟩
      · exact hv
      · exact hv
      · refine ⟨fun hp => ?_, hv.2⟩
        obtain ⟨e1, n1, gb, k1, k2, k3⟩ := hv.1 hp
        exact ⟨e1, n1, gb, by rw [hg2]; exact k1, k2, k3⟩
    · split at hn
      · cases hn
      · rename_i h1 h2
        exfalso
        rename_i hch
        rcases hch with hch | hch <;> rcases hch with hch | hch <;> contradiction
  · intro b e n hb; exact hb.elim
  · intro b o hb; exact hb.elim
  · intro b o o' hb; rcases hb with hb | hb <;> exact hb.elim
  · intro b hb; exact hb.elim
  · intro l _
    rw [hg2]
    cases l with
    | slot n =>
      simp only []
      split
      · trivial
      · split
        · trivial
        · exact h.stamps _
    | comp n i =>
      simp only []
      split
      · exact h.stamps _
      · split
        · trivial
        · exact h.stamps _
    | _ => exact h.stamps _
  · intro l c v _ hv
    rw [hg2] at hv
    cases l with
    | slot n =>
      simp only [] at hv
      split at hv
      · cases hv
      · split at hv
        · cases hv
        · exact h.ctx _ c v hv
    | comp n i =>
      simp only [] at hv
      split at hv
      · exact h.ctx _ c v hv
      · split at hv
        · cases hv
        · exact h.ctx _ c v hv
    | _ => exact h.ctx _ c v hv
  · intro l b _ hb
    obtain ⟨l', hl'⟩ := hG2 l b hb
    exact h.bnd l' b hl'
  · intro l b hch hb
    rw [hg2]
    cases l with
    | slot n =>
      exfalso
      simp only [G2] at hb
      rcases hch with e | e <;> subst e
      · simp [hsd] at hb
      · simp at hb
    | comp n i =>
      simp only [G2] at hb
      by_cases h1 : n = d
      · subst h1
        by_cases h2 : i < m
        · simp [h2] at hb ⊢
          exact h.gone _ b hb
        · simp [h2] at hb
      · by_cases h2 : n = s
        · subst h2
          by_cases h3 : i < m
          · simp [h1, h3] at hb
          · simp [h1, h3] at hb ⊢
            exact h.gone _ b hb
        · rcases hch with e | e <;> contradiction
    | _ => exact hch.elim
  · intro l l' b hch hb hb'
    have inv : ∀ l b, G2 l = some b → G (match l with | .comp n i => if n = d then .comp s i else .comp n i | l => l) = some b := by
      intro l b hb
      cases l with
      | slot n =>
        simp only [G2] at hb
        split at hb
        · cases hb
        · split at hb
          · cases hb
          · exact hb
      | comp n i =>
        simp only [G2] at hb
        split at hb
        · rename_i h1
          split at hb
          · simp only [h1, if_true]; exact hb
          · cases hb
        · rename_i h1
          simp only [h1, if_false]
          split at hb
          · split at hb
            · cases hb
            · exact hb
          · exact hb
      | _ => exact hb
    have i1 := inv l b hb
    have i2 := inv l' b hb'
    have i3 := h.inj _ _ b i1 i2
    cases l with
    | comp n i =>
      cases l' with
      | comp n' i' =>
        simp only [] at i3
        by_cases h1 : n = d
        · by_cases h2 : n' = d
          · simp [h1, h2] at i3; rw [h1, h2, i3]
          · exfalso
            simp [h1, h2] at i3
            obtain ⟨rfl, rfl⟩ := i3
            simp only [G2, h1, if_true] at hb
            split at hb
            · rename_i h3; simp [G2, hsd, h3] at hb'
            · cases hb
        · by_cases h2 : n' = d
          · exfalso
            simp [h1, h2] at i3
            obtain ⟨rfl, rfl⟩ := i3
            simp only [G2, h2, if_true] at hb'
            split at hb'
            · rename_i h3; simp [G2, hsd, h3] at hb
            · cases hb'
          · simp [h1, h2] at i3; rw [i3.1, i3.2]
      | _ => simp only [] at i3; split at i3 <;> cases i3
    | _ =>
      cases l' with
      | comp n' i' => simp only [] at i3; split at i3 <;> cases i3
      | _ => exact i3

/-- A slot is filled behind some freezing. -/
theorem fillAfter {next : Act → World → Prop} {i d : Nat} {o : Oper} {v : AV} {val : Value} {ws : List (Loc × AV)} {G1 : Ghost} (h : Rel Z E N w0 Ow S D (g.sets ws) G1 a w) (hdst : ∀ d, o.dst = some d → d < N ∧ ¬ D d) (hd : o.dst = some d)
    (hv : plainAV v = true) (hst : stampIn S v) (hc : ∀ c u, v ≠ .opt c u) (hr : AVR Z (g.sets ws) G1 a w v (.slot d) val)
    (hn : ∀ a' w' g' G', (∀ l, g' l = g.sets (ws ++ [(.slot d, v)]) l) → Rel Z E N w0 Ow (fun n => S n ∨ n = i + 1) D g' G' a' w' → next a' w') : next (a.put o.dst val) w :=
  fill1 (g := g.sets ws) h hdst hd hv hst hc hr (fun a' w' g' G' hg' => hn a' w' g' G' (fun l => by rw [hg' l, Mem.sets_append]))

theorem mayMove_plain {v : AV} (h : mayMove v = true) : plainAV v = true := by cases v <;> simp [mayMove] at h <;> rfl
theorem sound_move {ctx : Ctx} {i : Nat} {o : Oper} {x : Operand} (ho : o.op = .move x) : Sound E P ctx i o := by
  intro Z N w0 Ow S D g G a w F n f next Qp h hg hp ht hfr hdst hF _ hn
  simp only [plan, ho, Q.run_bind, Option.bind_eq_some_iff] at hp
  obtain ⟨v, hv, d, hd, hp⟩ := hp
  replace hd := sureD_some hd
  have hT := rd_told h hg hv
  have hrun : (execOp a.eval o).run P w = .ok (.value (a.eval x)) w := by simp only [execOp, ho, Sem.run_pure]
  have plain : ∀ v : AV, Told Z E S g G a w x v → plainAV v = true → (∀ c u, v ≠ .opt c u) → (∀ a' w' g' G', (∀ l, g' l = g.sets [(.slot d, v)] l) → Rel Z E N w0 Ow (fun n => S n ∨ n = i + 1) D g' G' a' w' → next a' w') → o.wpIn F n P a w next Qp := by
    intro v hT hpl hno hn
    refine wpIn_value hF (by rw [ho]; simp) hrun (fill1 (v := v) h hdst hd hpl hT.stamp hno ?_ hn)
    exact (hT.r (.box 0) (fun e t xs s e' => by rw [e'] at hpl; simp [plainAV] at hpl)).place hpl
  split at hp
  · rename_i e t xs st s
    simp only [Q.run, Option.some.injEq] at hp
    subst hp
    obtain ⟨k, hk, hgk⟩ := hT.own e t xs st rfl
    cases hk
    have hst : S st := by have := h.stamps (.slot s); rw [hgk] at this; exact this
    have ho' := (show OwnR _ _ _ _ _ _ _ from hT.r (.slot s) (fun _ _ _ _ _ => ⟨s, rfl, rfl⟩))
    obtain ⟨A, cap, h3, _, _⟩ := ho'.slice
    refine wpIn_value hF (by rw [ho]; simp) hrun (fill1 (v := .view (.slot s) st t xs.length) h hdst hd rfl ⟨hst, trivial⟩ (by simp) ⟨⟨A, cap, h3⟩, ?_⟩ hn)
    intro e' xs' hx
    rw [hgk] at hx
    simp only [AV.own.injEq] at hx
    obtain ⟨rfl, _, h6, _⟩ := hx
    cases h6
    refine ⟨Nat.le_refl _, ?_⟩
    have : rootVal G a w (.slot s) = a.eval (.tmp s) := rfl
    rw [this, h3]; rfl
  · rename_i m s
    split at hp
    · simp [Q.run] at hp
    · rename_i hsd
      simp only [Q.run_bind, Option.bind_eq_some_iff] at hp
      obtain ⟨ws, hws, hp⟩ := hp
      simp only [Q.run, Option.some.injEq] at hp
      subst hp
      have hsd' : s ≠ d := fun e => hsd (by rw [e]; simp)
      obtain ⟨k, hk, hgk⟩ := hT.tup m rfl
      cases hk
      obtain ⟨h1, h2⟩ := hdst d hd
      obtain ⟨h3, h4⟩ := moves_some hsd' hws
      obtain ⟨G2, h5⟩ := h.moveTup h1 hsd' h2 hgk h3 (g2 := g.sets (ws ++ [(.slot s, .dead), (.slot d, .tup m)])) (fun l => by
        rw [Mem.sets_append]
        simp only [Mem.sets, Mem.upd_apply, h4]
        cases l <;> simp)
      refine wpIn_value hF (by rw [ho]; simp) hrun ?_
      rw [hd]
      exact hn _ _ _ _ (fun _ => rfl) (h5.more (fun _ hs => .inl hs) (fun _ hd => hd) h5.dbool)
  · split at hp
    · rename_i hm
      simp only [Q.run, Option.some.injEq] at hp
      subst hp
      exact plain _ hT (mayMove_plain hm) hT.noOpt hn
    · simp [Q.run] at hp

theorem OwnR.cutTo {Pr : Nat → Prop} {gb : Option Nat} {e : Nat} {t : Ty} {xs : List t.den} {v : Value} (h : OwnR Pr w gb e t xs v) {n : Nat} (hn : n ≤ xs.length) : OwnR Pr w gb e t (xs.take n) (prefixOf v n) := by
  obtain ⟨h0, cells, hr, ho, rfl⟩ := h
  have hl : (xs.take n).length = n := by simp; omega
  refine ⟨h0, cells.take (n * t.sz), hr.take (fun _ _ hc => hc.len) n, ⟨?_, ?_⟩, ?_⟩
  · rw [hl]
    have := ho.1
    simp only [List.length_take, this]
    exact Nat.min_eq_left (Nat.mul_le_mul_right _ hn)
  · rw [hl]
    rcases ho.2 with ⟨rfl, hn0⟩ | ⟨g, cap, cur, rfl, h2, h3, h4, h5, h6⟩
    · have : n = 0 := by omega
      subst this
      exact .inl ⟨rfl, rfl⟩
    · refine .inr ⟨g, cap, cur, rfl, h2, by omega, h4, h5, ?_⟩
      rw [← h6, List.take_take, Nat.min_eq_left (Nat.mul_le_mul_right _ hn)]
  · rcases ho.2 with ⟨rfl, _⟩ | ⟨g, cap, cur, rfl, _⟩ <;> rfl

theorem sound_assign {ctx : Ctx} {i : Nat} {o : Oper} {x : Operand} (hE : TabOk P E.tab) (ho : o.op = .assign x) : Sound E P ctx i o := by
  intro Z N w0 Ow S D g G a w F n f next Qp h hg hp ht hfr hdst hF _ hn
  simp only [plan, ho, Q.run_bind, Option.bind_eq_some_iff] at hp
  obtain ⟨v, hv, d, hd, hp⟩ := hp
  replace hd := sureD_some hd
  have hT := rd_told h hg hv
  obtain ⟨hdN, hdD⟩ := hdst d hd
  have hrun : (execOp a.eval o).run P w = .ok (.value (a.eval x)) w := by simp only [execOp, ho, Sem.run_pure]
  split at hp
  · rename_i e t xs st s
    split at hp
    · simp [Q.run] at hp
    rename_i hsd
    simp only [Q.run, Option.some.injEq] at hp
    subst hp
    have hsd' : s ≠ d := fun e => hsd (by rw [e]; simp)
    obtain ⟨k, hk, hgk⟩ := hT.own e t xs st rfl
    cases hk
    have ho' := (show OwnR _ _ _ _ _ _ _ from hT.r (.slot s) (fun _ _ _ _ _ => ⟨s, rfl, rfl⟩))
    obtain ⟨A, cap, h3, _, _⟩ := ho'.slice
    obtain ⟨G2, h4⟩ := h.takeOwn hdN rfl hgk (i + 1) hfr hdD ho'
    have hsN : s < N := by
      apply Classical.byContradiction; intro hns
      have : a.eval (.tmp s) = undef := by
        show a.tmps.getD s undef = undef
        rw [Array.getD_eq_getD_getElem?, Array.getElem?_eq_none (by rw [h.tmps]; exact Nat.le_of_not_lt hns)]; rfl
      rw [h3] at this; simp [undef] at this
    have hs1 : (a.put (some d) (a.eval (.tmp s))).tmps.getD s undef = .slice A xs.length cap := by
      rw [put_tmps_ne a _ (Ne.symm hsd')]; exact h3
    have h5 := h4.retell hsN (v := .view (.slot d) (i + 1) t xs.length) rfl ⟨.inr rfl, trivial⟩ (fun hDs => by
      obtain ⟨x, hx | ⟨c, hx⟩⟩ := h.dbool s hDs <;> rw [hgk] at hx <;> cases hx) (fun c u e => by cases e) (by
        refine ⟨⟨A, cap, hs1⟩, fun e' xs' hx => ?_⟩
        simp only [if_true, AV.own.injEq] at hx
        obtain ⟨_, _, h6, _⟩ := hx
        cases h6
        refine ⟨Nat.le_refl _, ?_⟩
        rw [hs1]
        have : rootVal G2 (a.put (some d) (a.eval (.tmp s))) w (.slot d) = .slice A xs.length cap := by
          show (a.put (some d) (a.eval (.tmp s))).tmps.getD d undef = _
          rw [put_tmps a d _ (by rw [h.tmps]; exact hdN)]; exact h3
        rw [this]; rfl)
    refine wpIn_value hF (by rw [ho]; simp) hrun ?_
    rw [hd]
    refine hn _ _ _ _ (fun l => ?_) h5
    simp only [Mem.sets, Mem.upd_apply]
    by_cases e1 : l = .slot d
    · subst e1; simp [Ne.symm hsd']
    · by_cases e2 : l = .slot s
      · subst e2; simp [hsd']
      · simp [e1, e2]
  · rename_i l st t m x'
    split at hp
    · rename_i hl
      have := Loc.eq_iff.1 hl
      subst this
      simp only [Q.run] at hp
      split at hp
      · rename_i e t' xs st' hgl
        split at hp
        · rename_i hst
          have := Nat.eq_of_beq_eq_true hst
          subst this
          split at hp
          · rename_i htt
            subst htt
            simp only [Q.run, Option.some.injEq] at hp
            subst hp
            obtain ⟨h1, h2⟩ := (hT.r (.box 0) (by simp)).2 e xs hgl
            have h3 := h.root (l := .slot d) trivial hgl
            have h4 := h3.cutTo h1
            rw [← h2] at h4
            obtain ⟨G2, h5⟩ := h.takeOwn hdN rfl hgl (i + 1) hfr hdD h4
            refine wpIn_value hF (by rw [ho]; simp) hrun ?_
            rw [hd]
            refine hn _ _ _ _ (fun l => ?_) h5
            simp only [Mem.sets, Mem.upd_apply]
            split <;> rfl
          · simp [Q.run] at hp
        · simp [Q.run] at hp
      · simp [Q.run] at hp
    · simp only [Q.run_bind, Option.bind_eq_some_iff] at hp
      obtain ⟨y, hy, hp⟩ := hp
      simp only [Q.run, Option.some.injEq] at hp
      subst hp
      obtain ⟨G1, h1, ⟨cs, h2, h3⟩, _⟩ := toDat_frz h hT hy
      exact wpIn_value hF (by rw [ho]; simp) hrun (fillAfter (v := .dat y.1.1 y.1.2) h1 hdst hd rfl trivial (by simp) ⟨cs, h2, h3⟩ hn)
  · simp only [Q.run_bind, Option.bind_eq_some_iff] at hp
    obtain ⟨tt, htt, hp⟩ := hp
    replace htt := ofO_some htt
    split at hp
    · rename_i t
      simp only [Q.run_bind, Option.bind_eq_some_iff] at hp
      obtain ⟨e, he, hp⟩ := hp
      simp only [Q.run, Option.some.injEq] at hp
      subst hp
      obtain ⟨e', h1, h2, h3, h4, _⟩ := (hE.ty _ _ htt).shape
      have hx : a.eval x = .slice none 0 0 := hT.r (.box 0) (by simp)
      obtain ⟨g2, G2, h5, h6⟩ := h.putOwn (w' := w) hdN none (i + 1) hfr hdD (by simp) (e := e) (t := t) (xs := []) (v := .slice none 0 0) (cells := []) (grownBy_refl _ _) (by simp [Value.ownBlock]) h4 .nil (ownsQ_nil _ _ _)
        (a' := a.put (some d) (.slice none 0 0)) (by rw [put_defers]; exact h.defers) (by rw [put_size]; exact h.tmps) (put_tmps a d _ (by rw [h.tmps]; exact hdN)) (fun _ hn => put_tmps_ne a _ hn)
      refine wpIn_value hF (by rw [ho]; simp) hrun ?_
      rw [hd, hx]
      refine hn _ _ _ _ (fun l => ?_) h6
      rw [h5]
      simp [Mem.sets, Mem.upd_apply]
    · simp [Q.run] at hp
  · split at hp
    · rename_i hm
      simp only [Q.run, Option.some.injEq] at hp
      subst hp
      have hpl := mayMove_plain hm
      refine wpIn_value hF (by rw [ho]; simp) hrun (fill1 h hdst hd hpl hT.stamp hT.noOpt ?_ hn)
      exact (hT.r (.box 0) (fun e t xs s e' => by rw [e'] at hpl; simp [plainAV] at hpl)).place hpl
    · simp [Q.run] at hp
end
end Go.Ev

namespace Go.Ev
open Go.RowKit
section
variable {Z : ZS} {E : Env} {N : Nat} {w0 : World} {Ow : OwS} {S S' D D' : Nat → Prop} {g g' : Mem} {G G' : Ghost} {a a' : Act} {w w' : World} {P : Program} {F : Fence} {n : Nat}

/-- A world with new blocks. -/
theorem Rel.grow (h : Rel Z E N w0 Ow S D g G a w) (hw : w.grownBy w' none) : Rel Z E N w0 Ow S D g G a w' := by
  have hb : ∀ b, b < w.heap.size → w'.heap[b]? = w.heap[b]? := fun b hb => hw.block b hb (by simp)
  have hk : ∀ b, free Z G w b → free Z G w' b ∧ w'.heap[b]? = w.heap[b]? := fun b hf => ⟨⟨Nat.lt_of_lt_of_le hf.1 hw.size, hf.2, hf.3⟩, hb b hf.1⟩
  refine h.change (fun _ => False) (fun _ _ => rfl) (fun _ _ => rfl) h.defers h.tmps hw.os hw.tape hw.output hw.size (fun k hk _ => hb k (Nat.lt_of_lt_of_le hk h.size)) hk (fun l _ b hl => hb b (h.bnd l b hl).1) ?_
    (fun b e n hb' => ⟨hb', rfl, fun gb hgb => .inr (hb gb (h.bnd _ gb hgb).1)⟩) (fun _ _ => rfl) (fun _ h => h) (fun _ _ => rfl) ?_ ?_ ?_ ?_ ?_ ?_ ?_ ?_ ?_ ?_ ?_
  · intro l st _ hrt
    refine ⟨fun e t xs hx => ⟨xs, hx, rfl, ?_, rfl⟩, fun b o n t xs _ hx _ => ⟨xs, hx⟩⟩
    cases l with
    | slot n => rfl
    | comp n i => rfl
    | cell b o =>
      simp only [rootVal]
      cases hgb : G (.box b) with
      | none => rfl
      | some gb => simp only [World.cell?_of_block (w := w) (w' := w') (a := ⟨gb, o, none⟩) (hb gb (h.bnd _ gb hgb).1)]
    | box b => rfl
  all_goals first
    | (intro _ h; exact h.elim)
    | (intro _ _ h; exact h.elim)
    | (intro _ _ _ h; exact h.elim)
    | (intro _ _ _ h _; rcases h with h | h <;> exact h.elim)
    | (intro _ _ _ _ _ h; rcases h with h | h <;> exact h.elim)

theorem size_run {T sz : Nat} (h : (P.info? T).map (·.size) = some sz) (w : World) : (sizeOf T).run P w = .ok sz w := by
  cases hi : P.info? T with
  | none => rw [hi] at h; cases h
  | some i => rw [hi] at h; simp at h; simp [sizeOf, typeInfo, hi, h]
theorem elem_size {e : Nat} {v : Option Value} {s b : Nat} (h : (P.info? e).map (fun i => (i.zero, i.size, i.bytes)) = some (v, s, b)) : (P.info? e).map (·.size) = some s := by
  cases hi : P.info? e with
  | none => rw [hi] at h; cases h
  | some i => rw [hi] at h; simp at h; simp [h.2.1]

theorem bytes_foldl (ns : List Int) (s : ByteArray) : ns.foldl (fun r n => r.push (UInt8.ofNat n.toNat)) s = s ++ strOf (ns.map fun n => UInt8.ofNat n.toNat) := by
  induction ns generalizing s with
  | nil => apply WideShapes.bytes_inj; simp [strOf]
  | cons n ns ih =>
    rw [List.foldl_cons, ih]
    apply WideShapes.bytes_inj
    simp [strOf]

/-- The cells of a slice of data. -/
theorem RV.list_cells {Pr : Nat → Prop} {t : Ty} {xs : List t.den} {cs : List Value} (h : RV Pr w (.list t) xs cs) :
    ∃ A cap, cs = [.slice A xs.length cap] ∧ xs.length ≤ cap ∧ xs.length ≤ 9223372036854775807 ∧
      (0 < xs.length → ∃ ad ds, A = some ad ∧ Pr ad.block ∧ Rows (RV Pr w t) xs ds ∧ ∀ j, ∀ hj : j < ds.length, w.cell? (ad.add j) = some ds[j]) := h

theorem rows_bytes {Pr : Nat → Prop} : ∀ {xs : List Int} {ds : List Value}, Rows (RV Pr w (.int .u8)) xs ds → ds = xs.map (Value.int .u8)
  | _, _, .nil => rfl
  | _, _, .cons h t => by
    simp only [RV] at h
    subst h
    rw [rows_bytes t]; rfl

theorem load_bytes {Pr : Nat → Prop} {xs : List Int} {cs : List Value} (h : RV Pr w (.list (.int .u8)) xs cs) :
    (Conv.bytesToString (valOf (.list (.int .u8)) cs)).run P w = .ok (.string (strOf (xs.map fun n => UInt8.ofNat n.toNat))) w := by
  obtain ⟨A, cap, rfl, h1, h2, h3⟩ := h.list_cells
  show (Conv.bytesToString (.slice A xs.length cap)).run P w = _
  cases A with
  | none =>
    have : xs.length = 0 := by
      apply Classical.byContradiction; intro hne
      obtain ⟨ad, ds, h4, _⟩ := h3 (by omega)
      cases h4
    have hx : xs = [] := List.eq_nil_of_length_eq_zero this
    subst hx
    simp [Conv.bytesToString, Sem.run_pure]
    rfl
  | some ad =>
    have hl : (loadCells ad xs.length).run P w = .ok (xs.map (Value.int .u8)).toArray w := by
      by_cases h0 : 0 < xs.length
      · obtain ⟨ad', ds, h4, h5, h6, h7⟩ := h3 h0
        cases h4
        have hd := rows_bytes h6
        subst hd
        have := run_loadCells_list (P := P) w ad (xs.map (Value.int .u8)) (fun j v hv => by
          obtain ⟨hj, rfl⟩ := List.getElem?_eq_some_iff.1 hv
          exact h7 j hj)
        simpa using this
      · have hx : xs = [] := List.eq_nil_of_length_eq_zero (by omega)
        subst hx
        simp [loadCells, loadCellsFrom, Sem.run_pure]
    rw [run_bytesToString w ad xs.length cap xs hl, bytes_foldl]
    congr 2

theorem grownBy_bytes (w : World) (e : TypeId) (s : ByteArray) : w.grownBy (Lib.bytesWorld w e s) none := by
  refine ⟨?_, ?_, ?_, by rw [Lib.bytesWorld_size]; omega, fun k hk _ => Lib.bytesWorld_at_old w e s k hk⟩ <;>
    simp [Lib.bytesWorld, World.freeze, World.alloc, World.drew, -World.alloc_eq, -World.drew_eq]

theorem rows_map_bytes {Pr : Nat → Prop} : ∀ (s : List UInt8), Rows (RV Pr w (.int .u8)) (s.map fun b => (b.toNat : Int)) (s.map fun b => Value.int .u8 b.toNat)
  | [] => .nil
  | b :: s => .cons (c := [Value.int .u8 b.toNat]) rfl (rows_map_bytes s)

end
end Go.Ev

namespace Go.Ev
open Go.RowKit
section
variable {Z : ZS} {E : Env} {N : Nat} {w0 : World} {Ow : OwS} {S S' D D' : Nat → Prop} {g g' : Mem} {G G' : Ghost} {a a' : Act} {w w' : World} {P : Program} {F : Fence} {n : Nat}

theorem getD_lt {α : Type} {xs : List α} {i : Nat} (h : i < xs.length) (z : α) : xs.getD i z = xs[i] := by
  simp [List.getD_eq_getElem?_getD, h]

theorem sound_index {ctx : Ctx} {i : Nat} {o : Oper} {T : Nat} {x k : Operand} (hE : TabOk P E.tab) (ho : o.op = .index T x k) : Sound E P ctx i o := by
  intro Z N w0 Ow S D g G a w F n f next Qp h hg hp ht hfr hdst hF _ hn
  simp only [plan, ho, Q.run_bind, Option.bind_eq_some_iff] at hp
  obtain ⟨d, hd, tt, htt, v, hv, p, hpk, hp⟩ := hp
  replace hd := sureD_some hd
  replace htt := ofO_some htt
  have hT := rd_told h hg hv
  have hk := rdInt_told h hg hpk
  have hs := (hE.ty _ _ htt).shape
  split at hp
  · rename_i s
    split at hp
    · rename_i he; subst he
      simp only [Q.run, Option.some.injEq] at hp
      subst hp
      simp only [Bool.and_eq_true, decide_eq_true_eq] at ht
      obtain ⟨h0, h1⟩ := ht
      have hlt : p.2.toNat < s.length := by omega
      refine wpIn_value hF (by rw [ho]; simp) (v := sval (.int .u8) ((s.getD p.2.toNat 0).toNat : Int)) ?_ (fillS (r := ⟨.int .u8, ((s.getD p.2.toNat 0).toNat : Int)⟩) h hdst hd rfl hn)
      simp only [ShapeOk] at hs
      have hx := hT.scal rfl
      have hb : (strOf s)[p.2.toNat]? = some (s.getD p.2.toNat 0) := by
        rw [getD_lt hlt]
        simp only [getElem?_def, strOf_size, hlt, dite_true]
        rfl
      simp only [execOp, ho, hx, hk, Instr.index, Sem.run_bind, asIntOf, Sem.run_pure, Result.andThen_ok, run_underlying hs, sval, h0, if_true, hb]
    · simp [Q.run] at hp
  · rename_i m t xs
    split at hp
    · rename_i he; subst he
      simp only [Q.run, Option.some.injEq] at hp
      subst hp
      simp only [Bool.and_eq_true, decide_eq_true_eq] at ht
      obtain ⟨e, h2, h3, h4, h5⟩ := hs
      obtain ⟨cs, h6, h7⟩ := hT.r (.box 0) (by simp)
      obtain ⟨h8, h9⟩ := h6
      have hlt : p.2.toNat < xs.length := by omega
      have h10 := h9.get (fun _ _ hc => hc.len) p.2.toNat hlt
      have h11 := h9.length (fun _ _ hc => hc.len)
      have h12 : p.2.toNat * t.sz + t.sz ≤ cs.length := by
        rw [h11]
        calc p.2.toNat * t.sz + t.sz = (p.2.toNat + 1) * t.sz := by rw [Nat.add_mul, Nat.one_mul]
          _ ≤ xs.length * t.sz := Nat.mul_le_mul_right _ hlt
      have h13 := part_run hE h3 (cs := cs.toArray) (o := p.2.toNat * t.sz) (by simpa using h12) (by simpa using h10)
      refine wpIn_value hF (by rw [ho]; simp) (v := valOf t ((cs.drop (p.2.toNat * t.sz)).take t.sz)) ?_ (fill1 (v := .dat t (List.getD xs p.2.toNat t.zero)) h hdst hd rfl trivial (by simp) ⟨_, by rw [getD_lt hlt]; exact h10, rfl⟩ hn)
      have hr : 0 ≤ p.2 ∧ p.2 < (m : Int) := ht
      simp only [execOp, ho, h7, hk, Instr.index, Sem.run_bind, asIntOf, Sem.run_pure, Result.andThen_ok, run_underlying h2, valOf, Ty.isAgg, if_true, if_pos hr, size_run h5, h13]
    · simp [Q.run] at hp
  · simp [Q.run] at hp

/-- An element of data that lies in memory. -/
theorem elem_at {Pr : Nat → Prop} {t : Ty} {xs : List t.den} {ds : List Value} (hr : Rows (RV Pr w t) xs ds) {b o : Nat} (hat : At w b o ds) {i : Nat} (hi : i < xs.length) :
    RV Pr w t xs[i] ((ds.drop (i * t.sz)).take t.sz) ∧ At w b (o + i * t.sz) ((ds.drop (i * t.sz)).take t.sz) := by
  refine ⟨hr.get (fun _ _ hc => hc.len) i hi, fun j hj => ?_⟩
  simp at hj
  have := hat (i * t.sz + j) (by omega)
  rw [Nat.add_assoc, this]
  simp

theorem root_told (h : Rel Z E N w0 Ow S D g G a w) {x : Operand} {v : AV} (hT : Told Z E S g G a w x v) {r : Root} (hr : (rootOf x v).run g = some r) :
    isRoot r.l ∧ S (stampOf v) ∧ g r.l = .own r.e r.t r.xs (stampOf v) ∧ r.n ≤ r.xs.length ∧ ∃ A cap, rootVal G a w r.l = .slice A r.xs.length cap ∧ r.xs.length ≤ cap ∧ a.eval x = .slice A r.n cap := by
  unfold rootOf at hr
  split at hr
  · rename_i e t xs st
    split at hr
    · rename_i s
      simp [Q.run] at hr
      subst hr
      obtain ⟨k, hk, hgk⟩ := hT.own e t xs st rfl
      cases hk
      obtain ⟨A, cap, h3, h4, _⟩ := (show OwnR _ _ _ _ _ _ _ from hT.r (.slot s) (fun _ _ _ _ _ => ⟨s, rfl, rfl⟩)).slice
      exact ⟨trivial, hT.stamp, hgk, Nat.le_refl _, A, cap, h3, h4, h3⟩
    · simp [Q.run] at hr
  · rename_i l st t n
    simp only [Q.run] at hr
    split at hr
    · rename_i e t' xs st' hgl
      split at hr
      · rename_i hst
        have := Nat.eq_of_beq_eq_true hst
        subst this
        split at hr
        · rename_i htt
          subst htt
          simp [Q.run] at hr
          subst hr
          obtain ⟨h1, h2⟩ := (hT.r (.box 0) (by simp)).2 e xs hgl
          obtain ⟨A, cap, h3, h4, _⟩ := (h.root hT.stamp.2 hgl).slice
          refine ⟨hT.stamp.2, hT.stamp.1, hgl, h1, A, cap, h3, h4, ?_⟩
          rw [h2, h3]; rfl
        · simp [Q.run] at hr
      · simp [Q.run] at hr
    · simp [Q.run] at hr
  · simp [Q.run] at hr

theorem own_addr {Pr : Nat → Prop} {gb : Option Nat} {e : Nat} {t : Ty} {xs : List t.den} {A : Option Addr} {m cap : Nat} (h : OwnR Pr w gb e t xs (.slice A m cap)) (h0 : 0 < xs.length) :
    ∃ b, A = some ⟨b, 0, none⟩ ∧ gb = some b ∧ ∃ cells, Rows (RV Pr w t) xs cells ∧ At w b 0 cells := by
  obtain ⟨_, cells, hr, ho, rfl⟩ := h
  rcases ho.2 with ⟨_, hn⟩ | ⟨g, cap, cur, hv, h2, h3, h4, h5, h6⟩
  · omega
  · cases hv
    refine ⟨g, rfl, rfl, cells, hr, fun j hj => ?_⟩
    have := ho.cells (g := g) rfl j cells[j] (List.getElem?_eq_getElem hj)
    rw [add_plain] at this
    exact this

theorem sound_indexAddr {ctx : Ctx} {i : Nat} {o : Oper} {T : Nat} {x k : Operand} (hE : TabOk P E.tab) (ho : o.op = .indexAddr T x k) : Sound E P ctx i o := by
  intro Z N w0 Ow S D g G a w F n f next Qp h hg hp ht hfr hdst hF hS0 hn
  simp only [plan, ho, indexAddrQ, Q.run_bind, Option.bind_eq_some_iff] at hp
  obtain ⟨d, hd, v, hv, tt, htt, p, hpk, hp⟩ := hp
  replace hd := sureD_some hd
  replace htt := ofO_some htt
  have hT := rd_told h hg hv
  have hk := rdInt_told h hg hpk
  have hs := (hE.ty _ _ htt).shape
  -- a slice's element
  have hrunS : ∀ (t : Ty) (A : Addr) (m c : Nat), tt = .list t → a.eval x = .slice (some A) m c → 0 ≤ p.2 → p.2 < (m : Int) → (execOp a.eval o).run P w = .ok (.value (.pointer (some (A.add (p.2.toNat * t.sz))))) w := by
    intro t A m c htl hx h0 h1
    subst htl
    obtain ⟨e, h2, _, h3, _, _, _, h4⟩ := hs
    simp only [execOp, ho, hx, hk, Instr.indexAt, Sem.run_bind, asIntOf, Sem.run_pure, Result.andThen_ok, run_underlying h2, if_pos (And.intro h0 h1), size_run (elem_size h4)]
  have hrunA : ∀ (m : Nat) (t : Ty) (A : Addr), tt = .arr m t → a.eval x = .pointer (some A) → 0 ≤ p.2 → p.2 < (m : Int) → (execOp a.eval o).run P w = .ok (.value (.pointer (some (A.add (p.2.toNat * t.sz))))) w := by
    intro m t A htl hx h0 h1
    subst htl
    obtain ⟨e, h2, h3, _, h4⟩ := hs
    simp only [execOp, ho, hx, hk, Instr.indexAt, Instr.sureAddr, Sem.run_bind, asIntOf, Sem.run_pure, Result.andThen_ok, run_underlying h2, if_pos (And.intro h0 h1), size_run h4]
  split at hp
  · rename_i t xs
    split at hp
    · rename_i he
      simp only [Q.run, Option.some.injEq] at hp
      subst hp
      simp only [Bool.and_eq_true, decide_eq_true_eq] at ht
      have hlt : p.2.toNat < xs.length := by omega
      obtain ⟨cs, h1, h2⟩ := hT.r (.box 0) (by simp)
      obtain ⟨A, cap, rfl, h3, h4, h5⟩ := h1.list_cells
      obtain ⟨ad, ds, rfl, h6, h7, h8⟩ := h5 (by omega)
      have hlen := h7.length (fun _ _ hc => hc.len)
      obtain ⟨e, h9, _, h10, hsz, _⟩ := (he ▸ hs : ShapeOk P E.tab T (.list t))
      have hdp : 0 < ds.length := by rw [hlen]; exact Nat.mul_pos (by omega) hsz
      have hsp : ad = ⟨ad.block, ad.off, none⟩ := by
        have := h8 0 hdp
        rw [show ad.add 0 = ad from by simp [Addr.add]] at this
        cases ad with
        | mk b o s =>
          cases s with
          | none => rfl
          | some s => simp [World.cell?] at this; split at this <;> simp at this
      have hat : At w ad.block ad.off ds := fun j hj => by
        have := h8 j hj
        rw [hsp, add_plain] at this
        exact this
      obtain ⟨h11, h12⟩ := elem_at h7 hat hlt
      refine wpIn_value hF (by rw [ho]; simp) (hrunS t ad xs.length cap he h2 ht.1 ht.2) (fill1 (v := .dptr t (xs.getD p.2.toNat t.zero) 0) h hdst hd rfl trivial (by simp) ⟨ad.block, ad.off + p.2.toNat * t.sz, _, by rw [getD_lt hlt]; exact h11, fun _ => h6, ?_, h12⟩ hn)
      rw [hsp, add_plain]; rfl
    · simp [Q.run] at hp
  · rename_i m t xs
    split at hp
    · rename_i he
      simp only [Q.run, Option.some.injEq] at hp
      subst hp
      simp only [Bool.and_eq_true, decide_eq_true_eq] at ht
      obtain ⟨b, c, cs, h1, h2, h3, h4⟩ := hT.r (.box 0) (by simp)
      obtain ⟨h5, h6⟩ := h1
      have hlt : p.2.toNat < xs.length := by omega
      obtain ⟨h11, h12⟩ := elem_at h6 h4 hlt
      refine wpIn_value hF (by rw [ho]; simp) (hrunA m t _ he h3 ht.1 ht.2) (fill1 (v := .dptr t (List.getD xs p.2.toNat t.zero) 0) h hdst hd rfl trivial (by simp) ⟨b, c + p.2.toNat * t.sz, _, by rw [getD_lt hlt]; exact h11, fun hne => h2 (fun e => hne (by rw [e]; simp)), ?_, h12⟩ hn)
      rw [add_plain]; rfl
    · simp [Q.run] at hp
  · rename_i b c
    simp only [Q.run] at hp
    split at hp
    · rename_i m t xs hcell
      split at hp
      · rename_i he
        simp only [Q.run, Option.some.injEq] at hp
        subst hp
        simp only [Bool.and_eq_true, decide_eq_true_eq] at ht
        obtain ⟨e, k', gb, h1, h2, h3⟩ := hT.r (.box 0) (by simp)
        obtain ⟨e', k2, gb', cur, h4, h5, h6, h7⟩ := h.cells b c (by rw [hcell]; simp)
        rw [h2] at h5
        cases h5
        refine wpIn_value hF (by rw [ho]; simp) (hrunA m t _ he h3 ht.1 ht.2) (fill1 (v := .eptr (.cell b c) 0 t p.2.toNat 0) h hdst hd rfl ⟨hS0.2, trivial⟩ (by simp) ⟨gb, c + p.2.toNat * t.sz, ?_, fun e xs hx => ?_, fun b' o' n xs hl hx => ?_, fun b' o' hl => by cases hl; exact ⟨e, k', h1⟩⟩ hn)
        · rw [add_plain]; rfl
        · rw [hcell] at hx; cases hx
        · cases hl
          exact ⟨e, k', h1, h2, rfl⟩
      · simp [Q.run] at hp
    · simp [Q.run] at hp
  · simp only [Q.run_bind, Option.bind_eq_some_iff] at hp
    obtain ⟨r, hr, hp⟩ := hp
    obtain ⟨h1, h2, h3, h4, A, cap, h5, h6, h7⟩ := root_told h hT hr
    split at hp
    · rename_i he
      simp only [Q.run, Option.some.injEq] at hp
      subst hp
      simp only [Bool.and_eq_true, decide_eq_true_eq] at ht
      have hroot := h.root h1 h3
      rw [h5] at hroot
      obtain ⟨b, rfl, h8, cells, h9, h10⟩ := own_addr hroot (by omega)
      refine wpIn_value hF (by rw [ho]; simp) (hrunS r.t _ r.n cap he h7 ht.1 ht.2) (fill1 (v := .eptr r.l (stampOf v) r.t p.2.toNat 0) h hdst hd rfl ⟨h2, h1⟩ (by simp) ⟨b, p.2.toNat * r.t.sz, ?_, fun e xs hx => ⟨h8, rfl⟩, fun b' o' n xs hl hx => ?_, fun b' o' hl => ?_⟩ hn)
      · rw [add_plain]; simp
      · rw [h3] at hx; cases hx
      · obtain ⟨e', n', _, _, k1, _⟩ := h.cells b' o' (by rw [← hl, h3]; simp)
        exact ⟨e', n', k1⟩
    · simp [Q.run] at hp

theorem bounds_run (h : Rel Z E N w0 Ow S D g G a w) {ctx : Ctx} (hg : (gcond ctx).run g = some true) {m : Nat} {lo hi : Option Operand} {p : Int × Int} (hb : (boundsQ E ctx m lo hi).run g = some p) (ht : sliceTest p.1 p.2 m = true) {cap : Nat} (hc : m ≤ cap) (b : Bool) :
    0 ≤ p.1 ∧ p.1 ≤ p.2 ∧ p.2 ≤ (m : Int) ∧ (lo = none → p.1 = 0) ∧ (Instr.sliceBounds b m cap (lo.map a.eval) (hi.map a.eval) none).run P w = .ok (p.1.toNat, p.2.toNat, cap) w := by
  simp only [sliceTest, Bool.and_eq_true, decide_eq_true_eq] at ht
  obtain ⟨⟨h0, h1⟩, h2⟩ := ht
  simp only [boundsQ, Q.run_bind, Option.bind_eq_some_iff] at hb
  obtain ⟨hv, hh, lv, hl, hp⟩ := hb
  simp only [Q.run, Option.some.injEq] at hp
  subst hp
  refine ⟨h0, h1, h2, fun e => ?_, ?_⟩
  · subst e; simp [Q.run] at hl; exact hl.symm
  have hhi : ∀ (code : BoundsCode), (match hi.map a.eval with | some v => Instr.sliceBound v cap code | none => pure m).run P w = .ok hv.toNat w := by
    intro code
    cases hi with
    | none => simp [Q.run] at hh; subst hh; simp [Sem.run_pure]
    | some o =>
      simp only [Q.run_bind, Option.bind_eq_some_iff, Q.run, Option.some.injEq] at hh
      obtain ⟨q, hq, rfl⟩ := hh
      simp only [Option.map_some, rdInt_told h hg hq]
      exact run_sliceBound w q.1 q.2 cap code (by dsimp only at h0 h1; omega) (by dsimp only at h2; omega)
  have hlo : ∀ (code : BoundsCode), (match lo.map a.eval with | some v => Instr.sliceBound v hv.toNat code | none => pure 0).run P w = .ok lv.toNat w := by
    intro code
    cases lo with
    | none => simp [Q.run] at hl; subst hl; simp [Sem.run_pure]
    | some o =>
      simp only [Q.run_bind, Option.bind_eq_some_iff, Q.run, Option.some.injEq] at hl
      obtain ⟨q, hq, rfl⟩ := hl
      simp only [Option.map_some, rdInt_told h hg hq]
      exact run_sliceBound w q.1 q.2 hv.toNat code h0 (by dsimp only at h0 h1; omega)
  unfold Instr.sliceBounds
  simp only [Sem.run_bind, Sem.run_pure, Result.andThen_ok]
  have h3 := hhi (if b then .sliceAcap else .sliceAlen)
  have h4 := hlo (if (none : Option Value).isSome = true then .slice3C else .sliceB)
  cases hi <;> cases lo <;> simp only [Option.map_none, Option.map_some] at h3 h4 ⊢ <;> simp only [Sem.run_bind, h3, h4, Result.andThen_ok, Sem.run_pure]
  all_goals
    simp only [Sem.run_pure, Result.ok.injEq, and_true] at h4
    rw [← h4]

theorem RV.cut {Pr : Nat → Prop} {t : Ty} {xs : List t.den} {A : Option Addr} {m cap : Nat} (h0t : 0 < t.sz) (h : RV Pr w (.list t) xs [.slice A m cap]) {l u : Nat} (hlu : l ≤ u) (hu : u ≤ xs.length) :
    RV Pr w (.list t) ((xs.take u).drop l) [.slice (if cap = l then A else A.map (·.add (l * t.sz))) (u - l) (cap - l)] := by
  obtain ⟨A', cap', he, h1, h2, h3⟩ := h
  simp at he
  obtain ⟨rfl, rfl, rfl⟩ := he
  have hl : ((xs.take u).drop l).length = u - l := by simp; omega
  refine ⟨_, cap - l, by rw [hl], by omega, by omega, fun h0 => ?_⟩
  rw [hl] at h0
  obtain ⟨ad, ds, rfl, h5, h6, h7⟩ := h3 (by omega)
  have hlen := h6.length (fun _ _ hc => hc.len)
  refine ⟨ad.add (l * t.sz), (ds.take (u * t.sz)).drop (l * t.sz), by rw [if_neg (by omega)]; rfl, ?_, (h6.take (fun _ _ hc => hc.len) u).drop (fun _ _ hc => hc.len) l, fun j hj => ?_⟩
  · unfold Addr.add; split <;> exact h5
  · have hdp : 0 < ds.length := by rw [hlen]; exact Nat.mul_pos (by omega) h0t
    have hsp : ad = ⟨ad.block, ad.off, none⟩ := by
      have := h7 0 hdp
      rw [show ad.add 0 = ad from by simp [Addr.add]] at this
      cases ad with
      | mk b o s =>
        cases s with
        | none => rfl
        | some s => simp [World.cell?] at this; split at this <;> simp at this
    have hj' : l * t.sz + j < ds.length := by simp at hj; omega
    have := h7 (l * t.sz + j) hj'
    rw [hsp] at this ⊢
    simp only [add_plain] at this ⊢
    rw [Nat.add_assoc, this]
    simp

theorem RV.recap {Pr : Nat → Prop} {t : Ty} {xs : List t.den} {A : Option Addr} {n cap : Nat} (h : RV Pr w (.list t) xs [.slice A n cap]) {m : Nat} (hm : m ≤ xs.length) : RV Pr w (.list t) (xs.take m) [.slice A m m] := by
  obtain ⟨A', cap', he, h1, h2, h3⟩ := h
  simp at he
  obtain ⟨rfl, rfl, rfl⟩ := he
  have hl : (xs.take m).length = m := by simp; omega
  refine ⟨A, m, by rw [hl], by omega, by omega, fun h0 => ?_⟩
  rw [hl] at h0
  obtain ⟨ad, ds, rfl, h5, h6, h7⟩ := h3 (by omega)
  refine ⟨ad, ds.take (m * t.sz), rfl, h5, h6.take (fun _ _ hc => hc.len) m, fun j hj => ?_⟩
  simp only [List.length_take] at hj
  rw [h7 j (by omega)]
  simp
theorem sound_slice {ctx : Ctx} {i : Nat} {o : Oper} {T : Nat} {x : Operand} {lo hi : Option Operand} (hE : TabOk P E.tab) (ho : o.op = .slice T x lo hi none) : Sound E P ctx i o := by
  intro Z N w0 Ow S D g G a w F n f next Qp h hg hp ht hfr hdst hF hS0 hn
  simp only [plan, ho, sliceQ, Q.run_bind, Option.bind_eq_some_iff] at hp
  obtain ⟨d, hd, v, hv, tt, htt, hp⟩ := hp
  replace hd := sureD_some hd
  replace htt := ofO_some htt
  have hT := rd_told h hg hv
  have hs := (hE.ty _ _ htt).shape
  have hrunS : ∀ (t : Ty) (A : Option Addr) (m c : Nat) (p : Int × Int), tt = .list t → a.eval x = .slice A m c → (Instr.sliceBounds true m c (lo.map a.eval) (hi.map a.eval) none).run P w = .ok (p.1.toNat, p.2.toNat, c) w →
      (execOp a.eval o).run P w = .ok (.value (.slice (if c = p.1.toNat then A else A.map (·.add (p.1.toNat * t.sz))) (p.2.toNat - p.1.toNat) (c - p.1.toNat))) w := by
    intro t A m c p htl hx hb
    subst htl
    obtain ⟨e, h2, _, h3, _, _, _, h4⟩ := hs
    simp only [execOp, ho, hx, Instr.sliceAt, Instr.slice, Sem.run_bind, Sem.run_pure, Result.andThen_ok, run_underlying h2, Option.map_none, hb, size_run (elem_size h4)]
  split at hp
  · rename_i s
    split at hp
    · rename_i he; subst he
      simp only [Q.run_bind, Option.bind_eq_some_iff] at hp
      obtain ⟨p, hpb, hp⟩ := hp
      simp only [Q.run, Option.some.injEq] at hp
      subst hp
      obtain ⟨h0, h1, h2, _, h3⟩ := bounds_run (P := P) h hg hpb ht (Nat.le_refl _) false
      simp only [ShapeOk] at hs
      have hx := hT.scal rfl
      refine wpIn_value hF (by rw [ho]; simp) (v := sval .str (cut s p.1 p.2)) ?_ (fillS (r := ⟨.str, cut s p.1 p.2⟩) h hdst hd rfl hn)
      have hext : (strOf s).extract p.1.toNat p.2.toNat = strOf (cut s p.1 p.2) := by
        apply WideShapes.bytes_inj
        simp [strOf, cut, List.extract_eq_take_drop, List.drop_take]
      simp only [execOp, ho, hx, Instr.sliceAt, Instr.slice, Sem.run_bind, Sem.run_pure, Result.andThen_ok, run_underlying hs, Option.map_none, sval, strOf_size, h3, Option.isSome_none, Bool.false_eq_true, if_false, hext]
    · simp [Q.run] at hp
  · rename_i t xs
    split at hp
    · rename_i he
      simp only [Q.run_bind, Option.bind_eq_some_iff] at hp
      obtain ⟨p, hpb, hp⟩ := hp
      simp only [Q.run, Option.some.injEq] at hp
      subst hp
      obtain ⟨cs, h6, h7⟩ := hT.r (.box 0) (by simp)
      obtain ⟨A, cap, rfl, h8, h9, _⟩ := h6.list_cells
      obtain ⟨h0, h1, h2, _, h3⟩ := bounds_run (P := P) h hg hpb ht h8 true
      obtain ⟨e, _, _, _, hsz, _⟩ := (he ▸ hs : ShapeOk P E.tab T (.list t))
      have h10 := h6.cut hsz (l := p.1.toNat) (u := p.2.toNat) (by omega) (by omega)
      exact wpIn_value hF (by rw [ho]; simp) (hrunS t A xs.length cap p he h7 h3) (fill1 (v := .dat (.list t) (Ev.cut xs p.1 p.2)) h hdst hd rfl trivial (by simp) ⟨_, h10, rfl⟩ hn)
    · simp [Q.run] at hp
  · rename_i b c
    split at hp
    · simp only [Q.run] at hp
      split at hp
      · rename_i m t xs hcell
        split at hp
        · rename_i he
          simp only [Q.run_bind, Option.bind_eq_some_iff] at hp
          obtain ⟨p, hpb, hp⟩ := hp
          simp only [Q.run, Option.some.injEq] at hp
          subst hp
          obtain ⟨h0, h1, h2, h4, h3⟩ := bounds_run (P := P) h hg hpb ht (Nat.le_refl _) false
          obtain ⟨e0, k0, gb, q1, q2, q3⟩ := hT.r (.box 0) (by simp)
          rw [Option.map_none] at h3
          have hp0 := h4 rfl
          have haz : (⟨gb, c, none⟩ : Addr).add 0 = ⟨gb, c, none⟩ := by simp [Addr.add]
          obtain ⟨el, u1, _, _, u4⟩ := (he ▸ hs : ShapeOk P E.tab T (.arr m t))
          refine wpIn_value hF (by rw [ho]; simp) (v := .slice (some ⟨gb, c, none⟩) p.2.toNat m) ?_ (fill1 (v := .aview b c 0 p.2.toNat) h hdst hd rfl trivial (by simp) ⟨e0, k0, gb, m, q1, q2, rfl⟩ hn)
          simp only [execOp, ho, q3, Instr.sliceAt, Instr.sureAddr, Sem.run_bind, Sem.run_pure, Result.andThen_ok, run_underlying u1, Option.map_none, h3, size_run u4, hp0, Int.toNat_zero, Nat.sub_zero, Nat.zero_mul, haz, ite_self]
        · simp [Q.run] at hp
      · simp [Q.run] at hp
    · simp only [Q.run] at hp
      split at hp
      · rename_i m t xs hcell
        split at hp
        · rename_i he
          obtain ⟨he, hsz1⟩ := he
          simp only [Q.run_bind, Option.bind_eq_some_iff] at hp
          obtain ⟨p, hpb, hp⟩ := hp
          simp only [Q.run, Option.some.injEq] at hp
          subst hp
          simp only [Bool.and_eq_true, decide_eq_true_eq] at ht
          obtain ⟨ht, hlt⟩ := ht
          obtain ⟨h0, h1, h2, _, h3⟩ := bounds_run (P := P) h hg hpb ht (Nat.le_refl _) false
          obtain ⟨e0, k0, gb, q1, q2, q3⟩ := hT.r (.box 0) (by simp)
          rw [Option.map_some] at h3
          obtain ⟨el, u1, _, _, u4⟩ := (he ▸ hs : ShapeOk P E.tab T (.arr m t))
          refine wpIn_value hF (by rw [ho]; simp) (v := .slice (some ⟨gb, c + p.1.toNat, none⟩) (p.2.toNat - p.1.toNat) (m - p.1.toNat)) ?_ (fill1 (v := .aview b c p.1.toNat (p.2.toNat - p.1.toNat)) h hdst hd rfl trivial (by simp) ⟨e0, k0, gb, _, q1, q2, rfl⟩ hn)
          have hne : ¬ m = p.1.toNat := by omega
          simp only [execOp, ho, q3, Instr.sliceAt, Instr.sureAddr, Sem.run_bind, Sem.run_pure, Result.andThen_ok, run_underlying u1, Option.map_some, Option.map_none, h3, size_run u4, hsz1, if_neg hne, Nat.mul_one, add_plain]
        · simp [Q.run] at hp
      · simp [Q.run] at hp
  · simp only [Q.run_bind, Option.bind_eq_some_iff] at hp
    obtain ⟨r, hr, hp⟩ := hp
    obtain ⟨h1, h2, h3, h4, A, cap, h5, h6, h7⟩ := root_told h hT hr
    split at hp
    · rename_i he
      simp only [Q.run_bind, Option.bind_eq_some_iff] at hp
      obtain ⟨p, hpb, hp⟩ := hp
      have htest : f.test = sliceTest p.1 p.2 r.n := by
        split at hp <;> simp only [Q.run, Option.some.injEq] at hp <;> rw [← hp]
      obtain ⟨h8, h9, h10, h11, h12⟩ := bounds_run (P := P) h hg hpb (htest ▸ ht) (cap := cap) (by omega) true
      have hrun := hrunS r.t A r.n cap p he h7 h12
      split at hp
      · simp only [Q.run, Option.some.injEq] at hp
        subst hp
        have hp0 := h11 rfl
        refine wpIn_value hF (by rw [ho]; simp) hrun (fill1 (v := .view r.l (stampOf _) r.t p.2.toNat) h hdst hd rfl ⟨h2, h1⟩ (by simp) ⟨⟨_, _, by rw [hp0]; rfl⟩, fun e xs hx => ?_⟩ hn)
        rw [h3] at hx
        simp only [AV.own.injEq] at hx
        obtain ⟨_, _, hx, _⟩ := hx
        cases hx
        refine ⟨by omega, ?_⟩
        rw [h5, hp0]
        simp only [prefixOf, Int.toNat_zero, Nat.sub_zero, Nat.zero_mul]
        congr 1
        split
        · rfl
        · cases A <;> simp [Addr.add]
      · simp only [Q.run, Option.some.injEq] at hp
        subst hp
        have hfz := h.freeze h1 h3
        have hroot := (h.root h1 h3).frozen (Pr' := free Z (G.upd r.l none) w) (fun b hb => free_of_upd_none hb) (fun b hb => ⟨(h.bnd r.l b hb).1, fun k e' => by
            by_cases hk : k = r.l
            · rw [hk, Ghost.upd_same] at e'; cases e'
            · rw [Ghost.upd_ne _ _ (Ne.symm hk)] at e'; exact hk (h.inj k r.l b e' hb), h.zow b (h.bnd r.l b hb).2⟩)
        rw [h5] at hroot
        obtain ⟨e, _, _, _, hsz, _⟩ := (he ▸ hs : ShapeOk P E.tab T (.list r.t))
        have hcut := hroot.cut hsz (l := p.1.toNat) (u := p.2.toNat) (by omega) (by omega)
        exact wpIn_value hF (by rw [ho]; simp) hrun (fillAfter (ws := [(r.l, .dat (.list r.t) r.xs)]) (v := .dat (.list r.t) (Ev.cut r.xs p.1 p.2)) hfz hdst hd rfl trivial (by simp) ⟨_, hcut, rfl⟩ hn)
    · simp [Q.run] at hp
theorem sound_slice3 {ctx : Ctx} {i : Nat} {o : Oper} {T : Nat} {x mx : Operand} {lo hi : Option Operand} (hE : TabOk P E.tab) (ho : o.op = .slice T x lo hi (some mx)) : Sound E P ctx i o := by
  intro Z N w0 Ow S D g G a w F n f next Qp h hg hp ht hfr hdst hF hS0 hn
  simp only [plan, ho, slice3Q, Q.run_bind, Option.bind_eq_some_iff] at hp
  obtain ⟨d, hd, v, hv, tt, htt, hp⟩ := hp
  replace hd := sureD_some hd
  replace htt := ofO_some htt
  have hT := rd_told h hg hv
  have hs := (hE.ty _ _ htt).shape
  split at hp
  · rename_i t xs
    split at hp
    · rename_i he
      obtain ⟨he, hhi⟩ := he
      simp only [Q.run_bind, Option.bind_eq_some_iff] at hp
      obtain ⟨p, hpb, q, hq, hp⟩ := hp
      simp only [Q.run, Option.some.injEq] at hp
      subst hp
      simp only [Bool.and_eq_true, decide_eq_true_eq] at ht
      obtain ⟨ht, h11, h12⟩ := ht
      obtain ⟨cs, h6, h7⟩ := hT.r (.box 0) (by simp)
      obtain ⟨A, cap, rfl, h8, h9, _⟩ := h6.list_cells
      have hx : a.eval x = .slice A xs.length cap := h7
      obtain ⟨h0, h1, h2, _, _⟩ := bounds_run (P := P) h hg hpb ht h8 true
      obtain ⟨e, hu, _, h3, hsz, _, _, h4⟩ := (he ▸ hs : ShapeOk P E.tab T (.list t))
      have hqe := rdInt_told h hg hq
      obtain ⟨qk, qi⟩ := q
      dsimp only at h11 h12 hqe
      have hrun : (Instr.sliceBounds true xs.length cap (lo.map a.eval) (hi.map a.eval) (some (a.eval mx))).run P w = .ok (p.1.toNat, p.2.toNat, qi.toNat) w := by
        simp only [boundsQ, Q.run_bind, Option.bind_eq_some_iff] at hpb
        obtain ⟨hv', hh, lv, hl, hpp⟩ := hpb
        simp only [Q.run, Option.some.injEq] at hpp
        subst hpp
        dsimp only at h0 h1 h2 h11
        cases hi with
        | none => cases hhi
        | some y =>
          simp only [Q.run_bind, Option.bind_eq_some_iff, Q.run, Option.some.injEq] at hh
          obtain ⟨z, hz, rfl⟩ := hh
          have hm := run_sliceBound (P := P) w qk qi cap .slice3Acap (by omega) (by omega)
          have hh' := run_sliceBound (P := P) w z.1 z.2 qi.toNat .slice3B (by omega) (by omega)
          unfold Instr.sliceBounds
          cases lo with
          | none =>
            simp [Q.run] at hl
            subst hl
            simp only [Option.map_some, Option.map_none, rdInt_told h hg hz, hqe, if_true, Sem.run_bind, hm, hh', Result.andThen_ok, Sem.run_pure, Int.toNat_zero]
          | some y' =>
            simp only [Q.run_bind, Option.bind_eq_some_iff, Q.run, Option.some.injEq] at hl
            obtain ⟨z', hz', rfl⟩ := hl
            have hl' := run_sliceBound (P := P) w z'.1 z'.2 z.2.toNat .slice3C (by omega) (by omega)
            simp only [Option.map_some, rdInt_told h hg hz, rdInt_told h hg hz', hqe, if_true, Sem.run_bind, hm, hh', hl', Option.isSome_some, Result.andThen_ok, Sem.run_pure]
      have h10 := (h6.recap (m := qi.toNat) (by omega)).cut hsz (l := p.1.toNat) (u := p.2.toNat) (by omega) (by simp; omega)
      rw [List.take_take, Nat.min_eq_left (by omega)] at h10
      refine wpIn_value hF (by rw [ho]; simp) (v := .slice (if qi.toNat = p.1.toNat then A else A.map (·.add (p.1.toNat * t.sz))) (p.2.toNat - p.1.toNat) (qi.toNat - p.1.toNat)) ?_ (fill1 (v := .dat (.list t) (Ev.cut xs p.1 p.2)) h hdst hd rfl trivial (by simp) ⟨_, h10, rfl⟩ hn)
      simp only [execOp, ho, hx, Instr.sliceAt, Instr.slice, Sem.run_bind, Sem.run_pure, Result.andThen_ok, run_underlying hu, Option.map_some, hrun, size_run (elem_size h4)]
    · simp [Q.run] at hp
  · simp [Q.run] at hp
end
end Go.Ev

namespace Go.Ev
open Go.RowKit
section
variable {Z : ZS} {E : Env} {N : Nat} {w0 : World} {Ow : OwS} {S S' D D' : Nat → Prop} {g g' : Mem} {G G' : Ghost} {a a' : Act} {w w' : World} {P : Program} {F : Fence} {n : Nat}

theorem isAgg_run (hE : TabOk P E.tab) {T : Nat} {t : Ty} (ht : E.tab.ty T = some t) (w : World) : (isAgg T).run P w = .ok t.isAgg w := by
  have hs := (hE.ty T t ht).shape
  have key : ∀ d, P.underlying T = some d → ((match d with | .struct _ | .array _ _ => true | _ => false) = t.isAgg) → (isAgg T).run P w = .ok t.isAgg w := by
    intro d hu ha
    simp only [isAgg, Sem.run_bind, run_underlying hu, Result.andThen_ok]
    rw [← ha]
    cases d <;> rfl
  cases t with
  | int k => exact key _ hs rfl
  | bool => exact key _ hs rfl
  | str => exact key _ hs rfl
  | unit => obtain ⟨fs, h1, _⟩ := hs; exact key _ h1 rfl
  | pair s u => obtain ⟨fs, h1, _⟩ := hs; exact key _ h1 rfl
  | list u => obtain ⟨e, h1, _⟩ := hs; exact key _ h1 rfl
  | arr m u => obtain ⟨e, h1, _⟩ := hs; exact key _ h1 rfl
  | err => obtain ⟨ms, h1⟩ := hs; exact key _ h1 rfl
  | bnd f u => obtain ⟨_, _, _, h1⟩ := hs; exact key _ h1 rfl

theorem notAgg_sz {t : Ty} (h : t.isAgg = false) : t.sz = 1 := by cases t <;> simp [Ty.isAgg] at h <;> rfl

theorem load_run (hE : TabOk P E.tab) {T : Nat} {t : Ty} (ht : E.tab.ty T = some t) {b o : Nat} {cs : List Value} (hat : At w b o cs) (hl : cs.length = t.sz) :
    (Instr.loadAt T (.pointer (some ⟨b, o, none⟩))).run P w = .ok (valOf t cs) w := by
  simp only [Instr.loadAt, Instr.sureAddr, Sem.run_bind, Sem.run_pure, Result.andThen_ok, loadVar, isAgg_run hE ht]
  cases hb : t.isAgg with
  | true =>
    have := run_loadCells_list (P := P) w ⟨b, o, none⟩ cs (fun j v hv => by
      obtain ⟨hj, rfl⟩ := List.getElem?_eq_some_iff.1 hv
      rw [add_plain]
      exact hat j hj)
    rw [hl] at this
    simp only [if_true, Sem.run_bind, size_of hE ht, Result.andThen_ok, this, Sem.run_pure, valOf, hb]
  | false =>
    have h1 := notAgg_sz hb
    match cs, hl, hat with
    | [c], _, hat =>
      have h2 := hat 0 (by simp)
      simp only [Nat.add_zero, List.getElem_cons_zero] at h2
      simp only [Bool.false_eq_true, if_false, run_load, h2, valOf, hb]
      rfl
    | [], hl, _ => simp [h1] at hl
    | _ :: _ :: _, hl, _ => simp [h1] at hl

/-- The cells of a block. -/
theorem at_block {b : Nat} {cur : Array Value} {e : Nat} {fr : Nat × Nat} (h : w.heap[b]? = some (.cells cur e fr)) {o k : Nat} (hk : o + k ≤ cur.size) : At w b o ((cur.toList.drop o).take k) ∧ ((cur.toList.drop o).take k).length = k := by
  have hl : ((cur.toList.drop o).take k).length = k := by simp; omega
  refine ⟨fun j hj => ?_, hl⟩
  rw [hl] at hj
  rw [cell_of_row w b (o + j) cur e fr h]
  simp [show o + j < cur.size by omega]

theorem sets_other {l : Loc} : ∀ {ws : List (Loc × AV)} {g : Mem}, (∀ p ∈ ws, p.1 ≠ l) → g.sets ws l = g l
  | [], _, _ => rfl
  | p :: r, g, h => by
    rw [Mem.sets_cons, sets_other (fun q hq => h q (by simp [hq])), Mem.upd_ne g _ (h p (by simp))]
theorem gather_reads {b : Nat} : ∀ {t : Ty} {o : Nat} {g : Mem}, ∀ l ∈ (gather b t o).reads g, ∃ j, l = .cell b j ∧ o ≤ j := by
  intro t
  induction t with
  | pair s t ih1 ih2 =>
    intro o g l hl
    simp only [gather, Q.reads_bind, List.mem_append] at hl
    rcases hl with hl | hl
    · exact ih1 l hl
    · split at hl
      · simp only [Q.reads_bind, List.mem_append] at hl
        rcases hl with hl | hl
        · obtain ⟨j, h1, h2⟩ := ih2 l hl
          exact ⟨j, h1, by omega⟩
        · split at hl <;> simp [Q.reads] at hl
      · simp at hl
  | unit => intro o g l hl; simp [gather, Q.reads] at hl
  | int | bool | str | list | arr | err | bnd =>
    intro o g l hl
    simp only [gather, Q.reads, List.mem_cons] at hl
    rcases hl with rfl | hl
    · exact ⟨o, rfl, Nat.le_refl _⟩
    · split at hl
      · simp only [castD] at hl; split at hl <;> simp [Q.reads, Q.bind] at hl
      · simp only [castD] at hl; split at hl <;> simp [Q.reads, Q.bind] at hl
      · simp [Q.reads] at hl
theorem gather_writes {b : Nat} : ∀ {t : Ty} {o : Nat} {g : Mem} {r : t.den × List (Loc × AV)}, (gather b t o).run g = some r → ∀ p ∈ r.2, ∃ j, p.1 = .cell b j ∧ o ≤ j ∧ j < o + t.sz := by
  intro t
  induction t with
  | pair s t ih1 ih2 =>
    intro o g r hr p hp
    simp only [gather, Q.run_bind, Option.bind_eq_some_iff] at hr
    obtain ⟨x, hx, y, hy, hr⟩ := hr
    simp only [Q.run, Option.some.injEq] at hr
    subst hr
    simp only [List.mem_append] at hp
    rcases hp with hp | hp
    · obtain ⟨j, h1, h2, h3⟩ := ih1 hx p hp
      exact ⟨j, h1, h2, by simp only [Ty.sz]; omega⟩
    · obtain ⟨j, h1, h2, h3⟩ := ih2 hy p hp
      exact ⟨j, h1, by omega, by simp only [Ty.sz]; omega⟩
  | unit => intro o g r hr p hp; simp [gather, Q.run] at hr; subst hr; simp at hp
  | int | bool | str | list | arr | err | bnd =>
    intro o g r hr p hp
    simp only [gather, Q.run] at hr
    split at hr
    · simp only [castD] at hr
      split at hr
      · simp [Q.run, Q.bind] at hr; subst hr; simp at hp
      · simp [Q.run, Q.bind] at hr
    · simp only [castD] at hr
      split at hr
      · rename_i htt
        simp [Q.run, Q.bind] at hr; subst hr
        simp only [List.mem_singleton] at hp
        subst hp
        refine ⟨o, rfl, Nat.le_refl _, ?_⟩
        rw [← htt]; simp [Ty.sz]
      · simp [Q.run, Q.bind] at hr
    · simp [Q.run] at hr

/-- **A load of a struct out of a box**: what was owned there is frozen. -/
theorem gather_frz {b : Nat} {e k gb : Nat} {cur : Array Value} (hgb : G (.box b) = some gb) (hcur : w.heap[gb]? = some (.cells cur e (0, 0))) :
    ∀ {t : Ty} {o : Nat} {g : Mem} {G : Ghost} {r : t.den × List (Loc × AV)}, Rel Z E N w0 Ow S D g G a w → g (.box b) = .bx e k → G (.box b) = some gb → (gather b t o).run g = some r →
      ∃ G1, Rel Z E N w0 Ow S D (g.sets r.2) G1 a w ∧ RV (free Z G1 w) w t r.1 ((cur.toList.drop o).take t.sz) ∧ (t.sz = 0 ∨ o + t.sz ≤ cur.size) ∧ (∀ b, free Z G w b → free Z G1 w b) ∧ g.sets r.2 (.box b) = .bx e k ∧ G1 (.box b) = some gb ∧
        (∀ l, (∀ e t xs s, g l ≠ .own e t xs s) → g.sets r.2 l = g l) := by
  have leaf : ∀ {t : Ty} {o : Nat} {g : Mem} {G : Ghost} {r : t.den × List (Loc × AV)}, Rel Z E N w0 Ow S D g G a w → g (.box b) = .bx e k → G (.box b) = some gb → 
      (Q.ask (.cell b o) (fun
        | .dat t' x => (castD t' t x).bind fun x => .pure (x, [])
        | .own _ t' xs _ => (castD (.list t') t xs).bind fun x => .pure (x, [(.cell b o, .dat t x)])
        | _ => .fail)).run g = some r →
      ∃ G1, Rel Z E N w0 Ow S D (g.sets r.2) G1 a w ∧ RV (free Z G1 w) w t r.1 ((cur.toList.drop o).take t.sz) ∧ (t.sz = 0 ∨ o + t.sz ≤ cur.size) ∧ (∀ b, free Z G w b → free Z G1 w b) ∧ g.sets r.2 (.box b) = .bx e k ∧ G1 (.box b) = some gb ∧
        (∀ l, (∀ e t xs s, g l ≠ .own e t xs s) → g.sets r.2 l = g l) := by
    intro t o g G r h hb hG hr
    simp only [Q.run] at hr
    split at hr
    · rename_i t' x hc
      simp only [castD] at hr
      split at hr
      · rename_i htt; cases htt
        simp [Q.run, Q.bind] at hr
        subst hr
        obtain ⟨e2, n2, gb2, cur2, h3, h4, h5, h6⟩ := h.cells b o (by rw [hc]; simp)
        rw [hG] at h4; cases h4
        rw [hcur] at h5; cases h5
        rw [hc] at h6
        exact ⟨G, h, h6.2, .inr h6.1, fun _ hb => hb, hb, hG, fun _ _ => rfl⟩
      · simp [Q.run, Q.bind] at hr
    · rename_i e' t' xs s hc
      simp only [castD] at hr
      split at hr
      · rename_i htt; cases htt
        simp [Q.run, Q.bind] at hr
        subst hr
        have h1 := h.freeze (l := .cell b o) trivial hc
        obtain ⟨e2, n2, gb2, cur2, h3, h4, h5, h6⟩ := h1.cells b o (by rw [Mem.upd_same]; simp)
        rw [Ghost.upd_ne _ _ (by simp), hG] at h4; cases h4
        rw [hcur] at h5; cases h5
        rw [Mem.upd_same] at h6
        refine ⟨_, h1, h6.2, .inr h6.1, fun b hb => free_of_upd_none hb, ?_, ?_, fun l hl => ?_⟩
        · rw [show (g.sets [(Loc.cell b o, AV.dat (.list t') xs)]) (.box b) = g (.box b) from sets_other (by simp)]; exact hb
        · rw [Ghost.upd_ne _ _ (by simp)]; exact hG
        · refine Mem.upd_ne g _ (fun e' => ?_)
          subst e'; exact hl _ _ _ _ hc
      · simp [Q.run, Q.bind] at hr
    · simp [Q.run] at hr
  intro t
  induction t with
  | pair s t ih1 ih2 =>
    intro o g G r h hb hG hr
    simp only [gather, Q.run_bind, Option.bind_eq_some_iff] at hr
    obtain ⟨x, hx, y, hy, hr⟩ := hr
    simp only [Q.run, Option.some.injEq] at hr
    subst hr
    obtain ⟨G1, h1, h2, h3, h4, h5, h6, h7⟩ := ih1 h hb hG hx
    have hy' : (gather b t (o + s.sz)).run (g.sets x.2) = some y := by
      rw [← hy]
      refine (Q.congr _ (fun l hl => sets_other (fun p hp e' => ?_))).1
      obtain ⟨j, k1, k2⟩ := gather_reads l hl
      obtain ⟨j', k3, k4, k5⟩ := gather_writes hx p hp
      rw [k3, k1] at e'
      cases e'
      omega
    obtain ⟨G2, k1, k2, k3, k4, k5, k6, k7⟩ := ih2 h1 h5 h6 hy'
    refine ⟨G2, ?_, ?_, ?_, fun b hb => k4 b (h4 b hb), ?_, k6, fun l hl => ?_⟩
    · simp only [Mem.sets_append]; exact k1
    · refine ⟨_, _, ?_, h2.keep (fun _ _ => rfl) k4, k2⟩
      simp only [Ty.sz]
      rw [List.take_add, List.drop_drop]
    · simp only [Ty.sz]; omega
    · simp only [Mem.sets_append]; exact k5
    · simp only [Mem.sets_append]
      have e1 := h7 l hl
      rw [k7 l (by rw [e1]; exact hl), e1]
  | unit =>
    intro o g G r h hb hG hr
    simp [gather, Q.run] at hr
    subst hr
    exact ⟨G, h, by simp [Ty.sz, RV], .inl rfl, fun _ hb => hb, hb, hG, fun _ _ => rfl⟩
  | int q => exact leaf
  | bool => exact leaf
  | str => exact leaf
  | list t _ => exact leaf
  | arr m t _ => exact leaf
  | err => exact leaf
  | bnd f t _ => exact leaf

theorem elem_told {l : Loc} {st : Nat} {t : Ty} {v : AV} {r : List t.den × (List t.den → AV)} (hr : (elemQ l st t v).run g = some r) :
    (∃ e, v = .own e t r.1 st ∧ ∀ ys, r.2 ys = .own e t ys st) ∨ (∃ b o m, l = .cell b o ∧ v = .dat (.arr m t) r.1 ∧ ∀ ys, r.2 ys = .dat (.arr m t) ys) := by
  unfold elemQ at hr
  split at hr
  · split at hr
    · rename_i hs
      have := Nat.eq_of_beq_eq_true hs
      subst this
      split at hr
      · rename_i htt
        subst htt
        simp [Q.run] at hr
        subst hr
        exact .inl ⟨_, rfl, fun _ => rfl⟩
      · simp [Q.run] at hr
    · simp [Q.run] at hr
  · split at hr
    · rename_i hl
      split at hr
      · rename_i htt
        subst htt
        simp [Q.run] at hr
        subst hr
        cases l <;> simp [isCell] at hl
        exact .inr ⟨_, _, _, rfl, rfl, fun _ => rfl⟩
      · simp [Q.run] at hr
    · simp [Q.run] at hr
  · simp [Q.run] at hr

/-- Where an element lies. -/
theorem eptr_at (h : Rel Z E N w0 Ow S D g G a w) {l : Loc} (hl : isRoot l) {st : Nat} {t : Ty} {i o : Nat} {val : Value} {k : Loc} (hv : AVR Z g G a w (.eptr l st t i o) k val) {r : List t.den × (List t.den → AV)} (hr : (elemQ l st t (g l)).run g = some r) (hi : i < r.1.length) :
    ∃ bb cc, val = .pointer (some ⟨bb, cc + o, none⟩) ∧ ∃ cs, RV (free Z G w) w t r.1[i] cs ∧ At w bb cc cs := by
  obtain ⟨bb, cc, h1, h2, h3, _⟩ := hv
  refine ⟨bb, cc, h1, ?_⟩
  rcases elem_told hr with ⟨e, h4, _⟩ | ⟨b, c, m, rfl, h4, _⟩
  · obtain ⟨h5, h6⟩ := h2 e _ h4
    subst h6
    have h7 := h.root hl h4
    obtain ⟨A, cap, h8, _⟩ := h7.slice
    rw [h8] at h7
    obtain ⟨b, rfl, h9, cells, h10, h11⟩ := own_addr h7 (by omega)
    rw [h5] at h9
    cases h9
    obtain ⟨h12, h13⟩ := elem_at h10 h11 hi
    exact ⟨_, h12, by simpa using h13⟩
  · obtain ⟨e, m', h5, h6, h7⟩ := h3 b c m _ rfl h4
    subst h7
    obtain ⟨e2, n2, gb2, cur2, k3, k4, k5, k6⟩ := h.cells b c (by rw [h4]; simp)
    rw [h6] at k4
    cases k4
    rw [h4] at k6
    obtain ⟨k7, k8⟩ := k6
    obtain ⟨k9, k10⟩ := at_block k5 k7
    obtain ⟨h12, h13⟩ := elem_at k8.2 k9 hi
    exact ⟨_, h12, h13⟩

theorem sub_at {Pr : Nat → Prop} {t : Ty} {x : t.den} {cs : List Value} {b k o : Nat} {u : Ty} {y : u.den} (h : RV Pr w t x cs) (hat : At w b k cs) (hs : t.sub x o u = some y) :
    ∃ ds, RV Pr w u y ds ∧ At w b (k + o) ds := by
  obtain ⟨h1, h2⟩ := h.sub_ hs
  refine ⟨_, h2, fun j hj => ?_⟩
  simp at hj
  have := hat (o + j) (by omega)
  rw [Nat.add_assoc, this]
  simp

theorem sound_load {ctx : Ctx} {i : Nat} {o : Oper} {T : Nat} {x : Operand} (hE : TabOk P E.tab) (hnr : E.tab.ref T = none) (ho : o.op = .load T x) : Sound E P ctx i o := by
  intro Z N w0 Ow S D g G a w F n f next Qp h hg hp ht hfr hdst hF hS0 hn
  simp only [plan, ho, hnr, Q.run_bind, Option.bind_eq_some_iff] at hp
  obtain ⟨d, hd, v, hv, hp⟩ := hp
  replace hd := sureD_some hd
  have hT := rd_told h hg hv
  unfold loadQ at hp
  split at hp
  · rename_i b c
    simp only [Q.run_bind, Option.bind_eq_some_iff] at hp
    obtain ⟨t, htt, hp⟩ := hp
    replace htt := ofO_some htt
    obtain ⟨e, k, gb, h1, h2, h3⟩ := hT.r (.box 0) (by simp)
    obtain ⟨gb', cur, h4, h5, h6⟩ := h.boxes b e k h1
    rw [h2] at h4; cases h4
    split at hp
    · rename_i hpair
      simp only [Q.run_bind, Option.bind_eq_some_iff] at hp
      obtain ⟨r, hr, hp⟩ := hp
      simp only [Q.run, Option.some.injEq] at hp
      subst hp
      obtain ⟨G1, k1, k2, k3, k4, k5, k6, k7⟩ := gather_frz h2 h5 h h1 h2 hr
      have hrun : (Instr.loadAt T (.pointer (some ⟨gb, c, none⟩))).run P w = .ok (valOf t ((cur.toList.drop c).take t.sz)) w := by
        refine load_run hE htt ?_ k2.len
        rcases k3 with k3 | k3
        · intro j hj; rw [k3] at hj; simp at hj
        · exact (at_block h5 k3).1
      refine wpIn_value hF (by rw [ho]; simp) (v := valOf t ((cur.toList.drop c).take t.sz)) ?_ (fillAfter (v := .dat t r.1) k1 hdst hd rfl trivial (by simp) ⟨_, k2, rfl⟩ hn)
      simp only [execOp, ho, h3, Sem.run_bind, hrun, Result.andThen_ok, Sem.run_pure]
    · simp only [Q.run] at hp
      split at hp
      · rename_i t' y hc
        split at hp
        · rename_i he; subst he
          simp only [Q.run, Option.some.injEq] at hp
          subst hp
          obtain ⟨e2, n2, gb2, cur2, k3, k4, k5, k6⟩ := h.cells b c (by rw [hc]; simp)
          rw [h2] at k4; cases k4
          rw [hc] at k6
          obtain ⟨k7, k8⟩ := k6
          obtain ⟨k9, k10⟩ := at_block k5 k7
          have hrun := load_run hE htt k9 k10
          refine wpIn_value hF (by rw [ho]; simp) ?_ (fill1 (v := .dat t' y) h hdst hd rfl trivial (by simp) ⟨_, k8, rfl⟩ hn)
          simp only [execOp, ho, h3, Sem.run_bind, hrun, Result.andThen_ok, Sem.run_pure]
        · simp [Q.run] at hp
      · rename_i e' t' xs st hc
        split at hp
        · rename_i he; subst he
          simp only [Q.run, Option.some.injEq] at hp
          subst hp
          obtain ⟨e2, n2, gb2, cur2, k3, k4, k5, k6⟩ := h.cells b c (by rw [hc]; simp)
          rw [h2] at k4; cases k4
          rw [hc] at k6
          obtain ⟨k7, k8⟩ := k6
          have h11 : (cur2.toList.drop c).take (Ty.list t').sz = [cur2.getD c undef] := by
            rw [List.drop_eq_getElem_cons (by simpa using k7)]
            simp [Ty.sz, Array.getD_eq_getD_getElem?, k7]
          obtain ⟨k9, k10⟩ := at_block (k := (Ty.list t').sz) (o := c) k5 (by show c + 1 ≤ _; omega)
          have hrun := load_run hE htt k9 k10
          rw [h11] at hrun
          have hst : S st := by have := h.stamps (.cell b c); rw [hc] at this; exact this
          have hrv : rootVal G a w (.cell b c) = cur2.getD c undef := by
            simp only [rootVal, h2]
            rw [cell_of_row w gb c cur2 e2 (0, 0) k5]
            exact Array.getD_eq_getD_getElem? .. |>.symm
          obtain ⟨A, cap, k11, _⟩ := (show OwnR _ _ _ _ _ _ _ from k8).slice
          refine wpIn_value hF (by rw [ho]; simp) ?_ (fill1 (v := .view (.cell b c) st t' xs.length) (val := cur2.getD c undef) h hdst hd rfl ⟨hst, trivial⟩ (by simp) ⟨⟨A, cap, k11⟩, fun e1 xs1 hx => ?_⟩ hn)
          · simp only [execOp, ho, h3, Sem.run_bind, hrun, Result.andThen_ok, Sem.run_pure]
            rfl
          · rw [hc] at hx
            simp only [AV.own.injEq] at hx
            obtain ⟨_, _, hx, _⟩ := hx
            cases hx
            refine ⟨Nat.le_refl _, ?_⟩
            rw [hrv, k11]; rfl
        · simp [Q.run] at hp
      · simp [Q.run] at hp
  · rename_i l st t j c
    simp only [Q.run_bind, Option.bind_eq_some_iff] at hp
    obtain ⟨u, hu, hp⟩ := hp
    replace hu := ofO_some hu
    simp only [Q.run, Q.run_bind, Option.bind_eq_some_iff] at hp
    obtain ⟨r, hr, y, hy, hp⟩ := hp
    replace hy := ofO_some hy
    simp only [Option.some.injEq] at hp
    subst hp
    simp only [decide_eq_true_eq] at ht
    obtain ⟨bb, cc, h1, cs, h2, h3⟩ := eptr_at h hT.stamp.2 (hT.r (.box 0) (by simp)) hr ht
    rw [getD_lt ht] at hy
    obtain ⟨ds, h4, h5⟩ := sub_at h2 h3 hy
    have hrun := load_run hE hu h5 h4.len
    refine wpIn_value hF (by rw [ho]; simp) (v := valOf u ds) ?_ (fill1 (v := .dat u y) h hdst hd rfl trivial (by simp) ⟨_, h4, rfl⟩ hn)
    simp only [execOp, ho, h1, Sem.run_bind, hrun, Result.andThen_ok, Sem.run_pure]
  · rename_i t y c
    simp only [Q.run_bind, Option.bind_eq_some_iff] at hp
    obtain ⟨u, hu, z, hz, hp⟩ := hp
    replace hu := ofO_some hu
    replace hz := ofO_some hz
    simp only [Q.run, Option.some.injEq] at hp
    subst hp
    obtain ⟨b, k, cs, h1, h2, h3, h4⟩ := hT.r (.box 0) (by simp)
    obtain ⟨ds, h5, h6⟩ := sub_at h1 h4 hz
    have hrun := load_run hE hu h6 h5.len
    refine wpIn_value hF (by rw [ho]; simp) (v := valOf u ds) ?_ (fill1 (v := .dat u z) h hdst hd rfl trivial (by simp) ⟨_, h5, rfl⟩ hn)
    simp only [execOp, ho, h3, Sem.run_bind, hrun, Result.andThen_ok, Sem.run_pure]
  · simp [Q.run] at hp
end
end Go.Ev
