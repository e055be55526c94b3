/- What the functions of the program compute. -/
import Derived.Test.YtockaglkljgnhaaDoorEv4
import Derived.Lib.Join
import Derived.Test.YtockaglkljgnhaaDoorProg
import Derived.Shelf.Strings.OnBuilder
import Derived.Shelf.Slices.ReverseS
import Derived.Ground.NamesProg
import Derived.Ground.Names2Prog
set_option linter.unusedSimpArgs false
set_option linter.unusedVariables false
set_option linter.deprecated false
namespace Go.Ev.D
open Go Go.Proofs Go.Ev
def P65 (l : List (List UInt8)) (s : List UInt8) : Bool := decide (l.length ≤ 100000) && decide ((Lib.join l s).length ≤ 100000000)
def F65 (l : List (List UInt8)) (s : List UInt8) : List UInt8 := Lib.join l s
def spec65 : Spec := ⟨[.list .str, .str], [.dat .str], fun | [a0, a1] => P65 (a0.as (.list .str)) (a1.as .str) | _ => false, fun | [a0, a1] => [⟨.str, F65 (a0.as (.list .str)) (a1.as .str)⟩] | _ => []⟩
def in41 : InSpec := ⟨9, .str, fun xs => some xs.reverse⟩
end Go.Ev.D

namespace Go.Proofs
open Go.Shelf
def Tryd.laysJoin_ren : Go.Shelf.Ren := ⟨fun | 156 => 65 | 165 => 74 | 166 => 75 | 169 => 76 | 240 => 78 | 241 => 79 | 276 => 80 | 277 => 81 | n => n, fun | 31 => 22 | 9 => 9 | 3 => 3 | 4 => 4 | 0 => 0 | 20 => 20 | 72 => 100 | 76 => 104 | 70 => 98 | 37 => 46 | 75 => 103 | 127 => 106 | 164 => 107 | 5 => 5 | 80 => 76 | n => n, fun | n => n⟩
theorem Tryd.laysJoin : Go.Proofs.Lays.n156 Tryd.prog Tryd.laysJoin_ren := {
  mixed := by kernel_rfl
  f156 := Tryd.func65.trans (congrArg some (by kernel_rfl))
  f165 := Tryd.func74.trans (congrArg some (by kernel_rfl))
  f166 := Tryd.func75.trans (congrArg some (by kernel_rfl))
  f169 := Tryd.func76.trans (congrArg some (by kernel_rfl))
  f240 := Tryd.func78.trans (congrArg some (by kernel_rfl))
  f241 := Tryd.func79.trans (congrArg some (by kernel_rfl))
  f276 := Tryd.func80.trans (congrArg some (by kernel_rfl))
  f277 := Tryd.func81.trans (congrArg some (by kernel_rfl))
  t0 := Tryd.underlying0
  a0 := Tryd.isAgg0
  z0 := Tryd.sizeOf0
  v0 := Tryd.zeroValue0
  t3 := Tryd.underlying3
  a3 := Tryd.isAgg3
  z3 := Tryd.sizeOf3
  v3 := Tryd.zeroValue3
  t4 := Tryd.underlying4
  a4 := Tryd.isAgg4
  z4 := Tryd.sizeOf4
  v4 := Tryd.zeroValue4
  t9 := Tryd.underlying9
  a9 := Tryd.isAgg9
  z9 := Tryd.sizeOf9
  v9 := Tryd.zeroValue9
  t20 := Tryd.underlying20
  a20 := Tryd.isAgg20
  z20 := Tryd.sizeOf20
  v20 := Tryd.zeroValue20
  t31 := Tryd.underlying22
  a31 := Tryd.isAgg22
  z31 := Tryd.sizeOf22
  v31 := Tryd.zeroValue22
  t37 := Tryd.underlying46
  a37 := Tryd.isAgg46
  z37 := Tryd.sizeOf46
  v37 := Tryd.zeroValue46
  t70 := Tryd.underlying98
  a70 := Tryd.isAgg98
  z70 := Tryd.sizeOf98
  v70 := Tryd.zeroValue98
  t72 := Tryd.underlying100
  a72 := Tryd.isAgg100
  z72 := Tryd.sizeOf100
  v72 := Tryd.zeroValue100
  t75 := Tryd.underlying103
  a75 := Tryd.isAgg103
  z75 := Tryd.sizeOf103
  v75 := Tryd.zeroValue103
  t76 := Tryd.underlying104
  a76 := Tryd.isAgg104
  z76 := Tryd.sizeOf104
  v76 := Tryd.zeroValue104
  t127 := Tryd.underlying106
  a127 := Tryd.isAgg106
  z127 := Tryd.sizeOf106
  v127 := Tryd.zeroValue106
  t164 := Tryd.underlying107
  a164 := Tryd.isAgg107
  z164 := Tryd.sizeOf107
  v164 := Tryd.zeroValue107 }
def Tryd.laysRev_ren : Go.Shelf.Ren := ⟨fun | 17 => 41 | n => n, fun | 24 => 22 | 9 => 9 | 3 => 3 | 4 => 4 | 0 => 0 | n => n, fun | n => n⟩
theorem Tryd.laysRev : Go.Proofs.Lays2.n17 Tryd.prog Tryd.laysRev_ren := {
  mixed := by kernel_rfl
  f17 := Tryd.func41.trans (congrArg some (by kernel_rfl))
  t0 := Tryd.underlying0
  a0 := Tryd.isAgg0
  z0 := Tryd.sizeOf0
  v0 := Tryd.zeroValue0
  t3 := Tryd.underlying3
  a3 := Tryd.isAgg3
  z3 := Tryd.sizeOf3
  v3 := Tryd.zeroValue3
  t4 := Tryd.underlying4
  a4 := Tryd.isAgg4
  z4 := Tryd.sizeOf4
  v4 := Tryd.zeroValue4
  t9 := Tryd.underlying9
  a9 := Tryd.isAgg9
  z9 := Tryd.sizeOf9
  v9 := Tryd.zeroValue9
  t24 := Tryd.underlying22
  a24 := Tryd.isAgg22
  z24 := Tryd.sizeOf22
  v24 := Tryd.zeroValue22 }
theorem Tryd.extraJoin : Builder.Extra Tryd.prog Tryd.laysJoin_ren := {
  sizeBuilder := by kernel_rfl
  liesBuilder := by kernel_rfl
  t5 := Tryd.underlying5
  a5 := Tryd.isAgg5
  z5 := Tryd.sizeOf5
  v5 := Tryd.zeroValue5
  infoByte := by kernel_rfl
  cellsByte := by kernel_rfl
  sizeByte := by kernel_rfl
  neB5 := by decide }
end Go.Proofs
namespace Go.Ev.D
open Go Go.Proofs Go.Ev Go.RowKit
theorem rows_strs {Pr : Nat → Prop} {w : World} : ∀ {xs : List (List UInt8)} {ds : List Value}, Rows (RV Pr w .str) xs ds → ds = xs.map fun s => Value.string (strOf s)
  | _, _, .nil => rfl
  | _, _, .cons h t => by
    simp only [RV] at h
    subst h
    rw [rows_strs t]; rfl
theorem rows_of_strs {Pr : Nat → Prop} {w : World} : ∀ (xs : List (List UInt8)), Rows (RV Pr w .str) xs (xs.map fun s => Value.string (strOf s))
  | [] => .nil
  | x :: xs => .cons (c := [Value.string (strOf x)]) rfl (rows_of_strs xs)
theorem join_meets (glob : Nat → Option Dat) : Meets Tryd.prog glob 65 spec65 := by
  refine ⟨Tryd.call65, fun w Pr ds args hPr _ hds hA hpre => ?_⟩
  obtain ⟨x0, ds0, rfl, h0⟩ := datsS hds
  obtain ⟨x1, ds1, rfl, h1⟩ := datsS h0
  have h9 := dats0 h1; subst h9
  match args, hA with
  | [v0, v1], hA =>
    obtain ⟨⟨c0, r0, rfl⟩, ⟨c1, r1, rfl⟩, _⟩ := hA
    have hp : P65 x0 x1 = true := hpre
    simp only [P65, Bool.and_eq_true, decide_eq_true_eq] at hp
    obtain ⟨hp1, hp2⟩ := hp
    simp only [RV] at r1
    subst r1
    obtain ⟨A, cap, rfl, hc, hm, hr⟩ := r0.list_cells
    have fin : ∀ (e : Ending) (w' : World), e = .returned (.string ⟨(Lib.join x0 x1).toArray⟩) → Below w.heap.size w w' → ∃ vs, e = .returned (retVal vs) ∧ w.grownBy w' none ∧ ResOK Pr w.heap.size w' spec65.results (spec65.val [⟨.list .str, x0⟩, ⟨.str, x1⟩]) vs := by
      intro e w' he hb
      refine ⟨[.string (strOf (Lib.join x0 x1))], he, ⟨hb.os, hb.tape, hb.output, hb.size, fun k hk _ => hb.block k hk⟩, rfl, ?_, ?_⟩
      · intro i k hi
        match i, hi with
        | 0, hi => cases hi; exact ⟨[.string (strOf (Lib.join x0 x1))], rfl, rfl⟩
        | i + 1, hi => cases hi
      · intro i j e t e' t' b hi hj
        match i, hi with
        | 0, hi => cases hi
        | i + 1, hi => cases hi
    show Calls Tryd.prog 65 #[.slice A x0.length cap, .string (strOf x1)] w _
    by_cases hx : 0 < x0.length
    · obtain ⟨ad, ds, rfl, h5, h6, h7⟩ := hr hx
      have hd := rows_strs h6
      subst hd
      have hsp : ad = ⟨ad.block, ad.off, none⟩ := by
        have := h7 0 (by simpa using hx)
        rw [show ad.add 0 = ad from by simp [Addr.add]] at this
        cases ad with
        | mk b o s =>
          cases s with
          | none => rfl
          | some s => simp [World.cell?] at this; split at this <;> simp at this
      obtain ⟨bk, o, rfl⟩ : ∃ bk o, ad = ⟨bk, o, none⟩ := ⟨_, _, hsp⟩
      have hmap : (x0.map strOf).map (·.data.toList) = x0 := by rw [List.map_map]; exact List.map_id'' (fun _ => rfl) _
      have hj := Any.strings_Join Tryd.laysJoin Tryd.extraJoin bk o cap (x0.map strOf) (strOf x1) w (fun j x hj => by
        rw [List.getElem?_map, Option.map_eq_some_iff] at hj
        obtain ⟨y, hy, rfl⟩ := hj
        obtain ⟨hjl, hy'⟩ := List.getElem?_eq_some_iff.1 hy
        have := h7 j (by simpa using hjl)
        rw [add_plain] at this
        rw [this]
        simp [hy']) (hPr _ h5) (by simp; omega) (by simpa using hc) (by rw [hmap]; show (Lib.join x0 x1).length ≤ _; omega)
      rw [List.length_map, hmap] at hj
      exact Calls.mono hj fun e w' h => fin e w' h.1 h.2
    · have hx0 : x0 = [] := List.eq_nil_of_length_eq_zero (by omega)
      subst hx0
      exact Calls.mono (Any.strings_Join_none Tryd.laysJoin Tryd.extraJoin A cap (strOf x1) w) fun e w' h => fin e w' h.1 (h.2 ▸ Below.refl _ _)
theorem reverse_core (w : World) (Pr : Nat → Prop) (v : Value) (xs : List (List UInt8)) (hown : OwnR Pr w v.ownBlock 9 .str xs v) :
    Calls Tryd.prog 41 #[v] w fun e w' => e = .returned (.tuple #[]) ∧ w.grownBy w' v.ownBlock ∧ OwnR Pr w' v.ownBlock 9 .str (xs.reverse : List (List UInt8)) v := by
  obtain ⟨hsz, cells, hr, ho, hb⟩ := hown
  have hd := rows_strs hr
  subst hd
  rcases ho.2 with ⟨rfl, h0⟩ | ⟨g, cap, cur, rfl, ⟨fz, hth, hg⟩, h1, h2, h3, h4⟩
  · have hx : xs = [] := List.eq_nil_of_length_eq_zero h0
    subst hx
    refine Calls.mono (Any.slices_Reverse_string_empty Tryd.laysRev none 0 w) fun e w' h => ?_
    obtain ⟨rfl, rfl⟩ := h
    exact ⟨rfl, ⟨rfl, rfl, rfl, Nat.le_refl _, fun _ _ _ => rfl⟩, hsz, _, hr, ho, rfl⟩
  · have h4' : cur.toList.take xs.length = xs.map fun s => Value.string (strOf s) := by simpa [Ty.sz] using h4
    have hcs : cur.size = cap := by simpa [Ty.sz] using h3
    have hget : ∀ j, j < xs.length → cur[j]? = some (Value.string (strOf (xs.getD j []))) := fun j hj => by
      have : (cur.toList.take xs.length)[j]? = some (Value.string (strOf (xs.getD j []))) := by
        rw [h4', List.getElem?_map, List.getElem?_eq_getElem hj]
        simp [List.getD_eq_getElem?_getD, List.getElem?_eq_getElem hj]
      rw [List.getElem?_take, if_pos hj] at this
      simpa using this
    have hH : Sort.Holds encStr w g 0 xs.toArray := fun j hj => by
      have hj' : j < xs.length := by simpa using hj
      refine ⟨?_, ?_⟩
      · rw [cell_of_row w g (0 + j) cur _ fz hg, Nat.zero_add, hget j hj']
        simp only [encStr]
        congr 2
        rw [List.getD_eq_getElem?_getD]
        simp [List.getElem?_eq_getElem hj', strOf, hj']
      · rcases hth with rfl | hth
        · simp [World.frozen?, hg]
        · have : j < cur.size := by omega
          simp [World.frozen?, hg]; omega
    refine Calls.mono (Any.slices_Reverse_string Tryd.laysRev g 0 cap xs w hH (by simp only [maxLen] at h2; omega)) fun e w' h => ?_
    obtain ⟨rfl, n, rfl⟩ := h
    have hheap : (Sort.putRow encStr (Sort.ahead w n) g 0 xs.reverse.toArray).heap[g]? = some (.cells (Sort.putCells encStr 0 xs.reverse.toArray cur) 9 fz) := by
      have hg' : (Sort.ahead w n).heap[g]? = some (.cells cur 9 fz) := hg
      simp only [Sort.putRow, Sort.mapBlock, Array.getElem?_modify, if_true, hg', Option.map_some, Sort.onCells]
    have hsize : (Sort.putCells encStr 0 xs.reverse.toArray cur).size = cur.size := by simp [Sort.putCells]
    refine ⟨rfl, ⟨rfl, rfl, rfl, ?_, fun k hk hne => ?_⟩, hsz, _, rows_of_strs _, ⟨by simp [Ty.sz], .inr ⟨g, cap, _, by rw [List.length_reverse], ⟨fz, by rw [hsize]; exact hth, hheap⟩, by rw [List.length_reverse]; exact h1, h2, by rw [hsize]; exact h3, ?_⟩⟩, rfl⟩
    · simp [Sort.putRow, Sort.mapBlock, Sort.ahead]
    · have hkg : g ≠ k := fun e => hne (by rw [e]; rfl)
      simp only [Sort.putRow, Sort.mapBlock, Array.getElem?_modify, if_neg hkg]
      rfl
    · apply List.ext_getElem?
      intro j
      have hl : xs.reverse.length * (Ty.str).sz = xs.length := by simp [Ty.sz]
      rw [hl, List.getElem?_take]
      by_cases hj : j < xs.length
      · rw [if_pos hj]
        have hjc : j < cur.size := by omega
        rw [Array.getElem?_toList]
        simp only [Sort.putCells, Array.getElem?_mapIdx, Array.getElem?_eq_getElem hjc, Option.map_some]
        rw [if_pos ⟨Nat.zero_le _, by simpa using hj⟩]
        have hjr : j < xs.reverse.length := by simpa using hj
        rw [List.getElem?_map, List.getElem?_eq_getElem hjr]
        simp [encStr, strOf, hj]
      · rw [if_neg hj]
        symm
        rw [List.getElem?_eq_none]
        simpa using hj
theorem reverse_meets : MeetsIn Tryd.prog 41 [] in41 :=
  ⟨Tryd.call41, fun (xs ys : List (List UInt8)) h => by cases h; exact List.length_reverse, fun w Pr v (xs ys : List (List UInt8)) _ hown hys => by
    obtain rfl : xs.reverse = ys := Option.some.inj hys
    exact reverse_core w Pr v xs hown⟩
end Go.Ev.D
