/- What the functions of the program compute. -/
import Derived.Test.YtgjmlbldmmedgaaGreatDoorEv2
import Derived.Shelf.Strings.Builder1
import Derived.Lib.FrozenHead
import Derived.Test.YtgjmlbldmmedgaaGreatDoorEv4
import Derived.Lib.AtoiAll
import Derived.Lib.ItoaNum
import Derived.Lib.Repeat
import Derived.Lib.SlTrimSet
import Derived.Lib.Strings
import Derived.Test.YtgjmlbldmmedgaaGreatDoorProg
import Derived.Shelf.Strings.OnBuilder
import Derived.Shelf.Strings.Repeat
import Derived.Shelf.Strconv.ErrVarAll
import Derived.Shelf.Strconv.Itoa3
import Derived.Shelf.Strings.Prefix
import Derived.Shelf.Strings.SlTrimAscii
import Derived.Ground.NamesProg
set_option linter.unusedSimpArgs false
set_option linter.unusedVariables false
set_option linter.deprecated false
set_option linter.unusedVariables false
namespace Go.Ev
open Go Go.RowKit Go.Lib
theorem run_append_string_Q {P : Program} (w : World) (t u ty e : TypeId) (i : TypeInfo) (ht : P.underlying t = some (.slice e)) (hu : P.underlying u = some .string) (hi : P.info? e = some i) (hz : i.zero = some (.int .u8 0))
    (hsize : i.size = 1) (hby : i.bytes = 1) (v : Value) (n : Nat) (xs : List Value) (hown : ownsQ w e 1 v n xs) (s : ByteArray) (h63 : n + s.size ≤ maxLen) (hbytes : n + s.size ≤ 140737488355328) :
    ∃ v' w', (Builtin.append_ #[t, u] ty #[v, .string s]).run P w = .ok v' w' ∧ ownsQ w' e 1 v' (n + s.size) (xs ++ strCells s) ∧ w.grownBy w' v.ownBlock ∧
      (v'.ownBlock = v.ownBlock ∨ ∀ k, v'.ownBlock = some k → w.heap.size ≤ k) := by
  have hsmall : n + s.size ≤ 9223372036854775807 := by simp only [maxLen] at h63; omega
  rcases hown.2 with ⟨rfl, rfl⟩ | ⟨g, cap, cur, rfl, ⟨fz, hf, hg⟩, hnc, hcm, hcs, htake⟩
  · have hx : xs = [] := List.eq_nil_of_length_eq_zero (by simpa using hown.1)
    subst hx
    obtain ⟨v', w', h1, h2, h3, _⟩ := run_append_own_string (P := P) w w.heap.size t u ty e i ht hu hi hz hsize hby (.slice none 0 0) 0 [] (World.ownsRow_nil w w.heap.size e 1) s h63 hbytes (Nat.le_refl _)
    refine ⟨v', w', h1, ⟨h2.1, ?_⟩, h3, .inr fun k hk => ?_⟩
    · rcases h2.2 with h4 | ⟨g, cap, cur, hv, _, hg, rest⟩
      · exact .inl h4
      · exact .inr ⟨g, cap, cur, hv, ⟨_, .inl rfl, hg⟩, rest⟩
    · rcases h2.2 with ⟨h4, _⟩ | ⟨g, cap, cur, hv, hb, hg, rest⟩
      · rw [h4] at hk; simp [Value.ownBlock] at hk
      · rw [hv] at hk
        simp [Value.ownBlock] at hk
        subst hk
        exact hb
  · have hxl : xs.length = n := by simpa using hown.1
    have hlen : (xs ++ strCells s).length = (n + s.size) * 1 := by rw [List.length_append, hxl, strCells_length, Nat.mul_one]
    by_cases hroom : n + s.size ≤ cap
    · have hcs' : cur.size = cap := by simpa using hcs
      have hfc := run_firstCells_string (P := P) w 1 s
      obtain ⟨w', s1, s2, s3⟩ := store_cells (P := P) g e n fz (strCells s) 0 cur w hg hf (by rw [strCells_length]; omega) (strCells_oneCell s)
      have s4 := foldl_set' n (strCells s) 0 cur (by rw [strCells_length]; omega)
      simp only [Nat.add_zero, strCells_length] at s4
      have hsz : (((strCells s).zipIdx 0).foldl (fun cs (p : Value × Nat) => cs.setIfInBounds (n + p.2) p.1) cur).size = cur.size := by
        rw [← Array.length_toList, s4]
        simp only [List.length_append, List.length_take, List.length_drop, Array.length_toList, strCells_length]
        omega
      refine ⟨.slice (some ⟨g, 0, none⟩) (n + s.size) cap, w', ?_, ⟨hlen, .inr ⟨g, cap, _, rfl, ⟨fz, by rw [hsz]; exact hf, s2⟩, hroom, hcm, by rw [hsz]; exact hcs, ?_⟩⟩, s3, .inl rfl⟩
      · simp [Builtin.append_, run_underlying ht, run_underlying hu, sizeOf, typeInfo, hi, hsize, Builtin.lenOf, hroom, hfc, Addr.add_lit, s1]
      · have ht' : cur.toList.take n = xs := by simpa using htake
        rw [s4, ht', ← hlen]
        exact List.take_left
    · have holds : ∀ j u, xs[j]? = some u → w.cell? ((⟨g, 0, none⟩ : Addr).add j) = some u := hown.cells (g := g) rfl
      have hr := run_append_grow_string (P := P) w t u ty e i (.int .u8 0) ht hu hi hz ⟨g, 0, none⟩ n cap xs (by rw [hsize]; simpa using hxl) holds s (by omega) (by omega) (by rw [hby]; exact growslice_fits (by omega) (by omega))
      have hge := grownCap_ge w (n + s.size) cap e
      have hcm2 : grownCap w (n + s.size) cap e ≤ maxLen := grownCap_le_maxLen w (n + s.size) cap e h63
      refine ⟨_, _, hr, ⟨hlen, .inr ⟨w.heap.size, _, _, rfl, ⟨(0, 0), .inl rfl, heap_alloc_new w.drew _⟩, hge, hcm2, ?_, ?_⟩⟩, ⟨rfl, rfl, rfl, by simp, fun k hk _ => by first | exact heap_alloc_old w.drew _ k hk | exact heap_alloc_old w.drew _ hk⟩, .inr fun k hk => ?_⟩
      · have hz1 : (Value.int IntKind.u8 0).cells.size = 1 := rfl
        simp only [Array.size_append, List.size_toArray, size_zeroCells, hz1, hxl, strCells_length]
        omega
      · simp only [Array.toList_append, List.append_assoc]
        rw [← List.append_assoc, ← hlen]
        exact List.take_left
      · simp [Value.ownBlock] at hk; omega
theorem wpList_append_string_Q {P : Program} {ops : Array Oper} {rest : List Oper} {o : Oper} {a : Act} {Q : Exit → Act → World → Prop} {w : World} (hgd : o.guard = none) (sl x : Operand) (t u : TypeId)
    (ho : o.op = .call { callee := .builtin .append, args := #[sl, x], argTypes := #[t, u] })
    (e : TypeId) (i : TypeInfo) (ht : P.underlying t = some (.slice e)) (hu : P.underlying u = some .string) (hi : P.info? e = some i) (hz : i.zero = some (.int .u8 0))
    (hsize : i.size = 1) (hby : i.bytes = 1)
    (v : Value) (n : Nat) (xs : List Value) (hs : a.eval sl = v) (hown : ownsQ w e 1 v n xs) (s : ByteArray) (hx : a.eval x = .string s)
    (h63 : n + s.size ≤ maxLen) (hbytes : n + s.size ≤ 140737488355328)
    (h : ∀ v' w', ownsQ w' e 1 v' (n + s.size) (xs ++ strCells s) → w.grownBy w' v.ownBlock → (v'.ownBlock = v.ownBlock ∨ ∀ k, v'.ownBlock = some k → w.heap.size ≤ k) → wpList P ops Q rest (a.put o.dst v') w') : wpList P ops Q (o :: rest) a w := by
  refine wpList_plain hgd fun K hK => ?_
  obtain ⟨v', w', hr, h2, h3, h4⟩ := run_append_string_Q (P := P) w t u o.type e i ht hu hi hz hsize hby v n xs hown s h63 hbytes
  unfold Oper.wp execOp
  simp only [ho, resolve, invoke, builtin, Sem.run_bind, Sem.run_pure, Result.andThen_ok, List.map_toArray, List.map_cons, List.map_nil, hs, hx, hr]
  exact hK _ _ (h v' w' h2 h3 h4)
theorem strCells_strOf (s : List UInt8) : strCells (strOf s) = (s.map fun b => (b.toNat : Int)).map (Value.int .u8) := by
  simp [strCells, byteCells, strOf]
end Go.Ev
namespace Go.Proofs
open Go.Shelf Go.RowKit Go.Ev
variable {P : Program} {ρ : Ren}
set_option maxHeartbeats 1000000 in
set_option maxRecDepth 100000 in
theorem Any.bldW_meets (L : Lays.n166 P ρ) (X : Builder.Extra P ρ) : MeetsBW P (ρ.f 166) (ρ.t 72) (ρ.t 5) := by
  refine ⟨enters_of L.f166 (by kernel_rfl) rfl, fun w gb p v xs s hbk hp hown hne hlen => ?_⟩
  obtain ⟨i0, hi, hz0, hz1, hz2⟩ := info_parts X.infoByte
  have mixed := L.mixed
  have t72 := L.t72; have a72 := L.a72; have z72 := L.z72; have v72 := L.v72; have u72 := run_underlying L.t72
  have t70 := L.t70; have a70 := L.a70; have z70 := L.z70; have v70 := L.v70; have u70 := run_underlying L.t70
  have t37 := L.t37; have a37 := L.a37; have z37 := L.z37; have v37 := L.v37; have u37 := run_underlying L.t37
  have t3 := L.t3; have a3 := L.a3; have z3 := L.z3; have v3 := L.v3; have u3 := run_underlying L.t3
  have t9 := L.t9; have a9 := L.a9; have z9 := L.z9; have v9 := L.v9; have u9 := run_underlying L.t9
  have t4 := L.t4; have a4 := L.a4; have z4 := L.z4; have v4 := L.v4; have u4 := run_underlying L.t4
  have t164 := L.t164; have a164 := L.a164; have z164 := L.z164; have v164 := L.v164; have u164 := run_underlying L.t164
  have t5 := X.t5; have a5 := X.a5; have z5 := X.z5; have v5 := X.v5; have u5 := run_underlying X.t5
  have e240 : ∀ args w, (callFunc (ρ.f 240) args).run P w = .ok (.enter (ρ.f 240) args) w := enters_of L.f240 (by kernel_rfl) rfl
  have hlt : gb < w.heap.size := (Array.getElem?_eq_some_iff.1 hbk).1
  have hcc : Calls P (ρ.f 240) #[.pointer (some ⟨gb, 0, none⟩)] w fun en w' => en = .returned (.tuple #[]) ∧ w'.heap[gb]? = some (.cells #[.pointer (some ⟨gb, 0, none⟩), v] (ρ.t 72) (0, 0)) ∧ w'.os = w.os ∧ w'.tape = w.tape ∧ w'.output = w.output ∧ w'.heap.size = w.heap.size ∧ ∀ k, k ≠ gb → w'.heap[k]? = w.heap[k]? := by
    rcases hp with rfl | rfl
    · refine (Any.Builder_copyCheck_fresh { L with } X.toX72 gb w (by rw [Lib.cell_of_heap hbk]; rfl) (by simp [World.shape?, hbk]) (Lib.frozen_of_heap hbk 0)).mono ?_
      rintro e w' ⟨rfl, rfl⟩
      refine ⟨rfl, ?_, rfl, rfl, rfl, by simp [World.setCell], fun k hk => by simp [World.setCell, Array.getElem?_modify, Ne.symm hk]⟩
      simp [World.setCell, Array.getElem?_modify, hbk]
    · refine (Any.Builder_copyCheck_used { L with } X.toX72 gb w (by rw [Lib.cell_of_heap hbk]; rfl)).mono ?_
      rintro e w' ⟨rfl, rfl⟩
      exact ⟨rfl, hbk, rfl, rfl, rfl, rfl, fun _ _ => rfl⟩
  have hss : (strOf s).size = s.length := by simp [strOf, ByteArray.size]
  go_enter L.f166, Body.n166_ntmps ρ
  go_wp2_with (go_at_fn (ρ.f 240); refine hcc.mono ?_)
  rintro e w1 ⟨rfl, hbk1, o1, o2, o3, o4, o5⟩
  have hown1 : ownsQ w1 (ρ.t 5) 1 v xs.length (xs.map (Value.int .u8)) := by
    refine ⟨hown.1, ?_⟩
    rcases hown.2 with hn | ⟨g, cap, cur, rfl, ⟨fz, hf, hg⟩, rest⟩
    · exact .inl hn
    · exact .inr ⟨g, cap, cur, rfl, ⟨fz, hf, (o5 g (fun e => hne (by rw [e]; rfl))).trans hg⟩, rest⟩
  have c0 : w1.cell? ⟨gb, 0, none⟩ = some (.pointer (some ⟨gb, 0, none⟩)) := by rw [Lib.cell_of_heap hbk1]; rfl
  have c1 : w1.cell? ⟨gb, 1, none⟩ = some v := by rw [Lib.cell_of_heap hbk1]; rfl
  go_wp2_with (at_builtin; refine wpList_append_string_Q rfl _ _ (ρ.t 37) (ρ.t 9) rfl (ρ.t 5) i0 L.t37 L.t9 hi hz0 hz1 hz2 _ _ _ rfl hown1 (strOf s) rfl ?c3 ?c4 ?_)
  case c3 => unfold maxLen; omega
  case c4 => omega
  intro v' w2 hown' hgrow hob
  have hb2 : w2.heap[gb]? = some (.cells #[.pointer (some ⟨gb, 0, none⟩), v] (ρ.t 72) (0, 0)) := by
    rw [hgrow.block gb (by omega) (fun e => hne e.symm)]
    exact hbk1
  have d0 : w2.cell? ⟨gb, 0, none⟩ = some (.pointer (some ⟨gb, 0, none⟩)) := by rw [Lib.cell_of_heap hb2]; rfl
  have d1 : w2.cell? ⟨gb, 1, none⟩ = some v := by rw [Lib.cell_of_heap hb2]; rfl
  have f1 : w2.frozen? ⟨gb, 1, none⟩ = false := Lib.frozen_of_heap hb2 1
  obtain ⟨ao, n', cap, rfl⟩ : ∃ ao n' cap, v' = .slice ao n' cap := by
    rcases hown'.2 with ⟨hv, _⟩ | ⟨g, cap, cur, hv, _⟩
    · exact ⟨_, _, _, hv⟩
    · exact ⟨_, _, _, hv⟩
  go_wp2
  go_ret2
  obtain ⟨vv, hvv⟩ : ∃ vv, vv = Value.slice ao n' cap := ⟨_, rfl⟩
  rw [← hvv] at hown' hob ⊢
  have hlt2 : gb < w2.heap.size := (Array.getElem?_eq_some_iff.1 hb2).1
  have hne' : ∀ k, vv.ownBlock = some k → (v.ownBlock = some k ∨ w.heap.size ≤ k) ∧ k < w2.heap.size ∧ k ≠ gb := fun k hk => by
    have h1 : k < w2.heap.size := hown'.lt k hk
    rcases hob with h2 | h2
    · rw [h2] at hk
      exact ⟨.inl hk, h1, fun e => hne (by rw [hk, e])⟩
    · have h3 := h2 k hk
      exact ⟨.inr (by omega), h1, by omega⟩
  refine ⟨⟨_, rfl⟩, vv, ?_, ?_, ?_, ?_, ?_, ?_, ?_, ?_⟩
  · simp [World.setCell, Array.getElem?_modify, hb2]
  · have e1 : (xs ++ s.map fun b => (b.toNat : Int)).length = xs.length + (strOf s).size := by rw [hss]; simp
    have e2 : (xs ++ s.map fun b => (b.toNat : Int)).map (Value.int .u8) = xs.map (Value.int .u8) ++ Lib.strCells (strOf s) := by rw [strCells_strOf, List.map_append]
    rw [e1, e2]
    refine ⟨hown'.1, ?_⟩
    rcases hown'.2 with hn | ⟨g, cap1, cur, hv1, ⟨fz, hf, hg⟩, rest⟩
    · exact .inl hn
    · refine .inr ⟨g, cap1, cur, hv1, ⟨fz, hf, ?_⟩, rest⟩
      have : g ≠ gb := (hne' g (by rw [hv1]; rfl)).2.2
      simp only [World.setCell, Array.getElem?_modify, Ne.symm this, if_false]
      exact hg
  · intro k hk
    obtain ⟨h1, h2, h3⟩ := hne' k hk
    exact ⟨h1, by simpa [World.setCell] using h2, h3⟩
  · exact hgrow.os.trans o1
  · exact hgrow.tape.trans o2
  · exact hgrow.output.trans o3
  · have := hgrow.size
    simp only [World.setCell, Array.size_modify]; omega
  · intro k hk hkg hkv
    simp only [World.setCell, Array.getElem?_modify, Ne.symm hkg, if_false]
    rw [hgrow.block k (by omega) (fun e => hkv e.symm), o5 k hkg]
theorem grownBy_freeze (w : World) (g n : Nat) : w.grownBy (w.drew.freeze ⟨g, 0, none⟩ n) (some g) := by
  refine ⟨by unfold World.freeze; split <;> rfl, by unfold World.freeze; split <;> rfl, by unfold World.freeze; split <;> rfl, by unfold World.freeze; split <;> simp, fun k hk hne => ?_⟩
  unfold World.freeze
  split
  · rfl
  · have hkg : g ≠ k := fun e => hne (by rw [e])
    simp only [Array.getElem?_modify, hkg, if_false]
    rfl
set_option maxHeartbeats 2000000 in
set_option maxRecDepth 100000 in
theorem Any.bldS_some (L : Lays.n169 P ρ) (X : Builder.Extra P ρ) (w : World) (b : Nat) (p v : Value) (l : List UInt8) (hbk : w.heap[b]? = some (.cells #[p, v] (ρ.t 72) (0, 0))) (hown : ownsQ w (ρ.t 5) 1 v l.length (Lib.byteCells l)) (h0 : l ≠ []) :
    Calls P (ρ.f 169) #[.pointer (some ⟨b, 0, none⟩)] w fun e w' => e = .returned (.string ⟨l.toArray⟩) ∧ w.grownBy w' v.ownBlock := by
  have hl0 : l.length ≠ 0 := by simpa using h0
  obtain ⟨g, cap, cur, fz, rfl, hg, hnc, hcm, hcs, htake⟩ : ∃ g cap cur fz, v = .slice (some ⟨g, 0, none⟩) l.length cap ∧ w.heap[g]? = some (.cells cur (ρ.t 5) fz) ∧ l.length ≤ cap ∧ cap ≤ maxLen ∧ cur.size = cap * 1 ∧ cur.toList.take (l.length * 1) = Lib.byteCells l := by
    rcases hown.2 with ⟨_, hz⟩ | ⟨g, cap, cur, hv, ⟨fz, _, hg⟩, r⟩
    · exact absurd hz hl0
    · exact ⟨g, cap, cur, fz, hv, hg, r⟩
  have c1 : w.drew.cell? ⟨b, 1, none⟩ = some (.slice (some ⟨g, 0, none⟩) l.length cap) := by
    have : w.drew.heap[b]? = some (.cells #[p, .slice (some ⟨g, 0, none⟩) l.length cap] (ρ.t 72) (0, 0)) := hbk
    rw [Lib.cell_of_heap this]; rfl
  have hSD : (Builtin.unsafeSliceData_ #[(ρ.t 37)] (ρ.t 127) #[.slice (some ⟨g, 0, none⟩) l.length cap]).run P w.drew = .ok (.pointer (some ⟨g, 0, none⟩)) w.drew :=
    Lib.run_unsafeSliceData_row _ _ _ _ _ _ (by omega)
  have hUS : (Builtin.unsafeString_ #[(ρ.t 127), (ρ.t 3)] (ρ.t 9) #[.pointer (some ⟨g, 0, none⟩), .int .i64 l.length]).run P w.drew = .ok (.string ⟨l.toArray⟩) (w.drew.freeze ⟨g, 0, none⟩ l.length) := by
    refine Lib.run_unsafeString_row w.drew (ρ.t 127) (ρ.t 3) (ρ.t 9) (ρ.t 5) L.t127 X.cellsByte g cur.size (by have hg' : w.drew.heap[g]? = some (.cells cur (ρ.t 5) fz) := hg; simp [World.shape?, hg']) l h0 (by omega) (by unfold maxLen at hcm; omega) ?_
    intro j x hx
    have := hown.cells (g := g) rfl j (.int .u8 x.toNat) (by simp [Lib.byteCells, hx])
    exact this
  have mixed := L.mixed
  have t72 := L.t72; have a72 := L.a72; have z72 := L.z72; have v72 := L.v72; have u72 := run_underlying L.t72
  have t70 := L.t70; have a70 := L.a70; have z70 := L.z70; have v70 := L.v70; have u70 := run_underlying L.t70
  have t37 := L.t37; have a37 := L.a37; have z37 := L.z37; have v37 := L.v37; have u37 := run_underlying L.t37
  have t127 := L.t127; have a127 := L.a127; have z127 := L.z127; have v127 := L.v127; have u127 := run_underlying L.t127
  have t3 := L.t3; have a3 := L.a3; have z3 := L.z3; have v3 := L.v3; have u3 := run_underlying L.t3
  have t9 := L.t9; have a9 := L.a9; have z9 := L.z9; have v9 := L.v9; have u9 := run_underlying L.t9
  have t5 := X.t5; have a5 := X.a5; have z5 := X.z5; have v5 := X.v5; have u5 := run_underlying X.t5
  go_enter L.f169, Body.n169_ntmps ρ
  go_wp2
  go_region_o
  all_goals (go_wp2; go_ret; exact ⟨rfl, grownBy_freeze w g _⟩)
theorem grownBy_drew (w : World) (r : Option Nat) : w.grownBy w.drew r := ⟨rfl, rfl, rfl, Nat.le_refl _, fun _ _ _ => rfl⟩
set_option maxHeartbeats 2000000 in
set_option maxRecDepth 100000 in
theorem Any.bldS_nil (L : Lays.n169 P ρ) (X : Builder.Extra P ρ) (w : World) (b : Nat) (p : Value) (hbk : w.heap[b]? = some (.cells #[p, .slice none 0 0] (ρ.t 72) (0, 0))) :
    Calls P (ρ.f 169) #[.pointer (some ⟨b, 0, none⟩)] w fun e w' => e = .returned (.string ⟨#[]⟩) ∧ w.grownBy w' none := by
  have hUS := Any.unsafeString_none L X
  have c1 : w.drew.cell? ⟨b, 1, none⟩ = some (.slice none 0 0) := by
    have : w.drew.heap[b]? = some (.cells #[p, .slice none 0 0] (ρ.t 72) (0, 0)) := hbk
    rw [Lib.cell_of_heap this]; rfl
  have hSD : (Builtin.unsafeSliceData_ #[(ρ.t 37)] (ρ.t 127) #[.slice none 0 0]).run P w.drew = .ok (.pointer none) w.drew := rfl
  have mixed := L.mixed
  have t72 := L.t72; have a72 := L.a72; have z72 := L.z72; have v72 := L.v72; have u72 := run_underlying L.t72
  have t70 := L.t70; have a70 := L.a70; have z70 := L.z70; have v70 := L.v70; have u70 := run_underlying L.t70
  have t37 := L.t37; have a37 := L.a37; have z37 := L.z37; have v37 := L.v37; have u37 := run_underlying L.t37
  have t127 := L.t127; have a127 := L.a127; have z127 := L.z127; have v127 := L.v127; have u127 := run_underlying L.t127
  have t3 := L.t3; have a3 := L.a3; have z3 := L.z3; have v3 := L.v3; have u3 := run_underlying L.t3
  have t9 := L.t9; have a9 := L.a9; have z9 := L.z9; have v9 := L.v9; have u9 := run_underlying L.t9
  have t5 := X.t5; have a5 := X.a5; have z5 := X.z5; have v5 := X.v5; have u5 := run_underlying X.t5
  go_enter L.f169, Body.n169_ntmps ρ
  go_wp2
  go_region_o
  all_goals (go_wp2; go_ret; exact ⟨rfl, grownBy_drew w _⟩)
set_option maxHeartbeats 2000000 in
set_option maxRecDepth 100000 in
theorem Any.bldS_noroom (L : Lays.n169 P ρ) (X : Builder.Extra P ρ) (w : World) (b g : Nat) (p : Value) (cur : Array Value) (fz : Nat × Nat) (hbk : w.heap[b]? = some (.cells #[p, .slice (some ⟨g, 0, none⟩) 0 0] (ρ.t 72) (0, 0))) (hg : w.heap[g]? = some (.cells cur (ρ.t 5) fz)) :
    Calls P (ρ.f 169) #[.pointer (some ⟨b, 0, none⟩)] w fun e w' => e = .returned (.string ⟨#[]⟩) ∧ w.grownBy w' (some g) := by
  have hUS := Any.unsafeString_none L X
  have hlt : b < w.heap.size := (Array.getElem?_eq_some_iff.1 hbk).1
  have c1 : w.drew.cell? ⟨b, 1, none⟩ = some (.slice (some ⟨g, 0, none⟩) 0 0) := by
    have : w.drew.heap[b]? = some (.cells #[p, .slice (some ⟨g, 0, none⟩) 0 0] (ρ.t 72) (0, 0)) := hbk
    rw [Lib.cell_of_heap this]; rfl
  have hSD : (Builtin.unsafeSliceData_ #[(ρ.t 37)] (ρ.t 127) #[.slice (some ⟨g, 0, none⟩) 0 0]).run P w.drew = .ok (.pointer (some ⟨w.drew.heap.size, 0, none⟩)) (w.drew.alloc (.view ⟨g, 0, none⟩ (ρ.t 5))) :=
    Lib.run_unsafeSliceData_zero w.drew _ _ (ρ.t 5) L.t127 ⟨g, 0, none⟩ 0 ((ρ.t 5), cur.size) (by have hg' : w.drew.heap[g]? = some (.cells cur (ρ.t 5) fz) := hg; simp [World.shape?, hg'])
  have c2 : (w.drew.alloc (.view ⟨g, 0, none⟩ (ρ.t 5))).cell? ⟨b, 1, none⟩ = some (.slice (some ⟨g, 0, none⟩) 0 0) := by
    have : (w.drew.alloc (.view ⟨g, 0, none⟩ (ρ.t 5))).heap[b]? = _ := (Lib.alloc_old w.drew _ b hlt).trans hbk
    rw [Lib.cell_of_heap this]; rfl
  have c3 : (w.alloc (.view ⟨g, 0, none⟩ (ρ.t 5))).drew.cell? ⟨b, 1, none⟩ = some (.slice (some ⟨g, 0, none⟩) 0 0) := c2
  have c0 : w.cell? ⟨b, 1, none⟩ = some (.slice (some ⟨g, 0, none⟩) 0 0) := c1
  have hgr : w.grownBy (w.drew.alloc (.view ⟨g, 0, none⟩ (ρ.t 5))) (some g) := ⟨rfl, rfl, rfl, by simp, fun k hk _ => by first | exact Lib.alloc_old w.drew _ k hk | exact heap_alloc_old w.drew _ hk⟩
  have mixed := L.mixed
  have t72 := L.t72; have a72 := L.a72; have z72 := L.z72; have v72 := L.v72; have u72 := run_underlying L.t72
  have t70 := L.t70; have a70 := L.a70; have z70 := L.z70; have v70 := L.v70; have u70 := run_underlying L.t70
  have t37 := L.t37; have a37 := L.a37; have z37 := L.z37; have v37 := L.v37; have u37 := run_underlying L.t37
  have t127 := L.t127; have a127 := L.a127; have z127 := L.z127; have v127 := L.v127; have u127 := run_underlying L.t127
  have t3 := L.t3; have a3 := L.a3; have z3 := L.z3; have v3 := L.v3; have u3 := run_underlying L.t3
  have t9 := L.t9; have a9 := L.a9; have z9 := L.z9; have v9 := L.v9; have u9 := run_underlying L.t9
  have t5 := X.t5; have a5 := X.a5; have z5 := X.z5; have v5 := X.v5; have u5 := run_underlying X.t5
  go_enter L.f169, Body.n169_ntmps ρ
  go_wp2
  go_region_o
  all_goals (go_wp2; go_ret; exact ⟨rfl, hgr⟩)
set_option maxHeartbeats 2000000 in
set_option maxRecDepth 100000 in
theorem Any.bldS_room (L : Lays.n169 P ρ) (X : Builder.Extra P ρ) (w : World) (b g cap : Nat) (p : Value) (hc0 : cap ≠ 0) (hbk : w.heap[b]? = some (.cells #[p, .slice (some ⟨g, 0, none⟩) 0 cap] (ρ.t 72) (0, 0))) :
    Calls P (ρ.f 169) #[.pointer (some ⟨b, 0, none⟩)] w fun e w' => e = .returned (.string ⟨#[]⟩) ∧ w.grownBy w' (some g) := by
  have hUS := Any.unsafeString_none L X
  have c1 : w.drew.cell? ⟨b, 1, none⟩ = some (.slice (some ⟨g, 0, none⟩) 0 cap) := by
    have : w.drew.heap[b]? = some (.cells #[p, .slice (some ⟨g, 0, none⟩) 0 cap] (ρ.t 72) (0, 0)) := hbk
    rw [Lib.cell_of_heap this]; rfl
  have hSD : (Builtin.unsafeSliceData_ #[(ρ.t 37)] (ρ.t 127) #[.slice (some ⟨g, 0, none⟩) 0 cap]).run P w.drew = .ok (.pointer (some ⟨g, 0, none⟩)) w.drew :=
    Lib.run_unsafeSliceData_row _ _ _ _ _ _ hc0
  clear hc0
  have mixed := L.mixed
  have t72 := L.t72; have a72 := L.a72; have z72 := L.z72; have v72 := L.v72; have u72 := run_underlying L.t72
  have t70 := L.t70; have a70 := L.a70; have z70 := L.z70; have v70 := L.v70; have u70 := run_underlying L.t70
  have t37 := L.t37; have a37 := L.a37; have z37 := L.z37; have v37 := L.v37; have u37 := run_underlying L.t37
  have t127 := L.t127; have a127 := L.a127; have z127 := L.z127; have v127 := L.v127; have u127 := run_underlying L.t127
  have t3 := L.t3; have a3 := L.a3; have z3 := L.z3; have v3 := L.v3; have u3 := run_underlying L.t3
  have t9 := L.t9; have a9 := L.a9; have z9 := L.z9; have v9 := L.v9; have u9 := run_underlying L.t9
  have t5 := X.t5; have a5 := X.a5; have z5 := X.z5; have v5 := X.v5; have u5 := run_underlying X.t5
  go_enter L.f169, Body.n169_ntmps ρ
  go_wp2
  go_region_o
  all_goals (go_wp2; go_ret; exact ⟨rfl, grownBy_drew w _⟩)
theorem Any.bldS_meets (L : Lays.n169 P ρ) (X : Builder.Extra P ρ) : MeetsBS P (ρ.f 169) (ρ.t 72) (ρ.t 5) := by
  refine ⟨enters_of L.f169 (by kernel_rfl) rfl, fun w gb p v l hbk _ hown _ => ?_⟩
  by_cases h0 : l = []
  · subst h0
    rcases hown.2 with ⟨rfl, _⟩ | ⟨g, cap, cur, rfl, ⟨fz, _, hg⟩, _⟩
    · exact Any.bldS_nil L X w gb p hbk
    · by_cases hc0 : cap = 0
      · subst hc0
        exact Any.bldS_noroom L X w gb g p cur fz hbk hg
      · exact Any.bldS_room L X w gb g cap p hc0 hbk
  · exact Any.bldS_some L X w gb p v l hbk hown h0
end Go.Proofs

namespace Go.Ev.I
open Go Go.Proofs Go.Ev
def P57 (s : List UInt8) : Bool := decide (s.length ≤ 281474976710656)
def F57 (s : List UInt8) : Int × Bool := match Lib.atoiAll s with
  | .ok v => (v, false)
  | .range => (Lib.atoiSat s, true)
  | _ => (0, true)
def spec57 : Spec := ⟨[.str], [.dat (.int .i64), .dat .err], fun | [a0] => P57 (a0.as .str) | _ => false, fun | [a0] => [⟨.int .i64, (F57 (a0.as .str)).1⟩, ⟨.err, (F57 (a0.as .str)).2⟩] | _ => []⟩
def P58 (n : Int) : Bool := decide (-9223372036854775808 ≤ n) && decide (n ≤ 9223372036854775807)
def F58 (n : Int) : List UInt8 := Lib.itoa n
def spec58 : Spec := ⟨[.int .i64], [.dat .str], fun | [a0] => P58 (a0.as (.int .i64)) | _ => false, fun | [a0] => [⟨.str, F58 (a0.as (.int .i64))⟩] | _ => []⟩
def P61 (s : List UInt8) (n : Int) : Bool := decide (0 ≤ n) && decide (n ≤ 9223372036854775807) && decide (s.length * n.toNat ≤ 140737488355328)
def F61 (s : List UInt8) (n : Int) : List UInt8 := Lib.repeatL s n.toNat
def spec61 : Spec := ⟨[.str, .int .i64], [.dat .str], fun | [a0, a1] => P61 (a0.as .str) (a1.as (.int .i64)) | _ => false, fun | [a0, a1] => [⟨.str, F61 (a0.as .str) (a1.as (.int .i64))⟩] | _ => []⟩
def P73 (_ _ : List UInt8) : Bool := true
def F73 (s p : List UInt8) : List UInt8 := Lib.trimPrefix s p
def spec73 : Spec := ⟨[.str, .str], [.dat .str], fun | [a0, a1] => P73 (a0.as .str) (a1.as .str) | _ => false, fun | [a0, a1] => [⟨.str, F73 (a0.as .str) (a1.as .str)⟩] | _ => []⟩
def P74 (s c : List UInt8) : Bool := decide (s.length ≤ 9223372036854775807) && (decide (c.length < 4294967281) && c.all fun b => decide (b.toNat < 128))
def F74 (s c : List UInt8) : List UInt8 := Lib.trimS s c
def spec74 : Spec := ⟨[.str, .str], [.dat .str], fun | [a0, a1] => P74 (a0.as .str) (a1.as .str) | _ => false, fun | [a0, a1] => [⟨.str, F74 (a0.as .str) (a1.as .str)⟩] | _ => []⟩
/-- The library's variables: the two errors, the powers of ten. -/
def pow10K : List Int := [1, 10, 100, 1000, 10000, 100000, 1000000, 10000000, 100000000, 1000000000, 10000000000, 100000000000, 1000000000000, 10000000000000, 100000000000000, 1000000000000000, 10000000000000000, 100000000000000000, 1000000000000000000, 10000000000000000000]
def glob : Nat → Option Dat
  | 0 => some ⟨.err, true⟩
  | 1 => some ⟨.err, true⟩
  | 2 => some ⟨.arr 20 (.int .u64), pow10K⟩
  | _ => none
end Go.Ev.I

namespace Go.Proofs
open Go.Shelf Go.Ev
def Tryz.laysAtoi_ren : Go.Shelf.Ren := ⟨fun | 172 => 57 | 244 => 75 | 245 => 76 | 247 => 94 | 279 => 95 | 280 => 96 | 281 => 97 | 282 => 98 | 287 => 109 | 316 => 110 | 171 => 58 | 205 => 111 | 321 => 120 | 322 => 121 | 243 => 77 | 246 => 99 | 283 => 112 | 284 => 113 | 285 => 114 | 286 => 115 | 129 => 123 | 317 => 122 | 318 => 124 | 319 => 125 | 320 => 126 | 337 => 131 | 338 => 132 | n => n, fun | 9 => 9 | 3 => 3 | 75 => 69 | 76 => 70 | 4 => 4 | 5 => 5 | 167 => 102 | 37 => 72 | 0 => 0 | 85 => 103 | 2 => 2 | 168 => 105 | 53 => 112 | 175 => 121 | 46 => 89 | 210 => 125 | 127 => 94 | 145 => 137 | 143 => 135 | 21 => 21 | 171 => 127 | 173 => 130 | 212 => 139 | 51 => 109 | 20 => 20 | 213 => 140 | 232 => 149 | 233 => 150 | 80 => 80 | n => n, fun | 15 => 0 | 16 => 1 | 17 => 2 | 18 => 6 | 19 => 7 | n => n⟩
theorem Tryz.laysAtoi : Go.Proofs.LaysC.n172 Tryz.prog Tryz.laysAtoi_ren := {
  mixed := by kernel_rfl
  f129 := Tryz.func123.trans (congrArg some (by kernel_rfl))
  f171 := Tryz.func58.trans (congrArg some (by kernel_rfl))
  f172 := Tryz.func57.trans (congrArg some (by kernel_rfl))
  f205 := Tryz.func111.trans (congrArg some (by kernel_rfl))
  f243 := Tryz.func77.trans (congrArg some (by kernel_rfl))
  f244 := Tryz.func75.trans (congrArg some (by kernel_rfl))
  f245 := Tryz.func76.trans (congrArg some (by kernel_rfl))
  f246 := Tryz.func99.trans (congrArg some (by kernel_rfl))
  f247 := Tryz.func94.trans (congrArg some (by kernel_rfl))
  f279 := Tryz.func95.trans (congrArg some (by kernel_rfl))
  f280 := Tryz.func96.trans (congrArg some (by kernel_rfl))
  f281 := Tryz.func97.trans (congrArg some (by kernel_rfl))
  f282 := Tryz.func98.trans (congrArg some (by kernel_rfl))
  f283 := Tryz.func112.trans (congrArg some (by kernel_rfl))
  f284 := Tryz.func113.trans (congrArg some (by kernel_rfl))
  f285 := Tryz.func114.trans (congrArg some (by kernel_rfl))
  f286 := Tryz.func115.trans (congrArg some (by kernel_rfl))
  f287 := Tryz.func109.trans (congrArg some (by kernel_rfl))
  f316 := Tryz.func110.trans (congrArg some (by kernel_rfl))
  f317 := Tryz.func122.trans (congrArg some (by kernel_rfl))
  f318 := Tryz.func124.trans (congrArg some (by kernel_rfl))
  f319 := Tryz.func125.trans (congrArg some (by kernel_rfl))
  f320 := Tryz.func126.trans (congrArg some (by kernel_rfl))
  f321 := Tryz.func120.trans (congrArg some (by kernel_rfl))
  f322 := Tryz.func121.trans (congrArg some (by kernel_rfl))
  f337 := Tryz.func131.trans (congrArg some (by kernel_rfl))
  f338 := Tryz.func132.trans (congrArg some (by kernel_rfl))
  t0 := Tryz.underlying0
  a0 := Tryz.isAgg0
  z0 := Tryz.sizeOf0
  v0 := Tryz.zeroValue0
  t2 := Tryz.underlying2
  a2 := Tryz.isAgg2
  z2 := Tryz.sizeOf2
  v2 := Tryz.zeroValue2
  t3 := Tryz.underlying3
  a3 := Tryz.isAgg3
  z3 := Tryz.sizeOf3
  v3 := Tryz.zeroValue3
  t4 := Tryz.underlying4
  a4 := Tryz.isAgg4
  z4 := Tryz.sizeOf4
  v4 := Tryz.zeroValue4
  t5 := Tryz.underlying5
  a5 := Tryz.isAgg5
  z5 := Tryz.sizeOf5
  v5 := Tryz.zeroValue5
  t9 := Tryz.underlying9
  a9 := Tryz.isAgg9
  z9 := Tryz.sizeOf9
  v9 := Tryz.zeroValue9
  t20 := Tryz.underlying20
  a20 := Tryz.isAgg20
  z20 := Tryz.sizeOf20
  v20 := Tryz.zeroValue20
  t21 := Tryz.underlying21
  a21 := Tryz.isAgg21
  z21 := Tryz.sizeOf21
  v21 := Tryz.zeroValue21
  t37 := Tryz.underlying72
  a37 := Tryz.isAgg72
  z37 := Tryz.sizeOf72
  v37 := Tryz.zeroValue72
  t46 := Tryz.underlying89
  a46 := Tryz.isAgg89
  z46 := Tryz.sizeOf89
  v46 := Tryz.zeroValue89
  t51 := Tryz.underlying109
  a51 := Tryz.isAgg109
  z51 := Tryz.sizeOf109
  v51 := Tryz.zeroValue109
  t53 := Tryz.underlying112
  a53 := Tryz.isAgg112
  z53 := Tryz.sizeOf112
  v53 := Tryz.zeroValue112
  t75 := Tryz.underlying69
  a75 := Tryz.isAgg69
  z75 := Tryz.sizeOf69
  v75 := Tryz.zeroValue69
  t76 := Tryz.underlying70
  a76 := Tryz.isAgg70
  z76 := Tryz.sizeOf70
  v76 := Tryz.zeroValue70
  t85 := Tryz.underlying103
  a85 := Tryz.isAgg103
  z85 := Tryz.sizeOf103
  v85 := Tryz.zeroValue103
  t127 := Tryz.underlying94
  a127 := Tryz.isAgg94
  z127 := Tryz.sizeOf94
  v127 := Tryz.zeroValue94
  t143 := Tryz.underlying135
  a143 := Tryz.isAgg135
  z143 := Tryz.sizeOf135
  v143 := Tryz.zeroValue135
  t145 := Tryz.underlying137
  a145 := Tryz.isAgg137
  z145 := Tryz.sizeOf137
  v145 := Tryz.zeroValue137
  t167 := Tryz.underlying102
  a167 := Tryz.isAgg102
  z167 := Tryz.sizeOf102
  v167 := Tryz.zeroValue102
  t168 := Tryz.underlying105
  a168 := Tryz.isAgg105
  z168 := Tryz.sizeOf105
  v168 := Tryz.zeroValue105
  t171 := Tryz.underlying127
  a171 := Tryz.isAgg127
  z171 := Tryz.sizeOf127
  v171 := Tryz.zeroValue127
  t173 := Tryz.underlying130
  a173 := Tryz.isAgg130
  z173 := Tryz.sizeOf130
  v173 := Tryz.zeroValue130
  t175 := Tryz.underlying121
  a175 := Tryz.isAgg121
  z175 := Tryz.sizeOf121
  v175 := Tryz.zeroValue121
  t210 := Tryz.underlying125
  a210 := Tryz.isAgg125
  z210 := Tryz.sizeOf125
  v210 := Tryz.zeroValue125
  t212 := Tryz.underlying139
  a212 := Tryz.isAgg139
  z212 := Tryz.sizeOf139
  v212 := Tryz.zeroValue139
  t213 := Tryz.underlying140
  a213 := Tryz.isAgg140
  z213 := Tryz.sizeOf140
  t232 := Tryz.underlying149
  a232 := Tryz.isAgg149
  z232 := Tryz.sizeOf149
  v232 := Tryz.zeroValue149
  t233 := Tryz.underlying150
  a233 := Tryz.isAgg150
  z233 := Tryz.sizeOf150
  v233 := Tryz.zeroValue150
  g15 := by kernel_rfl
  g16 := by kernel_rfl
  g17 := by kernel_rfl
  g18 := by kernel_rfl
  g19 := by kernel_rfl
  t80 := Tryz.underlying80
  a80 := Tryz.isAgg80
  z80 := Tryz.sizeOf80
  v80 := Tryz.zeroValue80
  i0 := by kernel_rfl
  i2 := by kernel_rfl
  i3 := by kernel_rfl
  i4 := by kernel_rfl
  i5 := by kernel_rfl
  i9 := by kernel_rfl
  i20 := by kernel_rfl
  i21 := by kernel_rfl
  i37 := by kernel_rfl
  i46 := by kernel_rfl
  i51 := by kernel_rfl
  i53 := by kernel_rfl
  i75 := by kernel_rfl
  i76 := by kernel_rfl
  i80 := by kernel_rfl
  i85 := by kernel_rfl
  i127 := by kernel_rfl
  i143 := by kernel_rfl
  i145 := by kernel_rfl
  i167 := by kernel_rfl
  i168 := by kernel_rfl
  i171 := by kernel_rfl
  i173 := by kernel_rfl
  i175 := by kernel_rfl
  i210 := by kernel_rfl
  i212 := by kernel_rfl
  i232 := by kernel_rfl
  i233 := by kernel_rfl
  m15 := by kernel_rfl
  m16 := by kernel_rfl
  m17 := by kernel_rfl
  m18 := by kernel_rfl
  m19 := by kernel_rfl
  c0 := by kernel_rfl
  c2 := by kernel_rfl
  c3 := by kernel_rfl
  c4 := by kernel_rfl
  c5 := by kernel_rfl
  c9 := by kernel_rfl
  c20 := by kernel_rfl
  c21 := by kernel_rfl
  c37 := by kernel_rfl
  c46 := by kernel_rfl
  c51 := by kernel_rfl
  c53 := by kernel_rfl
  c75 := by kernel_rfl
  c76 := by kernel_rfl
  c80 := by kernel_rfl
  c85 := by kernel_rfl
  c127 := by kernel_rfl
  c143 := by kernel_rfl
  c145 := by kernel_rfl
  c167 := by kernel_rfl
  c168 := by kernel_rfl
  c171 := by kernel_rfl
  c173 := by kernel_rfl
  c175 := by kernel_rfl
  c210 := by kernel_rfl
  c212 := by kernel_rfl
  c213 := by kernel_rfl
  c232 := by kernel_rfl
  c233 := by kernel_rfl }
def Tryz.laysItoa_ren : Go.Shelf.Ren := ⟨fun | 171 => 58 | 243 => 77 | 246 => 99 | 283 => 112 | 284 => 113 | 285 => 114 | 286 => 115 | 129 => 123 | 317 => 122 | 318 => 124 | 319 => 125 | 320 => 126 | 337 => 131 | 338 => 132 | n => n, fun | 3 => 3 | 9 => 9 | 2 => 2 | 4 => 4 | 171 => 127 | 0 => 0 | 53 => 112 | 37 => 72 | 5 => 5 | 173 => 130 | 212 => 139 | 51 => 109 | 20 => 20 | 213 => 140 | 46 => 89 | 232 => 149 | 233 => 150 | n => n, fun | 17 => 2 | 18 => 6 | 19 => 7 | n => n⟩
theorem Tryz.laysItoa : Go.Proofs.LaysM.n171 Tryz.prog Tryz.laysItoa_ren := {
  mixed := by kernel_rfl
  f129 := Tryz.func123.trans (congrArg some (by kernel_rfl))
  f171 := Tryz.func58.trans (congrArg some (by kernel_rfl))
  f243 := Tryz.func77.trans (congrArg some (by kernel_rfl))
  f246 := Tryz.func99.trans (congrArg some (by kernel_rfl))
  f283 := Tryz.func112.trans (congrArg some (by kernel_rfl))
  f284 := Tryz.func113.trans (congrArg some (by kernel_rfl))
  f285 := Tryz.func114.trans (congrArg some (by kernel_rfl))
  f286 := Tryz.func115.trans (congrArg some (by kernel_rfl))
  f317 := Tryz.func122.trans (congrArg some (by kernel_rfl))
  f318 := Tryz.func124.trans (congrArg some (by kernel_rfl))
  f319 := Tryz.func125.trans (congrArg some (by kernel_rfl))
  f320 := Tryz.func126.trans (congrArg some (by kernel_rfl))
  f337 := Tryz.func131.trans (congrArg some (by kernel_rfl))
  f338 := Tryz.func132.trans (congrArg some (by kernel_rfl))
  t0 := Tryz.underlying0
  a0 := Tryz.isAgg0
  z0 := Tryz.sizeOf0
  v0 := Tryz.zeroValue0
  t2 := Tryz.underlying2
  a2 := Tryz.isAgg2
  z2 := Tryz.sizeOf2
  v2 := Tryz.zeroValue2
  t3 := Tryz.underlying3
  a3 := Tryz.isAgg3
  z3 := Tryz.sizeOf3
  v3 := Tryz.zeroValue3
  t4 := Tryz.underlying4
  a4 := Tryz.isAgg4
  z4 := Tryz.sizeOf4
  v4 := Tryz.zeroValue4
  t5 := Tryz.underlying5
  a5 := Tryz.isAgg5
  z5 := Tryz.sizeOf5
  v5 := Tryz.zeroValue5
  t9 := Tryz.underlying9
  a9 := Tryz.isAgg9
  z9 := Tryz.sizeOf9
  v9 := Tryz.zeroValue9
  t20 := Tryz.underlying20
  a20 := Tryz.isAgg20
  z20 := Tryz.sizeOf20
  v20 := Tryz.zeroValue20
  t37 := Tryz.underlying72
  a37 := Tryz.isAgg72
  z37 := Tryz.sizeOf72
  v37 := Tryz.zeroValue72
  t46 := Tryz.underlying89
  a46 := Tryz.isAgg89
  z46 := Tryz.sizeOf89
  v46 := Tryz.zeroValue89
  t51 := Tryz.underlying109
  a51 := Tryz.isAgg109
  z51 := Tryz.sizeOf109
  v51 := Tryz.zeroValue109
  t53 := Tryz.underlying112
  a53 := Tryz.isAgg112
  z53 := Tryz.sizeOf112
  v53 := Tryz.zeroValue112
  t171 := Tryz.underlying127
  a171 := Tryz.isAgg127
  z171 := Tryz.sizeOf127
  v171 := Tryz.zeroValue127
  t173 := Tryz.underlying130
  a173 := Tryz.isAgg130
  z173 := Tryz.sizeOf130
  v173 := Tryz.zeroValue130
  t212 := Tryz.underlying139
  a212 := Tryz.isAgg139
  z212 := Tryz.sizeOf139
  v212 := Tryz.zeroValue139
  t213 := Tryz.underlying140
  a213 := Tryz.isAgg140
  z213 := Tryz.sizeOf140
  t232 := Tryz.underlying149
  a232 := Tryz.isAgg149
  z232 := Tryz.sizeOf149
  v232 := Tryz.zeroValue149
  t233 := Tryz.underlying150
  a233 := Tryz.isAgg150
  z233 := Tryz.sizeOf150
  v233 := Tryz.zeroValue150
  g17 := by kernel_rfl
  g18 := by kernel_rfl
  g19 := by kernel_rfl
  i0 := by kernel_rfl
  i2 := by kernel_rfl
  i3 := by kernel_rfl
  i4 := by kernel_rfl
  i5 := by kernel_rfl
  i9 := by kernel_rfl
  i20 := by kernel_rfl
  i37 := by kernel_rfl
  i46 := by kernel_rfl
  i51 := by kernel_rfl
  i53 := by kernel_rfl
  i171 := by kernel_rfl
  i173 := by kernel_rfl
  i212 := by kernel_rfl
  i232 := by kernel_rfl
  i233 := by kernel_rfl
  m17 := by kernel_rfl
  m18 := by kernel_rfl
  m19 := by kernel_rfl }
def Tryz.laysRep_ren : Go.Shelf.Ren := ⟨fun | 105 => 61 | 212 => 79 | 99 => 80 | 165 => 81 | 166 => 62 | 170 => 82 | 169 => 63 | 263 => 100 | 264 => 101 | 206 => 102 | 240 => 83 | 241 => 103 | 276 => 104 | 277 => 116 | n => n, fun | 9 => 9 | 3 => 3 | 4 => 4 | 20 => 20 | 0 => 0 | 46 => 89 | 109 => 90 | 5 => 5 | 72 => 76 | 76 => 70 | 51 => 109 | 146 => 110 | 53 => 112 | 148 => 113 | 70 => 74 | 37 => 72 | 75 => 69 | 127 => 94 | 164 => 115 | 80 => 80 | n => n, fun | n => n⟩
theorem Tryz.laysRep : Go.Proofs.Lays.n105 Tryz.prog Tryz.laysRep_ren := {
  mixed := by kernel_rfl
  f99 := Tryz.func80.trans (congrArg some (by kernel_rfl))
  f105 := Tryz.func61.trans (congrArg some (by kernel_rfl))
  f165 := Tryz.func81.trans (congrArg some (by kernel_rfl))
  f166 := Tryz.func62.trans (congrArg some (by kernel_rfl))
  f169 := Tryz.func63.trans (congrArg some (by kernel_rfl))
  f170 := Tryz.func82.trans (congrArg some (by kernel_rfl))
  f206 := Tryz.func102.trans (congrArg some (by kernel_rfl))
  f212 := Tryz.func79.trans (congrArg some (by kernel_rfl))
  f240 := Tryz.func83.trans (congrArg some (by kernel_rfl))
  f241 := Tryz.func103.trans (congrArg some (by kernel_rfl))
  f263 := Tryz.func100.trans (congrArg some (by kernel_rfl))
  f264 := Tryz.func101.trans (congrArg some (by kernel_rfl))
  f276 := Tryz.func104.trans (congrArg some (by kernel_rfl))
  f277 := Tryz.func116.trans (congrArg some (by kernel_rfl))
  t0 := Tryz.underlying0
  a0 := Tryz.isAgg0
  z0 := Tryz.sizeOf0
  v0 := Tryz.zeroValue0
  t3 := Tryz.underlying3
  a3 := Tryz.isAgg3
  z3 := Tryz.sizeOf3
  v3 := Tryz.zeroValue3
  t4 := Tryz.underlying4
  a4 := Tryz.isAgg4
  z4 := Tryz.sizeOf4
  v4 := Tryz.zeroValue4
  t5 := Tryz.underlying5
  a5 := Tryz.isAgg5
  z5 := Tryz.sizeOf5
  v5 := Tryz.zeroValue5
  t9 := Tryz.underlying9
  a9 := Tryz.isAgg9
  z9 := Tryz.sizeOf9
  v9 := Tryz.zeroValue9
  t20 := Tryz.underlying20
  a20 := Tryz.isAgg20
  z20 := Tryz.sizeOf20
  v20 := Tryz.zeroValue20
  t37 := Tryz.underlying72
  a37 := Tryz.isAgg72
  z37 := Tryz.sizeOf72
  v37 := Tryz.zeroValue72
  t46 := Tryz.underlying89
  a46 := Tryz.isAgg89
  z46 := Tryz.sizeOf89
  v46 := Tryz.zeroValue89
  t51 := Tryz.underlying109
  a51 := Tryz.isAgg109
  z51 := Tryz.sizeOf109
  v51 := Tryz.zeroValue109
  t53 := Tryz.underlying112
  a53 := Tryz.isAgg112
  z53 := Tryz.sizeOf112
  v53 := Tryz.zeroValue112
  t70 := Tryz.underlying74
  a70 := Tryz.isAgg74
  z70 := Tryz.sizeOf74
  v70 := Tryz.zeroValue74
  t72 := Tryz.underlying76
  a72 := Tryz.isAgg76
  z72 := Tryz.sizeOf76
  v72 := Tryz.zeroValue76
  t75 := Tryz.underlying69
  a75 := Tryz.isAgg69
  z75 := Tryz.sizeOf69
  v75 := Tryz.zeroValue69
  t76 := Tryz.underlying70
  a76 := Tryz.isAgg70
  z76 := Tryz.sizeOf70
  v76 := Tryz.zeroValue70
  t109 := Tryz.underlying90
  a109 := Tryz.isAgg90
  z109 := Tryz.sizeOf90
  v109 := Tryz.zeroValue90
  t127 := Tryz.underlying94
  a127 := Tryz.isAgg94
  z127 := Tryz.sizeOf94
  v127 := Tryz.zeroValue94
  t146 := Tryz.underlying110
  a146 := Tryz.isAgg110
  z146 := Tryz.sizeOf110
  v146 := Tryz.zeroValue110
  t148 := Tryz.underlying113
  a148 := Tryz.isAgg113
  z148 := Tryz.sizeOf113
  v148 := Tryz.zeroValue113
  t164 := Tryz.underlying115
  a164 := Tryz.isAgg115
  z164 := Tryz.sizeOf115
  v164 := Tryz.zeroValue115 }
def Tryz.laysPre_ren : Go.Shelf.Ren := ⟨fun | 101 => 73 | 208 => 86 | 206 => 102 | n => n, fun | 9 => 9 | 4 => 4 | 3 => 3 | n => n, fun | n => n⟩
theorem Tryz.laysPre : Go.Proofs.Lays.n101 Tryz.prog Tryz.laysPre_ren := {
  mixed := by kernel_rfl
  f101 := Tryz.func73.trans (congrArg some (by kernel_rfl))
  f206 := Tryz.func102.trans (congrArg some (by kernel_rfl))
  f208 := Tryz.func86.trans (congrArg some (by kernel_rfl))
  t3 := Tryz.underlying3
  a3 := Tryz.isAgg3
  z3 := Tryz.sizeOf3
  v3 := Tryz.zeroValue3
  t4 := Tryz.underlying4
  a4 := Tryz.isAgg4
  z4 := Tryz.sizeOf4
  v4 := Tryz.zeroValue4
  t9 := Tryz.underlying9
  a9 := Tryz.isAgg9
  z9 := Tryz.sizeOf9
  v9 := Tryz.zeroValue9 }
def Tryz.laysTrim_ren : Go.Shelf.Ren := ⟨fun | 160 => 74 | 232 => 88 | 231 => 87 | 227 => 89 | 234 => 91 | 233 => 90 | 236 => 93 | 235 => 92 | 228 => 105 | 271 => 108 | 151 => 107 | 197 => 106 | 120 => 119 | 152 => 118 | 260 => 117 | 137 => 127 | 119 => 128 | 224 => 129 | 225 => 130 | 217 => 133 | 266 => 134 | n => n, fun | 9 => 9 | 4 => 4 | 3 => 3 | 5 => 5 | 117 => 98 | 116 => 97 | 0 => 0 | 124 => 101 | 21 => 21 | 105 => 118 | 46 => 89 | 119 => 142 | 139 => 145 | 138 => 144 | n => n, fun | 3 => 4 | 4 => 5 | n => n⟩
theorem Tryz.laysTrim : Go.Proofs.Lays.n160 Tryz.prog Tryz.laysTrim_ren := {
  mixed := by kernel_rfl
  f119 := Tryz.func128.trans (congrArg some (by kernel_rfl))
  f120 := Tryz.func119.trans (congrArg some (by kernel_rfl))
  f137 := Tryz.func127.trans (congrArg some (by kernel_rfl))
  f151 := Tryz.func107.trans (congrArg some (by kernel_rfl))
  f152 := Tryz.func118.trans (congrArg some (by kernel_rfl))
  f160 := Tryz.func74.trans (congrArg some (by kernel_rfl))
  f197 := Tryz.func106.trans (congrArg some (by kernel_rfl))
  f217 := Tryz.func133.trans (congrArg some (by kernel_rfl))
  f224 := Tryz.func129.trans (congrArg some (by kernel_rfl))
  f225 := Tryz.func130.trans (congrArg some (by kernel_rfl))
  f227 := Tryz.func89.trans (congrArg some (by kernel_rfl))
  f228 := Tryz.func105.trans (congrArg some (by kernel_rfl))
  f231 := Tryz.func87.trans (congrArg some (by kernel_rfl))
  f232 := Tryz.func88.trans (congrArg some (by kernel_rfl))
  f233 := Tryz.func90.trans (congrArg some (by kernel_rfl))
  f234 := Tryz.func91.trans (congrArg some (by kernel_rfl))
  f235 := Tryz.func92.trans (congrArg some (by kernel_rfl))
  f236 := Tryz.func93.trans (congrArg some (by kernel_rfl))
  f260 := Tryz.func117.trans (congrArg some (by kernel_rfl))
  f266 := Tryz.func134.trans (congrArg some (by kernel_rfl))
  f271 := Tryz.func108.trans (congrArg some (by kernel_rfl))
  t0 := Tryz.underlying0
  a0 := Tryz.isAgg0
  z0 := Tryz.sizeOf0
  v0 := Tryz.zeroValue0
  t3 := Tryz.underlying3
  a3 := Tryz.isAgg3
  z3 := Tryz.sizeOf3
  v3 := Tryz.zeroValue3
  t4 := Tryz.underlying4
  a4 := Tryz.isAgg4
  z4 := Tryz.sizeOf4
  v4 := Tryz.zeroValue4
  t5 := Tryz.underlying5
  a5 := Tryz.isAgg5
  z5 := Tryz.sizeOf5
  v5 := Tryz.zeroValue5
  t9 := Tryz.underlying9
  a9 := Tryz.isAgg9
  z9 := Tryz.sizeOf9
  v9 := Tryz.zeroValue9
  t21 := Tryz.underlying21
  a21 := Tryz.isAgg21
  z21 := Tryz.sizeOf21
  v21 := Tryz.zeroValue21
  t46 := Tryz.underlying89
  a46 := Tryz.isAgg89
  z46 := Tryz.sizeOf89
  v46 := Tryz.zeroValue89
  t105 := Tryz.underlying118
  a105 := Tryz.isAgg118
  z105 := Tryz.sizeOf118
  v105 := Tryz.zeroValue118
  t116 := Tryz.underlying97
  a116 := Tryz.isAgg97
  z116 := Tryz.sizeOf97
  t117 := Tryz.underlying98
  a117 := Tryz.isAgg98
  z117 := Tryz.sizeOf98
  v117 := Tryz.zeroValue98
  t119 := Tryz.underlying142
  a119 := Tryz.isAgg142
  z119 := Tryz.sizeOf142
  t124 := Tryz.underlying101
  a124 := Tryz.isAgg101
  z124 := Tryz.sizeOf101
  v124 := Tryz.zeroValue101
  t138 := Tryz.underlying144
  a138 := Tryz.isAgg144
  z138 := Tryz.sizeOf144
  v138 := Tryz.zeroValue144
  t139 := Tryz.underlying145
  a139 := Tryz.isAgg145
  z139 := Tryz.sizeOf145
  v139 := Tryz.zeroValue145
  g3 := by kernel_rfl
  g4 := by kernel_rfl }
theorem Tryz.extraRep : Builder.Extra Tryz.prog Tryz.laysRep_ren := {
  sizeBuilder := by kernel_rfl
  liesBuilder := by kernel_rfl
  t5 := Tryz.underlying5
  a5 := Tryz.isAgg5
  z5 := Tryz.sizeOf5
  v5 := Tryz.zeroValue5
  infoByte := by kernel_rfl
  cellsByte := by kernel_rfl
  sizeByte := by kernel_rfl
  neB5 := by decide }
theorem Tryz.bldW_62 : MeetsBW Tryz.prog 62 76 5 := Any.bldW_meets (ρ := Tryz.laysRep_ren) { Tryz.laysRep with } Tryz.extraRep
theorem Tryz.bldS_63 : MeetsBS Tryz.prog 63 76 5 := Any.bldS_meets (ρ := Tryz.laysRep_ren) { Tryz.laysRep with } Tryz.extraRep
end Go.Proofs
namespace Go.Ev.I
open Go Go.Proofs Go.Ev Go.RowKit
theorem one_str {P : Program} {glob : Nat → Option Dat} {w w' : World} {Pr : Nat → Prop} {S : Spec} {ds : List Dat} {e : Ending} {s : List UInt8} (hS : S.results = [.dat .str]) (hv : S.val ds = [⟨.str, s⟩]) (he : e = .returned (.string (strOf s))) (hb : Below w.heap.size w w') :
    ∃ vs, e = .returned (retVal vs) ∧ w.grownBy w' none ∧ ResOK Pr w.heap.size w' S.results (S.val ds) vs := by
  rw [hS, hv]
  refine ⟨[.string (strOf s)], he, ⟨hb.os, hb.tape, hb.output, hb.size, fun k hk _ => hb.block k hk⟩, rfl, ?_, ?_⟩
  · intro i k hi
    match i, hi with
    | 0, hi => cases hi; exact ⟨[.string (strOf s)], rfl, rfl⟩
    | i + 1, hi => cases hi
  · intro i j e t e' t' b hi hj
    match i, hi with
    | 0, hi => cases hi
    | i + 1, hi => cases hi
theorem atoi_meets : Meets Tryz.prog glob 57 spec57 := by
  refine ⟨Tryz.call57, fun w Pr ds args hPr hG hds hA hpre => ?_⟩
  obtain ⟨x0, ds0, rfl, h0⟩ := datsS hds
  have h9 := dats0 h0; subst h9
  match args, hA with
  | [v0], hA =>
    obtain ⟨⟨c0, r0, rfl⟩, _⟩ := hA
    have hp : P57 x0 = true := hpre
    simp only [P57, decide_eq_true_eq] at hp
    simp only [RV] at r0
    subst r0
    have hsz : (strOf x0).size = x0.length := by simp [strOf, ByteArray.size]
    have fin : ∀ (e : Ending) (w' : World) (v : Int) (b : Bool) (u : Value), F57 x0 = (v, b) → (b = false → u = .nilIface) → (b = true → ∃ T q, u = .iface T q) → e = .returned (.tuple #[.int .i64 v, u]) → Below w.heap.size w w' →
        ∃ vs, e = .returned (retVal vs) ∧ w.grownBy w' none ∧ ResOK Pr w.heap.size w' spec57.results (spec57.val [⟨.str, x0⟩]) vs := by
      intro e w' v b u hF hu1 hu2 he hb
      refine ⟨[.int .i64 v, u], he, ⟨hb.os, hb.tape, hb.output, hb.size, fun k hk _ => hb.block k hk⟩, rfl, ?_, ?_⟩
      · intro i k hi
        match i, hi with
        | 0, hi => cases hi; exact ⟨[.int .i64 v], (show [Value.int .i64 v] = [.int .i64 (F57 x0).1] by rw [hF]), rfl⟩
        | 1, hi =>
          cases hi
          refine ⟨[u], ?_, rfl⟩
          show ((F57 x0).2 = false → _) ∧ ((F57 x0).2 = true → _)
          rw [hF]
          exact ⟨fun h => by rw [hu1 h], fun h => by obtain ⟨T, q, rfl⟩ := hu2 h; exact ⟨T, q, rfl⟩⟩
        | i + 2, hi => cases hi
      · intro i j e t e' t' b hi hj
        match i, hi with
        | 0, hi => cases hi
        | 1, hi => cases hi
        | i + 2, hi => cases hi
    have err : ∀ g name, Tryz.prog.globalNamed name = some g → glob g = some ⟨.err, true⟩ → ∃ tp p, w.var? Tryz.prog name = some #[.iface tp p] := fun g name hn hg => by
      obtain ⟨cs, r1, _, _, r3⟩ := hG g _ hg
      obtain ⟨tp, p, rfl⟩ := r1.2 rfl
      obtain ⟨cur, e, fz, k1, k2⟩ := r3 (by simp)
      refine ⟨tp, p, ?_⟩
      simp only [World.var?, hn, Option.bind_some, k1]
      rw [show cur = #[.iface tp p] from Array.ext' k2]
    show Calls Tryz.prog 57 #[.string (strOf x0)] w _
    cases hat : Lib.atoiAll x0
    · rename_i v
      refine Calls.mono (Any.strconv_Atoi_ok Tryz.laysAtoi (strOf x0) (by rw [hsz]; omega) v hat w) fun e w' h => fin e w' v false .nilIface (by simp [F57, hat]) (fun _ => rfl) (fun h => by cases h) h.1 ?_
      rcases h.2 with rfl | ⟨t, rfl⟩
      · exact Below.refl _ _
      · exact Lib.bytesWorld_below ..
    ·
      obtain ⟨tp, p, hv⟩ := err 0 "strconv.ErrSyntax" (by kernel_rfl) rfl
      refine Calls.mono (Any.strconv_Atoi_syntax_var Tryz.laysAtoi (strOf x0) (by rw [hsz]; omega) hat tp p w hv) fun e w' h => ?_
      obtain ⟨N, h1, _, _, h4⟩ := h
      exact fin e w' 0 true _ (by simp [F57, hat]) (fun h => by cases h) (fun _ => ⟨_, _, rfl⟩) h1 h4
    ·
      obtain ⟨tp, p, hv⟩ := err 1 "strconv.ErrRange" (by kernel_rfl) rfl
      refine Calls.mono (Any.strconv_Atoi_range_var Tryz.laysAtoi (strOf x0) (by rw [hsz]; omega) hat tp p w hv) fun e w' h => ?_
      obtain ⟨N, h1, _, _, h4⟩ := h
      exact fin e w' (Lib.atoiSat x0) true _ (by simp [F57, hat]) (fun h => by cases h) (fun _ => ⟨_, _, rfl⟩) h1 h4
theorem rows_ints' {Pr : Nat → Prop} {w : World} {k : IntKind} : ∀ {xs : List Int} {ds : List Value}, Rows (RV Pr w (.int k)) xs ds → ds = xs.map fun n => Value.int k n
  | _, _, .nil => rfl
  | _, _, .cons h t => by
    simp only [RV] at h
    subst h
    rw [rows_ints' t]; rfl
theorem itoa_meets : Meets Tryz.prog glob 58 spec58 := by
  refine ⟨Tryz.call58, fun w Pr ds args hPr hG hds hA hpre => ?_⟩
  obtain ⟨x0, ds0, rfl, h0⟩ := datsS hds
  have h9 := dats0 h0; subst h9
  match args, hA with
  | [v0], hA =>
    obtain ⟨⟨c0, r0, rfl⟩, _⟩ := hA
    have hp : P58 x0 = true := hpre
    simp only [P58, Bool.and_eq_true, decide_eq_true_eq] at hp
    simp only [RV] at r0
    subst r0
    have htab : Lib.TabIs Tryz.prog w "internal/strconv.uint64pow10" .u64 Lib.pow10Tab := by
      obtain ⟨cs, r1, _, _, r3⟩ := hG 2 _ rfl
      have := rows_ints' r1.2
      subst this
      obtain ⟨cur, e, fz, k1, k2⟩ := r3 (by simp [pow10K])
      simp only [Lib.TabIs, World.var?, show Tryz.prog.globalNamed "internal/strconv.uint64pow10" = some 2 by kernel_rfl, Option.bind_some, k1]
      congr 1
      apply Array.ext'
      rw [k2, show Lib.pow10Tab = pow10K by decide]
    show Calls Tryz.prog 58 #[.int .i64 x0] w _
    refine Calls.mono (Any.strconv_Itoa Tryz.laysItoa x0 hp.1 hp.2 w htab) fun e w' h => one_str (P := Tryz.prog) (glob := glob) (s := Lib.itoa x0) rfl rfl h.1 ?_
    obtain ⟨k, os, rfl⟩ := h.2
    exact ⟨rfl, rfl, rfl, by simp [Go.Sort.grow, World.drewN], fun j hj => by simp [Go.Sort.grow, World.drewN, Array.getElem?_append, hj]⟩
theorem repeat_meets : Meets Tryz.prog glob 61 spec61 := by
  refine ⟨Tryz.call61, fun w Pr ds args hPr _ hds hA hpre => ?_⟩
  obtain ⟨x0, ds0, rfl, h0⟩ := datsS hds
  obtain ⟨x1, ds1, rfl, h1⟩ := datsS h0
  have h9 := dats0 h1; subst h9
  match args, hA with
  | [v0, v1], hA =>
    obtain ⟨⟨c0, r0, rfl⟩, ⟨c1, r1, rfl⟩, _⟩ := hA
    have hp : P61 x0 x1 = true := hpre
    simp only [P61, Bool.and_eq_true, decide_eq_true_eq] at hp
    obtain ⟨⟨hp1, hp2⟩, hp3⟩ := hp
    simp only [RV] at r0 r1
    subst r0
    subst r1
    obtain ⟨c, rfl⟩ := Int.eq_ofNat_of_zero_le hp1
    rw [Int.toNat_natCast] at hp3
    have hsz : (strOf x0).size = x0.length := by simp [strOf, ByteArray.size]
    show Calls Tryz.prog 61 #[.string (strOf x0), .int .i64 c] w _
    exact Calls.mono (Any.strings_Repeat Tryz.laysRep Tryz.extraRep (strOf x0) c w (by omega) (by rw [hsz]; exact hp3)) fun e w' h => one_str (P := Tryz.prog) (glob := glob) (s := Lib.repeatL x0 c) rfl rfl h.1 h.2
theorem trimPrefix_meets : Meets Tryz.prog glob 73 spec73 := by
  refine ⟨Tryz.call73, fun w Pr ds args hPr _ hds hA hpre => ?_⟩
  obtain ⟨x0, ds0, rfl, h0⟩ := datsS hds
  obtain ⟨x1, ds1, rfl, h1⟩ := datsS h0
  have h9 := dats0 h1; subst h9
  match args, hA with
  | [v0, v1], hA =>
    obtain ⟨⟨c0, r0, rfl⟩, ⟨c1, r1, rfl⟩, _⟩ := hA
    simp only [RV] at r0 r1
    subst r0
    subst r1
    show Calls Tryz.prog 73 #[.string (strOf x0), .string (strOf x1)] w _
    exact Calls.mono (Any.strings_TrimPrefix Tryz.laysPre (strOf x0) (strOf x1) w) fun e w' h => one_str (P := Tryz.prog) (glob := glob) (s := Lib.trimPrefix x0 x1) rfl rfl h.1 (h.2 ▸ Below.refl _ _)
theorem trim_meets : Meets Tryz.prog glob 74 spec74 := by
  refine ⟨Tryz.call74, fun w Pr ds args hPr _ hds hA hpre => ?_⟩
  obtain ⟨x0, ds0, rfl, h0⟩ := datsS hds
  obtain ⟨x1, ds1, rfl, h1⟩ := datsS h0
  have h9 := dats0 h1; subst h9
  match args, hA with
  | [v0, v1], hA =>
    obtain ⟨⟨c0, r0, rfl⟩, ⟨c1, r1, rfl⟩, _⟩ := hA
    have hp : P74 x0 x1 = true := hpre
    simp only [P74, Bool.and_eq_true, decide_eq_true_eq] at hp
    obtain ⟨hp1, hp2, hp3⟩ := hp
    simp only [RV] at r0 r1
    subst r0
    subst r1
    have hsz : ∀ x : List UInt8, (strOf x).size = x.length := fun x => by simp [strOf, ByteArray.size]
    show Calls Tryz.prog 74 #[.string (strOf x0), .string (strOf x1)] w _
    exact Calls.mono (Any.strings_Trim_laid Tryz.laysTrim (by kernel_rfl) (strOf x0) (strOf x1) w (by rw [hsz]; exact hp1) (by rw [hsz]; exact hp2) (fun j b hb => by
      have := List.all_eq_true.1 hp3 b (List.mem_of_getElem? hb)
      simpa using this)) fun e w' h => one_str (P := Tryz.prog) (glob := glob) (s := Lib.trimS x0 x1) rfl rfl h.1 h.2
end Go.Ev.I
