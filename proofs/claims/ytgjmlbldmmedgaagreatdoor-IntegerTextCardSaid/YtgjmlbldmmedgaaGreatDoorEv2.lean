/- A library for the proofs of this seat: an evaluator of the code over abstract states, and its soundness. It states nothing of the program. -/
import Derived.Test.YtgjmlbldmmedgaaGreatDoorEv1
import Derived.Laws.MakeOwn
import Derived.Laws.OwnMore
import Derived.Laws.Tables
import Derived.Great.BuildSlice
import Derived.Lib.AppendStr
import Derived.Lib.UnsafeStr
set_option linter.unusedSimpArgs false
set_option linter.unusedVariables false
set_option linter.deprecated false
namespace Go.Ev
open Go.RowKit
section
variable {Z : ZS} {E : Env} {N : Nat} {w0 : World} {Ow : OwS} {S S' D D' : Nat → Prop} {g g' : Mem} {G G' : Ghost} {a a' : Act} {w w' : World} {P : Program} {F : Fence} {n : Nat}

/-- A write that freezes. -/
def isFrz (g : Mem) (p : Loc × AV) : Prop :=
  isRoot p.1 ∧ ((∃ e t xs s, g p.1 = .own e t xs s ∧ p.2 = .dat (.list t) xs) ∨ (∃ t xs, g p.1 = .dat (.list t) xs ∧ p.2 = g p.1))

theorem freezeAll : ∀ {ws : List (Loc × AV)} {g : Mem} {G : Ghost}, Rel Z E N w0 Ow S D g G a w → (∀ p ∈ ws, isFrz g p) →
    ∃ G1, Rel Z E N w0 Ow S D (g.sets ws) G1 a w ∧ (∀ b, free Z G w b → free Z G1 w b) ∧ (∀ p ∈ ws, ∀ b, G p.1 = some b → free Z G1 w b) ∧
      (∀ l, (∀ e t xs s, g l ≠ .own e t xs s) → g.sets ws l = g l) ∧ (∀ l, G1 l = none ∨ G1 l = G l) ∧ (∀ b, G1 (.box b) = G (.box b)) := by
  intro ws
  induction ws with
  | nil => intro g G h _; exact ⟨G, h, fun _ hb => hb, by simp, fun _ _ => rfl, fun _ => .inr rfl, fun _ => rfl⟩
  | cons p r ih =>
    intro g G h hw
    obtain ⟨hr, hp⟩ := hw p (by simp)
    rcases hp with ⟨e, t, xs, s, h1, h2⟩ | ⟨t, xs, h1, h2⟩
    · have h3 := h.freeze hr h1
      obtain ⟨G1, k1, k2, k3, k4, k5, k6⟩ := ih h3 (fun q hq => by
        obtain ⟨hqr, hqp⟩ := hw q (by simp [hq])
        refine ⟨hqr, ?_⟩
        by_cases he : q.1 = p.1
        · rw [he, Mem.upd_same]
          rcases hqp with ⟨e', t', xs', s', h4, h5⟩ | ⟨t', xs', h4, h5⟩
          · rw [he, h1] at h4
            cases h4
            exact .inr ⟨t, xs, rfl, h5⟩
          · rw [he, h1] at h4; cases h4
        · rw [Mem.upd_ne g _ (Ne.symm he)]
          exact hqp)
      have hf : ∀ b, G p.1 = some b → free Z (G.upd p.1 none) w b := fun b hb => ⟨(h.bnd p.1 b hb).1, fun k e' => by
        by_cases hk : k = p.1
        · rw [hk, Ghost.upd_same] at e'; cases e'
        · rw [Ghost.upd_ne _ _ (Ne.symm hk)] at e'; exact hk (h.inj k p.1 b e' hb), h.zow b (h.bnd p.1 b hb).2⟩
      have hnb : ∀ b, p.1 ≠ .box b := fun b e => by rw [e] at hr; exact hr
      refine ⟨G1, ?_, fun b hb => k2 b (free_of_upd_none hb), fun q hq b hb => ?_, fun l hl => ?_, fun l => ?_, fun b => ?_⟩
      · rw [Mem.sets_cons, h2]; exact k1
      · by_cases he : q.1 = p.1
        · rw [he] at hb; exact k2 b (hf b hb)
        · rcases List.mem_cons.1 hq with rfl | hq
          · exact absurd rfl he
          · exact k3 q hq b (by rw [Ghost.upd_ne _ _ (Ne.symm he)]; exact hb)
      · have hlp : p.1 ≠ l := fun e' => by rw [← e'] at hl; exact hl _ _ _ _ h1
        rw [Mem.sets_cons, h2]
        have e1 : g.upd p.1 (.dat (.list t) xs) l = g l := Mem.upd_ne g _ hlp
        rw [k4 l (by rw [e1]; exact hl), e1]
      · rcases k5 l with h4 | h4
        · exact .inl h4
        · by_cases he : p.1 = l
          · rw [he, Ghost.upd_same] at h4; exact .inl h4
          · rw [Ghost.upd_ne _ _ he] at h4; exact .inr h4
      · rw [k6, Ghost.upd_ne _ _ (hnb b)]
    · have hu : g.upd p.1 p.2 = g := by
        funext k
        rw [Mem.upd_apply]
        split
        · rename_i he; rw [he, h2]
        · rfl
      obtain ⟨G1, k1, k2, k3, k4, k5, k6⟩ := ih h (fun q hq => hw q (by simp [hq]))
      refine ⟨G1, by rw [Mem.sets_cons, hu]; exact k1, k2, fun q hq b hb => ?_, fun l hl => by rw [Mem.sets_cons, hu]; exact k4 l hl, k5, k6⟩
      rcases List.mem_cons.1 hq with rfl | hq
      · rcases h.gone q.1 b hb with ⟨_, _, _, _, h4⟩ | ⟨_, _, h4⟩ <;> rw [h1] at h4 <;> cases h4
      · exact k3 q hq b hb

theorem toDat_ws (h : Rel Z E N w0 Ow S D g G a w) {x : Operand} {v : AV} (hT : Told Z E S g G a w x v) {r : Dat × List (Loc × AV)} (hr : (toDat x v).run g = some r) : ∀ p ∈ r.2, isFrz g p := by
  unfold toDat at hr
  split at hr
  · simp [Q.run] at hr; subst hr; simp
  · rename_i e t xs st
    split at hr
    · rename_i s
      simp [Q.run] at hr; subst hr
      obtain ⟨k, hk, hgk⟩ := hT.own e t xs st rfl
      cases hk
      intro p hp
      simp only [List.mem_singleton] at hp
      subst hp
      exact ⟨trivial, .inl ⟨e, t, xs, st, hgk, rfl⟩⟩
    · simp [Q.run] at hr
  · rename_i l st t n
    simp only [Q.run] at hr
    split at hr
    · rename_i e t' xs st' hgl
      split at hr
      · simp only [castD] at hr
        split at hr
        · rename_i htt
          cases htt
          simp [Q.run, Q.bind] at hr
          subst hr
          intro p hp
          simp only [List.mem_singleton] at hp
          subst hp
          exact ⟨hT.stamp.2, .inl ⟨e, _, xs, st', hgl, rfl⟩⟩
        · simp [Q.run, Q.bind] at hr
      · simp [Q.run] at hr
    · simp [Q.run] at hr
  · simp [Q.run] at hr; subst hr; simp
  · simp [Q.run] at hr

theorem toDat_val (h : Rel Z E N w0 Ow S D g G a w) {x : Operand} {v : AV} (hT : Told Z E S g G a w x v) {r : Dat × List (Loc × AV)} (hr : (toDat x v).run g = some r) {Pr : Nat → Prop} (hPr : ∀ b, free Z G w b → Pr b) (hPw : ∀ p ∈ r.2, ∀ b, G p.1 = some b → Pr b) :
    ∃ cs, RV Pr w r.1.t r.1.x cs ∧ a.eval x = valOf r.1.t cs := by
  unfold toDat at hr
  split at hr
  · rename_i t y
    simp [Q.run] at hr; subst hr
    obtain ⟨cs, h1, h2⟩ := hT.r (.box 0) (by simp)
    exact ⟨cs, h1.keep (fun _ _ => rfl) hPr, h2⟩
  · rename_i e t xs st
    split at hr
    · rename_i s
      simp [Q.run] at hr; subst hr
      obtain ⟨k, hk, hgk⟩ := hT.own e t xs st rfl
      cases hk
      have ho := (show OwnR _ _ _ _ _ _ _ from hT.r (.slot s) (fun _ _ _ _ _ => ⟨s, rfl, rfl⟩))
      exact ⟨_, ho.frozen hPr (fun b hb => hPw (.slot s, .dat (.list t) xs) (by simp) b hb), by simp [valOf, Ty.isAgg]⟩
    · simp [Q.run] at hr
  · rename_i l st t n
    simp only [Q.run] at hr
    split at hr
    · rename_i e t' xs st' hgl
      split at hr
      · rename_i hs
        have := Nat.eq_of_beq_eq_true hs
        subst this
        simp only [castD] at hr
        split at hr
        · rename_i htt
          cases htt
          simp [Q.run, Q.bind] at hr
          subst hr
          have hroot := h.root hT.stamp.2 hgl
          have hv := (hT.r (.box 0) (by simp)).2 e xs hgl
          obtain ⟨A, cap, h3, h4, h5⟩ := hroot.slice
          have hfz := hroot.frozen hPr (fun b hb => hPw (l, .dat (.list t) xs) (by simp) b hb)
          rw [h3] at hfz hv
          exact ⟨_, hfz.cutTo hv.1, by rw [hv.2]; simp [valOf, Ty.isAgg, prefixOf]⟩
        · simp [Q.run, Q.bind] at hr
      · simp [Q.run] at hr
    · simp [Q.run] at hr
  · simp [Q.run] at hr; subst hr
    obtain ⟨cs, h1, h2, _⟩ := hT.r (.box 0) (by simp)
    exact ⟨cs, h1.keep (fun _ _ => rfl) hPr, h2⟩
  · simp [Q.run] at hr

theorem RV.nil_ {Pr : Nat → Prop} {t : Ty} : RV Pr w (.list t) [] [.slice none 0 0] := ⟨none, 0, rfl, by simp, by simp, by simp⟩

theorem toDatAs_ws (h : Rel Z E N w0 Ow S D g G a w) {T : Nat} {x : Operand} {v : AV} (hT : Told Z E S g G a w x v) {r : Dat × List (Loc × AV)} (hr : (toDatAs E T x v).run g = some r) : ∀ p ∈ r.2, isFrz g p := by
  unfold toDatAs at hr
  split at hr
  · simp only [Q.run_bind, Option.bind_eq_some_iff] at hr
    obtain ⟨t, _, hr⟩ := hr
    split at hr <;> simp [Q.run] at hr
    subst hr; simp
  · exact toDat_ws h hT hr
theorem toDatAs_val (h : Rel Z E N w0 Ow S D g G a w) {T : Nat} {x : Operand} {v : AV} (hT : Told Z E S g G a w x v) {r : Dat × List (Loc × AV)} (hr : (toDatAs E T x v).run g = some r) {Pr : Nat → Prop} (hPr : ∀ b, free Z G w b → Pr b) (hPw : ∀ p ∈ r.2, ∀ b, G p.1 = some b → Pr b) :
    ∃ cs, RV Pr w r.1.t r.1.x cs ∧ a.eval x = valOf r.1.t cs := by
  unfold toDatAs at hr
  split at hr
  · simp only [Q.run_bind, Option.bind_eq_some_iff] at hr
    obtain ⟨t, _, hr⟩ := hr
    split at hr <;> simp [Q.run] at hr
    subst hr
    exact ⟨_, RV.nil_, hT.r (.box 0) (by simp)⟩
  · exact toDat_val h hT hr hPr hPw

/-! ### Building -/
theorem foldl_set (off : Nat) : ∀ (vs : List Value) (j : Nat) (cs : Array Value), off + j + vs.length ≤ cs.size →
    ((vs.zipIdx j).foldl (fun cs (p : Value × Nat) => cs.setIfInBounds (off + p.2) p.1) cs).toList = cs.toList.take (off + j) ++ vs ++ cs.toList.drop (off + j + vs.length)
  | [], j, cs, _ => by simp
  | v :: vs, j, cs, h => by
    simp only [List.zipIdx_cons, List.foldl_cons]
    rw [foldl_set off vs (j + 1) _ (by simp at h ⊢; omega)]
    simp at h
    apply List.ext_getElem?
    intro k
    simp only [Array.toList_setIfInBounds, List.getElem?_append, List.length_take, List.length_set, Array.length_toList, List.length_append, List.length_cons]
    by_cases hk : k < off + j
    · simp [List.getElem?_take, show k < min (off + (j + 1)) cs.size by omega, show k < min (off + j) cs.size by omega, show k < min (off + (j + 1)) cs.size + vs.length by omega, show k < min (off + j) cs.size + (vs.length + 1) by omega, hk, show k < off + (j + 1) by omega, show off + j ≠ k by omega]
    · by_cases hk2 : k = off + j
      · subst hk2
        simp [List.getElem?_take, show off + j < min (off + (j + 1)) cs.size by omega, show ¬ (off + j < min (off + j) cs.size) by omega, show off + j < min (off + (j + 1)) cs.size + vs.length by omega, show off + j < min (off + j) cs.size + (vs.length + 1) by omega, show off + j - min (off + j) cs.size = 0 by omega, show off + j < cs.size by omega]
      · simp only [show ¬ k < min (off + (j + 1)) cs.size by omega, show ¬ k < min (off + j) cs.size by omega, if_false]
        by_cases hk3 : k < off + j + (vs.length + 1)
        · simp [show k < min (off + (j + 1)) cs.size + vs.length by omega, show k < min (off + j) cs.size + (vs.length + 1) by omega, show k - min (off + j) cs.size = (k - min (off + (j + 1)) cs.size) + 1 by omega]
        · simp only [show ¬ k < min (off + (j + 1)) cs.size + vs.length by omega, show ¬ k < min (off + j) cs.size + (vs.length + 1) by omega, if_false, List.getElem?_drop]
          rw [List.getElem?_set_ne (by omega)]
          congr 1
          omega

theorem RV.setField_ {Pr : Nat → Prop} : ∀ {t : Ty} {x : t.den} {cs : List Value} {i : Nat} {d : Dat} {x' : t.den} {ds : List Value}, RV Pr w t x cs → setField t x i d = some x' → RV Pr w d.t d.x ds →
    ∃ q, t.fieldAt i = some q ∧ q.2 = d.t ∧ q.1 + ds.length ≤ cs.length ∧ RV Pr w t x' (cs.take q.1 ++ ds ++ cs.drop (q.1 + ds.length)) := by
  intro t
  induction t with
  | pair s t ih1 ih2 =>
    intro x cs i d x' ds h hs hd
    obtain ⟨c1, c2, rfl, h1, h2⟩ := h
    have l1 := h1.len
    have l3 := hd.len
    cases i with
    | zero =>
      simp only [setField] at hs
      split at hs
      · rename_i he
        cases hs
        obtain ⟨dt, dx⟩ := d
        cases he
        refine ⟨(0, dt), rfl, rfl, by simp; omega, ?_⟩
        have e : (c1 ++ c2).drop (0 + ds.length) = c2 := by rw [Nat.zero_add, l3, ← l1, List.drop_left]
        rw [e]
        simp only [List.take_zero, List.nil_append]
        exact ⟨ds, c2, rfl, hd, h2⟩
      · cases hs
    | succ i =>
      simp only [setField, Option.map_eq_some_iff] at hs
      obtain ⟨z, hz, rfl⟩ := hs
      obtain ⟨q, hq, hq2, h4, h5⟩ := ih2 h2 hz hd
      refine ⟨(s.sz + q.1, q.2), by simp [Ty.fieldAt, hq], hq2, by simp; omega, ?_⟩
      refine ⟨c1, c2.take q.1 ++ ds ++ c2.drop (q.1 + ds.length), ?_, h1, h5⟩
      show (c1 ++ c2).take (s.sz + q.1) ++ ds ++ (c1 ++ c2).drop (s.sz + q.1 + ds.length) = _
      rw [← l1, List.take_length_add_append, Nat.add_assoc, List.drop_length_add_append]
      simp
  | _ => intro x cs i d x' ds h hs hd; simp [setField] at hs

theorem RV.setPart_ {Pr : Nat → Prop} {t : Ty} {x : t.den} {cs : List Value} {i : Nat} {d : Dat} {x' : t.den} {ds : List Value} (h : RV Pr w t x cs) (hs : setPart t x i d = some x') (hd : RV Pr w d.t d.x ds) :
    ∃ off, ((∃ q, t.fieldAt i = some q ∧ q.1 = off ∧ q.2 = d.t) ∨ (∃ m, t = .arr m d.t ∧ off = i * d.t.sz)) ∧ off + ds.length ≤ cs.length ∧ RV Pr w t x' (cs.take off ++ ds ++ cs.drop (off + ds.length)) := by
  unfold setPart at hs
  split at hs
  · rename_i m t xs
    obtain ⟨h1, h2⟩ := h
    split at hs
    · rename_i he
      split at hs
      · rename_i hi
        cases hs
        obtain ⟨dt, dx⟩ := d
        cases he
        have l3 := hd.len
        have l2 := h2.length (fun _ _ hc => hc.len)
        have h3 := h2.set (fun _ _ hc => hc.len) i (by omega) hd
        refine ⟨i * dt.sz, .inr ⟨m, rfl, rfl⟩, ?_, ?_⟩
        · rw [l2, l3]
          calc i * dt.sz + dt.sz = (i + 1) * dt.sz := by rw [Nat.add_mul, Nat.one_mul]
            _ ≤ xs.length * dt.sz := Nat.mul_le_mul_right _ (by omega)
        · refine ⟨by rw [List.length_set]; exact h1, ?_⟩
          rw [show i * dt.sz + ds.length = (i + 1) * dt.sz by rw [l3, Nat.add_mul, Nat.one_mul]]
          exact h3
      · cases hs
    · cases hs
  · obtain ⟨q, h1, h2, h3, h4⟩ := h.setField_ hs hd
    exact ⟨q.1, .inl ⟨q, h1, rfl, h2⟩, h3, h4⟩
  · cases hs
end
end Go.Ev

namespace Go.Ev
open Go.RowKit
section
variable {Z : ZS} {E : Env} {N : Nat} {w0 : World} {Ow : OwS} {S S' D D' : Nat → Prop} {g g' : Mem} {G G' : Ghost} {a a' : Act} {w w' : World} {P : Program} {F : Fence} {n : Nat}

theorem parts_ws (h : Rel Z E N w0 Ow S D g G a w) {ctx : Ctx} (hg : (gcond ctx).run g = some true) {t : Ty} {fT : Nat → Nat} : ∀ {ps : List (Nat × Operand)} {x : t.den} {r : t.den × List (Loc × AV)}, (partsQ E ctx t fT x ps).run g = some r → ∀ p ∈ r.2, isFrz g p
  | [], x, r, hr => by simp [partsQ, Q.run] at hr; subst hr; simp
  | (i, o) :: ps, x, r, hr => by
    simp only [partsQ, Q.run_bind, Option.bind_eq_some_iff] at hr
    obtain ⟨v, hv, dw, hd, x', hx', r2, hr2, hr⟩ := hr
    simp only [Q.run, Option.some.injEq] at hr
    subst hr
    intro p hp
    simp only [List.mem_append] at hp
    rcases hp with hp | hp
    · split at hd
      · split at hd <;> simp [Q.run] at hd
        subst hd; simp at hp
      · exact toDat_ws h (rd_told h hg hv) hd p hp
    · exact parts_ws h hg hr2 p hp

/-- Where the parts of a literal go. -/
def PlaceOk (t : Ty) (place : Nat → Option (Nat × Nat)) : Prop :=
  (∀ i q, t.fieldAt i = some q → place i = some (q.1, q.2.sz)) ∧ ∀ m u, t = .arr m u → ∀ i, place i = some (i * u.sz, u.sz)

theorem fill_set (cells : Array Value) (cs : List Value) (off : Nat) (h : off + cs.length ≤ cells.size) :
    (cs.toArray.zipIdx.foldl (fun (cs : Array Value) (p : Value × Nat) => cs.setIfInBounds (off + p.2) p.1) cells).toList = cells.toList.take off ++ cs ++ cells.toList.drop (off + cs.length) := by
  have := foldl_set off cs 0 cells (by omega)
  simpa using this

theorem parts_val (h : Rel Z E N w0 Ow S D g G a w) {ctx : Ctx} (hg : (gcond ctx).run g = some true) {t : Ty} {fT : Nat → Nat} {place : Nat → Option (Nat × Nat)} (hpl : PlaceOk t place) {Pr : Nat → Prop} (hPr : ∀ b, free Z G w b → Pr b) :
    ∀ {ps : List (Nat × Operand)} {x : t.den} {cells : Array Value} {r : t.den × List (Loc × AV)}, (partsQ E ctx t fT x ps).run g = some r → (∀ p ∈ r.2, ∀ b, G p.1 = some b → Pr b) → RV Pr w t x cells.toList →
      ∃ cells', Instr.fill place cells (ps.map fun p => (p.1, a.eval p.2)) = some cells' ∧ RV Pr w t r.1 cells'.toList
  | [], x, cells, r, hr, _, hx => by
    simp [partsQ, Q.run] at hr; subst hr
    exact ⟨cells, rfl, hx⟩
  | (i, o) :: ps, x, cells, r, hr, hw, hx => by
    simp only [partsQ, Q.run_bind, Option.bind_eq_some_iff] at hr
    obtain ⟨v, hv, dw, hd, x', hx', r2, hr2, hr⟩ := hr
    replace hx' := ofO_some hx'
    simp only [Q.run, Option.some.injEq] at hr
    subst hr
    have hval : ∃ cs, RV Pr w dw.1.t dw.1.x cs ∧ a.eval o = valOf dw.1.t cs := by
      split at hd
      · split at hd <;> simp [Q.run] at hd
        subst hd
        exact ⟨_, RV.nil_, (rd_told h hg hv).r (.box 0) (by simp)⟩
      · exact toDat_val h (rd_told h hg hv) hd hPr (fun p hp => hw p (by simp [hp]))
    obtain ⟨cs, h1, h2⟩ := hval
    obtain ⟨off, ho, h3, h4⟩ := hx.setPart_ hx' h1
    have hlen := h1.len
    have hplace : place i = some (off, dw.1.t.sz) := by
      rcases ho with ⟨q, hq, rfl, hq2⟩ | ⟨m, hm, rfl⟩
      · rw [hpl.1 i q hq, hq2]
      · exact hpl.2 m _ hm i
    have hcells : (a.eval o).cells = cs.toArray := by rw [h2]; exact valOf_cells h1
    have hset := fill_set cells cs off (by simpa using h3)
    obtain ⟨cells', h5, h6⟩ := parts_val h hg hpl hPr (cells := cs.toArray.zipIdx.foldl (fun (cs : Array Value) (p : Value × Nat) => cs.setIfInBounds (off + p.2) p.1) cells) hr2 (fun p hp => hw p (by simp [hp])) (by rw [hset]; exact h4)
    refine ⟨cells', ?_, h6⟩
    have hs1 : cs.toArray.size = dw.1.t.sz := by simpa using hlen
    have hs2 : ¬ (off + cs.toArray.size > cells.size) := by simp at h3 ⊢; omega
    simp only [List.map_cons, Instr.fill, hplace, hcells, hs1, ne_eq, not_true, false_or]
    rw [hs1] at hs2
    simp only [hs2, decide_false, Bool.or_self, Bool.false_eq_true, if_false]
    exact h5

theorem getD_zero_nil : ∀ {t : Ty} {o : Nat} {u : Ty}, t.leafAt o = some (.list u) → t.zeroCells[o]? = some (.slice none 0 0) := by
  intro t
  induction t with
  | pair s t ih1 ih2 =>
    intro o u h
    have l1 : s.zeroCells.length = s.sz := (RV.zero (Pr := fun _ => True) (w := default) s).len
    simp only [Ty.leafAt] at h
    split at h
    · rename_i hlt
      simp only [Ty.zeroCells]
      rw [List.getElem?_append_left (by omega)]
      exact ih1 h
    · rename_i hge
      simp only [Ty.zeroCells]
      rw [List.getElem?_append_right (by omega), l1]
      exact ih2 h
  | list t =>
    intro o u h
    simp only [Ty.leafAt] at h
    split at h
    · rename_i h0; subst h0; rfl
    · cases h
  | unit => intro o u h; simp [Ty.leafAt] at h
  | _ =>
    intro o u h
    simp only [Ty.leafAt] at h
    split at h <;> cases h
/-- The slices of a literal that are told as nil are nil. -/
theorem parts_nils (h : Rel Z E N w0 Ow S D g G a w) {ctx : Ctx} (hg : (gcond ctx).run g = some true) {t : Ty} {fT : Nat → Nat} {place : Nat → Option (Nat × Nat)} (hpl : PlaceOk t place) {Pr : Nat → Prop} (hPr : ∀ b, free Z G w b → Pr b) :
    ∀ {ps : List (Nat × Operand)} {x : t.den} {cells : Array Value} {r : t.den × List (Loc × AV)} {ns ns' : List Nat}, (partsQ E ctx t fT x ps).run g = some r → (∀ p ∈ r.2, ∀ b, G p.1 = some b → Pr b) → RV Pr w t x cells.toList →
      (nilsQ E ctx t ns ps).run g = some ns' → (∀ k ∈ ns, cells.toList[k]? = some (.slice none 0 0)) → ∀ {cells' : Array Value}, Instr.fill place cells (ps.map fun p => (p.1, a.eval p.2)) = some cells' → ∀ k ∈ ns', cells'.toList[k]? = some (.slice none 0 0)
  | [], x, cells, r, ns, ns', _, _, _, hn, h0, cells', hc => by
    simp only [nilsQ, Q.run, Option.some.injEq] at hn
    subst hn
    simp only [List.map_nil, Instr.fill, Option.some.injEq] at hc
    subst hc
    exact h0
  | (i, o) :: ps, x, cells, r, ns, ns', hr, hw, hx, hn, h0, cells', hc => by
    simp only [partsQ, Q.run_bind, Option.bind_eq_some_iff] at hr
    obtain ⟨v, hv, dw, hd, x', hx', r2, hr2, hr⟩ := hr
    replace hx' := ofO_some hx'
    simp only [Q.run, Option.some.injEq] at hr
    subst hr
    have hval : ∃ cs, RV Pr w dw.1.t dw.1.x cs ∧ a.eval o = valOf dw.1.t cs := by
      split at hd
      · split at hd <;> simp [Q.run] at hd
        subst hd
        exact ⟨_, RV.nil_, (rd_told h hg hv).r (.box 0) (by simp)⟩
      · exact toDat_val h (rd_told h hg hv) hd hPr (fun p hp => hw p (by simp [hp]))
    obtain ⟨cs, h1, h2⟩ := hval
    obtain ⟨off, ho, h3, h4⟩ := hx.setPart_ hx' h1
    have hlen := h1.len
    have hplace : place i = some (off, dw.1.t.sz) := by
      rcases ho with ⟨q, hq, rfl, hq2⟩ | ⟨m, hm, rfl⟩
      · rw [hpl.1 i q hq, hq2]
      · exact hpl.2 m _ hm i
    have hcells : (a.eval o).cells = cs.toArray := by rw [h2]; exact valOf_cells h1
    have hset := fill_set cells cs off (by simpa using h3)
    have hs1 : cs.toArray.size = dw.1.t.sz := by simpa using hlen
    have hs2 : ¬ (off + cs.toArray.size > cells.size) := by simp at h3 ⊢; omega
    simp only [List.map_cons, Instr.fill, hplace, hcells, hs1, ne_eq, not_true, false_or] at hc
    rw [hs1] at hs2
    simp only [hs2, decide_false, Bool.or_self, Bool.false_eq_true, if_false] at hc
    simp only [nilsQ] at hn
    split at hn
    · rename_i q hq
      simp only [Q.run_bind, Option.bind_eq_some_iff] at hn
      obtain ⟨v', hv', hn⟩ := hn
      rw [hv] at hv'
      cases hv'
      obtain ⟨hq1, hq2⟩ : q.1 = off ∧ q.2 = dw.1.t := by
        rcases ho with ⟨q', hq', e1, e2⟩ | ⟨m, hm, _⟩
        · rw [hq] at hq'; cases hq'; exact ⟨e1, e2⟩
        · subst hm; simp [Ty.fieldAt] at hq
      refine parts_nils h hg hpl hPr (cells := cs.toArray.zipIdx.foldl (fun (cs : Array Value) (p : Value × Nat) => cs.setIfInBounds (off + p.2) p.1) cells) hr2 (fun p hp => hw p (by simp [hp])) (by rw [hset]; exact h4) hn (fun k hk => ?_) hc
      rw [hset]
      have hcl : off + cs.length ≤ cells.toList.length := h3
      rcases List.mem_append.1 hk with hk | hk
      · obtain ⟨hk1, hk2⟩ := List.mem_filter.1 hk
        have := h0 k hk1
        simp only [Bool.or_eq_true, Nat.blt_eq, Nat.ble_eq, hq1, hq2] at hk2
        rcases hk2 with hk2 | hk2
        · rw [List.append_assoc, List.getElem?_append_left (by simp; omega), List.getElem?_take, if_pos hk2]
          exact this
        · rw [List.getElem?_append_right (by simp; omega), List.getElem?_drop]
          rw [← this]
          congr 1
          simp only [List.length_append, List.length_take]
          omega
      · have hin : ∀ j, j < cs.length → (cells.toList.take off ++ cs ++ cells.toList.drop (off + cs.length))[off + j]? = cs[j]? := fun j hj => by
          rw [List.getElem?_append_left (by simp; omega), List.getElem?_append_right (by simp; omega)]
          congr 1
          simp only [List.length_take]
          omega
        split at hk
        · simp only [List.mem_singleton] at hk
          have hnil := (rd_told h hg hv).r (.box 0) (by simp)
          have hnil' : a.eval o = .slice none 0 0 := hnil
          have hc1 : cs = [.slice none 0 0] := by
            have := hcells
            rw [hnil'] at this
            have := congrArg Array.toList this
            simpa [Value.cells] using this.symm
          rw [hk, hq1]
          have := hin 0 (by rw [hc1]; simp)
          rw [Nat.add_zero] at this
          rw [this, hc1]; rfl
        · rename_i t2 y2 ms
          obtain ⟨j, hj, rfl⟩ := List.mem_map.1 hk
          obtain ⟨cs2, k1, k2, k3⟩ := (rd_told h hg hv).r (.box 0) (by simp)
          have hc2 : cs = cs2 := by
            have e1 : (a.eval o).cells = cs2.toArray := by rw [k2]; exact valOf_cells k1
            rw [hcells] at e1
            have := congrArg Array.toList e1
            simpa using this
          have := k3 j hj
          rw [← hc2] at this
          rw [hq1, hin j (by rcases List.getElem?_eq_some_iff.1 this with ⟨hlt, _⟩; exact hlt)]
          exact this
        · simp at hk
    · simp only [Q.run, Option.some.injEq] at hn
      subst hn
      intro k hk
      simp at hk

theorem placeOk_struct (hE : TabOk P E.tab) {T : Nat} {t : Ty} (ht : E.tab.ty T = some t) {fs : Array Field} (hu : P.underlying T = some (.struct fs)) :
    ∃ places : List (Nat × Nat), fs.toList.mapM (fun f => (P.info? f.type).map fun i => (f.offset, i.size)) = some places ∧ ((∀ m u, t ≠ .arr m u) → PlaceOk t (places.toArray[·]?)) := by
  have key : ∀ (t : Ty) (fs : List Field) (off : Nat), FieldsOk E.tab t fs off → ∃ places : List (Nat × Nat), fs.mapM (fun f => (P.info? f.type).map fun i => (f.offset, i.size)) = some places ∧ ∀ i q, t.fieldAt i = some q → places[i]? = some (off + q.1, q.2.sz) := by
    intro t
    induction t with
    | pair s t _ ih =>
      intro fs off hf
      cases fs with
      | nil => exact hf.elim
      | cons f fs =>
        obtain ⟨h1, h2, h3⟩ := hf
        obtain ⟨places, h4, h5⟩ := ih fs _ h3
        have hi := (hE.ty _ _ h1).info
        cases hinf : P.info? f.type with
        | none => rw [hinf] at hi; cases hi
        | some inf =>
          rw [hinf] at hi
          simp only [Option.map_some, Option.some.injEq, Prod.mk.injEq] at hi
          refine ⟨(f.offset, inf.size) :: places, ?_, fun i q hq => ?_⟩
          · rw [List.mapM_cons, hinf, h4]; rfl
          · cases i with
            | zero => simp [Ty.fieldAt] at hq; subst hq; simp [h2, hi.2]
            | succ i =>
              simp only [Ty.fieldAt, Option.map_eq_some_iff] at hq
              obtain ⟨p, hp, rfl⟩ := hq
              have := h5 i p hp
              simp only [List.getElem?_cons_succ, this, Option.some.injEq, Prod.mk.injEq, and_true]
              omega
    | unit =>
      intro fs off hf
      cases fs with
      | nil => exact ⟨[], rfl, by simp [Ty.fieldAt]⟩
      | cons => exact hf.elim
    | _ => intro fs off hf; cases fs <;> exact hf.elim
  have hs := (hE.ty T t ht).shape
  have hno : ∀ d, P.underlying T = some d → d = .struct fs := fun d hd => by rw [hu] at hd; cases hd; rfl
  cases t with
  | int k => exact absurd (hno _ hs) (by simp)
  | bool => exact absurd (hno _ hs) (by simp)
  | str => exact absurd (hno _ hs) (by simp)
  | list u => obtain ⟨e, h1, _⟩ := hs; exact absurd (hno _ h1) (by simp)
  | arr m u => obtain ⟨e, h1, _⟩ := hs; exact absurd (hno _ h1) (by simp)
  | err => obtain ⟨ms, h1⟩ := hs; exact absurd (hno _ h1) (by simp)
  | bnd f u => obtain ⟨_, _, _, h1⟩ := hs; exact absurd (hno _ h1) (by simp)
  | unit =>
    obtain ⟨fs', h1, h2⟩ := hs
    cases hno _ h1
    obtain ⟨places, h3, h4⟩ := key _ _ _ h2
    exact ⟨places, h3, fun _ => ⟨fun i q hq => by simpa using h4 i q hq, fun m u e => by cases e⟩⟩
  | pair s u =>
    obtain ⟨fs', h1, h2⟩ := hs
    cases hno _ h1
    obtain ⟨places, h3, h4⟩ := key _ _ _ h2
    exact ⟨places, h3, fun _ => ⟨fun i q hq => by simpa using h4 i q hq, fun m u e => by cases e⟩⟩

theorem valOf_agg {Pr : Nat → Prop} {t : Ty} {x : t.den} {cs : List Value} (h : RV Pr w t x cs) : (valOf t cs).cells.toList = cs := by rw [valOf_cells h]

theorem build_run (hE : TabOk P E.tab) (h : Rel Z E N w0 Ow S D g G a w) {ctx : Ctx} (hg : (gcond ctx).run g = some true) {T : Nat} {t : Ty} (ht : E.tab.ty T = some t) (hagg : t.isAgg = true) {Pr : Nat → Prop} (hPr : ∀ b, free Z G w b → Pr b)
    {ps : Array (Nat × Operand)} {fT : Nat → Nat} {r : t.den × List (Loc × AV)} (hr : (partsQ E ctx t fT t.zero ps.toList).run g = some r) (hw : ∀ p ∈ r.2, ∀ b, G p.1 = some b → Pr b) {ns : List Nat} (hns : (nilsQ E ctx t (nils0 E T t) ps.toList).run g = some ns) :
    ∃ cells, (Instr.build T (ps.map fun p => (p.1, a.eval p.2))).run P w = .ok (valOf t cells) w ∧ RV Pr w t r.1 cells ∧ ∀ k ∈ ns, cells[k]? = some (.slice none 0 0) := by
  have hi := (hE.ty T t ht).info
  cases hinf : P.info? T with
  | none => rw [hinf] at hi; cases hi
  | some inf =>
  rw [hinf] at hi
  simp only [Option.map_some, Option.some.injEq, Prod.mk.injEq] at hi
  have hz : RV Pr w t t.zero (valOf t t.zeroCells).cells.toList := by rw [valOf_agg (RV.zero (Pr := Pr) (w := w) t)]; exact RV.zero t
  have fin : ∀ {place : Nat → Option (Nat × Nat)}, PlaceOk t place → (∀ cells, Instr.fill place (valOf t t.zeroCells).cells (ps.toList.map fun p => (p.1, a.eval p.2)) = some cells → P.built T (ps.map fun p => (p.1, a.eval p.2)).toList = some cells) →
      ∃ cells, (Instr.build T (ps.map fun p => (p.1, a.eval p.2))).run P w = .ok (valOf t cells) w ∧ RV Pr w t r.1 cells ∧ ∀ k ∈ ns, cells[k]? = some (.slice none 0 0) := by
    intro place hpl hb
    obtain ⟨cells, h1, h2⟩ := parts_val h hg hpl hPr hr hw hz
    have h3 := parts_nils h hg hpl hPr hr hw hz hns (fun k hk => by
      rw [valOf_agg (RV.zero (Pr := Pr) (w := w) t)]
      obtain ⟨q, hq, rfl⟩ := List.mem_map.1 hk
      have := (List.mem_filter.1 hq).2
      split at this
      · rename_i u hu; exact getD_zero_nil hu
      · cases this) h1
    refine ⟨cells.toList, ?_, h2, h3⟩
    rw [run_build w T _ cells (hb cells h1)]
    simp [valOf, hagg]
  have hs := (hE.ty T t ht).shape
  have st : ∀ fs, P.underlying T = some (.struct fs) → (∀ m u, t ≠ .arr m u) → ∃ cells, (Instr.build T (ps.map fun p => (p.1, a.eval p.2))).run P w = .ok (valOf t cells) w ∧ RV Pr w t r.1 cells ∧ ∀ k ∈ ns, cells[k]? = some (.slice none 0 0) := by
    intro fs hu hno
    obtain ⟨places, h1, h2⟩ := placeOk_struct hE ht hu
    refine fin (h2 hno) (fun cells hc => ?_)
    simp only [Program.built, hinf, hu, hi.1, h1, Array.toList_map]
    exact hc
  cases t with
  | unit => obtain ⟨fs, h1, _⟩ := hs; exact st fs h1 (by simp)
  | pair => obtain ⟨fs, h1, _⟩ := hs; exact st fs h1 (by simp)
  | arr m u =>
    obtain ⟨e, h1, h2, h3, h4⟩ := hs
    refine fin (place := fun i => some (i * u.sz, u.sz)) ⟨fun i q hq => by simp [Ty.fieldAt] at hq, fun m' u' e' i => by cases e'; rfl⟩ (fun cells hc => ?_)
    cases hie : P.info? e with
    | none => rw [hie] at h4; cases h4
    | some ie =>
      rw [hie] at h4
      simp only [Option.map_some, Option.some.injEq] at h4
      simp only [Program.built, hinf, h1, hi.1, hie, h4, Array.toList_map]
      exact hc
  | _ => simp [Ty.isAgg] at hagg

theorem sound_build {ctx : Ctx} {i : Nat} {o : Oper} {T : Nat} {ps : Array (Nat × Operand)} (hE : TabOk P E.tab) (ho : o.op = .build T ps) : Sound E P ctx i o := by
  intro Z N w0 Ow S D g G a w F n f next Qp h hg hp ht hfr hdst hF hS0 hn
  simp only [plan, ho, Q.run_bind, Option.bind_eq_some_iff] at hp
  obtain ⟨d, hd, t, htt, hp⟩ := hp
  replace hd := sureD_some hd
  replace htt := ofO_some htt
  split at hp
  · rename_i hagg
    simp only [Q.run_bind, Option.bind_eq_some_iff] at hp
    obtain ⟨r, hr, ns, hns, hp⟩ := hp
    obtain ⟨G1, h1, h2, h3, _⟩ := freezeAll h (parts_ws h hg hr)
    obtain ⟨cells, h4, h5, h6⟩ := build_run hE h hg htt hagg h2 hr h3 hns
    have hrun : (execOp a.eval o).run P w = .ok (.value (valOf t cells)) w := by simp only [execOp, ho, Sem.run_bind, h4, Result.andThen_ok, Sem.run_pure]
    split at hp
    · simp only [Q.run, Option.some.injEq] at hp
      subst hp
      exact wpIn_value hF (by rw [ho]; simp) (v := valOf t cells) hrun (fillAfter (v := .dat t r.1) h1 hdst hd rfl trivial (by simp) ⟨_, h5, rfl⟩ hn)
    · simp only [Q.run, Option.some.injEq] at hp
      subst hp
      exact wpIn_value hF (by rw [ho]; simp) (v := valOf t cells) hrun (fillAfter (v := .datn t r.1 _) h1 hdst hd rfl trivial (by simp) ⟨_, h5, rfl, h6⟩ hn)
  · simp [Q.run] at hp
end
end Go.Ev

namespace Go.Ev
open Go.RowKit
section
variable {Z : ZS} {E : Env} {N : Nat} {w0 : World} {Ow : OwS} {S S' D D' : Nat → Prop} {g g' : Mem} {G G' : Ghost} {a a' : Act} {w w' : World} {P : Program} {F : Fence} {n : Nat}

theorem madeCells_flat (z : List Value) (h0 : 0 < z.length) : ∀ n, (madeCells z.toArray (n * z.length)).toList = (List.replicate n z).flatten := by
  intro n
  have : (madeCells z.toArray (n * z.length)).toList = (List.range (n * z.length)).map fun i => z.toArray[i % z.toArray.size]! := by simp [madeCells]
  rw [this]
  induction n with
  | zero => simp
  | succ n ih =>
    rw [Nat.add_mul, Nat.one_mul, List.range_add, List.map_append, ih (by simp [madeCells]), List.replicate_succ', List.flatten_append]
    congr 1
    rw [List.map_map]
    simp only [List.flatten_cons, List.flatten_nil, List.append_nil]
    apply List.ext_getElem
    · simp
    · intro i h1 h2
      have h3 : (n * z.length + i) % z.length = i := by rw [Nat.mul_comm, Nat.mul_add_mod]; exact Nat.mod_eq_of_lt h2
      simp [h3, h2]

theorem el_info (hE : TabOk P E.tab) {T : Nat} {t : Ty} (ht : E.tab.ty T = some (.list t)) {e : Nat} (he : E.tab.el T = some e) :
    P.underlying T = some (.slice e) ∧ 0 < t.sz ∧ ∃ inf bytes, P.info? e = some inf ∧ inf.zero = some (valOf t t.zeroCells) ∧ inf.size = t.sz ∧ inf.bytes = bytes ∧ bytes ≤ 1000 := by
  obtain ⟨e', h1, h2, h3, h4, bytes, h5, h6⟩ := (hE.ty _ _ ht).shape
  rw [he] at h2
  cases h2
  refine ⟨h1, h4, ?_⟩
  cases hi : P.info? e with
  | none => rw [hi] at h6; cases h6
  | some inf =>
    rw [hi] at h6
    simp only [Option.map_some, Option.some.injEq, Prod.mk.injEq] at h6
    exact ⟨inf, bytes, rfl, h6.1, h6.2.1, h6.2.2, h5⟩
theorem zero_len (t : Ty) : t.zeroCells.length = t.sz := (RV.zero (Pr := fun _ => True) (w := default) t).len
theorem zero_cells (t : Ty) : (valOf t t.zeroCells).cells = t.zeroCells.toArray := valOf_cells (RV.zero (Pr := fun _ => True) (w := default) t)

/-- A slot comes to own new memory. -/
theorem fillOwn {next : Act → World → Prop} {i d e : Nat} {t : Ty} {xs : List t.den} {o : Oper} {val : Value} {cells : List Value} {ws : List (Loc × AV)} {G1 : Ghost} (h : Rel Z E N w0 Ow S D (g.sets ws) G1 a w) (hdst : ∀ d, o.dst = some d → d < N ∧ ¬ D d) (hd : o.dst = some d) (hfr : ¬ S (i + 1))
    (hw : w.grownBy w' none) (hb : ∀ b, val.ownBlock = some b → w.heap.size ≤ b ∧ b < w'.heap.size) (h0 : 0 < t.sz) (hrows : Rows (RV (free Z G1 w) w t) xs cells) (hown : ownsQ w' e t.sz val xs.length cells)
    (hn : ∀ a' w' g' G', (∀ l, g' l = g.sets (ws ++ [(.slot d, .own e t xs (i + 1))]) l) → Rel Z E N w0 Ow (fun n => S n ∨ n = i + 1) D g' G' a' w' → next a' w') : next (a.put o.dst val) w' := by
  obtain ⟨h1, h2⟩ := hdst d hd
  obtain ⟨g2, G2, h3, h4⟩ := h.putOwn (a' := a.put (some d) val) h1 none (i + 1) hfr h2 (by simp) hw (fun b hb' => .inr (hb b hb')) h0 hrows hown
    (by rw [put_defers]; exact h.defers) (by rw [put_size]; exact h.tmps) (put_tmps a d val (by rw [h.tmps]; exact h1)) (fun _ hn => put_tmps_ne a val hn)
  rw [hd]
  refine hn _ _ _ _ (fun l => ?_) h4
  rw [h3, Mem.sets_append]
  simp only [Mem.sets, Mem.upd_apply]
  simp

theorem run_buildSlice' (w : World) (t e : TypeId) (len : Nat) (parts : Array (Nat × Value)) (cells : Array Value) (ie : TypeInfo) (z : Value)
    (hu : P.underlying t = some (.slice e)) (hie : P.info? e = some ie) (hz : ie.zero = some z) (hsmall : ¬ len * ie.size > 2 ^ 24)
    (h : Instr.fill (fun i => some (i * ie.size, ie.size)) (madeCells z.cells (len * ie.size)) parts.toList = some cells) :
    (Instr.buildSlice t len parts).run P w = .ok (.slice (some ⟨w.heap.size, 0, none⟩) len len) (w.alloc (.cells cells e)) := by
  by_cases hpos : len * ie.size = 0
  · rw [hpos] at h
    simp only [Instr.buildSlice, run_underlying hu, sizeOf, typeInfo, hie, Sem.run_bind, Result.andThen_ok, run_program, Sem.run_pure, hpos]
    have e0 : ∀ f : Nat → Value, Array.map f (Array.range 0) = #[] := fun f => by simp [Array.range]
    have h' : Instr.fill (fun i => some (i * ie.size, ie.size)) #[] parts.toList = some cells := by
      rw [← h]; congr 1
      simp [madeCells, e0]
    simp [h', e0, newRow]
  · exact run_buildSlice w t e len parts cells ie z hu hie hz hsmall hpos h

theorem sound_buildSlice {ctx : Ctx} {i : Nat} {o : Oper} {T m : Nat} {ps : Array (Nat × Operand)} (hE : TabOk P E.tab) (ho : o.op = .buildSlice T m ps) : Sound E P ctx i o := by
  intro Z N w0 Ow S D g G a w F n f next Qp h hg hp ht hfr hdst hF hS0 hn
  simp only [plan, ho, Q.run_bind, Option.bind_eq_some_iff] at hp
  obtain ⟨d, hd, tt, htt, hp⟩ := hp
  replace hd := sureD_some hd
  replace htt := ofO_some htt
  split at hp
  · rename_i t
    simp only [Q.run_bind, Option.bind_eq_some_iff] at hp
    obtain ⟨e, he, hp⟩ := hp
    replace he := ofO_some he
    split at hp
    · rename_i hsmall
      simp only [Q.run_bind, Option.bind_eq_some_iff] at hp
      obtain ⟨r, hr, hp⟩ := hp
      simp only [Q.run, Option.some.injEq] at hp
      subst hp
      obtain ⟨h1, h2, inf, bytes, h3, h4, h5, h6, h7⟩ := el_info hE htt he
      obtain ⟨G1, k1, k2, k3, _⟩ := freezeAll h (parts_ws h hg hr)
      have hz : RV (free Z G1 w) w (.arr m t) (List.replicate m t.zero) (madeCells (valOf t t.zeroCells).cells (m * inf.size)).toList := by
        rw [zero_cells, h5, ← zero_len t, madeCells_flat _ (by rw [zero_len]; exact h2)]
        exact RV.zero (.arr m t)
      obtain ⟨cells, k4, k5⟩ := parts_val h hg (place := fun i => some (i * t.sz, t.sz)) ⟨fun i q hq => by simp [Ty.fieldAt] at hq, fun m' u' e' i => by cases e'; rfl⟩ k2 hr k3 hz
      have hrun := run_buildSlice' (P := P) w T e m (ps.map fun p => (p.1, a.eval p.2)) cells inf (valOf t t.zeroCells) h1 h3 h4 (by rw [h5]; omega) (by rw [h5] at k4 ⊢; rw [Array.toList_map]; exact k4)
      have hlen := k5.len
      have hrl := k5.1
      refine wpIn_value hF (by rw [ho]; simp) (v := .slice (some ⟨w.heap.size, 0, none⟩) m m) (w' := w.alloc (.cells cells e)) ?_ (fillOwn k1 hdst hd hfr (World.grownBy_alloc w _ none) (fun b hb => ?_) h2 k5.2 ?_ hn)
      · simp only [execOp, ho, Sem.run_bind, hrun, Result.andThen_ok, Sem.run_pure]
      · simp [Value.ownBlock] at hb; subst hb; simp
      · rw [hrl]
        refine ownsQ_of <| World.ownsRow_lit (base := 0) w cells m (Nat.zero_le _) ?_ (by simpa [Ty.sz] using hlen)
        have : m * 1 ≤ m * t.sz := Nat.mul_le_mul_left _ h2
        simp only [maxLen]; omega
    · simp [Q.run] at hp
  · simp [Q.run] at hp

theorem sound_makeSlice {ctx : Ctx} {i : Nat} {o : Oper} {T : Nat} {x y : Operand} (hE : TabOk P E.tab) (ho : o.op = .makeSlice T x y) : Sound E P ctx i o := by
  intro Z N w0 Ow S D g G a w F n f next Qp h hg hp ht hfr hdst hF hS0 hn
  simp only [plan, ho, Q.run_bind, Option.bind_eq_some_iff] at hp
  obtain ⟨d, hd, tt, htt, hp⟩ := hp
  replace hd := sureD_some hd
  replace htt := ofO_some htt
  split at hp
  · rename_i t
    simp only [Q.run_bind, Option.bind_eq_some_iff] at hp
    obtain ⟨e, he, p, hpx, q, hqx, hp⟩ := hp
    replace he := ofO_some he
    simp only [Q.run, Option.some.injEq] at hp
    subst hp
    simp only [Bool.and_eq_true, decide_eq_true_eq] at ht
    obtain ⟨⟨t1, t2⟩, t3⟩ := ht
    obtain ⟨h1, h2, inf, bytes, h3, h4, h5, h6, h7⟩ := el_info hE htt he
    have hx := rdInt_told h hg hpx
    have hy := rdInt_told h hg hqx
    have hbytes : (inf.bytes : Int) * q.2 ≤ 281474976710656 := by
      rw [h6]
      calc (bytes : Int) * q.2 ≤ 1000 * q.2 := Int.mul_le_mul_of_nonneg_right (by omega) (by omega)
        _ ≤ 281474976710656 := by omega
    have hrun := run_make (P := P) w T e inf (valOf t t.zeroCells) h1 h3 h4 p.1 q.1 p.2 q.2 t1 t2 hbytes (by omega)
    have hz : (madeCells (valOf t t.zeroCells).cells (q.2.toNat * inf.size)).toList = (List.replicate q.2.toNat t.zeroCells).flatten := by
      rw [zero_cells, h5, ← zero_len t, madeCells_flat _ (by rw [zero_len]; exact h2)]
    have hz2 : (List.replicate q.2.toNat t.zeroCells).flatten = (List.replicate p.2.toNat t.zeroCells).flatten ++ (List.replicate (q.2.toNat - p.2.toNat) t.zeroCells).flatten := by
      rw [← List.flatten_append, List.replicate_append_replicate]
      congr 2; omega
    have hzl : ((List.replicate p.2.toNat t.zeroCells).flatten).length = p.2.toNat * t.sz := by simp [zero_len]
    refine wpIn_value hF (by rw [ho]; simp) (v := .slice (some ⟨w.heap.size, 0, none⟩) p.2.toNat q.2.toNat) (w' := w.alloc (.cells (madeCells (valOf t t.zeroCells).cells (q.2.toNat * inf.size)) e)) ?_
      (fillOwn (ws := []) (xs := List.replicate p.2.toNat t.zero) (cells := (List.replicate p.2.toNat t.zeroCells).flatten) h hdst hd hfr (World.grownBy_alloc w _ none) (fun b hb => ?_) h2 ?_ ?_ hn)
    · simp only [execOp, ho, hx, hy, Sem.run_bind, hrun, Result.andThen_ok, Sem.run_pure]
    · simp [Value.ownBlock] at hb; subst hb; simp
    · exact Rows.replicate (RV.zero t) _
    · simp only [List.length_replicate]
      refine ⟨hzl, .inr ⟨w.heap.size, q.2.toNat, _, rfl, ⟨_, .inl rfl, heap_alloc_new w _⟩, by omega, by simp only [maxLen]; omega, by rw [size_madeCells, h5], ?_⟩⟩
      rw [hz, hz2, ← hzl, List.take_left]
  · simp [Q.run] at hp
end
end Go.Ev

namespace Go.Ev
open Go.RowKit
section
variable {Z : ZS} {E : Env} {N : Nat} {w0 : World} {Ow : OwS} {S S' D D' : Nat → Prop} {g g' : Mem} {G G' : Ghost} {a a' : Act} {w w' : World} {P : Program} {F : Fence} {n : Nat}
theorem convW_run {ctx : Ctx} {i d dst : Nat} {s : Ty} {r : Bool × Dat} {f : Eff} (h : (convW E ctx i d s dst r).run g = some f) :
    ⟨r.1, [(.slot d, .dat r.2.1 r.2.2)]⟩ = f ∨ ∃ xs e, s = .str ∧ r.2 = ⟨.list (.int .u8), xs⟩ ∧ E.tab.el dst = some e ∧ f = ⟨r.1, [(.slot d, .own e (.int .u8) xs (i + 1))]⟩ := by
  unfold convW at h
  split at h
  · rename_i xs hr
    simp only [Q.run_bind, Option.bind_eq_some_iff] at h
    obtain ⟨e, he, h⟩ := h
    simp only [Q.run, Option.some.injEq] at h
    exact .inr ⟨xs, e, rfl, hr, ofO_some he, h.symm⟩
  · simp only [Q.run, Option.some.injEq] at h
    exact .inl h
theorem sound_convert {ctx : Ctx} {i : Nat} {o : Oper} {src dst : Nat} {x : Operand} (hE : TabOk P E.tab) (ho : o.op = .convert src dst x) : Sound E P ctx i o := by
  intro Z N w0 Ow S D g G a w F n f next Qp h hg hp ht hfr hdst hF _ hn
  simp only [plan, ho, Q.run_bind, Option.bind_eq_some_iff] at hp
  obtain ⟨d, hd, s, hs, t, htt, v, hv, hp⟩ := hp
  replace hd := sureD_some hd
  replace hs := ofO_some hs
  replace htt := ofO_some htt
  have hT := rd_told h hg hv
  split at hp
  · -- a look at an array
    rename_i c p k m
    split at hp
    · rename_i hst
      obtain ⟨rfl, rfl⟩ := hst
      simp only [viewStrQ, Q.run] at hp
      split at hp
      · rename_i q u xs hcell
        split at hp
        · rename_i hu
          subst hu
          simp only [Q.run, Option.some.injEq] at hp
          subst hp
          have hkm : k + m ≤ q := of_decide_eq_true ht
          obtain ⟨e, k0, gb, cc, q1, q2, q3⟩ := hT.r (.box 0) (by simp)
          obtain ⟨e1, n1, gb1, cur, k1, k2, k3, k4⟩ := h.cells c p (by rw [hcell]; simp)
          rw [q2] at k2; cases k2
          rw [hcell] at k4
          obtain ⟨k5, k6⟩ := k4
          obtain ⟨hl, hrows⟩ := k6
          have hsh := (hE.ty _ _ hs).shape
          have hth := (hE.ty _ _ htt).shape
          obtain ⟨e, h4, h5, h6, _⟩ := hsh
          have h7 := (hE.ty _ _ h6).shape
          simp only [ShapeOk] at h7 hth
          have hlen : (List.take m (List.drop k xs)).length = m := by simp; omega
          have hr2 := (hrows.drop (fun _ _ hc => hc.len) k).take (fun _ _ hc => hc.len) m
          have hds := rows_bytes hr2
          have hb := run_loadCells_list (P := P) w (⟨gb, p + k, none⟩ : Addr) ((List.take m (List.drop k xs)).map (Value.int .u8)) (fun j v hv => by
            rw [← hds] at hv
            rw [add_plain, cell_of_row w gb (p + k + j) cur e1 (0, 0) k3]
            simp only [Ty.sz, Nat.mul_one] at hv k5
            rw [List.getElem?_take] at hv
            split at hv
            · rw [List.getElem?_drop, List.getElem?_take] at hv
              split at hv
              · rw [List.getElem?_drop] at hv
                rw [← hv, Array.getElem?_toList]
                congr 1; omega
              · cases hv
            · cases hv)
          rw [List.length_map, hlen] at hb
          refine wpIn_value hF (by rw [ho]; simp) (v := sval .str ((List.take m (List.drop k xs)).map fun n => UInt8.ofNat n.toNat)) ?_ (fillS (r := ⟨.str, (List.take m (List.drop k xs)).map fun n => UInt8.ofNat n.toNat⟩) h hdst hd rfl hn)
          have hstr : (Conv.bytesToString (.slice (some ⟨gb, p + k, none⟩) m cc)).run P w = .ok (.string (strOf ((List.take m (List.drop k xs)).map fun n => UInt8.ofNat n.toNat))) w := by
            rw [run_bytesToString w _ m cc _ hb, bytes_foldl]
            congr 2
          simp only [execOp, ho, q3, Sem.run_bind, convert, run_underlying h4, run_underlying hth, run_underlying h7, Result.andThen_ok, hstr, Sem.run_pure, sval]
        · simp [Q.run] at hp
      · simp [Q.run] at hp
    · simp [Q.run] at hp
  simp only [Q.run_bind, Option.bind_eq_some_iff] at hp
  obtain ⟨y, hy, r, hr, hp⟩ := hp
  replace hr := ofO_some hr
  rcases convW_run hp with hp | hown
  rotate_left
  · obtain ⟨xs, e, h1, h2, h3, h4⟩ := hown
    subst h4
    subst h1
    obtain ⟨G1, hr1, ⟨cs, k2, k3⟩, htl⟩ := toDat_frz h hT hy
    clear hr1 htl
    have hsh := (hE.ty _ _ hs).shape
    have hth := (hE.ty _ _ htt).shape
    obtain ⟨y, yw⟩ := y
    dsimp only at hr k2 k3
    unfold conv at hr
    split at hr
    · split at hr <;> cases hr
      rename_i hq; cases hq
    · split at hr <;> cases hr
      · cases h2
      · rename_i s0 _ _ _
        cases h2
        simp only [RV] at k2
        subst k2
        simp only [ShapeOk] at hsh
        obtain ⟨e', h4, h5, h6, _⟩ := hth
        rw [h3] at h5
        cases h5
        have h7 := (hE.ty _ _ h6).shape
        simp only [ShapeOk] at h7
        have hgr := grownBy_bytes w e (strOf s0)
        have hrun := Lib.run_convert_string_bytes (P := P) w src dst e (strOf s0) hsh h4 h7
        have hlen : s0.length ≤ 9223372036854775807 := of_decide_eq_true ht
        have hge := grownCap_ge w (strOf s0).size 0 e
        have hcm : grownCap w (strOf s0).size 0 e ≤ maxLen := grownCap_le_maxLen w (strOf s0).size 0 e (by rw [strOf_size]; simp only [maxLen]; omega)
        refine wpIn_value hF (by rw [ho]; simp) (v := .slice (some ⟨w.heap.size, 0, none⟩) (strOf s0).size (grownCap w (strOf s0).size 0 e)) (w' := Lib.bytesWorld w e (strOf s0)) ?_
          (fillOwn (ws := []) (e := e) (t := .int .u8) (xs := (List.map (fun (b : UInt8) => ((b.toNat : Nat) : Int)) s0 : List Int)) (cells := List.map (fun (b : UInt8) => Value.int .u8 b.toNat) s0) h hdst hd hfr hgr (fun b hb => ?_) (by simp [Ty.sz]) (rows_map_bytes s0) ?_ hn)
        · have hx : a.eval x = .string (strOf s0) := k3
          simp only [execOp, ho, hx, Sem.run_bind, hrun, Result.andThen_ok, Sem.run_pure]
        · simp only [Value.ownBlock, Option.some.injEq] at hb
          subst hb
          rw [Lib.bytesWorld_size]
          omega
        · rw [strOf_size] at hge hcm ⊢
          refine ⟨by simp [Ty.sz], .inr ⟨w.heap.size, _, _, by rw [List.length_map], ⟨_, .inr (Nat.le_refl _), Lib.bytesWorld_at_new w e (strOf s0)⟩, by simpa using hge, hcm, ?_, ?_⟩⟩
          · simp only [Lib.bytesCells, Array.size_append, Array.size_map, Array.size_replicate, Ty.sz, Nat.mul_one]
            have : (strOf s0).data.size = s0.length := strOf_size s0
            rw [this, strOf_size]; omega
          · simp only [Lib.bytesCells, Array.toList_append, Array.toList_map, Ty.sz, Nat.mul_one, List.length_map]
            have e1 : (strOf s0).data.toList = s0 := rfl
            rw [e1, List.take_left' (by simp)]
    · split at hr <;> cases hr
      cases h2
    · cases hr
  subst hp
  obtain ⟨G1, hr1, ⟨cs, h2, h3⟩, htl⟩ := toDat_frz h hT hy
  clear hr1 htl
  have hsh := (hE.ty _ _ hs).shape
  have hth := (hE.ty _ _ htt).shape
  obtain ⟨y, yw⟩ := y
  dsimp only at hr h2 h3
  unfold conv at hr
  split at hr
  · split at hr <;> cases hr
    rename_i k n _ _ k1 k2
    simp only [RV] at h2
    subst h2
    refine wpIn_value hF (by rw [ho]; simp) (v := sval (.int k2) (k2.wrap n)) ?_ (fillS (r := ⟨.int k2, k2.wrap n⟩) h hdst hd rfl hn)
    simp only [ShapeOk] at hsh hth
    simp [execOp, ho, h3, valOf, Ty.isAgg, convert, run_underlying hsh, run_underlying hth, Conv.intToInt, sval, Sem.run_pure]
  · split at hr <;> cases hr
    · rename_i s0 _ _
      simp only [RV] at h2
      subst h2
      refine wpIn_value hF (by rw [ho]; simp) (v := sval .str s0) ?_ (fillS (r := ⟨.str, s0⟩) h hdst hd rfl hn)
      simp only [ShapeOk] at hsh hth
      simp [execOp, ho, h3, valOf, Ty.isAgg, convert, run_underlying hsh, run_underlying hth, sval, Sem.run_pure]
    · rename_i s0 _ _
      simp only [RV] at h2
      subst h2
      simp only [ShapeOk] at hsh
      obtain ⟨e, h4, h5, h6, _⟩ := hth
      have h7 := (hE.ty _ _ h6).shape
      simp only [ShapeOk] at h7
      have hgr := grownBy_bytes w e (strOf s0)
      have hrun := Lib.run_convert_string_bytes (P := P) w src dst e (strOf s0) hsh h4 h7
      have h8 := h.grow hgr
      refine wpIn_value hF (by rw [ho]; simp) (v := .slice (some ⟨w.heap.size, 0, none⟩) (strOf s0).size (grownCap w (strOf s0).size 0 e)) (w' := Lib.bytesWorld w e (strOf s0)) ?_
        (fill1 (v := .dat (.list (.int .u8)) (s0.map fun b => (b.toNat : Int))) h8 hdst hd rfl trivial (by simp) ⟨[.slice (some ⟨w.heap.size, 0, none⟩) (strOf s0).size (grownCap w (strOf s0).size 0 e)], ?_, rfl⟩ hn)
      · have hx : a.eval x = .string (strOf s0) := h3
        simp only [execOp, ho, hx, Sem.run_bind, hrun, Result.andThen_ok, Sem.run_pure]
      · refine ⟨some ⟨w.heap.size, 0, none⟩, grownCap w (strOf s0).size 0 e, ?_, ?_, ?_, fun h0 => ⟨⟨w.heap.size, 0, none⟩, s0.map fun b => Value.int .u8 b.toNat, rfl, ⟨?_, ?_, h.zow _ (.inr h.size)⟩, rows_map_bytes s0, ?_⟩⟩
        · simp [strOf_size]
        · have := grownCap_ge w (strOf s0).size 0 e
          rw [strOf_size] at this ⊢
          simpa using this
        · simpa using of_decide_eq_true ht
        · show w.heap.size < _
          rw [Lib.bytesWorld_size]; omega
        · intro l hl
          have := (h.bnd l _ hl).1
          exact absurd this (by simp)
        · intro j hj
          have hj' : j < (strOf s0).size := by rw [strOf_size]; simpa using hj
          rw [add_plain]
          simp only [Nat.zero_add]
          rw [Lib.bytesWorld_cell w e (strOf s0) j hj']
          have hj2 : j < s0.length := by simpa using hj
          simp [strOf, List.getD_eq_getElem?_getD, List.getElem?_eq_getElem hj2]
  · split at hr <;> cases hr
    rename_i xs _ _
    obtain ⟨e, h4, h5, h6, _⟩ := hsh
    have h7 := (hE.ty _ _ h6).shape
    simp only [ShapeOk] at h7 hth
    refine wpIn_value hF (by rw [ho]; simp) (v := sval .str (xs.map fun n => UInt8.ofNat n.toNat)) ?_ (fillS (r := ⟨.str, xs.map fun n => UInt8.ofNat n.toNat⟩) h hdst hd rfl hn)
    have hb := load_bytes (P := P) h2
    obtain ⟨A, cap, rfl, _⟩ := h2.list_cells
    have hx : a.eval x = .slice A xs.length cap := h3
    replace hb : (Conv.bytesToString (.slice A xs.length cap)).run P w = _ := hb
    simp only [execOp, ho, hx, Sem.run_bind, convert, run_underlying h4, run_underlying hth, run_underlying h7, Result.andThen_ok, hb, Sem.run_pure, sval]
  · cases hr
end
end Go.Ev

namespace Go.Ev
open Go.RowKit
section
variable {Z : ZS} {E : Env} {N : Nat} {w0 : World} {Ow : OwS} {S S' D D' : Nat → Prop} {g g' : Mem} {G G' : Ghost} {a a' : Act} {w w' : World} {P : Program} {F : Fence} {n : Nat}

/-- The elements behind a slice operand. -/
def Elems (Pr : Nat → Prop) (w : World) (t : Ty) (ys : List t.den) (v : Value) : Prop :=
  ∃ A cap, v = .slice A ys.length cap ∧ (0 < ys.length → ∃ ad ds, A = some ad ∧ Rows (RV Pr w t) ys ds ∧ ∀ j, ∀ hj : j < ds.length, w.cell? (ad.add j) = some ds[j])

theorem OwnR.elems {Pr : Nat → Prop} {gb : Option Nat} {e : Nat} {t : Ty} {xs : List t.den} {v : Value} (h : OwnR Pr w gb e t xs v) : Elems Pr w t xs v := by
  obtain ⟨A, cap, rfl, _⟩ := h.slice
  refine ⟨A, cap, rfl, fun h0 => ?_⟩
  obtain ⟨b, rfl, _, cells, h1, h2⟩ := own_addr h h0
  exact ⟨_, cells, rfl, h1, fun j hj => by rw [add_plain]; exact h2 j hj⟩

theorem toDat_elems (h : Rel Z E N w0 Ow S D g G a w) {x : Operand} {v : AV} (hT : Told Z E S g G a w x v) {t : Ty} {ys : List t.den} {ws : List (Loc × AV)} (hr : (toDat x v).run g = some (⟨.list t, ys⟩, ws)) :
    Elems (free Z G w) w t ys (a.eval x) := by
  unfold toDat at hr
  split at hr
  · simp only [Q.run, Option.some.injEq, Prod.mk.injEq, Dat.mk.injEq] at hr
    obtain ⟨⟨rfl, hy⟩, _⟩ := hr
    cases hy
    obtain ⟨cs, h1, h2⟩ := hT.r (.box 0) (by simp)
    obtain ⟨A, cap, rfl, h3, h4, h5⟩ := h1.list_cells
    exact ⟨A, cap, h2, fun h0 => by obtain ⟨ad, ds, k1, _, k2, k3⟩ := h5 h0; exact ⟨ad, ds, k1, k2, k3⟩⟩
  · rename_i e t' xs st
    split at hr
    · rename_i s
      simp only [Q.run, Option.some.injEq, Prod.mk.injEq, Dat.mk.injEq, Ty.list.injEq] at hr
      obtain ⟨⟨rfl, hy⟩, _⟩ := hr
      cases hy
      exact (show OwnR _ _ _ _ _ _ _ from hT.r (.slot s) (fun _ _ _ _ _ => ⟨s, rfl, rfl⟩)).elems
    · simp [Q.run] at hr
  · rename_i l st t' n
    simp only [Q.run] at hr
    split at hr
    · rename_i e t2 xs st' hgl
      split at hr
      · rename_i hs
        have := Nat.eq_of_beq_eq_true hs
        subst this
        simp only [castD] at hr
        split at hr
        · rename_i htt
          cases htt
          simp only [Q.run, Q.bind, Option.some.injEq, Prod.mk.injEq, Dat.mk.injEq, Ty.list.injEq] at hr
          obtain ⟨⟨rfl, hy⟩, _⟩ := hr
          cases hy
          obtain ⟨h1, h2⟩ := (hT.r (.box 0) (by simp)).2 e xs hgl
          have := (h.root hT.stamp.2 hgl).cutTo h1
          rw [← h2] at this
          exact this.elems
        · simp [Q.run, Q.bind] at hr
      · simp [Q.run] at hr
    · simp [Q.run] at hr
  · simp only [Q.run, Option.some.injEq, Prod.mk.injEq, Dat.mk.injEq] at hr
    obtain ⟨⟨rfl, hy⟩, _⟩ := hr
    cases hy
    obtain ⟨cs, h1, h2, _⟩ := hT.r (.box 0) (by simp)
    obtain ⟨A, cap, rfl, h3, h4, h5⟩ := h1.list_cells
    exact ⟨A, cap, h2, fun h0 => by obtain ⟨ad, ds, k1, _, k2, k3⟩ := h5 h0; exact ⟨ad, ds, k1, k2, k3⟩⟩
  · simp [Q.run] at hr
theorem toDatAs_elems (h : Rel Z E N w0 Ow S D g G a w) {T : Nat} {x : Operand} {v : AV} (hT : Told Z E S g G a w x v) {t : Ty} {ys : List t.den} {ws : List (Loc × AV)} (hr : (toDatAs E T x v).run g = some (⟨.list t, ys⟩, ws)) :
    Elems (free Z G w) w t ys (a.eval x) := by
  unfold toDatAs at hr
  split at hr
  · simp only [Q.run_bind, Option.bind_eq_some_iff] at hr
    obtain ⟨t', _, hr⟩ := hr
    split at hr
    · simp only [Q.run, Option.some.injEq, Prod.mk.injEq, Dat.mk.injEq, Ty.list.injEq] at hr
      obtain ⟨⟨rfl, hy⟩, _⟩ := hr
      cases hy
      exact ⟨none, 0, hT.r (.box 0) (by simp), by simp⟩
    · simp [Q.run] at hr
  · exact toDat_elems h hT hr

theorem run_append_empty (t ty e : TypeId) (i : TypeInfo) (size : Nat) (ht : P.underlying t = some (.slice e)) (hi : P.info? e = some i)
    (v : Value) (n : Nat) (xs : List Value) (hown : ownsQ w e size v n xs) (A : Option Addr) (c : Nat) :
    (Builtin.append_ #[t, t] ty #[v, .slice A 0 c]).run P w = .ok v w := by
  have hf : (Builtin.firstCells i.size 0 (.slice A 0 c)).run P w = .ok #[] w := by
    cases A <;> simp [Builtin.firstCells, loadCells, loadCellsFrom]
  rcases hown.2 with ⟨rfl, rfl⟩ | ⟨g, cap, cur, rfl, _, hnc, _⟩
  · simp [Builtin.append_, run_underlying ht, sizeOf, typeInfo, hi, Builtin.lenOf, hf]
  · simp [Builtin.append_, run_underlying ht, sizeOf, typeInfo, hi, Builtin.lenOf, hf, hnc, storeCells]

theorem append_run (hE : TabOk P E.tab) {T e : Nat} {t : Ty} (htt : E.tab.ty T = some (.list t)) (he : E.tab.el T = some e) {Pr : Nat → Prop} {gb : Option Nat} {xs ys : List t.den} {v u : Value}
    (hv : OwnR Pr w gb e t xs v) (hu : Elems Pr w t ys u) (ht : xs.length + ys.length ≤ 100000000000) (ty : TypeId) :
    ∃ v' w' cells, (Builtin.append_ #[T, T] ty #[v, u]).run P w = .ok v' w' ∧ Rows (RV Pr w t) (xs ++ ys) cells ∧ ownsQ w' e t.sz v' (xs ++ ys).length cells ∧ w.grownBy w' gb ∧
      (∀ b, v'.ownBlock = some b → gb = some b ∨ (w.heap.size ≤ b ∧ b < w'.heap.size)) := by
  obtain ⟨h1, h2, inf, bytes, h3, h4, h5, h6, h7⟩ := el_info hE htt he
  obtain ⟨_, cells, hr, ho, rfl⟩ := hv
  obtain ⟨A, cap, rfl, hel⟩ := hu
  by_cases h0 : 0 < ys.length
  · obtain ⟨ad, ds, rfl, h8, h9⟩ := hel h0
    have hl := h8.length (fun _ _ hc => hc.len)
    have hone : ∀ u ∈ ds, u.oneCell' = true := by
      have : ∀ {ys : List t.den} {ds : List Value}, Rows (RV Pr w t) ys ds → ∀ u ∈ ds, u.oneCell' = true := by
        intro ys ds hr
        induction hr with
        | nil => simp
        | cons h _ ih =>
          intro u hu
          rcases List.mem_append.1 hu with hu | hu
          · exact RV.one h u hu
          · exact ih u hu
      exact this h8
    have hbytes : (xs.length + ys.length) * inf.bytes ≤ 140737488355328 := by
      rw [h6]
      calc (xs.length + ys.length) * bytes ≤ 100000000000 * 1000 := Nat.mul_le_mul ht h7
        _ ≤ 140737488355328 := by omega
    obtain ⟨v', w', k1, k2, k3, k5⟩ := run_append_Q (P := P) w T ty e inf (valOf t t.zeroCells) t.sz inf.bytes h1 h3 h4 h5 rfl (by rw [zero_cells]; simp [zero_len]) h2 v xs.length cells ho ad ys.length cap ds hl
      (fun j u hj => by obtain ⟨hj', rfl⟩ := List.getElem?_eq_some_iff.1 hj; exact h9 j hj') hone (by simp only [maxLen]; omega) hbytes
    refine ⟨v', w', cells ++ ds, k1, hr.append h8, by rw [List.length_append]; exact k2, k3, fun b hb => ?_⟩
    rcases k5 with k5 | k5
    · exact .inl (by rw [← k5]; exact hb)
    · right
      have := k2.lt b hb
      rw [k5] at hb
      cases hb
      exact ⟨Nat.le_refl _, this⟩
  · have hy : ys = [] := List.eq_nil_of_length_eq_zero (by omega)
    subst hy
    refine ⟨v, w, cells, run_append_empty T ty e inf t.sz h1 h3 v xs.length cells ho A cap, by simpa using hr, by simpa using ho, grownBy_refl _ _, fun b hb => .inl hb⟩

/-- What is appended. -/
theorem appArg_elems (h : Rel Z E N w0 Ow S D g G a w) {T : Nat} {x : Operand} {v : AV} (hT : Told Z E S g G a w x v) {q : Bool} {t : Ty} {ys : List t.den} (hr : (appArg E T x v).run g = some (q, ⟨.list t, ys⟩)) (hq : q = true) :
    Elems (free Z G w) w t ys (a.eval x) := by
  unfold appArg at hr
  split at hr
  · rename_i c o n
    simp only [Q.run] at hr
    split at hr
    · rename_i m t' xs hcell
      simp only [Q.run, Option.some.injEq, Prod.mk.injEq, Dat.mk.injEq, Ty.list.injEq] at hr
      obtain ⟨rfl, rfl, hy⟩ := hr
      cases hy
      have hnm : n ≤ m := of_decide_eq_true hq
      obtain ⟨e, k, gb, cc, q1, q2, q3⟩ := hT.r (.box 0) (by simp)
      obtain ⟨e1, n1, gb1, cur, k1, k2, k3, k4⟩ := h.cells c o (by rw [hcell]; simp)
      rw [q2] at k2; cases k2
      rw [hcell] at k4
      obtain ⟨k5, k6⟩ := k4
      obtain ⟨hl, hrows⟩ := k6
      have hlen : (List.take n xs).length = n := by rw [List.length_take]; omega
      refine ⟨some ⟨gb, o, none⟩, cc, by rw [hlen]; exact q3, fun h0 => ⟨⟨gb, o, none⟩, _, rfl, hrows.take (fun _ _ hc => hc.len) n, fun j hj => ?_⟩⟩
      rw [add_plain, cell_of_row w gb (o + j) cur e1 (0, 0) k3]
      simp only [Ty.sz] at k5 hj ⊢
      simp only [List.length_take, List.length_drop, Array.length_toList] at hj
      rw [List.getElem_take, List.getElem_take, List.getElem_drop]
      rw [Array.getElem?_eq_getElem (by omega)]
      simp
    · simp [Q.run] at hr
  · simp only [Q.run_bind, Option.bind_eq_some_iff, Q.run, Option.some.injEq, Prod.mk.injEq] at hr
    obtain ⟨p, hp, _, hp2⟩ := hr
    obtain ⟨d, ws⟩ := p
    dsimp only at hp2
    subst hp2
    exact toDatAs_elems h hT hp
theorem sound_append {ctx : Ctx} {i : Nat} {o : Oper} {xs : Array Operand} {Ts : Array Nat} (hE : TabOk P E.tab) (ho : o.op = .call { callee := .builtin .append, args := xs, argTypes := Ts }) : Sound E P ctx i o := by
  intro Z N w0 Ow S D g G a w F n f next Qp h hg hp ht hfr hdst hF hS0 hn
  simp only [plan, ho, builtinQ] at hp
  split at hp
  · rename_i x y T U hx hTs
    obtain ⟨xs⟩ := xs
    obtain ⟨Ts⟩ := Ts
    simp only at hx hTs
    subst hx; subst hTs
    split at hp
    · rename_i hTU
      have := Nat.eq_of_beq_eq_true hTU
      subst this
      simp only [Q.run_bind, Option.bind_eq_some_iff, appendQ] at hp
      obtain ⟨d, hd, tt, htt, hp⟩ := hp
      replace hd := sureD_some hd
      replace htt := ofO_some htt
      obtain ⟨hdN, hdD⟩ := hdst d hd
      split at hp
      · rename_i t
        simp only [Q.run_bind, Option.bind_eq_some_iff] at hp
        obtain ⟨e, he, va, hva, vb, hvb, yw, hy, hp⟩ := hp
        replace he := ofO_some he
        have hTa := rd_told h hg hva
        have hTb := rd_told h hg hvb
        split at hp
        · rename_i hyt
          obtain ⟨qb, ⟨yt, ys⟩⟩ := yw
          dsimp only at hyt hp
          subst hyt
          have hys : (⟨.list t, ys⟩ : Dat).as (.list t) = ys := by simp [Dat.as]
          rw [hys] at hp
          have hel := fun hq => appArg_elems h hTb hy hq
          obtain ⟨h1, h2, _⟩ := el_info hE htt he
          -- the operation, whatever is appended to
          have fin : ∀ (r : Option Loc) (zs : List t.den) (G0 : r.bind G = (a.eval x).ownBlock), (∀ l, r = some l → ∃ e t xs s, g l = .own e t xs s) → OwnR (free Z G w) w (r.bind G) e t zs (a.eval x) → qb = true → zs.length + ys.length ≤ 100000000000 →
              (∀ a' w' g' G', (∀ l, g' l = if l = .slot d then .own e t (zs ++ ys) (i + 1) else if some l = r then deadAt l else g l) → Rel Z E N w0 Ow (fun n => S n ∨ n = i + 1) D g' G' a' w' → next a' w') → o.wpIn F n P a w next Qp := by
            intro r zs G0 hr hv hqb hlen hn
            obtain ⟨v', w', cells, k1, k2, k3, k4, k5⟩ := append_run hE htt he hv (hel hqb) hlen o.type
            obtain ⟨g2, G2, k6, k7⟩ := h.putOwn (a' := a.put (some d) v') hdN r (i + 1) hfr hdD hr k4 k5 h2 k2 k3
              (by rw [put_defers]; exact h.defers) (by rw [put_size]; exact h.tmps) (put_tmps a d v' (by rw [h.tmps]; exact hdN)) (fun _ hn => put_tmps_ne a v' hn)
            refine wpIn_value hF (by rw [ho]; simp) (v := v') (w' := w') ?_ (by rw [hd]; exact hn _ _ _ _ k6 k7)
            simp only [execOp, ho, resolve, invoke, builtin, Sem.run_bind, Sem.run_pure, Result.andThen_ok, List.map_toArray, List.map_cons, List.map_nil, k1]
          split at hp
          · simp only [Q.run, Option.some.injEq] at hp
            subst hp
            have hx : a.eval x = .slice none 0 0 := hTa.r (.box 0) (by simp)
            refine fin none [] (by rw [hx]; rfl) (by simp) ⟨h2, [], .nil, by rw [hx]; exact ownsQ_nil _ _ _, by rw [hx]; rfl⟩ (Bool.and_eq_true_iff.1 ht).1 (by simpa using of_decide_eq_true (Bool.and_eq_true_iff.1 ht).2) (fun a' w' g' G' hg' hR => hn a' w' g' G' (fun l => ?_) hR)
            rw [hg']
            simp [Mem.sets, Mem.upd_apply]
          · simp only [Q.run_bind, Option.bind_eq_some_iff] at hp
            obtain ⟨r, hr, hp⟩ := hp
            obtain ⟨k1, k2, k3, k4, A, cap, k5, k6, k7⟩ := root_told h hTa hr
            split at hp
            · rename_i hrt
              obtain ⟨rl, re, rt, rxs, rn⟩ := r
              obtain ⟨e1, e2⟩ := hrt
              dsimp only at e1 e2 k1 k2 k3 k4 k5 k6 k7 hp
              subst e1; subst e2
              have hxs : (⟨.list rt, rxs⟩ : Dat).as (.list rt) = rxs := by simp [Dat.as]
              rw [hxs] at hp
              simp only [Q.run, Option.some.injEq] at hp
              subst hp
              have hroot := (h.root k1 k3).cutTo k4
              have hpre : prefixOf (rootVal G a w rl) rn = a.eval x := by rw [k5, k7]; rfl
              rw [hpre] at hroot
              have hG0 : G rl = (a.eval x).ownBlock := by
                obtain ⟨_, _, _, _, hb⟩ := hroot
                exact hb.symm
              refine fin (some rl) (rxs.take rn) hG0 (fun l e' => by cases e'; exact ⟨_, _, _, _, k3⟩) hroot (Bool.and_eq_true_iff.1 ht).1 (of_decide_eq_true (Bool.and_eq_true_iff.1 ht).2) (fun a' w' g' G' hg' hR => hn a' w' g' G' (fun l => ?_) hR)
              rw [hg']
              simp only [Mem.sets, Mem.upd_apply, Option.some.injEq]
              by_cases q1 : l = .slot d
              · simp [q1]
              · by_cases q2 : l = rl
                · simp [q1, q2]
                · simp [q1, q2]
            · simp [Q.run] at hp
        · simp [Q.run] at hp
      · simp [Q.run] at hp
    · simp [Q.run] at hp
  · simp [Q.run] at hp
end
end Go.Ev

namespace Go.Ev
open Go.RowKit
section
variable {Z : ZS} {E : Env} {N : Nat} {w0 : World} {Ow : OwS} {S S' D D' : Nat → Prop} {g g' : Mem} {G G' : Ghost} {a a' : Act} {w w' : World} {P : Program} {F : Fence} {n : Nat}

/-- A leaf of scattered data. -/
def IsLeaf (b : Nat) (t : Ty) (x : t.den) (o0 : Nat) (p : Loc × AV) : Prop :=
  ∃ o u y, p = (.cell b o, .dat u y) ∧ o0 ≤ o ∧ o + u.sz ≤ o0 + t.sz ∧ ∀ (Pr : Nat → Prop) (w : World) (cs : List Value), RV Pr w t x cs → RV Pr w u y ((cs.drop (o - o0)).take u.sz)
theorem scatter_mem {b : Nat} : ∀ {t : Ty} {x : t.den} {o0 : Nat}, ∀ p ∈ scatter b t x o0, IsLeaf b t x o0 p := by
  have leaf : ∀ {t : Ty} {x : t.den} {o0 : Nat}, ∀ p ∈ [((Loc.cell b o0, AV.dat t x) : Loc × AV)], IsLeaf b t x o0 p := by
    intro t x o0 p hp
    simp only [List.mem_singleton] at hp
    subst hp
    refine ⟨o0, t, x, rfl, Nat.le_refl _, Nat.le_refl _, fun Pr w cs h => ?_⟩
    rw [Nat.sub_self, List.drop_zero, List.take_of_length_le (by rw [h.len]; exact Nat.le_refl _)]
    exact h
  intro t
  induction t with
  | pair s t ih1 ih2 =>
    intro x o0 p hp
    simp only [scatter, List.mem_append] at hp
    rcases hp with hp | hp
    · obtain ⟨o, u, y, h1, h2, h3, h4⟩ := ih1 p hp
      refine ⟨o, u, y, h1, h2, by simp only [Ty.sz]; omega, fun Pr w cs h => ?_⟩
      obtain ⟨c, d, rfl, k1, k2⟩ := h
      have l1 := k1.len
      rw [List.drop_append_of_le_length (by omega), List.take_append_of_le_length (by simp; omega)]
      exact h4 Pr w c k1
    · obtain ⟨o, u, y, h1, h2, h3, h4⟩ := ih2 p hp
      refine ⟨o, u, y, h1, by omega, by simp only [Ty.sz]; omega, fun Pr w cs h => ?_⟩
      obtain ⟨c, d, rfl, k1, k2⟩ := h
      have l1 := k1.len
      have e : (c ++ d).drop (o - o0) = d.drop (o - (o0 + s.sz)) := by
        rw [show o - o0 = c.length + (o - (o0 + s.sz)) by omega, ← List.drop_drop, List.drop_left]
      rw [e]
      exact h4 Pr w d k2
  | unit => intro x o0 p hp; simp [scatter] at hp
  | int k => exact leaf
  | bool => exact leaf
  | str => exact leaf
  | list t _ => exact leaf
  | arr m t _ => exact leaf
  | err => exact leaf
  | bnd f t _ => exact leaf
theorem scatter_pairwise {b : Nat} : ∀ {t : Ty} {x : t.den} {o0 : Nat}, (scatter b t x o0).Pairwise fun p q => ∀ o u y o', p = (.cell b o, .dat u y) → q.1 = .cell b o' → o + u.sz ≤ o' := by
  intro t
  induction t with
  | pair s t ih1 ih2 =>
    intro x o0
    simp only [scatter]
    refine List.pairwise_append.2 ⟨ih1, ih2, fun p hp q hq o u y o' e1 e2 => ?_⟩
    obtain ⟨o1, u1, y1, h1, h2, h3, _⟩ := scatter_mem p hp
    obtain ⟨o2, u2, y2, k1, k2, k3, _⟩ := scatter_mem q hq
    rw [e1] at h1
    rw [k1] at e2
    simp only [Prod.mk.injEq, Loc.cell.injEq, true_and, AV.dat.injEq] at h1 e2
    obtain ⟨rfl, rfl, _⟩ := h1
    omega
  | unit => intro x o0; simp [scatter]
  | _ => intro x o0; simp [scatter]
theorem scatter_cover {b : Nat} : ∀ {t : Ty} {x : t.den} {o0 j : Nat}, o0 ≤ j → j < o0 + t.sz → ∃ p ∈ scatter b t x o0, ∃ o u y, p = (.cell b o, .dat u y) ∧ o ≤ j ∧ j < o + u.sz := by
  intro t
  induction t with
  | pair s t ih1 ih2 =>
    intro x o0 j h1 h2
    simp only [Ty.sz] at h2
    by_cases hj : j < o0 + s.sz
    · obtain ⟨p, hp, h⟩ := ih1 (x := x.1) h1 hj
      exact ⟨p, by simp [scatter, hp], h⟩
    · obtain ⟨p, hp, h⟩ := ih2 (x := x.2) (o0 := o0 + s.sz) (j := j) (by omega) (by omega)
      exact ⟨p, by simp [scatter, hp], h⟩
  | unit => intro x o0 j h1 h2; simp only [Ty.sz] at h2; omega
  | _ => intro x o0 j h1 h2; exact ⟨_, by simp [scatter], o0, _, x, rfl, h1, h2⟩

theorem sets_get : ∀ {ws : List (Loc × AV)} {g : Mem} {l : Loc}, (g.sets ws l = g l ∧ ∀ p ∈ ws, p.1 ≠ l) ∨ ∃ p ∈ ws, p.1 = l ∧ g.sets ws l = p.2
  | [], g, l => .inl ⟨rfl, by simp⟩
  | p :: r, g, l => by
    rw [Mem.sets_cons]
    rcases sets_get (ws := r) (g := g.upd p.1 p.2) (l := l) with ⟨h1, h2⟩ | ⟨q, h1, h2, h3⟩
    · by_cases he : p.1 = l
      · subst he
        exact .inr ⟨p, by simp, rfl, by rw [h1, Mem.upd_same]⟩
      · rw [h1, Mem.upd_ne g _ he]
        exact .inl ⟨rfl, fun q hq => by rcases List.mem_cons.1 hq with rfl | hq; exact he; exact h2 q hq⟩
    · exact .inr ⟨q, by simp [h1], h2, h3⟩

theorem pair_of {α : Type} {R : α → α → Prop} {l : List α} (h : l.Pairwise R) {p q : α} (hp : p ∈ l) (hq : q ∈ l) : p = q ∨ R p q ∨ R q p := by
  induction h with
  | nil => simp at hp
  | @cons x r h1 h2 ih =>
    rcases List.mem_cons.1 hp with rfl | hp'
    · rcases List.mem_cons.1 hq with rfl | hq'
      · exact .inl rfl
      · exact .inr (.inl (h1 q hq'))
    · rcases List.mem_cons.1 hq with rfl | hq'
      · exact .inr (.inr (h1 p hp'))
      · exact ih hp' hq'

/-- **A box is made.** -/
theorem Rel.newBox (h : Rel Z E N w0 Ow S D g G a w) {d : Nat} (hd : d < N) (hD : ¬ D d) (hh : E.held d = false) {T : Nat} {t : Ty} {x : t.den} {cs : List Value} (hdead : g (.box d) = .dead) (hx : RV (free Z G w) w t x cs) :
    ∃ G2, G2 (.box d) = some w.heap.size ∧ Rel Z E N w0 Ow S D (g.sets ((.box d, .bx T t.sz) :: scatter d t x 0 ++ [(.slot d, .ptr d 0)])) G2 (a.put (some d) (.pointer (some ⟨w.heap.size, 0, none⟩))) (w.alloc (.cells cs.toArray T)) := by
  have hcd : ∀ o, g (.cell d o) = .dead := fun o => by
    apply Classical.byContradiction; intro hne
    obtain ⟨e, n, _, _, h1, _⟩ := h.cells d o hne
    rw [hdead] at h1; cases h1
  obtain ⟨g2, hg2⟩ : ∃ g2, g2 = g.sets ((.box d, .bx T t.sz) :: scatter d t x 0 ++ [(.slot d, .ptr d 0)]) := ⟨_, rfl⟩
  have hget : ∀ l, g2 l = if l = .slot d then .ptr d 0 else (g.upd (.box d) (.bx T t.sz)).sets (scatter d t x 0) l := fun l => by
    rw [hg2, List.cons_append, Mem.sets_cons, Mem.sets_append]
    simp only [Mem.sets, Mem.upd_apply]
  have hsc : ∀ l, (∀ o, l ≠ .cell d o) → (g.upd (.box d) (.bx T t.sz)).sets (scatter d t x 0) l = g.upd (.box d) (.bx T t.sz) l := fun l hl => sets_other (fun p hp e => by
    obtain ⟨o, u, y, h1, _⟩ := scatter_mem p hp
    rw [h1] at e; exact hl o e.symm)
  have hslot : g2 (.slot d) = .ptr d 0 := by rw [hget, if_pos rfl]
  have hbox : g2 (.box d) = .bx T t.sz := by rw [hget, if_neg (by simp), hsc _ (by simp), Mem.upd_same]
  have hoth : ∀ l, ¬ (l = .box d ∨ l = .slot d ∨ ∃ o, l = .cell d o) → g2 l = g l := fun l hl => by
    simp only [not_or, not_exists] at hl
    rw [hget, if_neg hl.2.1, hsc _ hl.2.2, Mem.upd_ne g _ (Ne.symm hl.1)]
  have hcell : ∀ o, g2 (.cell d o) = .dead ∨ ∃ p ∈ scatter d t x 0, p.1 = .cell d o ∧ g2 (.cell d o) = p.2 := fun o => by
    rw [hget, if_neg (by simp)]
    rcases sets_get (ws := scatter d t x 0) (g := g.upd (.box d) (.bx T t.sz)) (l := .cell d o) with ⟨h1, _⟩ | ⟨p, h1, h2, h3⟩
    · left; rw [h1, Mem.upd_ne g _ (by simp), hcd]
    · right; exact ⟨p, h1, h2, h3⟩
  rw [← hg2]
  have hlen := hx.len
  let G2 : Ghost := fun l => match l with
    | .box b => if b = d then some w.heap.size else G (.box b)
    | .slot n => if n = d then none else G (.slot n)
    | .cell b o => if b = d then none else G (.cell b o)
    | l => G l
  have hG2 : ∀ l, ¬ (l = .box d ∨ l = .slot d ∨ ∃ o, l = .cell d o) → G2 l = G l := fun l hl => by
    simp only [not_or, not_exists] at hl
    cases l with
    | slot n => simp only [G2]; rw [if_neg (fun e => hl.2.1 (by rw [e]))]
    | box b => simp only [G2]; rw [if_neg (fun e => hl.1 (by rw [e]))]
    | cell b o => simp only [G2]; rw [if_neg (fun e => hl.2.2 o (by rw [e]))]
    | comp n i => rfl
  have hGi : ∀ l b, G2 l = some b → (l = .box d ∧ b = w.heap.size) ∨ (G l = some b ∧ ¬ (l = .box d ∨ l = .slot d ∨ ∃ o, l = .cell d o)) := fun l b hb => by
    cases l with
    | slot n =>
      simp only [G2] at hb
      split at hb
      · cases hb
      · exact .inr ⟨hb, by simp [*]⟩
    | box k =>
      simp only [G2] at hb
      split at hb
      · rename_i e; cases hb; exact .inl ⟨by rw [e], rfl⟩
      · exact .inr ⟨hb, by simp [*]⟩
    | cell k o =>
      simp only [G2] at hb
      split at hb
      · cases hb
      · exact .inr ⟨hb, by simp [*]⟩
    | comp n i => exact .inr ⟨hb, by simp⟩
  have hw := World.grownBy_alloc w (.cells cs.toArray T) none
  have hsize : (w.alloc (.cells cs.toArray T)).heap.size = w.heap.size + 1 := by simp
  have hb : ∀ b, b < w.heap.size → (w.alloc (.cells cs.toArray T)).heap[b]? = w.heap[b]? := fun b hb => hw.block b hb (by simp)
  have hk : ∀ b, free Z G w b → free Z G2 (w.alloc (.cells cs.toArray T)) b ∧ (w.alloc (.cells cs.toArray T)).heap[b]? = w.heap[b]? := fun b hf => by
    refine ⟨⟨Nat.lt_of_lt_of_le hf.1 hw.size, fun l e => ?_, hf.3⟩, hb b hf.1⟩
    rcases hGi l b e with ⟨_, h2⟩ | ⟨h2, _⟩
    · have := hf.1; omega
    · exact hf.2 l h2
  have hnew : (w.alloc (.cells cs.toArray T)).heap[w.heap.size]? = some (.cells cs.toArray T (0, 0)) := heap_alloc_new w _
  refine ⟨G2, by simp [G2], h.change (fun l => l = .box d ∨ l = .slot d ∨ ∃ o, l = .cell d o) hoth hG2 (by rw [put_defers]; exact h.defers) (by rw [put_size]; exact h.tmps) hw.os hw.tape hw.output hw.size
    (fun k hk' _ => hb k (Nat.lt_of_lt_of_le hk' h.size)) hk (fun l _ b hl => hb b (h.bnd l b hl).1) ?_ ?_ ?_ (fun _ h => h) ?_ ?_ ?_ ?_ ?_ ?_ ?_ ?_ ?_ ?_ ?_ ?_ (fun b1 gb1 hc _ _ hp => by
      rcases hc with e1 | e1 | ⟨_, e1⟩ <;> cases e1
      rcases h.pinR _ _ hp with h9 | h9
      · have := h9.1; omega
      · rw [hh] at h9; cases h9)⟩
  · intro l st _ hrt
    cases l with
    | slot n =>
      refine ⟨fun e t' xs' hx' => ?_, fun b o n t xs' hb => by cases hb⟩
      by_cases hn : n = d
      · subst hn; rw [hslot] at hx'; cases hx'
      · rw [hoth _ (by simp [hn])] at hx'
        exact ⟨xs', hx', rfl, put_tmps_ne a _ (Ne.symm hn), hG2 (.slot n) (by simp [hn])⟩
    | comp n i => exact hrt.elim
    | box b => exact hrt.elim
    | cell b o =>
      by_cases hbd : b = d
      · subst hbd
        refine ⟨fun e t' xs' hx' => ?_, fun b' o' n t' xs' he hx' hlive => ?_⟩
        · rcases hcell o with h1 | ⟨p, h1, h2, h3⟩
          · rw [h1] at hx'; cases hx'
          · obtain ⟨o1, u1, y1, k1, _⟩ := scatter_mem p h1
            rw [h3, k1] at hx'; cases hx'
        · cases he
          obtain ⟨e1, m1, h1⟩ := hlive
          rw [hdead] at h1; cases h1
      · have hne := hoth (.cell b o) (by simp [hbd])
        refine ⟨fun e t' xs' hx' => ⟨xs', by rwa [hne] at hx', rfl, ?_, hG2 (.cell b o) (by simp [hbd])⟩, fun b' o' n t' xs' _ hx' _ => ⟨xs', by rwa [hne] at hx'⟩⟩
        simp only [rootVal, G2, if_neg hbd]
        cases hgb : G (.box b) with
        | none => rfl
        | some gb => simp only [World.cell?_of_block (w := w) (w' := w.alloc (.cells cs.toArray T)) (a := ⟨gb, o, none⟩) (hb gb (h.bnd _ gb hgb).1)]
  · intro b e n hb'
    have hbd : b ≠ d := fun e' => by rw [e', hdead] at hb'; cases hb'
    exact ⟨by rw [hoth _ (by simp [hbd])]; exact hb', by simp [G2, hbd], fun gb hgb => .inr (hb gb (h.bnd _ gb hgb).1)⟩
  · intro k hk'
    exact hoth _ (by simp; exact fun e => hD (e ▸ hk'))
  · intro n hn
    exact put_tmps_ne a _ (fun e => hn (.inr (.inl (by rw [e]))))
  · intro n hn
    have : n = d := by rcases hn with e | e | ⟨o, e⟩ <;> cases e; rfl
    subst this
    rw [hslot, put_tmps a n _ (by rw [h.tmps]; exact hd)]
    exact ⟨T, t.sz, w.heap.size, hbox, by simp [G2], rfl⟩
  · intro n k i hn _ hch
    have : n = d := by
      rcases hch with (e | e | ⟨o, e⟩) | (e | e | ⟨o, e⟩) <;> cases e; rfl
    subst this
    rw [hslot] at hn; cases hn
  · intro b e n hch hb'
    have : b = d := by rcases hch with e | e | ⟨o, e⟩ <;> cases e; rfl
    subst this
    rw [hbox] at hb'
    cases hb'
    exact ⟨w.heap.size, cs.toArray, by simp [G2], hnew, by simpa using hlen⟩
  · intro b o hch hne
    have : b = d := by rcases hch with e | e | ⟨o, e⟩ <;> cases e; rfl
    subst this
    rcases hcell o with h1 | ⟨p, h1, h2, h3⟩
    · exact absurd h1 hne
    · obtain ⟨o1, u1, y1, k1, k2, k3, k4⟩ := scatter_mem p h1
      rw [k1] at h2 h3
      cases h2
      refine ⟨T, t.sz, w.heap.size, cs.toArray, hbox, by simp [G2], hnew, ?_⟩
      rw [h3]
      have k5 := k4 (free Z G2 (w.alloc (.cells cs.toArray T))) (w.alloc (.cells cs.toArray T)) cs (hx.keep (fun b hb => (hk b hb).2) (fun b hb => (hk b hb).1))
      exact ⟨by simp; omega, by simpa using k5⟩
  · intro b o o' hch h1 h2 hne
    have : b = d := by rcases hch with (e | e | ⟨o, e⟩) | (e | e | ⟨o, e⟩) <;> cases e <;> rfl
    subst this
    rcases hcell o with k1 | ⟨p, k1, k2, k3⟩
    · exact absurd k1 h1
    · rcases hcell o' with m1 | ⟨q, m1, m2, m3⟩
      · exact absurd m1 h2
      · obtain ⟨o1, u1, y1, k4, _⟩ := scatter_mem p k1
        obtain ⟨o2, u2, y2, m4, _⟩ := scatter_mem q m1
        rw [k3, m3, k4, m4]
        rw [k4] at k2; rw [m4] at m2
        cases k2; cases m2
        rcases pair_of scatter_pairwise k1 m1 with e | e | e
        · rw [k4, m4] at e
          simp at e
          exact absurd e.1 hne
        · exact .inl (e o u1 y1 o' k4 (by rw [m4]))
        · exact .inr (e o' u2 y2 o m4 (by rw [k4]))
  · intro b hch
    have : b = d := by rcases hch with e | e | ⟨o, e⟩ <;> cases e; rfl
    subst this
    exact .inr ⟨T, t.sz, hbox⟩
  · intro l hch
    rcases hch with rfl | rfl | ⟨o, rfl⟩
    · rw [hbox]; trivial
    · rw [hslot]; trivial
    · rcases hcell o with h1 | ⟨p, h1, h2, h3⟩
      · rw [h1]; trivial
      · obtain ⟨o1, u1, y1, k4, _⟩ := scatter_mem p h1
        rw [h3, k4]; trivial
  · intro l c v hch hv
    rcases hch with rfl | rfl | ⟨o, rfl⟩
    · rw [hbox] at hv; cases hv
    · rw [hslot] at hv; cases hv
    · rcases hcell o with h1 | ⟨p, h1, h2, h3⟩
      · rw [h1] at hv; cases hv
      · obtain ⟨o1, u1, y1, k4, _⟩ := scatter_mem p h1
        rw [h3, k4] at hv; cases hv
  · intro l b hch hb'
    rcases hGi l b hb' with ⟨_, rfl⟩ | ⟨_, h2⟩
    · exact ⟨by rw [hsize]; omega, .inr h.size⟩
    · exact absurd hch h2
  · intro l b hch hb'
    rcases hGi l b hb' with ⟨rfl, _⟩ | ⟨_, h2⟩
    · exact .inr ⟨_, _, hbox⟩
    · exact absurd hch h2
  · intro l l' b hch hb1 hb2
    rcases hGi l b hb1 with ⟨rfl, rfl⟩ | ⟨_, h2⟩
    · rcases hGi l' _ hb2 with ⟨rfl, _⟩ | ⟨h3, _⟩
      · rfl
      · exact absurd (h.bnd _ _ h3).1 (by omega)
    · exact absurd hch h2

theorem fillBox {next : Act → World → Prop} {i d T : Nat} {t : Ty} {x : t.den} {cs : List Value} {o : Oper} {ws : List (Loc × AV)} {G1 : Ghost} (h : Rel Z E N w0 Ow S D (g.sets ws) G1 a w) (hdst : ∀ d, o.dst = some d → d < N ∧ ¬ D d) (hd : o.dst = some d) (hh : E.held d = false)
    (hdead : g.sets ws (.box d) = .dead) (hx : RV (free Z G1 w) w t x cs)
    (hn : ∀ a' w' g' G', (∀ l, g' l = g.sets (ws ++ (.box d, .bx T t.sz) :: scatter d t x 0 ++ [(.slot d, .ptr d 0)]) l) → Rel Z E N w0 Ow (fun n => S n ∨ n = i + 1) D g' G' a' w' → next a' w') :
    next (a.put o.dst (.pointer (some ⟨w.heap.size, 0, none⟩))) (w.alloc (.cells cs.toArray T)) := by
  obtain ⟨h1, h2⟩ := hdst d hd
  obtain ⟨G2, _, h3⟩ := h.newBox h1 h2 hh (T := T) hdead hx
  rw [hd]
  refine hn _ _ _ _ (fun l => ?_) (h3.more (fun _ hs => .inl hs) (fun _ hd => hd) h3.dbool)
  rw [List.append_assoc, ← Mem.sets_append]

theorem get_sets0 (st : St) (ws : List (Loc × AV)) : St.get (st.sets ws) = Mem.sets (St.get st) ws := by
  induction ws generalizing st with
  | nil => rfl
  | cons p r ih =>
    show St.get (St.sets (p :: st) r) = _
    rw [ih, Mem.sets_cons]
    congr 1
theorem sets_congr0 {g g' : Mem} {l : Loc} (h : g l = g' l) : ∀ (ws : List (Loc × AV)), g.sets ws l = g'.sets ws l
  | [] => h
  | p :: r => by
    rw [Mem.sets_cons, Mem.sets_cons]
    refine sets_congr0 ?_ r
    by_cases e : p.1 = l
    · subst e; rw [Mem.upd_same, Mem.upd_same]
    · rw [Mem.upd_ne g _ e, Mem.upd_ne g' _ e, h]
theorem sets_mem0 {l : Loc} : ∀ {ws : List (Loc × AV)}, (∃ p ∈ ws, p.1 = l) → ∀ (g g' : Mem), g.sets ws l = g'.sets ws l
  | [], h, _, _ => by simp at h
  | p :: r, h, g, g' => by
    rw [Mem.sets_cons, Mem.sets_cons]
    by_cases e : p.1 = l
    · subst e
      exact sets_congr0 (by rw [Mem.upd_same, Mem.upd_same]) r
    · obtain ⟨q, hq, hq'⟩ := h
      rcases List.mem_cons.1 hq with rfl | hq
      · exact absurd hq' e
      · exact sets_mem0 ⟨q, hq, hq'⟩ _ _
/-- Slices of a box that are nil are its own. -/
theorem Rel.ownNil (h : Rel Z E N w0 Ow S D g G a w) {d st gb te n : Nat} {cur : Array Value} (hb : g (.box d) = .bx te n) (hG : G (.box d) = some gb) (hw : w.heap[gb]? = some (.cells cur te (0, 0))) (hst : ¬ S st)
    (hall : ∀ l, g' l = g l ∨ ∃ o e u x, l = .cell d o ∧ g l = .dat (.list u) x ∧ g' l = .own e u [] st ∧ cur.getD o undef = .slice none 0 0 ∧ o < cur.size ∧ 0 < u.sz) : Rel Z E N w0 Ow (fun m => S m ∨ m = st) D g' G a w := by
  let Ch : Loc → Prop := fun l => ∃ o e u x, l = .cell d o ∧ g l = .dat (.list u) x ∧ g' l = .own e u [] st ∧ cur.getD o undef = .slice none 0 0 ∧ o < cur.size ∧ 0 < u.sz
  have hg : ∀ l, ¬ Ch l → g' l = g l := fun l hl => (hall l).resolve_right hl
  have hno : ∀ l, (∀ b o, l ≠ .cell b o) → ¬ Ch l := fun l hl ⟨o, _, _, _, e, _⟩ => hl d o e
  have hGn : ∀ {l b}, Ch l → G l = some b → False := fun {l b} ⟨o, e, u, x, _, h2, _⟩ q => by
    rcases h.gone l b q with ⟨_, _, _, _, q1⟩ | ⟨_, _, q1⟩ <;> rw [h2] at q1 <;> cases q1
  have hsz : ∀ l, (g' l).size = (g l).size := fun l => by
    rcases hall l with e | ⟨o, e, u, x, _, h2, h3, _⟩
    · rw [e]
    · rw [h2, h3]; rfl
  have hdead : ∀ l, g' l ≠ .dead → g l ≠ .dead := fun l hl => by
    rcases hall l with e | ⟨o, e, u, x, _, h2, h3, _⟩
    · rw [← e]; exact hl
    · rw [h2]; simp
  refine h.change (G' := G) (a' := a) (w' := w) Ch hg (fun _ _ => rfl) h.defers h.tmps rfl rfl rfl (Nat.le_refl _) (fun _ _ _ => rfl) (fun b hb => ⟨hb, rfl⟩) (fun _ _ _ _ => rfl) ?_ ?_ ?_ (fun _ hs => .inl hs) (fun _ _ => rfl) ?_ ?_ ?_ ?_ ?_ ?_ ?_ ?_ ?_ ?_ ?_ (fun b gb hc => absurd hc (hno _ (by simp)))
  · intro l s hs hr
    rcases hall l with e | ⟨o, e, u, x, e1, h2, h3, _⟩
    · exact ⟨fun e' t' xs' hx => ⟨xs', by rw [← e]; exact hx, rfl, rfl, rfl⟩, fun b o n t' xs' _ hx _ => ⟨xs', by rw [← e]; exact hx⟩⟩
    · refine ⟨fun e' t' xs' hx => ?_, fun b o n t' xs' _ hx _ => ?_⟩
      · rw [h3] at hx; cases hx; exact absurd hs hst
      · rw [h3] at hx; cases hx
  · intro b e n hb'
    exact ⟨by rw [hg _ (hno _ (by simp))]; exact hb', rfl, fun gb hgb => .inr rfl⟩
  · intro k _
    exact hg _ (hno _ (by simp))
  · intro n hn; exact absurd hn (hno _ (by simp))
  · intro n k i _ _ hc
    rcases hc with hc | hc <;> exact absurd hc (hno _ (by simp))
  · intro b e n hc; exact absurd hc (hno _ (by simp))
  · intro b o ⟨o', e, u, x, e1, h2, h3, h4, h5, h6⟩ _
    cases e1
    refine ⟨te, n, gb, cur, by rw [hg _ (hno _ (by simp))]; exact hb, hG, hw, ?_⟩
    rw [h3]
    refine ⟨h5, ?_⟩
    have hGc : G (.cell d o) = none := by
      cases hc : G (.cell d o) with
      | none => rfl
      | some k => exact (hGn ⟨o, e, u, x, rfl, h2, h3, h4, h5, h6⟩ hc).elim
    show OwnR _ _ (G (.cell d o)) _ _ _ _
    rw [hGc, h4]
    exact ⟨h6, [], .nil, ⟨by simp, .inl ⟨rfl, rfl⟩⟩, rfl⟩
  · intro b o o' _ h1 h2 hne
    rw [hsz, hsz]
    exact h.apart b o o' (hdead _ h1) (hdead _ h2) hne
  · intro b hc; exact absurd hc (hno _ (by simp))
  · intro l ⟨o, e, u, x, e1, h2, h3, _⟩
    rw [h3]; exact .inr rfl
  · intro l c v ⟨o, e, u, x, e1, h2, h3, _⟩ hv
    rw [h3] at hv; cases hv
  · intro l b hc hb'; exact (hGn hc hb').elim
  · intro l b hc hb'; exact (hGn hc hb').elim
  · intro l l' b hc hb'; exact (hGn hc hb').elim
theorem zero_nil : ∀ {t : Ty} {o : Nat} {u : Ty}, t.leafAt o = some (.list u) → o < t.sz ∧ t.zeroCells.getD o undef = .slice none 0 0 := by
  intro t
  induction t with
  | pair s t ih1 ih2 =>
    intro o u h
    have l1 := zero_len s
    simp only [Ty.leafAt] at h
    split at h
    · rename_i hlt
      obtain ⟨h1, h2⟩ := ih1 h
      refine ⟨by simp only [Ty.sz]; omega, ?_⟩
      simp only [Ty.zeroCells, List.getD_eq_getElem?_getD] at h2 ⊢
      rw [List.getElem?_append_left (by omega)]; exact h2
    · rename_i hlt
      obtain ⟨h1, h2⟩ := ih2 h
      refine ⟨by simp only [Ty.sz]; omega, ?_⟩
      simp only [Ty.zeroCells, List.getD_eq_getElem?_getD] at h2 ⊢
      rw [List.getElem?_append_right (by omega), l1]; exact h2
  | unit => intro o u h; simp [Ty.leafAt] at h
  | list t _ =>
    intro o u h
    simp only [Ty.leafAt] at h
    split at h
    · rename_i ho; subst ho; exact ⟨by simp [Ty.sz], rfl⟩
    · cases h
  | _ =>
    intro o u h
    simp only [Ty.leafAt] at h
    split at h <;> simp at h
theorem sound_alloc {ctx : Ctx} {i : Nat} {o : Oper} {T : Nat} (hE : TabOk P E.tab) (hnr : E.tab.ref T = none) (hnb : E.bldT T = none) (ho : o.op = .alloc T) : Sound E P ctx i o := by
  intro Z N w0 Ow S D g G a w F n f next Qp h hg hp ht hfr hdst hF hS0 hn
  simp only [plan, ho, hnr, hnb, Q.run_bind, Option.bind_eq_some_iff] at hp
  obtain ⟨d, hd, t, htt, hp⟩ := hp
  replace hd := sureD_some hd
  obtain ⟨hh, htt⟩ := Env.tyB_some (ofO_some htt)
  simp only [Q.run] at hp
  split at hp
  · rename_i hdead
    split at hp
    case isFalse => simp [Q.run] at hp
    rename_i hnil
    simp only [Q.run, Option.some.injEq] at hp
    subst hp
    have hi := (hE.ty T t htt).info
    cases hinf : P.info? T with
    | none => rw [hinf] at hi; cases hi
    | some inf =>
      rw [hinf] at hi
      simp only [Option.map_some, Option.some.injEq, Prod.mk.injEq] at hi
      refine wpIn_value hF (by rw [ho]; simp) (v := .pointer (some ⟨w.heap.size, 0, none⟩)) (w' := w.alloc (.cells t.zeroCells.toArray T)) ?_ ?_
      rotate_left
      · obtain ⟨k1, k2⟩ := hdst d hd
        obtain ⟨G2, k3, k4⟩ := h.newBox k1 k2 hh (T := T) hdead (RV.zero t)
        have hnew : (w.alloc (.cells t.zeroCells.toArray T)).heap[w.heap.size]? = some (.cells t.zeroCells.toArray T (0, 0)) := heap_alloc_new w _
        obtain ⟨ws, hws⟩ : ∃ ws, ws = (((.box d, .bx T t.sz) :: scatter d t t.zero 0 ++ [(.slot d, .ptr d 0)]) : List (Loc × AV)) := ⟨_, rfl⟩
        rw [← hws] at k4 hnil hn
        have hbox : g.sets ws (.box d) = .bx T t.sz := by
          rcases sets_get (ws := ws) (g := g) (l := .box d) with ⟨_, r2⟩ | ⟨p, r1, r2, r3⟩
          · exact absurd rfl (r2 (.box d, .bx T t.sz) (by rw [hws]; simp))
          · rw [r3]
            rw [hws] at r1
            simp only [List.cons_append, List.mem_cons, List.mem_append, List.not_mem_nil, or_false] at r1
            rcases r1 with rfl | r1 | rfl
            · rfl
            · obtain ⟨o1, u1, y1, q1, _⟩ := scatter_mem p r1
              rw [q1] at r2; cases r2
            · cases r2
        have hnils : ∀ p ∈ E.tab.nils T, t.leafAt p.1 = some (.list p.2.2) ∧ 0 < p.2.2.sz ∧ ∃ x, g.sets ws (.cell d p.1) = .dat (.list p.2.2) x := fun p hp => by
          have := List.all_eq_true.1 hnil p hp
          simp only [Bool.and_eq_true] at this
          obtain ⟨⟨q1, q2⟩, q3⟩ := this
          rw [Nat.blt_eq] at q2
          refine ⟨?_, q2, ?_⟩
          · split at q1
            · rename_i u hu; rw [hu, eq_of_beq q1]
            · cases q1
          · split at q3
            · rename_i u x hu
              have := eq_of_beq q3
              subst this
              refine ⟨x, ?_⟩
              rw [← hu, get_sets0]
              refine sets_mem0 ?_ _ _
              rw [get_sets0] at hu
              rcases sets_get (ws := ws) (g := St.get []) (l := .cell d p.1) with ⟨r1, _⟩ | ⟨p', r1, r2, _⟩
              · rw [r1] at hu; cases hu
              · exact ⟨p', r1, r2⟩
            · cases q3
        have hfin := k4.ownNil (g' := (g.sets ws).sets (nilsW d (i + 1) (E.tab.nils T))) (st := i + 1) hbox k3 hnew hfr (fun l => by
          rcases sets_get (ws := nilsW d (i + 1) (E.tab.nils T)) (g := g.sets ws) (l := l) with ⟨r1, _⟩ | ⟨p, r1, r2, r3⟩
          · exact .inl r1
          · right
            obtain ⟨q, hq, rfl⟩ := List.mem_map.1 r1
            obtain ⟨s1, s2, x, s3⟩ := hnils q hq
            obtain ⟨z1, z2⟩ := zero_nil s1
            refine ⟨q.1, q.2.1, q.2.2, x, r2.symm, by rw [← r2]; exact s3, by rw [r3], by simpa [Array.getD_eq_getD_getElem?, List.getD_eq_getElem?_getD] using z2, by simpa [zero_len] using z1, s2⟩)
        rw [hd]
        exact hn _ _ _ _ (fun l => by rw [← Mem.sets_append]) hfin
      simp [execOp, ho, Instr.alloc, zeroValue, typeInfo, hinf, hi.1, newVar, newRow, zero_cells]
  · simp [Q.run] at hp

theorem sound_box {ctx : Ctx} {i : Nat} {o : Oper} {T : Nat} {x : Operand} (hE : TabOk P E.tab) (hnr : E.tab.ref T = none) (ho : o.op = .box T x) : Sound E P ctx i o := by
  intro Z N w0 Ow S D g G a w F n f next Qp h hg hp ht hfr hdst hF hS0 hn
  simp only [plan, ho, hnr, Q.run_bind, Option.bind_eq_some_iff] at hp
  obtain ⟨d, hd, t, htt, v, hv, r, hr, hp⟩ := hp
  replace hd := sureD_some hd
  obtain ⟨hh, htt⟩ := Env.tyB_some (ofO_some htt)
  have hT := rd_told h hg hv
  simp only [Q.run] at hp
  split at hp
  · rename_i hdead
    split at hp
    · rename_i hyt
      obtain ⟨⟨yt, y⟩, ws⟩ := r
      dsimp only at hyt hp
      subst hyt
      have hy : (⟨yt, y⟩ : Dat).as yt = y := by simp [Dat.as]
      rw [hy] at hp
      obtain ⟨G1, h1, h2, h3, h4, _⟩ := freezeAll h (toDatAs_ws h hT hr)
      obtain ⟨cs, h5, h6⟩ := toDatAs_val h hT hr h2 h3
      have hd' : g.sets ws (.box d) = .dead := by rw [h4 _ (by rw [hdead]; simp)]; exact hdead
      have hrun : (execOp a.eval o).run P w = .ok (.value (.pointer (some ⟨w.heap.size, 0, none⟩))) (w.alloc (.cells cs.toArray T)) := by
        simp [execOp, ho, Instr.box, newVar, newRow, h6, valOf_cells h5]
      split at hp
      · simp only [Q.run, Option.some.injEq] at hp
        subst hp
        exact wpIn_value hF (by rw [ho]; simp) (v := .pointer (some ⟨w.heap.size, 0, none⟩)) (w' := w.alloc (.cells cs.toArray T)) hrun (fillBox h1 hdst hd hh hd' h5 hn)
      · obtain ⟨L, hL⟩ : ∃ L, L = (E.tab.nils T).filter fun p => (nilsOfAV v).any (Nat.beq p.1) := ⟨_, rfl⟩
        rw [← hL] at hp
        split at hp
        case isFalse => simp [Q.run] at hp
        rename_i hnil
        simp only [Q.run, Option.some.injEq] at hp
        subst hp
        obtain ⟨k1, k2⟩ := hdst d hd
        obtain ⟨G2, k3, k4⟩ := h1.newBox k1 k2 hh (T := T) hd' h5
        have hnew : (w.alloc (.cells cs.toArray T)).heap[w.heap.size]? = some (.cells cs.toArray T (0, 0)) := heap_alloc_new w _
        obtain ⟨us, hus⟩ : ∃ us, us = (((.box d, .bx T yt.sz) :: scatter d yt y 0 ++ [(.slot d, .ptr d 0)]) : List (Loc × AV)) := ⟨_, rfl⟩
        have hcat : (ws ++ (.box d, .bx T yt.sz) :: scatter d yt y 0 ++ [(.slot d, .ptr d 0)] : List (Loc × AV)) = ws ++ us := by rw [hus]; simp
        rw [hcat] at hn
        rw [← hus] at k4 hnil
        have hmem : ∀ (gg : Mem) l, (∃ p ∈ us, p.1 = l) → gg.sets us l = g.sets us l := fun gg l hl => (sets_mem0 hl gg g)
        have hbox : (g.sets ws).sets us (.box d) = .bx T yt.sz := by
          rcases sets_get (ws := us) (g := g.sets ws) (l := .box d) with ⟨_, r2⟩ | ⟨p, r1, r2, r3⟩
          · exact absurd rfl (r2 (.box d, .bx T yt.sz) (by rw [hus]; simp))
          · rw [r3]
            rw [hus] at r1
            simp only [List.cons_append, List.mem_cons, List.mem_append, List.not_mem_nil, or_false] at r1
            rcases r1 with rfl | r1 | rfl
            · rfl
            · obtain ⟨o1, u1, y1, q1, _⟩ := scatter_mem p r1
              rw [q1] at r2; cases r2
            · cases r2
        have hns : ∀ p ∈ L, cs[p.1]? = some (.slice none 0 0) := fun p hp => by
          have hp' : p ∈ (E.tab.nils T).filter fun p => (nilsOfAV v).any (Nat.beq p.1) := by rw [hL] at hp; exact hp
          have hany := (List.mem_filter.1 hp').2
          obtain ⟨k, hk, hke⟩ := List.any_eq_true.1 hany
          have := Nat.eq_of_beq_eq_true hke
          rw [this]
          cases v with
          | datn t2 y2 ms =>
            obtain ⟨cs2, q1, q2, q3⟩ := hT.r (.box 0) (by simp)
            have hc2 : cs = cs2 := by
              have e1 : (a.eval x).cells = cs2.toArray := by rw [q2]; exact valOf_cells q1
              have e2 : (a.eval x).cells = cs.toArray := by rw [h6]; exact valOf_cells h5
              rw [e2] at e1
              have := congrArg Array.toList e1
              simpa using this
            rw [hc2]
            exact q3 k hk
          | _ => simp [nilsOfAV] at hk
        have hnils : ∀ p ∈ L, 0 < p.2.2.sz ∧ ∃ x, (g.sets ws).sets us (.cell d p.1) = .dat (.list p.2.2) x := fun p hp => by
          have := List.all_eq_true.1 hnil p hp
          simp only [Bool.and_eq_true] at this
          obtain ⟨⟨_, q2⟩, q3⟩ := this
          rw [Nat.blt_eq] at q2
          refine ⟨q2, ?_⟩
          split at q3
          · rename_i u x hu
            have := eq_of_beq q3
            subst this
            refine ⟨x, ?_⟩
            rw [← hu, get_sets0]
            refine sets_mem0 ?_ _ _
            rw [get_sets0] at hu
            rcases sets_get (ws := us) (g := St.get []) (l := .cell d p.1) with ⟨r1, _⟩ | ⟨p', r1, r2, _⟩
            · rw [r1] at hu; cases hu
            · exact ⟨p', r1, r2⟩
          · cases q3
        have hfin := k4.ownNil (g' := ((g.sets ws).sets us).sets (nilsW d (i + 1) L)) (st := i + 1) hbox k3 hnew hfr (fun l => by
          rcases sets_get (ws := nilsW d (i + 1) L) (g := (g.sets ws).sets us) (l := l) with ⟨r1, _⟩ | ⟨p, r1, r2, r3⟩
          · exact .inl r1
          · right
            obtain ⟨q, hq, rfl⟩ := List.mem_map.1 r1
            obtain ⟨s2, x, s3⟩ := hnils q hq
            have z := hns q hq
            obtain ⟨zl, _⟩ := List.getElem?_eq_some_iff.1 z
            refine ⟨q.1, q.2.1, q.2.2, x, r2.symm, by rw [← r2]; exact s3, by rw [r3], by simp [Array.getD_eq_getD_getElem?, z], by simpa using zl, s2⟩)
        refine wpIn_value hF (by rw [ho]; simp) (v := .pointer (some ⟨w.heap.size, 0, none⟩)) (w' := w.alloc (.cells cs.toArray T)) hrun ?_
        rw [hd]
        exact hn _ _ _ _ (fun l => by show _ = g.sets (ws ++ us ++ nilsW d (i + 1) L) l; rw [Mem.sets_append, Mem.sets_append]) hfin
    · simp [Q.run] at hp
  · simp [Q.run] at hp
end
end Go.Ev

namespace Go.Ev
open Go.RowKit
section
variable {Z : ZS} {E : Env} {N : Nat} {w0 : World} {Ow : OwS} {S S' D D' : Nat → Prop} {g g' : Mem} {G G' : Ghost} {a a' : Act} {w w' : World} {P : Program} {F : Fence} {n : Nat}

theorem store_run (hE : TabOk P E.tab) {T : Nat} {u : Ty} (hu : E.tab.ty T = some u) {Pr : Nat → Prop} {y : u.den} {cs : List Value} (hy : RV Pr w u y cs) {gb o e : Nat} {fz : Nat × Nat} {cur : Array Value} (hfz : Thawed fz cur.size) (hcur : w.heap[gb]? = some (.cells cur e fz)) (hin : o + u.sz ≤ cur.size) :
    ∃ w' cur', (Instr.storeAt T (.pointer (some ⟨gb, o, none⟩)) (valOf u cs)).run P w = .ok () w' ∧ w'.heap[gb]? = some (.cells cur' e fz) ∧ cur'.toList = cur.toList.take o ++ cs ++ cur.toList.drop (o + u.sz) ∧ w.grownBy w' (some gb) := by
  have hl := hy.len
  obtain ⟨w', h1, h2, h3⟩ := store_cells (P := P) gb e o fz cs 0 cur w hcur hfz (by omega) (RV.one hy)
  refine ⟨w', _, ?_, h2, ?_, h3⟩
  · have hs : ¬ (cs.toArray.size ≠ u.sz) := by simp [hl]
    simp only [Instr.storeAt, Instr.sureAddr, storeVar, Sem.run_bind, Sem.run_pure, Result.andThen_ok, size_of hE hu, valOf_cells hy, hs, if_false, h1]
  · have := foldl_set o cs 0 cur (by omega)
    rw [hl] at this
    simpa using this

theorem leafLike_size {u : Ty} {v : AV} (h : leafLike u v = true) : v.size = u.sz ∧ v ≠ .dead := by
  cases v <;> simp [leafLike] at h
  · subst h; exact ⟨rfl, by simp⟩
  · subst h; exact ⟨rfl, by simp⟩
  · cases u <;> simp at h
    exact ⟨rfl, by simp⟩

/-- **A store into a box.** -/
theorem Rel.storeBox (h : Rel Z E N w0 Ow S D g G a w) {b e n gb : Nat} {cur cur' : Array Value} (hbx : g (.box b) = .bx e n) (hgb : G (.box b) = some gb) (hcur : w.heap[gb]? = some (.cells cur e (0, 0))) (hw : w.grownBy w' (some gb))
    (hcur' : w'.heap[gb]? = some (.cells cur' e (0, 0))) (hsz : cur'.size = cur.size) (C : Nat → Prop) {g2 : Mem} (hg : ∀ l, (∀ o, C o → l ≠ .cell b o) → g2 l = g l)
    (hC : ∀ o, C o → g (.cell b o) ≠ .dead ∧ (g2 (.cell b o) = .dead ∨ ∃ u y, g2 (.cell b o) = .dat u y ∧ leafLike u (g (.cell b o)) = true ∧ o + u.sz ≤ cur'.size ∧ RV (free Z G w) w u y ((cur'.toList.drop o).take u.sz)))
    (hU : ∀ j, (∀ o, C o → ¬ (o ≤ j ∧ j < o + (g (.cell b o)).size)) → cur'[j]? = cur[j]?) :
    ∃ G2, Rel Z E N w0 Ow S D g2 G2 a w' ∧ (∀ l, G2 l = none ∨ G2 l = G l) ∧ (∀ l, (∀ o, C o → l ≠ .cell b o) → G2 l = G l) := by
  classical
  let G2 : Ghost := fun l => if ∃ o, C o ∧ l = .cell b o then none else G l
  have hG : ∀ l, (∀ o, C o → l ≠ .cell b o) → G2 l = G l := fun l hl => by
    simp only [G2]; rw [if_neg (fun ⟨o, h1, h2⟩ => hl o h1 h2)]
  have hG1 : ∀ l, G2 l = none ∨ G2 l = G l := fun l => by
    simp only [G2]; split
    · exact .inl rfl
    · exact .inr rfl
  have hGs : ∀ l k, G2 l = some k → G l = some k := fun l k hk => by
    rcases hG1 l with e | e
    · rw [e] at hk; cases hk
    · rw [← e]; exact hk
  have hblk : ∀ k, k < w.heap.size → k ≠ gb → w'.heap[k]? = w.heap[k]? := fun k hk hne => hw.block k hk (fun e => hne (by cases e; rfl))
  have hk : ∀ k, free Z G w k → free Z G2 w' k ∧ w'.heap[k]? = w.heap[k]? := fun k hf =>
    ⟨⟨Nat.lt_of_lt_of_le hf.1 hw.size, fun l e => hf.2 l (hGs l k e), hf.3⟩, hblk k hf.1 (fun e => hf.2 _ (e ▸ hgb))⟩
  have hGblk : ∀ l, l ≠ .box b → ∀ k, G l = some k → w'.heap[k]? = w.heap[k]? := fun l hl k hk => hblk k (h.bnd l k hk).1 (fun e => hl (h.inj l (.box b) k hk (e ▸ hgb)))
  have hbox' : ∀ b' e n, g (.box b') = .bx e n → g2 (.box b') = .bx e n ∧ G2 (.box b') = G (.box b') := fun b' e n hb => ⟨by rw [hg _ (by simp)]; exact hb, hG _ (by simp)⟩
  have hctx : ∀ k, D k → g2 (.slot k) = g (.slot k) := fun k _ => hg _ (by simp)
  -- an unchanged leaf of this box
  have hun : ∀ o, ¬ C o → g (.cell b o) ≠ .dead → ∀ j, o ≤ j → j < o + (g (.cell b o)).size → cur'[j]? = cur[j]? := by
    intro o hno hne j h1 h2
    refine hU j (fun o1 ho1 hj => ?_)
    have hd := (hC o1 ho1).1
    have hoo : o ≠ o1 := fun e => hno (e ▸ ho1)
    rcases h.apart b o o1 hne hd hoo with h3 | h3 <;> omega
  have hroot : ∀ l st, S st → isRoot l → RootKept g G a w g2 G2 a w' l st := by
    intro l st _ hrt
    by_cases hl : ∃ o, C o ∧ l = .cell b o
    · obtain ⟨o, ho, rfl⟩ := hl
      rcases (hC o ho).2 with hd | ⟨u, y, hd, hlk, _⟩
      · refine ⟨fun e t xs' hx => ?_, fun b' o' n' t xs' _ hx _ => ?_⟩ <;> rw [hd] at hx <;> cases hx
      · refine ⟨fun e t xs' hx => ?_, fun b' o' n' t xs' _ hx _ => ?_⟩
        · rw [hd] at hx; cases hx
        · rw [hd] at hx
          simp only [AV.dat.injEq] at hx
          obtain ⟨rfl, _⟩ := hx
          cases hv : g (.cell b o) <;> rw [hv] at hlk <;> simp [leafLike] at hlk
          subst hlk
          exact ⟨_, rfl⟩
    · have hl' : ∀ o, C o → l ≠ .cell b o := fun o h1 h2 => hl ⟨o, h1, h2⟩
      rw [RootKept, hg l hl', hG l hl']
      refine ⟨fun e9 t xs' hx => ⟨xs', hx, rfl, ?_, rfl⟩, fun b' o' n' t xs' _ hx _ => ⟨xs', hx⟩⟩
      cases l with
      | slot n => rfl
      | comp n i => exact hrt.elim
      | box b => exact hrt.elim
      | cell b1 o =>
        simp only [rootVal]
        rw [hG (.box b1) (by simp)]
        by_cases hb1 : b1 = b
        · subst hb1
          simp only [hgb]
          have hno : ¬ C o := fun hc => hl' o hc rfl
          have := hun o hno (by rw [hx]; simp) o (Nat.le_refl _) (by rw [hx]; simp [AV.size])
          rw [cell_of_row w gb o cur e (0, 0) hcur, cell_of_row w' gb o cur' e (0, 0) hcur', this]
        · cases hgb1 : G (.box b1) with
          | none => rfl
          | some gb1 => simp only [World.cell?_of_block (w := w) (w' := w') (a := ⟨gb1, o, none⟩) (hGblk (.box b1) (by simp [hb1]) gb1 hgb1)]
  refine ⟨G2, h.change (fun l => l = .box b ∨ ∃ o, l = .cell b o) ?_ ?_ h.defers h.tmps hw.os hw.tape hw.output hw.size ?_ hk ?_ hroot ?_ hctx (fun _ h => h) (fun _ _ => rfl) ?_ ?_ ?_ ?_ ?_ ?_ ?_ ?_ ?_ ?_ ?_ (fun b1 gb1 hc hd0 => by
    rcases hc with e1 | ⟨_, e1⟩
    · cases e1; rw [hbx] at hd0; cases hd0
    · cases e1), hG1, hG⟩
  · intro l hl
    exact hg l (fun o _ e => hl (.inr ⟨o, e⟩))
  · intro l hl
    exact hG l (fun o _ e => hl (.inr ⟨o, e⟩))
  · intro k h1 h2
    refine hblk k (Nat.lt_of_lt_of_le h1 h.size) (fun e => ?_)
    subst e
    rcases (h.bnd _ _ hgb).2 with h3 | h3
    · exact h2 h3
    · omega
  · intro l hl k hk'
    exact hGblk l (fun e => hl (.inl e)) k hk'
  · intro b1 e1 n1 hb1
    refine ⟨(hbox' b1 e1 n1 hb1).1, (hbox' b1 e1 n1 hb1).2, fun gb1 hgb1 => ?_⟩
    by_cases hbb : b1 = b
    · subst hbb; exact .inl ⟨.inl rfl, fun o => .inr ⟨o, rfl⟩⟩
    · exact .inr (hGblk (.box b1) (by simp [hbb]) gb1 hgb1)
  · intro n hn; rcases hn with hn | ⟨o, hn⟩ <;> cases hn
  · intro n k i _ _ hch; rcases hch with (hn | ⟨o, hn⟩) | (hn | ⟨o, hn⟩) <;> cases hn
  · intro b1 e1 n1 hch hb1
    rcases hch with hn | ⟨o, hn⟩ <;> cases hn
    rw [(hbox' b e n hbx).1] at hb1
    cases hb1
    obtain ⟨gb2, cur2, h1, h2, h3⟩ := h.boxes b e n hbx
    rw [hgb] at h1; cases h1
    rw [hcur] at h2; cases h2
    exact ⟨gb, cur', (hbox' b e n hbx).2.trans hgb, hcur', by rw [hsz]; exact h3⟩
  · intro b1 o hch hne
    have : b1 = b := by rcases hch with hn | ⟨o, hn⟩ <;> cases hn; rfl
    subst this
    refine ⟨e, n, gb, cur', (hbox' b1 e n hbx).1, (hbox' b1 e n hbx).2.trans hgb, hcur', ?_⟩
    by_cases hc : C o
    · rcases (hC o hc).2 with hd | ⟨u, y, hd, _, h1, h2⟩
      · exact absurd hd hne
      · rw [hd]
        exact ⟨h1, h2.keep (fun b hb => (hk b hb).2) (fun b hb => (hk b hb).1)⟩
    · have hc' : ∀ o1, C o1 → Loc.cell b1 o ≠ .cell b1 o1 := fun o1 h1 e1 => by cases e1; exact hc h1
      rw [hg _ hc'] at hne ⊢
      obtain ⟨e2, n2, gb2, cur2, h3, h4, h5, h6⟩ := h.cells b1 o hne
      rw [hgb] at h4; cases h4
      rw [hcur] at h5; cases h5
      have hu := hun o hc hne
      have hkeep : ∀ val, AVR Z g G a w (g (.cell b1 o)) (.cell b1 o) val → AVR Z g2 G2 a w' (g (.cell b1 o)) (.cell b1 o) val := fun val hv =>
        AVR.keep S D rfl hk hroot hbox' hctx (fun e t xs s _ => ⟨hG _ hc', fun k hk' => hGblk _ (by simp) k hk'⟩) (fun _ _ _ _ e => e ▸ rfl) (h.stamps _)
          (fun c u e => ⟨(h.ctx _ c u e).1, (h.ctx _ c u e).2.1, (h.ctx _ c u e).2.2.1, (h.ctx _ c u e).2.2.2.2⟩) hv
      have hone : ∀ {v : AV}, g (.cell b1 o) = v → (∀ t x, v ≠ .dat t x) → v ≠ .dead → o < cur.size ∧ AVR Z g G a w v (.cell b1 o) (cur.getD o undef) → LeafR Z g2 G2 a w' (.cell b1 o) o cur' v := by
        intro v hv h1 h2 h7
        have h8 : cur'.getD o undef = cur.getD o undef := by
          have := hu o (Nat.le_refl _) (by rw [hv]; cases v <;> first | (simp [AV.size]; done) | exact absurd rfl (h1 _ _))
          simp only [Array.getD_eq_getD_getElem?, this]
        have h9 := hkeep (cur.getD o undef) (by rw [hv]; exact h7.2)
        rw [hv] at h9
        cases v <;> first | exact absurd rfl h2 | exact absurd rfl (h1 _ _) | exact ⟨by rw [hsz]; exact h7.1, by rw [h8]; exact h9⟩
      cases hv : g (.cell b1 o) with
      | dead => exact absurd hv hne
      | dat t x =>
        rw [hv] at h6
        refine ⟨by rw [hsz]; exact h6.1, ?_⟩
        have : (cur'.toList.drop o).take t.sz = (cur.toList.drop o).take t.sz := by
          apply List.ext_getElem?
          intro j
          simp only [List.getElem?_take, List.getElem?_drop]
          split
          · rename_i hj
            have := hu (o + j) (by omega) (by rw [hv]; simp only [AV.size]; omega)
            simpa using this
          · rfl
        rw [this]
        exact h6.2.keep (fun b hb => (hk b hb).2) (fun b hb => (hk b hb).1)
      | _ => rw [hv] at h6; exact hone hv (by simp) (by simp) h6
  · intro b1 o o' hch h1 h2 hne
    have hs : ∀ o, g2 (.cell b1 o) ≠ .dead → g (.cell b1 o) ≠ .dead ∧ (g2 (.cell b1 o)).size = (g (.cell b1 o)).size := by
      intro o ho
      by_cases hc : b1 = b ∧ C o
      · obtain ⟨rfl, hc⟩ := hc
        rcases (hC o hc).2 with hd | ⟨u, y, hd, hlk, _⟩
        · exact absurd hd ho
        · obtain ⟨k1, k2⟩ := leafLike_size hlk
          rw [hd, k1]
          exact ⟨k2, rfl⟩
      · have := hg (.cell b1 o) (fun o1 ho1 e1 => by cases e1; exact hc ⟨rfl, ho1⟩)
        rw [this] at ho ⊢
        exact ⟨ho, rfl⟩
    obtain ⟨k1, k2⟩ := hs o h1
    obtain ⟨k3, k4⟩ := hs o' h2
    rw [k2, k4]
    exact h.apart b1 o o' k1 k3 hne
  · intro b1 hch
    rw [hg _ (by simp)]
    exact h.boxAV b1
  · intro l hch
    by_cases hc : ∃ o, C o ∧ l = .cell b o
    · obtain ⟨o, ho, rfl⟩ := hc
      rcases (hC o ho).2 with hd | ⟨u, y, hd, _⟩ <;> rw [hd] <;> trivial
    · rw [hg l (fun o h1 h2 => hc ⟨o, h1, h2⟩)]
      exact h.stamps l
  · intro l c v hch hv
    by_cases hc : ∃ o, C o ∧ l = .cell b o
    · obtain ⟨o, ho, rfl⟩ := hc
      rcases (hC o ho).2 with hd | ⟨u, y, hd, _⟩ <;> rw [hd] at hv <;> cases hv
    · rw [hg l (fun o h1 h2 => hc ⟨o, h1, h2⟩)] at hv
      exact h.ctx l c v hv
  · intro l k _ hk'
    have := h.bnd l k (hGs l k hk')
    exact ⟨Nat.lt_of_lt_of_le this.1 hw.size, this.2⟩
  · intro l k _ hk'
    have hc : ¬ ∃ o, C o ∧ l = .cell b o := fun hc => by simp only [G2] at hk'; rw [if_pos hc] at hk'; cases hk'
    rw [hg l (fun o h1 h2 => hc ⟨o, h1, h2⟩)]
    exact h.gone l k (hGs l k hk')
  · intro l l' k _ h1 h2
    exact h.inj l l' k (hGs l k h1) (hGs l' k h2)
end
end Go.Ev

namespace Go.Ev
open Go.RowKit
section
variable {Z : ZS} {E : Env} {N : Nat} {w0 : World} {Ow : OwS} {S S' D D' : Nat → Prop} {g g' : Mem} {G G' : Ghost} {a a' : Act} {w w' : World} {P : Program} {F : Fence} {n : Nat}

theorem RV.put_ {Pr : Nat → Prop} {t : Ty} {x : t.den} {cs : List Value} {o : Nat} {u : Ty} {y : u.den} {z : t.den} {ds : List Value} (h : RV Pr w t x cs) (hp : t.put o u y = some z) (hd : RV Pr w u y ds) :
    o + u.sz ≤ cs.length ∧ RV Pr w t z (cs.take o ++ ds ++ cs.drop (o + u.sz)) := by
  unfold Ty.put at hp
  split at hp
  · rename_i he
    obtain ⟨rfl, rfl⟩ := he
    simp at hp
    subst hp
    have l1 := h.len
    refine ⟨by omega, ?_⟩
    rw [Nat.zero_add, ← l1, List.drop_length]
    simpa using hd
  · cases hp
theorem RV.upd_ {Pr : Nat → Prop} : ∀ {t : Ty} {x : t.den} {cs : List Value} {o : Nat} {u : Ty} {y : u.den} {z : t.den} {ds : List Value}, RV Pr w t x cs → t.upd x o u y = some z → RV Pr w u y ds →
    o + u.sz ≤ cs.length ∧ RV Pr w t z (cs.take o ++ ds ++ cs.drop (o + u.sz)) := by
  intro t
  induction t with
  | pair s t ih1 ih2 =>
    intro x cs o u y z ds h hu hd
    simp only [Ty.upd] at hu
    split at hu
    · rename_i z' hz
      cases hu
      exact h.put_ hz hd
    · obtain ⟨c, d, rfl, h1, h2⟩ := h
      have l1 := h1.len
      split at hu
      · simp only [Option.map_eq_some_iff] at hu
        obtain ⟨z1, hz1, rfl⟩ := hu
        obtain ⟨k1, k2⟩ := ih1 h1 hz1 hd
        refine ⟨by simp; omega, _, d, ?_, k2, h2⟩
        rw [List.take_append_of_le_length (by omega), List.drop_append_of_le_length (by omega)]
        simp
      · rename_i ho
        simp only [Option.map_eq_some_iff] at hu
        obtain ⟨z1, hz1, rfl⟩ := hu
        obtain ⟨k1, k2⟩ := ih2 h2 hz1 hd
        refine ⟨by simp; omega, c, _, ?_, h1, k2⟩
        rw [show o = c.length + (o - s.sz) by omega, List.take_length_add_append, Nat.add_assoc, List.drop_length_add_append]
        simp [show c.length + (o - s.sz) - s.sz = o - s.sz by omega]
  | _ => intro x cs o u y z ds h hu hd; exact h.put_ hu hd

/-- A row with a part of one element stored. -/
theorem rows_store {Pr : Nat → Prop} {t : Ty} {xs : List t.den} {cells : List Value} (hr : Rows (RV Pr w t) xs cells) {i o : Nat} (hi : i < xs.length) {u : Ty} {y : u.den} {z : t.den} {ds : List Value} (hu : t.upd xs[i] o u y = some z) (hd : RV Pr w u y ds) :
    i * t.sz + o + u.sz ≤ cells.length ∧ Rows (RV Pr w t) (xs.set i z) (cells.take (i * t.sz + o) ++ ds ++ cells.drop (i * t.sz + o + u.sz)) := by
  have hrow := hr.get (fun _ _ hc => hc.len) i hi
  have hlen := hr.length (fun _ _ hc => hc.len)
  have hmul : (i + 1) * t.sz ≤ xs.length * t.sz := Nat.mul_le_mul_right _ hi
  have hm1 : (i + 1) * t.sz = i * t.sz + t.sz := by rw [Nat.add_mul, Nat.one_mul]
  obtain ⟨h1, h2⟩ := hrow.upd_ hu hd
  have h3 := hr.set (fun _ _ hc => hc.len) i hi h2
  simp only [List.length_take, List.length_drop] at h1
  refine ⟨by omega, ?_⟩
  have hdl := hd.len
  have e : cells.take (i * t.sz) ++ (((cells.drop (i * t.sz)).take t.sz).take o ++ ds ++ ((cells.drop (i * t.sz)).take t.sz).drop (o + u.sz)) ++ cells.drop ((i + 1) * t.sz) = cells.take (i * t.sz + o) ++ ds ++ cells.drop (i * t.sz + o + u.sz) := by
    have e1 : cells.take (i * t.sz + o) = cells.take (i * t.sz) ++ ((cells.drop (i * t.sz)).take t.sz).take o := by
      rw [List.take_add, List.take_take, Nat.min_eq_left (by omega)]
    have e2 : cells.drop (i * t.sz + o + u.sz) = ((cells.drop (i * t.sz)).take t.sz).drop (o + u.sz) ++ cells.drop ((i + 1) * t.sz) := by
      rw [hm1] at hmul ⊢
      generalize hm : i * t.sz = m at hmul h1 ⊢
      apply List.ext_getElem?
      intro k
      rw [List.getElem?_append]
      simp only [List.getElem?_drop, List.length_drop, List.length_take, List.getElem?_take]
      split
      · rename_i hk
        rw [if_pos (by omega)]
        congr 1; omega
      · congr 1; omega
    rw [e1, e2]
    simp
  rw [e] at h3
  exact h3

/-- **A store into an element of what is owned.** -/
theorem Rel.storeElem (h : Rel Z E N w0 Ow S D g G a w) {l : Loc} (hl : isRoot l) {e : Nat} {t : Ty} {xs ys : List t.den} {st gb : Nat} (hgl : g l = .own e t xs st) (hgb : G l = some gb) (hlen : ys.length = xs.length) (hw : w.grownBy w' (some gb))
    (hnew : OwnR (free Z G w) w' (some gb) e t ys (rootVal G a w l)) :
    ∃ G2, Rel Z E N w0 Ow S D (g.upd l (.own e t ys st)) G2 a w' := by
  have hne : ∀ k, ¬ k = l → g.upd l (.own e t ys st) k = g k := fun k hk => Mem.upd_ne g _ (Ne.symm hk)
  have hblk : ∀ k, k < w.heap.size → k ≠ gb → w'.heap[k]? = w.heap[k]? := fun k hk hne => hw.block k hk (fun e => hne (by cases e; rfl))
  have hk : ∀ k, free Z G w k → free Z G w' k ∧ w'.heap[k]? = w.heap[k]? := fun k hf => ⟨⟨Nat.lt_of_lt_of_le hf.1 hw.size, hf.2, hf.3⟩, hblk k hf.1 (fun e => hf.2 _ (e ▸ hgb))⟩
  have hGblk : ∀ k, k ≠ l → ∀ b, G k = some b → w'.heap[b]? = w.heap[b]? := fun k hkl b hb => hblk b (h.bnd k b hb).1 (fun e => hkl (h.inj k l b hb (e ▸ hgb)))
  have hnb : ∀ b, l ≠ .box b := fun b e => by subst e; exact hl
  have hnew' : OwnR (free Z G w') w' (G l) e t ys (rootVal G a w l) := by
    rw [hgb]
    exact hnew.keep (fun b hb => ⟨(hk b hb).1, rfl⟩) (fun _ _ => rfl)
  have hrv : ∀ k, isRoot k → g k ≠ .dead → rootVal G a w' k = rootVal G a w k := by
    intro k hrt hne'
    cases k with
    | slot n => rfl
    | comp n i => exact hrt.elim
    | box b => exact hrt.elim
    | cell b o =>
      simp only [rootVal]
      cases hgb1 : G (.box b) with
      | none => rfl
      | some gb1 => simp only [World.cell?_of_block (w := w) (w' := w') (a := ⟨gb1, o, none⟩) (hGblk (.box b) (Ne.symm (hnb b)) gb1 hgb1)]
  refine ⟨G, h.change (· = l) hne (fun _ _ => rfl) h.defers h.tmps hw.os hw.tape hw.output hw.size ?_ hk (fun k hkl b hb => hGblk k hkl b hb) ?_
    (fun b e n hb => ⟨by rw [hne _ (Ne.symm (hnb b))]; exact hb, rfl, fun gb1 hgb1 => .inr (hGblk (.box b) (Ne.symm (hnb b)) gb1 hgb1)⟩) ?_ (fun _ h => h) (fun _ _ => rfl) ?_ ?_ ?_ ?_ ?_ ?_ ?_ ?_ ?_ ?_ ?_ (fun b _ hc => absurd hc (Ne.symm (hnb b)))⟩
  · intro k h1 h2
    refine hblk k (Nat.lt_of_lt_of_le h1 h.size) (fun e => ?_)
    subst e
    rcases (h.bnd _ _ hgb).2 with h3 | h3
    · exact h2 h3
    · omega
  · intro k st' _ hrt
    by_cases hkl : k = l
    · subst hkl
      rw [RootKept, Mem.upd_same]
      refine ⟨fun e1 t1 xs1 hx => ?_, fun b o n t1 xs1 _ hx _ => by cases hx⟩
      cases hx
      exact ⟨xs, hgl, hlen.symm, hrv k hrt (by rw [hgl]; simp), rfl⟩
    · rw [RootKept, hne k hkl]
      exact ⟨fun e1 t1 xs1 hx => ⟨xs1, hx, rfl, hrv k hrt (by rw [hx]; simp), rfl⟩, fun b o n t1 xs1 _ hx _ => ⟨xs1, hx⟩⟩
  · intro k hk'
    refine hne _ (fun e' => ?_)
    obtain ⟨x, hx | ⟨c, hx⟩⟩ := h.dbool k hk' <;> rw [e', hgl] at hx <;> cases hx
  · rintro n rfl
    rw [Mem.upd_same]
    exact hnew'
  · intro n k i hn hi hch
    rcases hch with e' | e'
    · subst e'; rw [Mem.upd_same] at hn; cases hn
    · subst e'; exact hl.elim
  · rintro b e n rfl; exact hl.elim
  · rintro b o rfl _
    obtain ⟨e2, n2, gb2, cur, h3, h4, h5, h6⟩ := h.cells b o (by rw [hgl]; simp)
    rw [hgl] at h6
    have h7 : rootVal G a w (.cell b o) = cur.getD o undef := by
      simp only [rootVal, h4]
      rw [cell_of_row w gb2 o cur e2 (0, 0) h5]
      exact Array.getD_eq_getD_getElem? .. |>.symm
    refine ⟨e2, n2, gb2, cur, by rw [hne _ (by simp)]; exact h3, h4, (hGblk (.box b) (by simp) gb2 h4).trans h5, ?_⟩
    rw [Mem.upd_same]
    refine ⟨h6.1, ?_⟩
    rw [← h7]
    exact hnew'
  · intro b o o' hch h1 h2 hne'
    have hs : ∀ k, (g.upd l (.own e t ys st) k).size = (g k).size := fun k => by
      by_cases hk : k = l
      · subst hk; rw [Mem.upd_same, hgl]; rfl
      · rw [hne k hk]
    have hd : ∀ k, g.upd l (.own e t ys st) k ≠ .dead → g k ≠ .dead := fun k h1 e' => by
      by_cases hk : k = l
      · subst hk; rw [hgl] at e'; cases e'
      · rw [hne k hk] at h1; exact h1 e'
    rw [hs, hs]
    exact h.apart b o o' (hd _ h1) (hd _ h2) hne'
  · rintro b rfl; exact hl.elim
  · rintro k rfl
    rw [Mem.upd_same]
    have := h.stamps k
    rw [hgl] at this
    exact this
  · rintro k c v rfl e'; rw [Mem.upd_same] at e'; cases e'
  · rintro k b rfl e'
    have := h.bnd k b e'
    exact ⟨Nat.lt_of_lt_of_le this.1 hw.size, this.2⟩
  · rintro k b rfl e'
    rw [Mem.upd_same]
    exact .inl ⟨_, _, _, _, rfl⟩
  · rintro k k' b rfl h1 h2
    exact h.inj k k' b h1 h2

/-- **What is owned comes to lie in a box.** -/
theorem Rel.giveCell (h : Rel Z E N w0 Ow S D g G a w) {b o be bn gb : Nat} {cur : Array Value} (hbx : g (.box b) = .bx be bn) (hgb : G (.box b) = some gb) (hcur : w.heap[gb]? = some (.cells cur be (0, 0))) (hdead : g (.cell b o) = .dead) (ho : o < cur.size)
    (hap : ∀ o', g (.cell b o') ≠ .dead → o ≠ o' → o + 1 ≤ o' ∨ o' + (g (.cell b o')).size ≤ o)
    {r : Nat} {e : Nat} {t : Ty} {xs : List t.den} {s : Nat} (hr : g (.slot r) = .own e t xs s) (hv : OwnR (free Z G w) w (G (.slot r)) e t xs (cur.getD o undef)) (st' : Nat) (hst' : ¬ S st') :
    ∃ G2, Rel Z E N w0 Ow (fun n => S n ∨ n = st') D ((g.upd (.slot r) .dead).upd (.cell b o) (.own e t xs st')) G2 a w ∧ ∀ b, G2 (.box b) = G (.box b) := by
  obtain ⟨g2, hg2⟩ : ∃ g2, g2 = (g.upd (.slot r) .dead).upd (.cell b o) (.own e t xs st') := ⟨_, rfl⟩
  have hget : ∀ l, g2 l = if l = .cell b o then .own e t xs st' else if l = .slot r then .dead else g l := fun l => by rw [hg2]; simp only [Mem.upd_apply]
  rw [← hg2]
  let G2 : Ghost := fun l => if l = .cell b o then G (.slot r) else if l = .slot r then none else G l
  have hGi : ∀ l k, G2 l = some k → (l = .cell b o ∧ G (.slot r) = some k) ∨ (l ≠ .cell b o ∧ l ≠ .slot r ∧ G l = some k) := fun l k hk => by
    simp only [G2] at hk
    split at hk
    · exact .inl ⟨by assumption, hk⟩
    · split at hk
      · cases hk
      · exact .inr ⟨by assumption, by assumption, hk⟩
  have hf : ∀ k, free Z G w k → free Z G2 w k ∧ w.heap[k]? = w.heap[k]? := fun k hf => ⟨⟨hf.1, fun l e => by
    rcases hGi l k e with ⟨_, h1⟩ | ⟨_, _, h1⟩ <;> exact hf.2 _ h1, hf.3⟩, rfl⟩
  have hself : g2 (.cell b o) = .own e t xs st' := by rw [hget, if_pos rfl]
  have hGself : G2 (.cell b o) = G (.slot r) := by simp [G2]
  refine ⟨G2, h.change (fun l => l = .cell b o ∨ l = .slot r) ?_ ?_ h.defers h.tmps rfl rfl rfl (Nat.le_refl _) (fun _ _ _ => rfl) hf (fun _ _ _ _ => rfl) ?_ ?_ ?_ (fun _ h => .inl h) (fun _ _ => rfl) ?_ ?_ ?_ ?_ ?_ ?_ ?_ ?_ ?_ ?_ ?_, fun b' => by simp [G2]⟩
  · intro l hl
    simp only [not_or] at hl
    rw [hget, if_neg hl.1, if_neg hl.2]
  · intro l hl
    simp only [not_or] at hl
    simp only [G2]; rw [if_neg hl.1, if_neg hl.2]
  · intro l st hs hrt
    rw [RootKept, hget]
    by_cases h1 : l = .cell b o
    · subst h1
      rw [if_pos rfl]
      refine ⟨fun e1 t1 xs1 hx => ?_, fun b1 o1 n t1 xs1 _ hx _ => by cases hx⟩
      cases hx
      exact absurd hs hst'
    · rw [if_neg h1]
      by_cases h2 : l = .slot r
      · rw [if_pos h2]
        exact ⟨fun e1 t1 xs1 hx => (by cases hx), fun b1 o1 n t1 xs1 _ hx _ => (by cases hx)⟩
      · rw [if_neg h2]
        refine ⟨fun e1 t1 xs1 hx => ⟨xs1, hx, rfl, ?_, by simp only [G2]; rw [if_neg h1, if_neg h2]⟩, fun b1 o1 n t1 xs1 _ hx _ => ⟨xs1, hx⟩⟩
        cases l with
        | slot n => rfl
        | comp n i => exact hrt.elim
        | box b => exact hrt.elim
        | cell b1 o1 => simp only [rootVal, G2]; simp
  · intro b1 e1 n1 hb1
    exact ⟨by rw [hget, if_neg (by simp), if_neg (by simp)]; exact hb1, by simp [G2], fun _ _ => .inr rfl⟩
  · intro k hk
    have h2 : k ≠ r := fun e' => by
      obtain ⟨x, hx | ⟨c, hx⟩⟩ := h.dbool k hk <;> rw [e', hr] at hx <;> cases hx
    rw [hget, if_neg (by simp), if_neg (by simp [h2])]
  · intro n hn
    have : n = r := by rcases hn with e' | e' <;> cases e'; rfl
    subst this
    rw [hget, if_neg (by simp), if_pos rfl]; trivial
  · intro n k i hn hi hch
    have : n = r := by rcases hch with (e' | e') | (e' | e') <;> cases e'; rfl
    subst this
    rw [hget, if_neg (by simp), if_pos rfl] at hn; cases hn
  · intro b1 e1 n1 hch; rcases hch with e' | e' <;> cases e'
  · intro b1 o1 hch hne
    rcases hch with e' | e' <;> cases e'
    refine ⟨be, bn, gb, cur, by rw [hget, if_neg (by simp), if_neg (by simp)]; exact hbx, by simp only [G2]; simp [hgb], hcur, ?_⟩
    rw [hself]
    refine ⟨ho, ?_⟩
    show OwnR (free Z G2 w) w (G2 (.cell b o)) e t xs _
    rw [hGself]
    exact hv.keep (fun k hk => ⟨(hf k hk).1, rfl⟩) (fun _ _ => rfl)
  · intro b1 o1 o2 hch h1 h2 hne
    have hsz : ∀ o', o' ≠ o → g2 (.cell b o') = g (.cell b o') := fun o' h' => by rw [hget, if_neg (by simp [h']), if_neg (by simp)]
    rcases hch with (e' | e') | (e' | e') <;> cases e'
    · rw [hself, hsz o2 (Ne.symm hne)]
      rw [hsz o2 (Ne.symm hne)] at h2
      exact hap o2 h2 hne
    · rw [hself, hsz o1 hne]
      rw [hsz o1 hne] at h1
      rcases hap o1 h1 (Ne.symm hne) with h3 | h3
      · exact .inr h3
      · exact .inl h3
  · intro b1 hch; rcases hch with e' | e' <;> cases e'
  · intro l hch
    rcases hch with e' | e' <;> subst e'
    · rw [hself]; exact .inr rfl
    · rw [hget, if_neg (by simp), if_pos rfl]; trivial
  · intro l c v hch hl
    rcases hch with e' | e' <;> subst e'
    · rw [hself] at hl; cases hl
    · rw [hget, if_neg (by simp), if_pos rfl] at hl; cases hl
  · intro l k hch hl
    rcases hGi l k hl with ⟨_, h1⟩ | ⟨_, _, h1⟩ <;> exact h.bnd _ _ h1
  · intro l k hch hl
    rcases hGi l k hl with ⟨rfl, h1⟩ | ⟨h1, h2, _⟩
    · rw [hself]; exact .inl ⟨_, _, _, _, rfl⟩
    · rcases hch with e' | e'
      · exact absurd e' h1
      · exact absurd e' h2
  · intro l l' k hch h1 h2
    rcases hGi l k h1 with ⟨rfl, h3⟩ | ⟨h3, h4, _⟩
    · rcases hGi l' k h2 with ⟨rfl, _⟩ | ⟨_, h6, h7⟩
      · rfl
      · exact absurd (h.inj _ _ k h7 h3) h6
    · rcases hch with e' | e'
      · exact absurd e' h3
      · exact absurd e' h4
end
end Go.Ev

namespace Go.Ev
open Go.RowKit
section
variable {Z : ZS} {E : Env} {N : Nat} {w0 : World} {Ow : OwS} {S S' D D' : Nat → Prop} {g g' : Mem} {G G' : Ghost} {a a' : Act} {w w' : World} {P : Program} {F : Fence} {n : Nat}

theorem scatterQ_some {b : Nat} : ∀ {t : Ty} {x : t.den} {o : Nat} {us : List (Loc × AV)}, (scatterQ b t x o).run g = some us →
    us = scatter b t x o ∧ ∀ p ∈ us, ∃ o' u y, p = (.cell b o', .dat u y) ∧ leafLike u (g (.cell b o')) = true := by
  have leaf : ∀ {t : Ty} {x : t.den} {o : Nat} {us : List (Loc × AV)}, (Q.ask (.cell b o) fun v => if leafLike t v then Q.pure [((Loc.cell b o, AV.dat t x) : Loc × AV)] else .fail).run g = some us →
      us = [(.cell b o, .dat t x)] ∧ ∀ p ∈ us, ∃ o' u y, p = (.cell b o', .dat u y) ∧ leafLike u (g (.cell b o')) = true := by
    intro t x o us h
    simp only [Q.run] at h
    split at h
    · rename_i hl
      simp only [Q.run, Option.some.injEq] at h
      subst h
      refine ⟨rfl, fun p hp => ?_⟩
      simp only [List.mem_singleton] at hp
      subst hp
      exact ⟨o, t, x, rfl, hl⟩
    · simp [Q.run] at h
  intro t
  induction t with
  | pair s t ih1 ih2 =>
    intro x o us h
    simp only [scatterQ, Q.run_bind, Option.bind_eq_some_iff] at h
    obtain ⟨ws, h1, vs, h2, h3⟩ := h
    simp only [Q.run, Option.some.injEq] at h3
    subst h3
    obtain ⟨k1, k2⟩ := ih1 h1
    obtain ⟨k3, k4⟩ := ih2 h2
    refine ⟨by rw [k1, k3]; rfl, fun p hp => ?_⟩
    rcases List.mem_append.1 hp with hp | hp
    · exact k2 p hp
    · exact k4 p hp
  | unit => intro x o us h; simp [scatterQ, Q.run] at h; subst h; exact ⟨rfl, by simp⟩
  | int k => exact leaf
  | bool => exact leaf
  | str => exact leaf
  | list t _ => exact leaf
  | arr m t _ => exact leaf
  | err => exact leaf
  | bnd f t _ => exact leaf

theorem frz_leaf {ws : List (Loc × AV)} (hw : ∀ p ∈ ws, isFrz g p) {u : Ty} {l : Loc} (h : leafLike u (g l) = true) : leafLike u (g.sets ws l) = true := by
  rcases sets_get (ws := ws) (g := g) (l := l) with ⟨h1, _⟩ | ⟨p, h1, h2, h3⟩
  · rw [h1]; exact h
  · obtain ⟨_, h4⟩ := hw p h1
    rw [h2] at h4
    rw [h3]
    rcases h4 with ⟨e, t, xs, s, h4, h5⟩ | ⟨t, xs, h4, h5⟩
    · rw [h4] at h; rw [h5]; simpa [leafLike] using h
    · rw [h5]; exact h

theorem leaf_in (h : Rel Z E N w0 Ow S D g G a w) {b o gb e : Nat} {u : Ty} {cur : Array Value} (hl : leafLike u (g (.cell b o)) = true) (hgb : G (.box b) = some gb) (hcur : w.heap[gb]? = some (.cells cur e (0, 0))) : o + u.sz ≤ cur.size := by
  obtain ⟨e2, n2, gb2, cur2, h3, h4, h5, h6⟩ := h.cells b o (leafLike_size hl).2
  rw [hgb] at h4; cases h4
  rw [hcur] at h5; cases h5
  cases hv : g (.cell b o) <;> rw [hv] at hl h6 <;> simp [leafLike] at hl
  · subst hl; exact h6.1
  · subst hl; have := h6.1; simp only [Ty.sz]; omega
  · cases u <;> simp at hl
    have := h6.1; simp only [Ty.sz]; omega

/-- A part of a list with a part replaced. -/
theorem part_of_store {α : Type} (cur cs : List α) {o o' k : Nat} (h1 : o ≤ o') (h2 : o' + k ≤ o + cs.length) (h3 : o + cs.length ≤ cur.length) :
    ((cur.take o ++ cs ++ cur.drop (o + cs.length)).drop o').take k = (cs.drop (o' - o)).take k := by
  apply List.ext_getElem?
  intro j
  simp only [List.getElem?_take, List.getElem?_drop]
  split
  · rw [List.getElem?_append, List.getElem?_append]
    simp only [List.length_append, List.length_take]
    rw [if_pos (by omega), if_neg (by omega)]
    congr 1; omega
  · rfl
theorem same_of_store {α : Type} (cur cs : List α) {o j : Nat} (h3 : o + cs.length ≤ cur.length) (hj : ¬ (o ≤ j ∧ j < o + cs.length)) :
    (cur.take o ++ cs ++ cur.drop (o + cs.length))[j]? = cur[j]? := by
  rw [List.getElem?_append, List.getElem?_append]
  simp only [List.length_append, List.length_take, List.getElem?_take, List.getElem?_drop]
  by_cases h : j < o
  · rw [if_pos (by omega), if_pos (by omega), if_pos h]
  · rw [if_neg (by omega)]
    congr 1; omega

theorem win_of_store {α : Type} (cur ds : List α) {c o m : Nat} (h : o + ds.length ≤ m) (h2 : c + m ≤ cur.length) :
    ((cur.take (c + o) ++ ds ++ cur.drop (c + o + ds.length)).drop c).take m = ((cur.drop c).take m).take o ++ ds ++ ((cur.drop c).take m).drop (o + ds.length) := by
  apply List.ext_getElem?
  intro j
  simp only [List.getElem?_append, List.getElem?_take, List.getElem?_drop, List.length_append, List.length_take, List.length_drop]
  by_cases h1 : j < o
  · rw [if_pos (by omega), if_pos (by omega), if_pos (by omega), if_pos (by omega), if_pos (by omega), if_pos (by omega), if_pos (by omega), if_pos (by omega)]
  · by_cases h3 : j < o + ds.length
    · rw [if_pos (by omega), if_pos (by omega), if_neg (by omega), if_pos (by omega), if_neg (by omega)]
      congr 1; omega
    · by_cases h4 : j < m
      · rw [if_pos (by omega), if_neg (by omega), if_neg (by omega), if_pos (by omega)]
        congr 1; omega
      · rw [if_neg (by omega), if_neg (by omega), if_neg (by omega)]

theorem store_box (hE : TabOk P E.tab) (h : Rel Z E N w0 Ow S D g G a w) {T b o e k gb : Nat} {u : Ty} (hu : E.tab.ty T = some u) (hbx : g (.box b) = .bx e k) (hgb : G (.box b) = some gb) {y : u.den} {cs : List Value} (hy : RV (free Z G w) w u y cs) (h0 : 0 < u.sz)
    (hl : ∀ p ∈ scatter b u y o, ∃ o' u' y', p = (.cell b o', .dat u' y') ∧ leafLike u' (g (.cell b o')) = true) :
    ∃ w' G2, (Instr.storeAt T (.pointer (some ⟨gb, o, none⟩)) (valOf u cs)).run P w = .ok () w' ∧ Rel Z E N w0 Ow S D (g.sets (scatter b u y o)) G2 a w' ∧
      G2 (.box b) = some gb ∧ ∃ cur', w'.heap[gb]? = some (.cells cur' e (0, 0)) ∧ ∀ j, j < cs.length → cur'[o + j]? = cs[j]? := by
  obtain ⟨gb', cur, h1, h2, h3⟩ := h.boxes b e k hbx
  rw [hgb] at h1; cases h1
  have hlen := hy.len
  have hin : o + u.sz ≤ cur.size := by
    obtain ⟨p, hp, o', u', y', hpe, hj1, hj2⟩ := scatter_cover (b := b) (x := y) (o0 := o) (j := o + u.sz - 1) (by omega) (by omega)
    obtain ⟨o2, u2, y2, hpe2, hlk⟩ := hl p hp
    rw [hpe] at hpe2
    simp only [Prod.mk.injEq, Loc.cell.injEq, true_and, AV.dat.injEq] at hpe2
    obtain ⟨rfl, rfl, _⟩ := hpe2
    have := leaf_in h hlk hgb h2
    omega
  obtain ⟨w', cur', k1, k2, k3, k4⟩ := store_run hE hu hy (.inl rfl) h2 hin
  have hsz : cur'.size = cur.size := by
    have : cur'.toList.length = cur.toList.length := by rw [k3]; simp; omega
    simpa using this
  rw [← hlen] at k3
  obtain ⟨G2, h4, _, h6⟩ := h.storeBox hbx hgb h2 k4 k2 hsz (fun o' => ∃ p ∈ scatter b u y o, p.1 = .cell b o') (g2 := g.sets (scatter b u y o)) (fun l hl' => sets_other (fun p hp e' => by
      obtain ⟨o', u', y', hpe, _⟩ := hl p hp
      rw [hpe] at e'
      exact hl' o' ⟨p, hp, by rw [hpe]⟩ e'.symm)) (fun o' ho' => by
      obtain ⟨p, hp, hpl⟩ := ho'
      rcases sets_get (ws := scatter b u y o) (g := g) (l := .cell b o') with ⟨_, m1⟩ | ⟨q, m1, m2, m3⟩
      · exact absurd hpl (m1 p hp)
      · obtain ⟨o2, u2, y2, hq, hlk⟩ := hl q m1
        obtain ⟨o3, u3, y3, hq3, n1, n2, n3⟩ := scatter_mem q m1
        rw [hq] at hq3 m2 m3
        simp only [Prod.mk.injEq, Loc.cell.injEq, true_and] at hq3 m2
        subst m2
        obtain ⟨rfl, hq4⟩ := hq3
        cases hq4
        refine ⟨(leafLike_size hlk).2, .inr ⟨u2, y2, m3, hlk, ?_, ?_⟩⟩
        · rw [hsz]; exact leaf_in h hlk hgb h2
        · rw [k3, part_of_store _ _ n1 (by omega) (by simp; omega)]
          exact n3 _ _ _ hy) (fun j hj => by
      have hj' : ¬ (o ≤ j ∧ j < o + cs.length) := fun hc => by
        obtain ⟨p, hp, o', u', y', hpe, hj1, hj2⟩ := scatter_cover (b := b) (x := y) (o0 := o) (j := j) hc.1 (by omega)
        obtain ⟨o2, u2, y2, hpe2, hlk⟩ := hl p hp
        rw [hpe] at hpe2
        simp only [Prod.mk.injEq, Loc.cell.injEq, true_and, AV.dat.injEq] at hpe2
        obtain ⟨rfl, rfl, _⟩ := hpe2
        refine hj o' ⟨p, hp, by rw [hpe]⟩ ⟨hj1, ?_⟩
        rw [(leafLike_size hlk).1]; exact hj2
      have := same_of_store cur.toList cs (o := o) (j := j) (by simp; omega) hj'
      rw [← k3] at this
      simpa using this)
  refine ⟨w', G2, k1, h4, (h6 _ (fun _ _ => by simp)).trans hgb, cur', k2, fun j hj => ?_⟩
  rw [← Array.getElem?_toList, k3, List.getElem?_append, List.getElem?_append]
  simp only [List.length_append, List.length_take, Array.length_toList]
  rw [if_pos (by omega), if_neg (by omega)]
  congr 1; omega

theorem sound_store {ctx : Ctx} {i : Nat} {o : Oper} {T : Nat} {p x : Operand} (hE : TabOk P E.tab) (hnr : E.tab.ref T = none) (ho : o.op = .store T p x) : Sound E P ctx i o := by
  intro Z N w0 Ow S D g G a w F n f next Qp h hg hp ht hfr hdst hF hS0 hn
  simp only [plan, ho, hnr] at hp
  split at hp
  · rename_i hd
    simp only [Q.run_bind, Option.bind_eq_some_iff] at hp
    obtain ⟨v, hv, u, hu, hp⟩ := hp
    have hT := rd_told h hg hv
    have hU := rd_told h hg hu
    have fin : ∀ {ad : Addr} {val : Value} {w' : World}, a.eval p = .pointer (some ad) → a.eval x = val → (Instr.storeAt T (.pointer (some ad)) val).run P w = .ok () w' → next a w' → o.wpIn F n P a w next Qp := by
      intro ad val w' h1 h2 h3 h4
      refine wpIn_skip' hF (by rw [ho]; simp) (w' := w') ?_ (by rw [hd]; exact h4)
      simp only [execOp, ho, h1, h2, Sem.run_bind, h3, Result.andThen_ok, Sem.run_pure]
    unfold storeQ at hp
    split at hp
    · rename_i b c
      obtain ⟨e, k, gb, h1, h2, h3⟩ := hT.r (.box 0) (by simp)
      split at hp
      · rename_i e' t xs st s
        simp only [Q.run_bind, Option.bind_eq_some_iff] at hp
        obtain ⟨uu, huu, hp⟩ := hp
        replace huu := ofO_some huu
        split at hp
        · rename_i hut; subst hut
          simp only [Q.run] at hp
          split at hp
          · rename_i hlk
            simp only [Q.run, Option.some.injEq] at hp
            subst hp
            obtain ⟨k', hk', hgs⟩ := hU.own e' t xs st rfl
            cases hk'
            obtain ⟨gb', cur, k1, k2, k3⟩ := h.boxes b e k h1
            rw [h2] at k1; cases k1
            have hin := leaf_in h hlk h2 k2
            have hown := (show OwnR _ _ _ _ _ _ _ from hU.r (.slot s) (fun _ _ _ _ _ => ⟨s, rfl, rfl⟩))
            obtain ⟨A, cap, hsl, _⟩ := hown.slice
            have hrv : RV (fun _ => True) w (.list t) xs [a.eval (.tmp s)] := hown.frozen (fun _ _ => trivial) (fun _ _ => trivial)
            obtain ⟨w', cur', m1, m2, m3, m4⟩ := store_run hE huu hrv (.inl rfl) k2 hin
            have hsz1 : (Ty.list t).sz = 1 := rfl
            have hsz : cur'.size = cur.size := by
              have : cur'.toList.length = cur.toList.length := by rw [m3]; simp [Ty.sz] at hin ⊢; omega
              simpa using this
            have hnd := leafLike_size hlk
            obtain ⟨G1, r1, r2, r3⟩ := h.storeBox h1 h2 k2 m4 m2 hsz (fun o' => o' = c) (g2 := g.upd (.cell b c) .dead) (fun l hl => Mem.upd_ne g _ (Ne.symm (hl c rfl))) (fun o' ho' => by
              subst ho'
              exact ⟨hnd.2, .inl (Mem.upd_same _ _ _)⟩) (fun j hj => by
              have := same_of_store cur.toList [a.eval (.tmp s)] (o := c) (j := j) (by simp [Ty.sz] at hin ⊢; omega) (fun hc => hj c rfl ⟨hc.1, by rw [hnd.1]; exact hc.2⟩)
              rw [show cur.toList.take c ++ [a.eval (.tmp s)] ++ cur.toList.drop (c + [a.eval (.tmp s)].length) = cur'.toList from m3.symm] at this
              simpa using this)
            have hval : cur'.getD c undef = a.eval (.tmp s) := by
              have : cur'.toList[c]? = some (a.eval (.tmp s)) := by
                rw [m3, List.getElem?_append, List.getElem?_append]
                simp [Ty.sz] at hin ⊢
                rw [if_pos (by omega), if_neg (by omega)]
                simp [show c - min c cur.size = 0 by omega]
              rw [Array.getD_eq_getD_getElem?, ← Array.getElem?_toList, this]; rfl
            have hgs1 : g.upd (.cell b c) .dead (.slot s) = .own e' t xs st := by rw [Mem.upd_ne g _ (by simp)]; exact hgs
            have hown1 := r1.slots s
            rw [hgs1] at hown1
            obtain ⟨G2, q1, qb⟩ := r1.giveCell (b := b) (o := c) (be := e) (bn := k) (gb := gb) (cur := cur') (by rw [Mem.upd_ne g _ (by simp)]; exact h1) ((r3 _ (by simp)).trans h2) m2 (Mem.upd_same _ _ _) (by rw [hsz]; simp [Ty.sz] at hin; omega) (fun o' ho' hne => by
              rw [Mem.upd_ne g _ (by simp [hne])] at ho' ⊢
              have := h.apart b c o' hnd.2 ho' hne
              rw [hnd.1] at this
              exact this) hgs1 (by rw [hval]; exact hown1) (i + 1) hfr
            have hsN : s < N := by
              apply Classical.byContradiction; intro hns
              have : a.eval (.tmp s) = undef := by
                show a.tmps.getD s undef = undef
                rw [Array.getD_eq_getD_getElem?, Array.getElem?_eq_none (by rw [h.tmps]; exact Nat.le_of_not_lt hns)]; rfl
              rw [hsl] at this; simp [undef] at this
            have q2 := q1.retell hsN (v := .view (.cell b c) (i + 1) t xs.length) rfl ⟨.inr rfl, trivial⟩ (fun hDs => by
              obtain ⟨x, hx | ⟨c, hx⟩⟩ := h.dbool s hDs <;> rw [hgs] at hx <;> cases hx) (fun c u e => by cases e) (by
                refine ⟨⟨A, cap, hsl⟩, fun e2 xs' hx => ?_⟩
                rw [Mem.upd_same] at hx
                cases hx
                refine ⟨Nat.le_refl _, ?_⟩
                have hq : G2 (.box b) = some gb := (qb b).trans ((r3 _ (by simp)).trans h2)
                have hrt : rootVal G2 a w' (.cell b c) = a.eval (.tmp s) := by
                  simp only [rootVal, hq]
                  rw [cell_of_row w' gb c cur' e (0, 0) m2, ← hval]
                  exact (Array.getD_eq_getD_getElem? ..).symm
                rw [hrt, show a.tmps.getD s undef = a.eval (.tmp s) from rfl, hsl]; rfl)
            refine fin h3 rfl m1 (hn _ _ _ _ (fun l => ?_) q2)
            simp only [Mem.sets, Mem.upd_apply]
            by_cases e1 : l = .cell b c
            · subst e1; simp
            · by_cases e2 : l = .slot s
              · subst e2; simp
              · simp [e1, e2]
          · simp [Q.run] at hp
        · simp [Q.run] at hp
      · simp only [Q.run_bind, Option.bind_eq_some_iff] at hp
        obtain ⟨y, hy, uu, huu, hp⟩ := hp
        replace huu := ofO_some huu
        split at hp
        · rename_i hyt
          obtain ⟨⟨yt, yx⟩, ws⟩ := y
          dsimp only at hyt hp
          obtain ⟨hyt, h0⟩ := hyt
          subst hyt
          have hyx : (⟨yt, yx⟩ : Dat).as yt = yx := by simp [Dat.as]
          rw [hyx] at hp
          simp only [Q.run_bind, Option.bind_eq_some_iff] at hp
          obtain ⟨us, hus, hp⟩ := hp
          obtain ⟨rfl, hleaf⟩ := scatterQ_some hus
          have hws := toDatAs_ws h hU hy
          obtain ⟨G1, r1, r2, r3, r4, r5, r6⟩ := freezeAll h hws
          obtain ⟨cs, r7, r8⟩ := toDatAs_val h hU hy r2 r3
          obtain ⟨w', G2, q1, q2, q3, cur', q4, q5⟩ := store_box hE r1 huu (by rw [r4 _ (by rw [h1]; simp)]; exact h1) ((r6 b).trans h2) r7 h0 (fun p hp => by
            obtain ⟨o', u', y', m1, m2⟩ := hleaf p hp
            exact ⟨o', u', y', m1, frz_leaf hws m2⟩)
          split at hp
          · simp only [Q.run, Option.some.injEq] at hp
            subst hp
            refine fin h3 r8 q1 (hn _ _ _ _ (fun l => ?_) (q2.more (fun _ hs => .inl hs) (fun _ hd => hd) q2.dbool))
            rw [Mem.sets_append]
          · rename_i L0 hL0
            split at hp
            case isFalse => simp [Q.run] at hp
            rename_i hnil
            simp only [Q.run, Option.some.injEq] at hp
            subst hp
            obtain ⟨us, husE⟩ : ∃ us, us = scatter b yt yx c := ⟨_, rfl⟩
            obtain ⟨L, hL⟩ : ∃ L, L = storeNils E T c u := ⟨_, rfl⟩
            rw [← hL] at hnil hn hL0
            rw [← husE] at hnil hn q2
            have hc0 : c = 0 := by
              unfold storeNils at hL
              split at hL
              · rename_i hc; exact Nat.eq_of_beq_eq_true hc
              · exact absurd hL hL0
            subst hc0
            have hns : ∀ p ∈ L, cs[p.1]? = some (.slice none 0 0) := fun p hp => by
              have hp' : p ∈ (E.tab.nils T).filter fun p => (nilsOfAV u).any (Nat.beq p.1) := by rw [hL] at hp; exact hp
              have hany := (List.mem_filter.1 hp').2
              obtain ⟨k, hk, hke⟩ := List.any_eq_true.1 hany
              have := Nat.eq_of_beq_eq_true hke
              rw [this]
              cases u with
              | datn t2 y2 ms =>
                obtain ⟨cs2, q1, q2, q3⟩ := hU.r (.box 0) (by simp)
                have hc2 : cs = cs2 := by
                  have e1 : (a.eval x).cells = cs2.toArray := by rw [q2]; exact valOf_cells q1
                  have e2 : (a.eval x).cells = cs.toArray := by rw [r8]; exact valOf_cells r7
                  rw [e2] at e1
                  have := congrArg Array.toList e1
                  simpa using this
                rw [hc2]
                exact q3 k hk
              | _ => simp [nilsOfAV] at hk
            have hnils : ∀ p ∈ L, 0 < p.2.2.sz ∧ ∃ x, (g.sets ws).sets us (.cell b p.1) = .dat (.list p.2.2) x := fun p hp => by
              have := List.all_eq_true.1 hnil p hp
              simp only [Bool.and_eq_true] at this
              obtain ⟨⟨_, q2⟩, q3⟩ := this
              rw [Nat.blt_eq] at q2
              refine ⟨q2, ?_⟩
              split at q3
              · rename_i u x hu
                have := eq_of_beq q3
                subst this
                refine ⟨x, ?_⟩
                rw [← hu, get_sets0]
                refine sets_mem0 ?_ _ _
                rw [get_sets0] at hu
                rcases sets_get (ws := us) (g := St.get []) (l := .cell b p.1) with ⟨r1, _⟩ | ⟨p', r1, r2, _⟩
                · rw [r1] at hu; cases hu
                · exact ⟨p', r1, r2⟩
              · cases q3
            have hbox : (g.sets ws).sets us (.box b) = .bx e k := by
              rw [sets_other (fun p hp e' => by
                rw [husE] at hp
                obtain ⟨o', u', y', m1, _⟩ := hleaf p hp
                rw [m1] at e'; cases e'), r4 _ (by rw [h1]; simp)]
              exact h1
            have hfin := q2.ownNil (g' := ((g.sets ws).sets us).sets (nilsW b (i + 1) L)) (st := i + 1) hbox q3 q4 hfr (fun l => by
              rcases sets_get (ws := nilsW b (i + 1) L) (g := (g.sets ws).sets us) (l := l) with ⟨r1, _⟩ | ⟨p, r1, r2, r3⟩
              · exact .inl r1
              · right
                obtain ⟨q, hq, rfl⟩ := List.mem_map.1 r1
                obtain ⟨s2, x, s3⟩ := hnils q hq
                have z := hns q hq
                obtain ⟨zl, _⟩ := List.getElem?_eq_some_iff.1 z
                have z2 := q5 q.1 zl
                rw [Nat.zero_add, z] at z2
                refine ⟨q.1, q.2.1, q.2.2, x, r2.symm, by rw [← r2]; exact s3, by rw [r3], by simp [Array.getD_eq_getD_getElem?, z2], (Array.getElem?_eq_some_iff.1 z2).1, s2⟩)
            refine fin h3 r8 q1 (hn _ _ _ _ (fun l => ?_) hfin)
            show _ = g.sets (ws ++ us ++ nilsW b (i + 1) L) l
            rw [Mem.sets_append, Mem.sets_append]
        · simp [Q.run] at hp
    · rename_i l st t j c
      simp only [Q.run_bind, Option.bind_eq_some_iff] at hp
      obtain ⟨y, hy, uu, huu, hp⟩ := hp
      replace huu := ofO_some huu
      split at hp
      · rename_i hyt
        obtain ⟨⟨yt, yx⟩, ws⟩ := y
        dsimp only at hyt hp
        obtain ⟨hyt, hnot⟩ := hyt
        subst hyt
        have hyx : (⟨yt, yx⟩ : Dat).as yt = yx := by simp [Dat.as]
        rw [hyx] at hp
        simp only [Q.run, Q.run_bind, Option.bind_eq_some_iff] at hp
        obtain ⟨r, hr, z, hz, hp⟩ := hp
        replace hz := ofO_some hz
        simp only [Option.some.injEq] at hp
        subst hp
        simp only [decide_eq_true_eq] at ht
        rw [getD_lt ht] at hz
        have hws := toDatAs_ws h hU hy
        obtain ⟨G1, r1, r2, r3, r4, r5, r6⟩ := freezeAll h hws
        obtain ⟨cs, r7, r8⟩ := toDatAs_val h hU hy r2 r3
        have hlsame : g.sets ws l = g l := sets_other (fun p hp e' => by
          have := List.any_eq_false.1 hnot p hp
          exact this (Loc.eq_iff.2 e'))
        obtain ⟨bb, cc, m1, m2, m3, m4⟩ := hT.r (.box 0) (by simp)
        have hst := hT.stamp
        rcases elem_told hr with ⟨e, h4, h5⟩ | ⟨b, c', m, rfl, h4, h5⟩
        · obtain ⟨k1, k2⟩ := m2 e _ h4
          subst k2
          have hg1 : g.sets ws l = .own e t r.1 st := by rw [hlsame]; exact h4
          have hroot := r1.root hst.2 hg1
          have hrv : rootVal G1 a w l = rootVal G a w l := by
            cases l with
            | slot n => rfl
            | comp n i => exact hst.2.elim
            | box b => exact hst.2.elim
            | cell b o' => simp only [rootVal, r6]
          have hroot0 := h.root hst.2 h4
          have hG1 : G1 l = some bb := by
            obtain ⟨_, _, _, _, i1⟩ := hroot
            obtain ⟨_, _, _, _, i2⟩ := hroot0
            rw [← i1, hrv, i2, k1]
          obtain ⟨i0, cells, i1, i2, i3⟩ := hroot
          obtain ⟨j1, j2⟩ := rows_store i1 ht hz r7
          have j3 := i1.length (fun _ _ hc => hc.len)
          have j4 := (rows_store i1 ht hz r7).2.length (fun _ _ hc => hc.len)
          rcases i2.2 with ⟨_, hnil⟩ | ⟨g0, cap, cur, hv, ⟨fz, hfz, hcur⟩, hncap, hcm, hcs, htk⟩
          · omega
          · have hg0 : g0 = bb := by
              rw [hv, hG1] at i3
              simpa [Value.ownBlock] using i3
            subst hg0
            have hmul : r.1.length * t.sz ≤ cap * t.sz := Nat.mul_le_mul_right _ hncap
            obtain ⟨w', cur', q1, q2, q3, q4⟩ := store_run hE huu r7 hfz hcur (o := j * t.sz + c) (by omega)
            have hdl : cs.length = yt.sz := r7.len
            have hsz : cur'.size = cur.size := by
              have : cur'.toList.length = cur.toList.length := by rw [q3]; simp; omega
              simpa using this
            have hnew : OwnR (free Z G1 w) w' (some g0) e t (r.1.set j z) (rootVal G1 a w l) := by
              refine ⟨i0, _, j2.imp fun _ _ hc => hc.keep (fun b hb => q4.block b hb.1 (fun e' => hb.2 l (by rw [hG1]; exact e'.symm))) (fun _ hb => hb), ⟨by rw [j4], .inr ⟨g0, cap, cur', by rw [hv, List.length_set], ⟨fz, by rw [hsz]; exact hfz, q2⟩, by rw [List.length_set]; exact hncap, hcm, by rw [hsz]; exact hcs, ?_⟩⟩, by rw [hv]; rfl⟩
              have hwin := win_of_store cur.toList cs (c := 0) (o := j * t.sz + c) (m := r.1.length * t.sz) (by omega) (by simp; omega)
              simp only [List.drop_zero, Nat.zero_add, hdl] at hwin
              rw [List.length_set, q3, hwin, htk]
            obtain ⟨G2, s1⟩ := r1.storeElem hst.2 hg1 hG1 (by rw [List.length_set]) q4 hnew
            refine fin m1 r8 q1 (hn _ _ _ _ (fun k => ?_) (s1.more (fun _ hs => .inl hs) (fun _ hd => hd) s1.dbool))
            rw [Mem.sets_append, h5]; rfl
        · have hg1 : g.sets ws (.cell b c') = .dat (.arr m t) r.1 := by rw [hlsame]; exact h4
          obtain ⟨e, k, k1, k2, k3⟩ := m3 b c' m _ rfl h4
          subst k3
          have hbx : g.sets ws (.box b) = .bx e k := by rw [r4 _ (by rw [k1]; simp)]; exact k1
          have hgb : G1 (.box b) = some bb := (r6 b).trans k2
          obtain ⟨e2, n2, gb2, cur, i1, i2, i3, i4⟩ := r1.cells b c' (by rw [hg1]; simp)
          rw [hgb] at i2; cases i2
          rw [hbx] at i1; cases i1
          rw [hg1] at i4
          obtain ⟨i5, i6, i7⟩ := i4
          obtain ⟨j1, j2⟩ := rows_store i7 ht hz r7
          have j3 := i7.length (fun _ _ hc => hc.len)
          have hdl : cs.length = yt.sz := r7.len
          have hasz : (Ty.arr m t).sz = m * t.sz := rfl
          rw [hasz] at i5
          obtain ⟨w', cur', q1, q2, q3, q4⟩ := store_run hE huu r7 (.inl rfl) i3 (o := c' + j * t.sz + c) (by rw [i6] at j3; omega)
          have hsz : cur'.size = cur.size := by
            have : cur'.toList.length = cur.toList.length := by rw [q3]; simp; rw [i6] at j3; omega
            simpa using this
          have hwin := win_of_store cur.toList cs (c := c') (o := j * t.sz + c) (m := m * t.sz) (by rw [i6] at j3; omega) (by simp; omega)
          rw [← Nat.add_assoc, hdl, ← q3] at hwin
          obtain ⟨G2, s1, _⟩ := r1.storeBox hbx hgb i3 q4 q2 hsz (fun o' => o' = c') (g2 := (g.sets ws).upd (.cell b c') (.dat (.arr m t) (r.1.set j z))) (fun l hl => Mem.upd_ne _ _ (Ne.symm (hl c' rfl))) (fun o' ho' => by
            subst ho'
            refine ⟨by rw [hg1]; simp, .inr ⟨.arr m t, r.1.set j z, Mem.upd_same _ _ _, by rw [hg1]; simp [leafLike], by rw [hsz, hasz]; exact i5, ?_⟩⟩
            refine ⟨by rw [List.length_set]; exact i6, ?_⟩
            rw [hasz, hwin]
            exact j2) (fun q hq => by
            have hq' := hq c' rfl
            rw [hg1] at hq'
            simp only [AV.size, hasz] at hq'
            have := same_of_store cur.toList cs (o := c' + j * t.sz + c) (j := q) (by simp; rw [i6] at j3; omega) (by rw [i6] at j3; omega)
            rw [hdl, ← q3] at this
            simpa using this)
          refine fin m1 r8 q1 (hn _ _ _ _ (fun k => ?_) (s1.more (fun _ hs => .inl hs) (fun _ hd => hd) s1.dbool))
          rw [Mem.sets_append, h5]; rfl
      · simp [Q.run] at hp
    · simp [Q.run] at hp
  · simp [Q.run] at hp
end
end Go.Ev

namespace Go.Ev
open Go.RowKit
section
variable {Z : ZS} {E : Env} {N : Nat} {w0 : World} {Ow : OwS} {S S' D D' : Nat → Prop} {g g' : Mem} {G G' : Ghost} {a a' : Act} {w w' : World} {P : Program} {F : Fence} {n : Nat}

/-- A box is made, of whose cells nothing is told. -/
theorem Rel.newBox0 (h : Rel Z E N w0 Ow S D g G a w) {d : Nat} (hd : d < N) (hD : ¬ D d) (hh : E.held d = false) {T : Nat} {cs : List Value} (hdead : g (.box d) = .dead) :
    ∃ G2, (G2 (.box d) = some w.heap.size ∧ ∀ b, b ≠ d → G2 (.box b) = G (.box b)) ∧ Rel Z E N w0 Ow S D (g.sets [(.box d, .bx T cs.length), (.slot d, .ptr d 0)]) G2 (a.put (some d) (.pointer (some ⟨w.heap.size, 0, none⟩))) (w.alloc (.cells cs.toArray T)) := by
  have hcd : ∀ o, g (.cell d o) = .dead := fun o => by
    apply Classical.byContradiction; intro hne
    obtain ⟨e, n, _, _, h1, _⟩ := h.cells d o hne
    rw [hdead] at h1; cases h1
  obtain ⟨g2, hg2⟩ : ∃ g2, g2 = g.sets [(.box d, .bx T cs.length), (.slot d, .ptr d 0)] := ⟨_, rfl⟩
  have hget : ∀ l, g2 l = if l = .slot d then .ptr d 0 else g.upd (.box d) (.bx T cs.length) l := fun l => by
    rw [hg2]
    simp only [Mem.sets, Mem.upd_apply]
  have hslot : g2 (.slot d) = .ptr d 0 := by rw [hget, if_pos rfl]
  have hbox : g2 (.box d) = .bx T cs.length := by rw [hget, if_neg (by simp), Mem.upd_same]
  have hoth : ∀ l, ¬ (l = .box d ∨ l = .slot d) → g2 l = g l := fun l hl => by
    simp only [not_or] at hl
    rw [hget, if_neg hl.2, Mem.upd_ne g _ (Ne.symm hl.1)]
  rw [← hg2]
  let G2 : Ghost := fun l => match l with
    | .box b => if b = d then some w.heap.size else G (.box b)
    | .slot n => if n = d then none else G (.slot n)
    | l => G l
  have hG2 : ∀ l, ¬ (l = .box d ∨ l = .slot d) → G2 l = G l := fun l hl => by
    simp only [not_or] at hl
    cases l with
    | slot n => simp only [G2]; rw [if_neg (fun e => hl.2 (by rw [e]))]
    | box b => simp only [G2]; rw [if_neg (fun e => hl.1 (by rw [e]))]
    | cell b o => rfl
    | comp n i => rfl
  have hGi : ∀ l b, G2 l = some b → (l = .box d ∧ b = w.heap.size) ∨ (G l = some b ∧ ¬ (l = .box d ∨ l = .slot d)) := fun l b hb => by
    cases l with
    | slot n =>
      simp only [G2] at hb
      split at hb
      · cases hb
      · exact .inr ⟨hb, by simp [*]⟩
    | box k =>
      simp only [G2] at hb
      split at hb
      · rename_i e; cases hb; exact .inl ⟨by rw [e], rfl⟩
      · exact .inr ⟨hb, by simp [*]⟩
    | cell k o => exact .inr ⟨hb, by simp⟩
    | comp n i => exact .inr ⟨hb, by simp⟩
  have hw := World.grownBy_alloc w (.cells cs.toArray T) none
  have hsize : (w.alloc (.cells cs.toArray T)).heap.size = w.heap.size + 1 := by simp
  have hb : ∀ b, b < w.heap.size → (w.alloc (.cells cs.toArray T)).heap[b]? = w.heap[b]? := fun b hb => hw.block b hb (by simp)
  have hk : ∀ b, free Z G w b → free Z G2 (w.alloc (.cells cs.toArray T)) b ∧ (w.alloc (.cells cs.toArray T)).heap[b]? = w.heap[b]? := fun b hf => by
    refine ⟨⟨Nat.lt_of_lt_of_le hf.1 hw.size, fun l e => ?_, hf.3⟩, hb b hf.1⟩
    rcases hGi l b e with ⟨_, h2⟩ | ⟨h2, _⟩
    · have := hf.1; omega
    · exact hf.2 l h2
  have hnew : (w.alloc (.cells cs.toArray T)).heap[w.heap.size]? = some (.cells cs.toArray T (0, 0)) := heap_alloc_new w _
  refine ⟨G2, ⟨by simp [G2], fun b hb => by simp [G2, hb]⟩, h.change (fun l => l = .box d ∨ l = .slot d) hoth hG2 (by rw [put_defers]; exact h.defers) (by rw [put_size]; exact h.tmps) hw.os hw.tape hw.output hw.size
    (fun k hk' _ => hb k (Nat.lt_of_lt_of_le hk' h.size)) hk (fun l _ b hl => hb b (h.bnd l b hl).1) ?_ ?_ ?_ (fun _ h => h) ?_ ?_ ?_ ?_ ?_ ?_ ?_ ?_ ?_ ?_ ?_ ?_ (fun b1 gb1 hc _ _ hp => by
      rcases hc with e1 | e1 <;> cases e1
      rcases h.pinR _ _ hp with h9 | h9
      · have := h9.1; omega
      · rw [hh] at h9; cases h9)⟩
  · intro l st _ hrt
    cases l with
    | slot n =>
      refine ⟨fun e t' xs' hx' => ?_, fun b o n t xs' hb => by cases hb⟩
      by_cases hn : n = d
      · subst hn; rw [hslot] at hx'; cases hx'
      · rw [hoth _ (by simp [hn])] at hx'
        exact ⟨xs', hx', rfl, put_tmps_ne a _ (Ne.symm hn), hG2 (.slot n) (by simp [hn])⟩
    | comp n i => exact hrt.elim
    | box b => exact hrt.elim
    | cell b o =>
      have hne := hoth (.cell b o) (by simp)
      refine ⟨fun e t' xs' hx' => ⟨xs', by rwa [hne] at hx', rfl, ?_, hG2 (.cell b o) (by simp)⟩, fun b' o' n t' xs' _ hx' _ => ⟨xs', by rwa [hne] at hx'⟩⟩
      have hbd : b ≠ d := fun e' => by rw [hne, e', hcd] at hx'; cases hx'
      simp only [rootVal, G2, if_neg hbd]
      cases hgb : G (.box b) with
      | none => rfl
      | some gb => simp only [World.cell?_of_block (w := w) (w' := w.alloc (.cells cs.toArray T)) (a := ⟨gb, o, none⟩) (hb gb (h.bnd _ gb hgb).1)]
  · intro b e n hb'
    have hbd : b ≠ d := fun e' => by rw [e', hdead] at hb'; cases hb'
    exact ⟨by rw [hoth _ (by simp [hbd])]; exact hb', by simp [G2, hbd], fun gb hgb => .inr (hb gb (h.bnd _ gb hgb).1)⟩
  · intro k hk'
    exact hoth _ (by simp; exact fun e => hD (e ▸ hk'))
  · intro n hn
    exact put_tmps_ne a _ (fun e => hn (.inr (by rw [e])))
  · intro n hn
    have : n = d := by rcases hn with e | e <;> cases e; rfl
    subst this
    rw [hslot, put_tmps a n _ (by rw [h.tmps]; exact hd)]
    exact ⟨T, cs.length, w.heap.size, hbox, by simp [G2], rfl⟩
  · intro n k i hn _ hch
    have : n = d := by
      rcases hch with (e | e) | (e | e) <;> cases e; rfl
    subst this
    rw [hslot] at hn; cases hn
  · intro b e n hch hb'
    have : b = d := by rcases hch with e | e <;> cases e; rfl
    subst this
    rw [hbox] at hb'
    cases hb'
    exact ⟨w.heap.size, cs.toArray, by simp [G2], hnew, by simp⟩
  · intro b o hch
    rcases hch with e | e <;> cases e
  · intro b o o' hch
    rcases hch with (e | e) | (e | e) <;> cases e
  · intro b hch
    have : b = d := by rcases hch with e | e <;> cases e; rfl
    subst this
    exact .inr ⟨T, cs.length, hbox⟩
  · intro l hch
    rcases hch with rfl | rfl
    · rw [hbox]; trivial
    · rw [hslot]; trivial
  · intro l c v hch hv
    rcases hch with rfl | rfl
    · rw [hbox] at hv; cases hv
    · rw [hslot] at hv; cases hv
  · intro l b hch hb'
    rcases hGi l b hb' with ⟨_, rfl⟩ | ⟨_, h2⟩
    · exact ⟨by rw [hsize]; omega, .inr h.size⟩
    · exact absurd hch h2
  · intro l b hch hb'
    rcases hGi l b hb' with ⟨rfl, _⟩ | ⟨_, h2⟩
    · exact .inr ⟨_, _, hbox⟩
    · exact absurd hch h2
  · intro l l' b hch hb1 hb2
    rcases hGi l b hb1 with ⟨rfl, rfl⟩ | ⟨_, h2⟩
    · rcases hGi l' _ hb2 with ⟨rfl, _⟩ | ⟨h3, _⟩
      · rfl
      · exact absurd (h.bnd _ _ h3).1 (by omega)
    · exact absurd hch h2

/-- What is told of a pointer or a function asks of boxes alone. -/
theorem ref_any {v : AV} (hv : refAV v = true ∨ v = .junk) {l l' : Loc} {val : Value} (hb : ∀ b e n, g (.box b) = .bx e n → g' (.box b) = .bx e n ∧ G' (.box b) = G (.box b)) (h : AVR Z g G a w v l val) : AVR Z g' G' a' w' v l' val := by
  cases v with
  | ptr b o => obtain ⟨e, n, gb, h1, h2, h3⟩ := h; exact ⟨e, n, gb, (hb b e n h1).1, (hb b e n h1).2.trans h2, h3⟩
  | mptr b o p =>
    obtain ⟨h1, h2⟩ := h
    refine ⟨fun hp => ?_, h2⟩
    obtain ⟨e, n, gb, h3, h4, h5⟩ := h1 hp
    exact ⟨e, n, gb, (hb b e n h3).1, (hb b e n h3).2.trans h4, h5⟩
  | nilp => exact h
  | fn f cs =>
    obtain ⟨vs, h1, h2, h3⟩ := h
    refine ⟨vs, h1, h2, fun i b hi => ?_⟩
    obtain ⟨e, n, gb, h4, h5, h6⟩ := h3 i b hi
    exact ⟨e, n, gb, (hb b e n h4).1, (hb b e n h4).2.trans h5, h6⟩
  | junk => trivial
  | _ => rcases hv with hv | hv <;> cases hv
theorem ref_stamp {v : AV} (hv : refAV v = true ∨ v = .junk) : stampIn S v := by
  cases v <;> first | trivial | (rcases hv with hv | hv <;> cases hv)
theorem ref_size {v : AV} (hv : refAV v = true ∨ v = .junk) : v.size = 1 := by
  cases v <;> first | rfl | (rcases hv with hv | hv <;> cases hv)
/-- A cell of which nothing was told: it holds a pointer or a function. -/
theorem Rel.tellCell (h : Rel Z E N w0 Ow S D g G a w) {b o e n gb : Nat} {cur : Array Value} {v : AV} (hbx : g (.box b) = .bx e n) (hgb : G (.box b) = some gb) (hcur : w.heap[gb]? = some (.cells cur e (0, 0))) (hdead : g (.cell b o) = .dead) (ho : o < cur.size)
    (hv : refAV v = true ∨ v = .junk) (hr : AVR Z g G a w v (.cell b o) (cur.getD o undef)) (hap : ∀ o', g (.cell b o') ≠ .dead → o' ≠ o → o' + (g (.cell b o')).size ≤ o ∨ o + 1 ≤ o') : Rel Z E N w0 Ow S D (g.upd (.cell b o) v) G a w := by
  have hG : G (.cell b o) = none := by
    cases hq : G (.cell b o) with
    | none => rfl
    | some k =>
      rcases h.gone _ k hq with ⟨_, _, _, _, h1⟩ | ⟨_, _, h1⟩ <;> rw [hdead] at h1 <;> cases h1
  have hne : ∀ l, l ≠ .cell b o → g.upd (.cell b o) v l = g l := fun l hl => Mem.upd_ne g _ (Ne.symm hl)
  have hself : g.upd (.cell b o) v (.cell b o) = v := Mem.upd_same _ _ _
  refine h.change (fun l => l = .cell b o) hne (fun _ _ => rfl) h.defers h.tmps rfl rfl rfl (Nat.le_refl _) (fun _ _ _ => rfl) (fun _ hb => ⟨hb, rfl⟩) (fun _ _ _ _ => rfl) ?_ ?_ ?_ (fun _ h => h) (fun _ _ => rfl) ?_ ?_ ?_ ?_ ?_ ?_ ?_ ?_ ?_ ?_ ?_ (fun b1 gb1 hc => by cases hc)
  · intro l st _ _
    by_cases hl : l = .cell b o
    · subst hl
      refine ⟨fun e t xs hx => ?_, fun b' o' n t xs _ hx _ => ?_⟩
      · rw [hself] at hx; subst hx; rcases hv with hv | hv <;> cases hv
      · rw [hself] at hx; subst hx; rcases hv with hv | hv <;> cases hv
    · refine ⟨fun e t xs hx => ⟨xs, by rw [hne l hl] at hx; exact hx, rfl, rfl, rfl⟩, fun b' o' n t xs _ hx _ => ⟨xs, by rw [hne l hl] at hx; exact hx⟩⟩
  · intro b1 e1 n1 hb1
    exact ⟨by rw [hne _ (by simp)]; exact hb1, rfl, fun _ _ => .inr rfl⟩
  · intro d _; exact hne _ (by simp)
  · intro n hn; cases hn
  · intro n k i _ _ hch; rcases hch with hch | hch <;> cases hch
  · intro b1 e1 n1 hch; cases hch
  · intro b1 o1 hch _
    cases hch
    refine ⟨e, n, gb, cur, by rw [hne _ (by simp)]; exact hbx, hgb, hcur, ?_⟩
    rw [hself]
    have hk : AVR Z (g.upd (.cell b o) v) G a w v (.cell b o) (cur.getD o undef) := ref_any hv (fun b1 e1 n1 hb1 => ⟨by rw [hne _ (by simp)]; exact hb1, rfl⟩) hr
    cases v with
    | dat => rcases hv with hv | hv <;> cases hv
    | dead => trivial
    | _ => exact ⟨ho, hk⟩
  · intro b1 o1 o2 hch h1 h2 hoo
    have hs := ref_size hv
    rcases hch with hch | hch
    · cases hch
      have hl2 : Loc.cell b o2 ≠ .cell b o := fun e' => by cases e'; exact hoo rfl
      rw [hself, hs, hne _ hl2]
      rw [hne _ hl2] at h2
      rcases hap o2 h2 (Ne.symm hoo) with k | k
      · exact .inr k
      · exact .inl k
    · cases hch
      have hl1 : Loc.cell b o1 ≠ .cell b o := fun e' => by cases e'; exact hoo rfl
      rw [hself, hs, hne _ hl1]
      rw [hne _ hl1] at h1
      rcases hap o1 h1 hoo with k | k
      · exact .inl k
      · exact .inr k
  · intro b1 hch; cases hch
  · intro l hch; subst hch; rw [hself]; exact ref_stamp hv
  · intro l c u hch hu; subst hch; rw [hself] at hu; subst hu; rcases hv with hv | hv <;> cases hv
  · intro l k hch hk; subst hch; rw [hG] at hk; cases hk
  · intro l k hch hk; subst hch; rw [hG] at hk; cases hk
  · intro l l' k hch hk; subst hch; rw [hG] at hk; cases hk

theorem sound_allocRef {ctx : Ctx} {i : Nat} {o : Oper} {T : Nat} {b : Bool} (hE : TabOk P E.tab) (hr : E.tab.ref T = some b) (ho : o.op = .alloc T) : Sound E P ctx i o := by
  intro Z N w0 Ow S D g G a w F n f next Qp h hg hp ht hfr hdst hF hS0 hn
  simp only [plan, ho, hr, allocRefQ, Q.run_bind, Option.bind_eq_some_iff] at hp
  obtain ⟨d, hd, hp⟩ := hp
  replace hd := sureD_some hd
  split at hp
  case isFalse => simp [Q.run] at hp
  rename_i hc
  simp only [Bool.and_eq_true, Bool.not_eq_true'] at hc
  simp only [Q.run] at hp
  split at hp
  case h_2 => simp [Q.run] at hp
  rename_i hdead
  simp only [Q.run, Option.some.injEq] at hp
  subst hp
  obtain ⟨hi, _⟩ := hE.ref T b hr
  cases hinf : P.info? T with
  | none => rw [hinf] at hi; cases hi
  | some inf =>
  rw [hinf] at hi
  simp only [Option.map_some, Option.some.injEq, Prod.mk.injEq] at hi
  obtain ⟨z, hz⟩ : ∃ z : Value, z = if b then .pointer none else .nilFunc := ⟨_, rfl⟩
  obtain ⟨k1, k2⟩ := hdst d hd
  obtain ⟨G2, k3, k4⟩ := h.newBox0 k1 k2 hc.2 (T := T) (cs := [z]) hdead
  have hnew : (w.alloc (.cells [z].toArray T)).heap[w.heap.size]? = some (.cells [z].toArray T (0, 0)) := heap_alloc_new w _
  have hcd : ∀ o, g.sets [(.box d, .bx T 1), (.slot d, .ptr d 0)] (.cell d o) = .dead := fun o => by
    have : g (.cell d o) = .dead := by
      apply Classical.byContradiction; intro hne
      obtain ⟨e, n, _, _, h1, _⟩ := h.cells d o hne
      rw [hdead] at h1; cases h1
    simp [Mem.sets, Mem.upd_apply, this]
  have k5 := k4.tellCell (b := d) (o := 0) (e := T) (n := 1) (gb := w.heap.size) (cur := [z].toArray) (v := if b then .nilp else .junk) (by simp [Mem.sets, Mem.upd_apply]) k3.1 hnew (hcd 0) (by simp) (by cases b <;> simp [refAV]) (by
    cases b with
    | true => rw [hz]; rfl
    | false => trivial) (fun o' h1 _ => absurd (hcd o') h1)
  refine wpIn_value hF (by rw [ho]; simp) (v := .pointer (some ⟨w.heap.size, 0, none⟩)) (w' := w.alloc (.cells [z].toArray T)) ?_ ?_
  · have hcz : z.cells = #[z] := by rw [hz]; cases b <;> rfl
    simp [execOp, ho, Instr.alloc, zeroValue, typeInfo, hinf, hi.1, newVar, newRow, ← hz, hcz]
  · rw [hd]
    exact hn _ _ _ _ (fun l => by simp only [Mem.sets]; rfl) (k5.more (fun _ hs => .inl hs) (fun _ hd => hd) k5.dbool)
theorem sound_boxRef {ctx : Ctx} {i : Nat} {o : Oper} {T : Nat} {x : Operand} {b : Bool} (hr : E.tab.ref T = some b) (ho : o.op = .box T x) : Sound E P ctx i o := by
  intro Z N w0 Ow S D g G a w F n f next Qp h hg hp ht hfr hdst hF hS0 hn
  simp only [plan, ho, hr, boxRefQ, Q.run_bind, Option.bind_eq_some_iff] at hp
  obtain ⟨d, hd, hp⟩ := hp
  replace hd := sureD_some hd
  split at hp
  case isFalse => simp [Q.run] at hp
  rename_i hc
  simp only [Bool.and_eq_true, Bool.not_eq_true'] at hc
  obtain ⟨⟨hctx, hheld⟩, _⟩ := hc
  simp only [Q.run_bind, Option.bind_eq_some_iff] at hp
  obtain ⟨v, hv, hp⟩ := hp
  split at hp
  case isFalse => simp [Q.run] at hp
  rename_i href
  simp only [Q.run] at hp
  split at hp
  case h_2 => simp [Q.run] at hp
  rename_i hdead
  simp only [Q.run, Option.some.injEq] at hp
  subst hp
  have hT := rd_told h hg hv
  have hval := hT.r (.box 0) (by intro e t xs s e'; subst e'; cases href)
  obtain ⟨k1, k2⟩ := hdst d hd
  obtain ⟨G2, k3, k4⟩ := h.newBox0 k1 k2 hheld (T := T) (cs := [a.eval x]) hdead
  have hnew : (w.alloc (.cells [a.eval x].toArray T)).heap[w.heap.size]? = some (.cells [a.eval x].toArray T (0, 0)) := heap_alloc_new w _
  have hcd : ∀ o, g.sets [(.box d, .bx T 1), (.slot d, .ptr d 0)] (.cell d o) = .dead := fun o => by
    have : g (.cell d o) = .dead := by
      apply Classical.byContradiction; intro hne
      obtain ⟨e, n, _, _, h1, _⟩ := h.cells d o hne
      rw [hdead] at h1; cases h1
    simp [Mem.sets, Mem.upd_apply, this]
  have hG2 : ∀ b e n, g (.box b) = .bx e n → g.sets [(.box d, .bx T 1), (.slot d, .ptr d 0)] (.box b) = .bx e n ∧ G2 (.box b) = G (.box b) := fun b e n hb => by
    have hbd : b ≠ d := fun e' => by rw [e', hdead] at hb; cases hb
    have e1 : g.sets [(.box d, .bx T 1), (.slot d, .ptr d 0)] (.box b) = .bx e n := by simp [Mem.sets, Mem.upd_apply, hbd, hb]
    exact ⟨e1, k3.2 b hbd⟩
  have k5 := k4.tellCell (b := d) (o := 0) (e := T) (n := 1) (gb := w.heap.size) (cur := [a.eval x].toArray) (v := v) (by simp [Mem.sets, Mem.upd_apply]) k3.1 hnew (hcd 0) (by simp) (.inl href) (ref_any (.inl href) hG2 hval) (fun o' h1 _ => absurd (hcd o') h1)
  refine wpIn_value hF (by rw [ho]; simp) (v := .pointer (some ⟨w.heap.size, 0, none⟩)) (w' := w.alloc (.cells [a.eval x].toArray T)) ?_ ?_
  · have hcz : (a.eval x).cells = #[a.eval x] := by
      cases v with
      | ptr b o => obtain ⟨e, n, gb, _, _, h3⟩ := hval; rw [h3]; rfl
      | mptr b o p =>
        obtain ⟨h1, h2⟩ := hval
        cases p with
        | true => obtain ⟨e, n, gb, _, _, h3⟩ := h1 rfl; rw [h3]; rfl
        | false => rw [h2 rfl]; rfl
      | nilp => rw [show a.eval x = .pointer none from hval]; rfl
      | fn f cs => obtain ⟨vs, h1, _⟩ := hval; rw [h1]; rfl
      | _ => cases href
    simp [execOp, ho, Instr.box, newVar, newRow, hcz]
  · rw [hd]
    exact hn _ _ _ _ (fun l => by simp only [Mem.sets]; rfl) (k5.more (fun _ hs => .inl hs) (fun _ hd => hd) k5.dbool)
theorem sound_loadRef {ctx : Ctx} {i : Nat} {o : Oper} {T : Nat} {x : Operand} {b : Bool} (hE : TabOk P E.tab) (hr : E.tab.ref T = some b) (ho : o.op = .load T x) : Sound E P ctx i o := by
  intro Z N w0 Ow S D g G a w F n f next Qp h hg hp ht hfr hdst hF hS0 hn
  simp only [plan, ho, hr, loadRefQ, Q.run_bind, Option.bind_eq_some_iff] at hp
  obtain ⟨d, hd, v, hv, hp⟩ := hp
  replace hd := sureD_some hd
  have hT := rd_told h hg hv
  split at hp
  case h_2 => simp [Q.run] at hp
  rename_i b0 o0
  simp only [Q.run] at hp
  split at hp
  case isFalse => simp [Q.run] at hp
  rename_i href
  simp only [Q.run, Option.some.injEq] at hp
  subst hp
  obtain ⟨e0, n0, gb0, h1, h2, h3⟩ := hT.r (.box 0) (by simp)
  have hnd : g (.cell b0 o0) ≠ .dead := fun e => by rw [e] at href; cases href
  obtain ⟨e1, n1, gb, cur, k1, k2, k3, k4⟩ := h.cells b0 o0 hnd
  rw [h2] at k2; cases k2
  obtain ⟨hi, u, hu, hu2⟩ := hE.ref T b hr
  have hleaf : o0 < cur.size ∧ AVR Z g G a w (g (.cell b0 o0)) (.cell b0 o0) (cur.getD o0 undef) := by
    generalize hc : g (.cell b0 o0) = c at k4 href
    cases c <;> first | exact k4 | (cases href; done)
  have hcell : w.cell? ⟨gb0, o0, none⟩ = some (cur.getD o0 undef) := by
    rw [cell_of_row w gb0 o0 cur e1 (0, 0) k3]
    simp [Array.getD_eq_getD_getElem?, hleaf.1]
  have hagg : (isAgg T).run P w = .ok false w := by
    cases u <;> first | exact hu2.elim | simp [isAgg, run_underlying hu]
  refine wpIn_value hF (by rw [ho]; simp) (v := cur.getD o0 undef) ?_ (fill1 (v := g (.cell b0 o0)) h hdst hd (by
    generalize g (.cell b0 o0) = c at href
    cases c <;> first | rfl | (cases href; done)) (ref_stamp (.inl href)) (by
    intro c u hc
    rw [hc] at href; cases href) (ref_any (.inl href) (fun _ _ _ hb => ⟨hb, rfl⟩) hleaf.2) hn)
  simp only [execOp, ho, h3, Instr.loadAt, Instr.sureAddr, Sem.run_bind, Sem.run_pure, Result.andThen_ok, loadVar, hagg, Bool.false_eq_true, if_false, run_load, hcell]
theorem cells_ref {v : AV} (href : refAV v = true) {l : Loc} {val : Value} (h : AVR Z g G a w v l val) : val.cells = #[val] ∧ val.oneCell' = true := by
  cases v with
  | ptr b o => obtain ⟨e, n, gb, _, _, h3⟩ := h; rw [h3]; exact ⟨rfl, rfl⟩
  | mptr b o p =>
    obtain ⟨h1, h2⟩ := h
    cases p with
    | true => obtain ⟨e, n, gb, _, _, h3⟩ := h1 rfl; rw [h3]; exact ⟨rfl, rfl⟩
    | false => rw [h2 rfl]; exact ⟨rfl, rfl⟩
  | nilp => rw [show val = .pointer none from h]; exact ⟨rfl, rfl⟩
  | fn f cs => obtain ⟨vs, h1, _⟩ := h; rw [h1]; exact ⟨rfl, rfl⟩
  | _ => cases href
theorem sound_storeRef {ctx : Ctx} {i : Nat} {o : Oper} {T : Nat} {p x : Operand} {b : Bool} (hE : TabOk P E.tab) (hr : E.tab.ref T = some b) (ho : o.op = .store T p x) : Sound E P ctx i o := by
  intro Z N w0 Ow S D g G a w F n f next Qp h hg hp ht hfr hdst hF hS0 hn
  simp only [plan, ho, hr, storeRefQ] at hp
  split at hp
  case h_2 => simp [Q.run] at hp
  rename_i hd
  split at hp
  case isFalse => simp [Q.run] at hp
  simp only [Q.run_bind, Option.bind_eq_some_iff] at hp
  obtain ⟨pv, hpv, hp⟩ := hp
  split at hp
  case h_2 => simp [Q.run] at hp
  rename_i b0 o0
  simp only [Q.run_bind, Option.bind_eq_some_iff] at hp
  obtain ⟨v, hv, hp⟩ := hp
  split at hp
  case isFalse => simp [Q.run] at hp
  rename_i href
  simp only [Q.run] at hp
  split at hp
  case isFalse => simp [Q.run] at hp
  rename_i hold
  simp only [Q.run, Option.some.injEq] at hp
  subst hp
  have hP := rd_told h hg hpv
  have hT := rd_told h hg hv
  have hval := hT.r (.box 0) (by intro e t xs s e'; subst e'; cases href)
  obtain ⟨e0, n0, gb0, h1, h2, h3⟩ := hP.r (.box 0) (by simp)
  have hold' : refAV (g (.cell b0 o0)) = true ∨ g (.cell b0 o0) = .junk := by
    simp only [Bool.or_eq_true] at hold
    rcases hold with hq | hq
    · exact .inl hq
    · right
      generalize g (.cell b0 o0) = c at hq
      cases c <;> first | rfl | cases hq
  have hnd : g (.cell b0 o0) ≠ .dead := fun e => by rw [e] at hold'; rcases hold' with hq | hq <;> cases hq
  obtain ⟨e1, n1, gb, cur, k1, k2, k3, k4⟩ := h.cells b0 o0 hnd
  rw [h2] at k2; cases k2
  have hin : o0 < cur.size := by
    generalize hc : g (.cell b0 o0) = c at k4 hold'
    cases c <;> first | exact k4.1 | (rcases hold' with hq | hq <;> cases hq; done)
  obtain ⟨hc1, hc2⟩ := cells_ref href hval
  obtain ⟨w', s1, s2, s3⟩ := store_cells (P := P) gb0 e1 o0 (0, 0) [a.eval x] 0 cur w k3 (.inl rfl) (by simp; omega) (by simp [hc2])
  have hcur' : (([a.eval x].zipIdx 0).foldl (fun (cs : Array Value) (q : Value × Nat) => cs.setIfInBounds (o0 + q.2) q.1) cur) = cur.setIfInBounds o0 (a.eval x) := by simp
  rw [hcur'] at s2
  have hsize1 : (g (.cell b0 o0)).size = 1 := ref_size hold'
  obtain ⟨G2, r1, r2, r3⟩ := h.storeBox (cur' := cur.setIfInBounds o0 (a.eval x)) k1 h2 k3 s3 s2 (by simp) (fun k => k = o0) (g2 := g.upd (.cell b0 o0) .dead) (fun l hl => Mem.upd_ne g _ (fun e => hl o0 rfl e.symm)) (fun k hk => by subst hk; exact ⟨hnd, .inl (Mem.upd_same _ _ _)⟩) (fun j hj => by
    have := hj o0 rfl
    rw [hsize1] at this
    rw [Array.getElem?_setIfInBounds]
    split
    · omega
    · rfl)
  have hG2 : ∀ b, G2 (.box b) = G (.box b) := fun b => r3 _ (by simp)
  have k5 := r1.tellCell (b := b0) (o := o0) (e := e1) (n := n1) (gb := gb0) (v := v) (by rw [Mem.upd_ne _ _ (by simp)]; exact k1) (by rw [hG2]; exact h2) s2 (Mem.upd_same _ _ _) (by simpa using hin) (.inl href) (by
    have : (cur.setIfInBounds o0 (a.eval x)).getD o0 undef = a.eval x := by simp [Array.getD_eq_getD_getElem?, hin]
    rw [this]
    exact ref_any (.inl href) (fun b e n hb => ⟨by rw [Mem.upd_ne _ _ (by simp)]; exact hb, hG2 b⟩) hval) (fun o' hne ho' => by
      have hl : Loc.cell b0 o' ≠ .cell b0 o0 := fun e => by cases e; exact ho' rfl
      rw [Mem.upd_ne _ _ (Ne.symm hl)] at hne ⊢
      have := h.apart b0 o' o0 hne hnd ho'
      rw [hsize1] at this
      exact this)
  have hrun : (Instr.storeAt T (a.eval p) (a.eval x)).run P w = .ok () w' := by
    obtain ⟨hi, _⟩ := hE.ref T b hr
    cases hinf : P.info? T with
    | none => rw [hinf] at hi; cases hi
    | some inf =>
      rw [hinf] at hi
      simp only [Option.map_some, Option.some.injEq, Prod.mk.injEq] at hi
      have hs : (sizeOf T).run P w = .ok 1 w := by rw [run_sizeOf w hinf]; simp [Program.cellsOf, hinf, hi.2]
      rw [h3]
      simp only [Instr.storeAt, Instr.sureAddr, storeVar, Sem.run_bind, Sem.run_pure, Result.andThen_ok, hs, hc1]
      simpa using s1
  refine wpIn_skip' hF (by rw [ho]; simp) (w' := w') ?_ (by
    rw [hd]
    exact hn _ _ _ _ (fun l => by
      simp only [Mem.sets, Mem.upd]
      cases hl : (Loc.cell b0 o0).eq l <;> rfl) (k5.more (fun _ hs => .inl hs) (fun _ hd => hd) k5.dbool))
  simp only [execOp, ho, Sem.run_bind, hrun, Result.andThen_ok, Sem.run_pure]
theorem sound_box' {ctx : Ctx} {i : Nat} {o : Oper} {T : Nat} {x : Operand} (hE : TabOk P E.tab) (ho : o.op = .box T x) : Sound E P ctx i o := by
  cases hr : E.tab.ref T with
  | none => exact sound_box hE hr ho
  | some b => exact sound_boxRef hr ho
theorem sound_load' {ctx : Ctx} {i : Nat} {o : Oper} {T : Nat} {x : Operand} (hE : TabOk P E.tab) (ho : o.op = .load T x) : Sound E P ctx i o := by
  cases hr : E.tab.ref T with
  | none => exact sound_load hE hr ho
  | some b => exact sound_loadRef hE hr ho
theorem sound_store' {ctx : Ctx} {i : Nat} {o : Oper} {T : Nat} {p x : Operand} (hE : TabOk P E.tab) (ho : o.op = .store T p x) : Sound E P ctx i o := by
  cases hr : E.tab.ref T with
  | none => exact sound_store hE hr ho
  | some b => exact sound_storeRef hE hr ho
end
end Go.Ev

namespace Go.Ev
open Go.RowKit
section
variable {Z : ZS} {E : Env} {N : Nat} {w0 : World} {Ow : OwS} {S S' D D' : Nat → Prop} {g g' : Mem} {G G' : Ghost} {a a' : Act} {w w' : World} {P : Program} {F : Fence} {n : Nat}
theorem rows_u8 {Pr : Nat → Prop} {w : World} : ∀ (xs : List Int), Rows (RV Pr w (.int .u8)) xs (xs.map (Value.int .u8))
  | [] => .nil
  | x :: xs => .cons (c := [Value.int .u8 x]) rfl (rows_u8 xs)
/-- The new second cell: a row of bytes, with its own block; or nothing is told of it. -/
def NewBuf (S : Nat → Prop) (w : World) (e st : Nat) (v : Value) (ob : Option Nat) (a1 : AV) : Prop :=
  (∃ ys : List Int, a1 = .own e (.int .u8) ys st ∧ ¬ S st ∧ ownsQ w e 1 v ys.length (ys.map (Value.int .u8)) ∧ v.ownBlock = ob) ∨ (a1 = .junk ∧ ob = none)
theorem Rel.setBuf (h : Rel Z E N w0 Ow S D g G a w) {b T gb e st : Nat} {cur' : Array Value} {a1 : AV} {ob : Option Nat} {p : Bool} (hbx : g (.box b) = .bx T 2) (hgb : G (.box b) = some gb) (hw' : w'.heap[gb]? = some (.cells cur' T (0, 0))) (hsz : cur'.size = 2)
    (h0 : refAV (g (.cell b 0)) = true ∨ g (.cell b 0) = .dead) (hoth : ∀ o, 2 ≤ o → g (.cell b o) = .dead)
    (hos : w'.os = w.os) (htape : w'.tape = w.tape) (hout : w'.output = w.output) (hsize : w.heap.size ≤ w'.heap.size)
    (hblk : ∀ k, k < w.heap.size → k ≠ gb → G (.cell b 1) ≠ some k → w'.heap[k]? = w.heap[k]?)
    (hp1 : p = true → cur'.getD 0 undef = .pointer (some ⟨gb, 0, none⟩)) (hp0 : p = false → cur'.getD 0 undef = .pointer none)
    (hnb : NewBuf S w' e st (cur'.getD 1 undef) ob a1) (hob : ∀ k, ob = some k → (G (.cell b 1) = some k ∨ w.heap.size ≤ k) ∧ k < w'.heap.size ∧ k ≠ gb) :
    ∃ G2, Rel Z E N w0 Ow (fun m => S m ∨ m = st) D ((g.upd (.cell b 0) (.mptr b 0 p)).upd (.cell b 1) a1) G2 a w' := by
  obtain ⟨g2, hg2⟩ : ∃ g2, g2 = (g.upd (.cell b 0) (.mptr b 0 p)).upd (.cell b 1) a1 := ⟨_, rfl⟩
  rw [← hg2]
  have hc1 : g2 (.cell b 1) = a1 := by rw [hg2, Mem.upd_same]
  have hc0 : g2 (.cell b 0) = .mptr b 0 p := by rw [hg2, Mem.upd_ne _ _ (by simp), Mem.upd_same]
  have hne : ∀ l, l ≠ .cell b 0 → l ≠ .cell b 1 → g2 l = g l := fun l h1 h2 => by rw [hg2, Mem.upd_ne _ _ (Ne.symm h2), Mem.upd_ne _ _ (Ne.symm h1)]
  have hco : ∀ o, 2 ≤ o → g2 (.cell b o) = .dead := fun o ho => by rw [hne _ (by simp; omega) (by simp; omega)]; exact hoth o ho
  let G2 : Ghost := fun l => if l = .cell b 1 then ob else G l
  have hG1 : G2 (.cell b 1) = ob := by simp [G2]
  have hGn : ∀ l, l ≠ .cell b 1 → G2 l = G l := fun l hl => by simp [G2, hl]
  let Ch : Loc → Prop := fun l => l = .box b ∨ ∃ o, l = .cell b o
  have hCh : ∀ l, ¬ Ch l → l ≠ .cell b 0 ∧ l ≠ .cell b 1 ∧ l ≠ .box b := fun l hl => ⟨fun e => hl (.inr ⟨0, e⟩), fun e => hl (.inr ⟨1, e⟩), fun e => hl (.inl e)⟩
  have hG0 : G (.cell b 0) = none := by
    cases hq : G (.cell b 0) with
    | none => rfl
    | some k =>
      rcases h.gone _ k hq with ⟨_, _, _, _, q1⟩ | ⟨_, _, q1⟩ <;> rw [q1] at h0 <;> rcases h0 with h0 | h0 <;> cases h0
  have hother : ∀ l k, l ≠ .box b → l ≠ .cell b 1 → G l = some k → k < w.heap.size ∧ k ≠ gb ∧ G (.cell b 1) ≠ some k := fun l k h1 h2 hk =>
    ⟨(h.bnd l k hk).1, fun e => h1 (h.inj l (.box b) k hk (by rw [e]; exact hgb)), fun e => h2 (h.inj l (.cell b 1) k hk e)⟩
  have hrv : ∀ b' o, b' ≠ b → (∃ e' m, g (.box b') = .bx e' m) ∨ True → rootVal G2 a w' (.cell b' o) = rootVal G a w (.cell b' o) := fun b' o hb' _ => by
    simp only [rootVal, hGn (.box b') (by simp)]
    cases hgb' : G (.box b') with
    | none => rfl
    | some k =>
      obtain ⟨q1, q2, q3⟩ := hother (.box b') k (by simpa using hb') (by simp) hgb'
      simp only [World.cell?_of_block (w := w) (w' := w') (a := ⟨k, o, none⟩) (hblk k q1 q2 q3)]
  refine ⟨G2, h.change Ch (fun l hl => hne l (hCh l hl).1 (hCh l hl).2.1) (fun l hl => hGn l (hCh l hl).2.1) h.defers h.tmps hos htape hout hsize ?_ ?_ ?_ ?_ ?_ ?_ (fun _ hs => .inl hs) (fun _ _ => rfl) ?_ ?_ ?_ ?_ ?_ ?_ ?_ ?_ ?_ ?_ ?_ ?_⟩
  · intro k h1 h2
    refine hblk k (Nat.lt_of_lt_of_le h1 h.size) (fun e' => ?_) (fun e' => ?_)
    · subst e'
      rcases (h.bnd _ _ hgb).2 with h3 | h3
      · exact h2 h3
      · omega
    · rcases (h.bnd _ _ e').2 with h3 | h3
      · exact h2 h3
      · omega
  · intro k hf
    refine ⟨⟨Nat.lt_of_lt_of_le hf.1 hsize, fun l e' => ?_, hf.3⟩, hblk k hf.1 (fun e' => hf.2 (.box b) (by rw [e']; exact hgb)) (hf.2 _)⟩
    by_cases hl : l = .cell b 1
    · rw [hl, hG1] at e'
      rcases (hob k e').1 with h3 | h3
      · exact hf.2 _ h3
      · have := hf.1; omega
    · rw [hGn l hl] at e'; exact hf.2 l e'
  · intro l hl k hk
    obtain ⟨q1, q2, q3⟩ := hother l k (hCh l hl).2.2 (hCh l hl).2.1 hk
    exact hblk k q1 q2 q3
  · intro l s hs hr
    cases l with
    | slot m => exact ⟨fun e' t' xs' hx => ⟨xs', by rw [hne _ (by simp) (by simp)] at hx; exact hx, rfl, rfl, hGn _ (by simp)⟩, fun b' o' m' t' xs' he' => by cases he'⟩
    | comp m i => exact hr.elim
    | box m => exact hr.elim
    | cell b' o =>
      by_cases hb' : b' = b
      · subst hb'
        match o with
        | 0 => exact ⟨fun e' t' xs' hx => (by rw [hc0] at hx; cases hx), fun b1 o' m' t' xs' _ hx _ => by rw [hc0] at hx; cases hx⟩
        | 1 =>
          refine ⟨fun e' t' xs' hx => ?_, fun b1 o' m' t' xs' _ hx _ => ?_⟩
          · rw [hc1] at hx
            rcases hnb with ⟨ys, q1, q2, _⟩ | ⟨q1, _⟩
            · rw [q1] at hx; cases hx; exact absurd hs q2
            · rw [q1] at hx; cases hx
          · rw [hc1] at hx
            rcases hnb with ⟨ys, q1, q2, _⟩ | ⟨q1, _⟩ <;> rw [q1] at hx <;> cases hx
        | o + 2 => exact ⟨fun e' t' xs' hx => (by rw [hco _ (by omega)] at hx; cases hx), fun b1 o' m' t' xs' _ hx _ => by rw [hco _ (by omega)] at hx; cases hx⟩
      · have hne' := hne (.cell b' o) (by simp [hb']) (by simp [hb'])
        exact ⟨fun e' t' xs' hx => ⟨xs', by rw [hne'] at hx; exact hx, rfl, hrv b' o hb' (.inr trivial), hGn _ (by simp [hb'])⟩, fun b1 o' m' t' xs' _ hx _ => ⟨xs', by rw [hne'] at hx; exact hx⟩⟩
  · intro b' e' m hb'
    refine ⟨by rw [hne _ (by simp) (by simp)]; exact hb', hGn _ (by simp), fun k hk => ?_⟩
    by_cases hbb : b' = b
    · subst hbb; exact .inl ⟨.inl rfl, fun o => .inr ⟨o, rfl⟩⟩
    · obtain ⟨q1, q2, q3⟩ := hother (.box b') k (by simpa using hbb) (by simp) hk
      exact .inr (hblk k q1 q2 q3)
  · intro k _; exact hne _ (by simp) (by simp)
  · intro m hc; rcases hc with hc | ⟨_, hc⟩ <;> cases hc
  · intro m k i _ _ hc; rcases hc with (hc | ⟨_, hc⟩) | (hc | ⟨_, hc⟩) <;> cases hc
  · intro b' e' m hc hb'
    rcases hc with hc | ⟨_, hc⟩ <;> cases hc
    rw [hne _ (by simp) (by simp), hbx] at hb'
    cases hb'
    exact ⟨gb, cur', by rw [hGn _ (by simp)]; exact hgb, hw', hsz⟩
  · intro b' o hc hdead
    rcases hc with hc | ⟨o', hc⟩ <;> cases hc
    refine ⟨T, 2, gb, cur', by rw [hne _ (by simp) (by simp)]; exact hbx, by rw [hGn _ (by simp)]; exact hgb, hw', ?_⟩
    match o with
    | 0 =>
      rw [hc0]
      refine ⟨by omega, fun hp => ⟨T, 2, gb, by rw [hne _ (by simp) (by simp)]; exact hbx, by rw [hGn _ (by simp)]; exact hgb, hp1 hp⟩, hp0⟩
    | 1 =>
      rw [hc1]
      rcases hnb with ⟨ys, q1, q2, q3, q4⟩ | ⟨q1, _⟩
      · rw [q1]
        refine ⟨by omega, ?_⟩
        show OwnR _ _ (G2 (.cell b 1)) _ _ _ _
        rw [hG1]
        exact ⟨by simp [Ty.sz], _, rows_u8 ys, by simpa [Ty.sz] using q3, q4⟩
      · rw [q1]; exact ⟨by omega, trivial⟩
    | o + 2 => rw [hco _ (by omega)] at hdead; exact absurd rfl hdead
  · intro b' o o' hc h1 h2 hoo
    have hs1 : (g2 (.cell b 1)).size = 1 := by
      rw [hc1]; rcases hnb with ⟨ys, q1, _⟩ | ⟨q1, _⟩ <;> rw [q1] <;> rfl
    have hs0 : (g2 (.cell b 0)).size = 1 := by rw [hc0]; rfl
    have hbb : b' = b := by rcases hc with (hc | ⟨_, hc⟩) | (hc | ⟨_, hc⟩) <;> cases hc <;> rfl
    subst hbb
    match o, o' with
    | 0, 0 => exact absurd rfl hoo
    | 0, 1 => rw [hs0]; omega
    | 1, 0 => rw [hs1]; omega
    | 1, 1 => exact absurd rfl hoo
    | o + 2, _ => exact absurd (hco _ (by omega)) h1
    | 0, o' + 2 => exact absurd (hco _ (by omega)) h2
    | 1, o' + 2 => exact absurd (hco _ (by omega)) h2
  · intro b' hc
    rcases hc with hc | ⟨_, hc⟩ <;> cases hc
    exact .inr ⟨T, 2, by rw [hne _ (by simp) (by simp)]; exact hbx⟩
  · intro l hc
    rcases hc with rfl | ⟨o, rfl⟩
    · rw [hne _ (by simp) (by simp), hbx]; trivial
    · match o with
      | 0 => rw [hc0]; trivial
      | 1 =>
        rw [hc1]
        rcases hnb with ⟨ys, q1, _⟩ | ⟨q1, _⟩ <;> rw [q1]
        · exact .inr rfl
        · trivial
      | o + 2 => rw [hco _ (by omega)]; trivial
  · intro l c v hc hv
    rcases hc with rfl | ⟨o, rfl⟩
    · rw [hne _ (by simp) (by simp), hbx] at hv; cases hv
    · match o with
      | 0 => rw [hc0] at hv; cases hv
      | 1 => rw [hc1] at hv; rcases hnb with ⟨ys, q1, _⟩ | ⟨q1, _⟩ <;> rw [q1] at hv <;> cases hv
      | o + 2 => rw [hco _ (by omega)] at hv; cases hv
  · intro l k hc hk
    by_cases hl : l = .cell b 1
    · rw [hl, hG1] at hk
      obtain ⟨q1, q2, _⟩ := hob k hk
      refine ⟨q2, ?_⟩
      rcases q1 with q1 | q1
      · exact (h.bnd _ _ q1).2
      · have := h.size; right; omega
    · rw [hGn l hl] at hk
      have := h.bnd l k hk
      exact ⟨by omega, this.2⟩
  · intro l k hc hk
    by_cases hl : l = .cell b 1
    · rw [hl, hG1] at hk
      rw [hl, hc1]
      rcases hnb with ⟨ys, q1, _⟩ | ⟨_, q1⟩
      · exact .inl ⟨_, _, _, _, q1⟩
      · rw [q1] at hk; cases hk
    · rw [hGn l hl] at hk
      by_cases hl0 : l = .cell b 0
      · rw [hl0, hG0] at hk; cases hk
      · rw [hne l hl0 hl]
        exact h.gone l k hk
  · intro l l' k hc h1 h2
    by_cases hl : l = .cell b 1
    · by_cases hl' : l' = .cell b 1
      · rw [hl, hl']
      · rw [hl, hG1] at h1
        rw [hGn l' hl'] at h2
        rcases (hob k h1).1 with q1 | q1
        · exact absurd (h.inj l' (.cell b 1) k h2 q1) hl'
        · have := (h.bnd l' k h2).1; omega
    · rw [hGn l hl] at h1
      by_cases hl' : l' = .cell b 1
      · rw [hl', hG1] at h2
        rcases (hob k h2).1 with q1 | q1
        · exact absurd (h.inj l (.cell b 1) k h1 q1) hl
        · have := (h.bnd l k h1).1; omega
      · rw [hGn l' hl'] at h2
        exact h.inj l l' k h1 h2
  · intro b1 gb1 hc hd _ _
    rcases hc with hc | ⟨_, hc⟩ <;> cases hc
    rw [hbx] at hd; cases hd
end
end Go.Ev

namespace Go.Ev
open Go.RowKit

/-- The arguments read as data. -/
def ArgsR (Pr : Nat → Prop) (w : World) : List Dat → List Value → Prop
  | [], [] => True
  | d :: ds, v :: vs => (∃ cs, RV Pr w d.t d.x cs ∧ v = valOf d.t cs) ∧ ArgsR Pr w ds vs
  | _, _ => False
/-- The package's variables hold what is said of them. -/
def GlobR (glob : Nat → Option Dat) (Pr : Nat → Prop) (w : World) : Prop :=
  ∀ k d, glob k = some d → ∃ cs, RV Pr w d.t d.x cs ∧ (cs ≠ [] → Pr k) ∧ Whole w k cs
/-- Blocks that results may lie in. -/
def resFree (Pr : Nat → Prop) (B : Nat) (w : World) (vs : List Value) (ks : List RK) (b : Nat) : Prop :=
  (Pr b ∨ (B ≤ b ∧ b < w.heap.size)) ∧ ∀ (i : Nat) e t, ks[i]? = some (.own e t) → (vs.getD i undef).ownBlock ≠ some b
def ResR (Pr : Nat → Prop) (B : Nat) (w : World) (d : Dat) (v : Value) : RK → Prop
  | .dat t => ∃ cs, RV Pr w t (d.as t) cs ∧ v = valOf t cs
  | .own e t => OwnR Pr w v.ownBlock e t (d.as (.list t)) v ∧ ∀ b, v.ownBlock = some b → B ≤ b ∧ b < w.heap.size
structure ResOK (Pr : Nat → Prop) (B : Nat) (w : World) (ks : List RK) (ds : List Dat) (vs : List Value) : Prop where
  len : vs.length = ks.length
  r : ∀ (i : Nat) k, ks[i]? = some k → ResR (resFree Pr B w vs ks) B w (ds.getD i ⟨.unit, ()⟩) (vs.getD i undef) k
  apart : ∀ (i j : Nat) e t e' t' b, ks[i]? = some (.own e t) → ks[j]? = some (.own e' t') → (vs.getD i undef).ownBlock = some b → (vs.getD j undef).ownBlock = some b → i = j
def retVal : List Value → Value
  | [v] => v
  | vs => .tuple vs.toArray
/-- **What is said of a function.** -/
structure Meets (P : Program) (glob : Nat → Option Dat) (f : Nat) (S : Spec) : Prop where
  enter : ∀ args w, (callFunc f args).run P w = .ok (.enter f args) w
  calls : ∀ (w : World) (Pr : Nat → Prop) (ds : List Dat) (args : List Value), (∀ b, Pr b → b < w.heap.size) → GlobR glob Pr w → ds.map (·.t) = S.params → ArgsR Pr w ds args → S.pre ds = true →
    Calls P f args.toArray w fun e w' => ∃ vs, e = .returned (retVal vs) ∧ w.grownBy w' none ∧ ResOK Pr w.heap.size w' S.results (S.val ds) vs
/-- An environment that tells of the package's variables alone. -/
def globE (glob : Nat → Option Dat) : Env := { tab := ⟨fun _ => none, fun _ => none, fun _ => false, fun _ => [], fun _ => none⟩, spec := fun _ => none, glob := glob }
/-- **What is said of a function that is handed boxes.** -/
structure Meets2 (P : Program) (glob : Nat → Option Dat) (f : Nat) (S : Spec2) : Prop where
  enter : ∀ args w, (callFunc f args).run P w = .ok (.enter f args) w
  calls : ∀ (Z : ZS) (w : World) (Ow : OwS) (G : Ghost) (args : List Value) (s : Tup S.pin) (o : Tup S.pout), S.f s = some o → Ow.dl = [] → (∀ b gb, Ow.pin b = some gb → 50000 ≤ b) → args.length = nres S.pin →
    Rel Z (globE glob) args.length w Ow (fun n => n = 0) (fun _ => False) (St.get (mkSt S.pin s)) G { tmps := args.toArray, defers := [] } w →
    Calls P f args.toArray w fun e w' => ∃ vs G', e = .returned (retVal vs) ∧ vs.length = nres S.pout ∧ Rel Z (globE glob) vs.length w Ow (fun n => n = 0) (fun _ => False) (St.get (mkSt S.pout o)) G' { tmps := vs.toArray, defers := [] } w'
/-- **What is said of a function that changes a slice in place**; its other arguments are plain functions. -/
structure MeetsIn (P : Program) (f : Nat) (fs : List Nat) (I : InSpec) : Prop where
  enter : ∀ args w, (callFunc f args).run P w = .ok (.enter f args) w
  len : ∀ xs ys, I.g xs = some ys → ys.length = xs.length
  calls : ∀ (w : World) (Pr : Nat → Prop) (v : Value) (xs ys : List I.t.den), (∀ b, Pr b → b < w.heap.size ∧ v.ownBlock ≠ some b) → OwnR Pr w v.ownBlock I.e I.t xs v → I.g xs = some ys →
    Calls P f (v :: fs.map fun f => Value.func (.func f) #[] #[]).toArray w fun e w' => e = .returned (.tuple #[]) ∧ w.grownBy w' v.ownBlock ∧ OwnR Pr w' v.ownBlock I.e I.t ys v
/-- **What is said of WriteString**, at a builder of which the machine knows all. -/
structure MeetsBW (P : Program) (f T e : Nat) : Prop where
  enter : ∀ args w, (callFunc f args).run P w = .ok (.enter f args) w
  calls : ∀ (w : World) (gb : Nat) (p v : Value) (xs : List Int) (s : List UInt8), w.heap[gb]? = some (.cells #[p, v] T (0, 0)) → (p = .pointer none ∨ p = .pointer (some ⟨gb, 0, none⟩)) →
    ownsQ w e 1 v xs.length (xs.map (Value.int .u8)) → v.ownBlock ≠ some gb → xs.length + s.length ≤ 140737488355328 →
    Calls P f #[.pointer (some ⟨gb, 0, none⟩), .string (strOf s)] w fun en w' => (∃ r, en = .returned r) ∧ ∃ v', w'.heap[gb]? = some (.cells #[.pointer (some ⟨gb, 0, none⟩), v'] T (0, 0)) ∧
      ownsQ w' e 1 v' (xs ++ s.map fun b => (b.toNat : Int)).length ((xs ++ s.map fun b => (b.toNat : Int)).map (Value.int .u8)) ∧
      (∀ k, v'.ownBlock = some k → (v.ownBlock = some k ∨ w.heap.size ≤ k) ∧ k < w'.heap.size ∧ k ≠ gb) ∧ w'.os = w.os ∧ w'.tape = w.tape ∧ w'.output = w.output ∧ w.heap.size ≤ w'.heap.size ∧
      ∀ k, k < w.heap.size → k ≠ gb → v.ownBlock ≠ some k → w'.heap[k]? = w.heap[k]?
/-- **What is said of String.** -/
structure MeetsBS (P : Program) (f T e : Nat) : Prop where
  enter : ∀ args w, (callFunc f args).run P w = .ok (.enter f args) w
  calls : ∀ (w : World) (gb : Nat) (p v : Value) (l : List UInt8), w.heap[gb]? = some (.cells #[p, v] T (0, 0)) → (p = .pointer none ∨ p = .pointer (some ⟨gb, 0, none⟩)) →
    ownsQ w e 1 v l.length (Lib.byteCells l) → v.ownBlock ≠ some gb →
    Calls P f #[.pointer (some ⟨gb, 0, none⟩)] w fun en w' => en = .returned (.string (strOf l)) ∧ w.grownBy w' v.ownBlock
/-- What is given of builders. -/
structure BldOk (P : Program) (tt : Nat → Option Nat) (ff : Nat → Option (Bool × Nat × Nat)) : Prop where
  ty : ∀ T e, tt T = some e → (P.info? T).map (fun i => i.zero.map Value.cells) = some (some #[.pointer none, .slice none 0 0])
  wr : ∀ f T e, ff f = some (true, T, e) → MeetsBW P f T e
  st : ∀ f T e, ff f = some (false, T, e) → MeetsBS P f T e
structure EnvOk (P : Program) (E : Env) : Prop where
  tab : TabOk P E.tab
  spec : ∀ f S, E.spec f = some S → Meets P E.glob f S
  spec2 : ∀ f l S, E.spec2 f l = some S → Meets2 P E.glob f S
  inpl : ∀ f fs I, E.inpl f = some (fs, I) → MeetsIn P f fs I
  bld : BldOk P E.bldT E.bld

section
variable {Z : ZS} {E : Env} {N : Nat} {w0 : World} {Ow : OwS} {S S' D D' : Nat → Prop} {g g' : Mem} {G G' : Ghost} {a a' : Act} {w w' : World} {P : Program} {F : Fence} {n : Nat}

theorem args_ws (h : Rel Z E N w0 Ow S D g G a w) {ctx : Ctx} (hg : (gcond ctx).run g = some true) {frz : Bool} : ∀ {ts : List Ty} {os : List Operand} {Ts : List Nat} {r : List Dat × List (Loc × AV)}, (argsQ E ctx frz ts os Ts).run g = some r → ∀ p ∈ r.2, isFrz g p
  | [], [], _, r, hr => by simp [argsQ, Q.run] at hr; subst hr; simp
  | [], _ :: _, _, r, hr => by simp [argsQ, Q.run] at hr
  | _ :: _, [], _, r, hr => by simp [argsQ, Q.run] at hr
  | t :: ts, o :: os, Ts, r, hr => by
    simp only [argsQ, Q.run_bind, Option.bind_eq_some_iff] at hr
    obtain ⟨v, hv, dw, hd, hr⟩ := hr
    split at hr
    · simp only [Q.run_bind, Option.bind_eq_some_iff] at hr
      obtain ⟨r2, hr2, hr⟩ := hr
      simp only [Q.run, Option.some.injEq] at hr
      subst hr
      intro p hp
      rcases List.mem_append.1 hp with hp | hp
      · cases frz
        · simp at hp
        · exact toDatAs_ws h (rd_told h hg hv) hd p hp
      · exact args_ws h hg hr2 p hp
    · simp [Q.run] at hr

theorem args_val (h : Rel Z E N w0 Ow S D g G a w) {ctx : Ctx} (hg : (gcond ctx).run g = some true) {frz : Bool} {Pr : Nat → Prop} (hPr : ∀ b, free Z G w b → Pr b) (hall : frz = false → ∀ l b, G l = some b → Pr b) :
    ∀ {ts : List Ty} {os : List Operand} {Ts : List Nat} {r : List Dat × List (Loc × AV)}, (argsQ E ctx frz ts os Ts).run g = some r → (∀ p ∈ r.2, ∀ b, G p.1 = some b → Pr b) → ArgsR Pr w r.1 (os.map a.eval) ∧ r.1.map (·.t) = ts
  | [], [], _, r, hr, _ => by simp [argsQ, Q.run] at hr; subst hr; exact ⟨trivial, rfl⟩
  | [], _ :: _, _, r, hr, _ => by simp [argsQ, Q.run] at hr
  | _ :: _, [], _, r, hr, _ => by simp [argsQ, Q.run] at hr
  | t :: ts, o :: os, Ts, r, hr, hw => by
    simp only [argsQ, Q.run_bind, Option.bind_eq_some_iff] at hr
    obtain ⟨v, hv, dw, hd, hr⟩ := hr
    split at hr
    · rename_i htt
      simp only [Q.run_bind, Option.bind_eq_some_iff] at hr
      obtain ⟨r2, hr2, hr⟩ := hr
      simp only [Q.run, Option.some.injEq] at hr
      subst hr
      obtain ⟨h1, h2⟩ := args_val h hg hPr hall hr2 (fun p hp => hw p (by simp [hp]))
      refine ⟨⟨toDatAs_val h (rd_told h hg hv) hd hPr (fun p hp b hb => ?_), h1⟩, by simp [htt, h2]⟩
      cases frz
      · exact hall rfl _ b hb
      · exact hw p (by simp [hp]) b hb
    · simp [Q.run] at hr

theorem Rel.globs' (h : Rel Z E N w0 Ow S D g G a w) {Pr : Nat → Prop} (hPr : ∀ b, free Z G w b → Pr b) : GlobR E.glob Pr w := fun k d hk => by
  obtain ⟨cs, h1, h2, h3⟩ := h.globs k d hk
  exact ⟨cs, h1.keep (fun _ _ => rfl) hPr, fun hne => hPr _ (h2 hne), h3⟩

theorem OwnR.mono {Pr Pr' : Nat → Prop} {gb : Option Nat} {e : Nat} {t : Ty} {xs : List t.den} {v : Value} (h : OwnR Pr w gb e t xs v) (hp : ∀ b, Pr b → Pr' b) : OwnR Pr' w gb e t xs v := by
  obtain ⟨h0, cells, hr, ho, hb⟩ := h
  exact ⟨h0, cells, hr.imp fun _ _ hc => hc.keep (fun _ _ => rfl) hp, ho, hb⟩
theorem OwnR.flat_any {Pr Pr' : Nat → Prop} {gb : Option Nat} {e : Nat} {t : Ty} {xs : List t.den} {v : Value} (hf : t.flat = true) (h : OwnR Pr w gb e t xs v) : OwnR Pr' w gb e t xs v := by
  obtain ⟨h0, cells, hr, ho, hb⟩ := h
  exact ⟨h0, cells, hr.imp fun _ _ hc => hc.flat_any hf, ho, hb⟩

theorem callQ_results (d i : Nat) (g0 : Bool) : ∀ (ks : List RK) (ds : List Dat) (j : Nat) (m : Mem) (l : Loc), m.sets (resultsW d i g0 j ks ds) l = match l with
    | .comp n q => if n = d ∧ j ≤ q ∧ q < j + ks.length then ((ks.getD (q - j) (.dat .unit)).av i g0 (ds.getD (q - j) ⟨.unit, ()⟩)) else m l
    | l => m l
  | [], ds, j, m, l => by
    cases l <;> simp [resultsW, Mem.sets]
    intros; omega
  | k :: ks, ds, j, m, l => by
    simp only [resultsW, Mem.sets_cons]
    rw [callQ_results d i g0 ks ds.tail (j + 1)]
    cases l with
    | comp n q =>
      simp only [Mem.upd_apply, Loc.comp.injEq, List.length_cons]
      by_cases hn : n = d
      · subst hn
        by_cases hq : q = j
        · subst hq
          have e0 : ¬ (q + 1 ≤ q ∧ q < q + 1 + ks.length) := by omega
          simp [e0]
          cases ds <;> rfl
        · by_cases h1 : j + 1 ≤ q ∧ q < j + 1 + ks.length
          · rw [if_pos ⟨rfl, h1⟩, if_pos ⟨rfl, by omega, by omega⟩]
            have e : q - j = (q - (j + 1)) + 1 := by omega
            rw [e]
            cases ds <;> simp
          · rw [if_neg (fun e => h1 e.2), if_neg (fun e => hq e.2), if_neg (fun e => h1 (by omega))]
      · simp [hn]
    | _ => simp [Mem.upd_apply]

/-- **A slot comes to hold a tuple of new values.** -/
theorem Rel.putTup (h : Rel Z E N w0 Ow S D g G a w) {d : Nat} (hd : d < N) (hD : ¬ D d) (hw : w.grownBy w' none) {m : Nat} {vs : List Value} (hm : vs.length = m) {st' : Nat} (hst' : ¬ S st') {R : Nat → AV} {Fr : Nat → Prop}
    (hFr : ∀ b, Fr b → (free Z G w b ∨ (w.heap.size ≤ b ∧ b < w'.heap.size)) ∧ ∀ i e t xs s, i < m → R i = .own e t xs s → (vs.getD i undef).ownBlock ≠ some b)
    (hR : ∀ i, i < m → (∃ t x, R i = .dat t x ∧ ∃ cs, RV Fr w' t x cs ∧ vs.getD i undef = valOf t cs) ∨
      (∃ e t xs, R i = .own e t xs st' ∧ OwnR Fr w' (vs.getD i undef).ownBlock e t xs (vs.getD i undef) ∧ ∀ b, (vs.getD i undef).ownBlock = some b → w.heap.size ≤ b ∧ b < w'.heap.size))
    (hap : ∀ i j b e t xs s e' t' xs' s', i < m → j < m → R i = .own e t xs s → R j = .own e' t' xs' s' → (vs.getD i undef).ownBlock = some b → (vs.getD j undef).ownBlock = some b → i = j)
    {g2 : Mem} (hg2 : ∀ l, g2 l = match l with
      | .comp n i => if n = d ∧ i < m then R i else g (.comp n i)
      | .slot n => if n = d then .tup m else g (.slot n)
      | l => g l) :
    ∃ G2, Rel Z E N w0 Ow (fun n => S n ∨ n = st') D g2 G2 (a.put (some d) (.tuple vs.toArray)) w' := by
  let own : Nat → Option Nat := fun i => match R i with
    | .own _ _ _ _ => (vs.getD i undef).ownBlock
    | _ => none
  let G2 : Ghost := fun l => match l with
    | .comp n i => if n = d then (if i < m then own i else none) else G (.comp n i)
    | .slot n => if n = d then none else G (.slot n)
    | l => G l
  have hown : ∀ i b, own i = some b → ∃ e t xs s, R i = .own e t xs s ∧ (vs.getD i undef).ownBlock = some b := fun i b hb => by
    simp only [own] at hb
    split at hb
    · exact ⟨_, _, _, _, by assumption, hb⟩
    · cases hb
  have hnewb : ∀ i b, i < m → own i = some b → w.heap.size ≤ b ∧ b < w'.heap.size := fun i b hi hb => by
    obtain ⟨e, t, xs, s, h1, h2⟩ := hown i b hb
    rcases hR i hi with ⟨t', x', h3, _⟩ | ⟨e', t', xs', h3, _, h4⟩
    · rw [h1] at h3; cases h3
    · exact h4 b h2
  have hGi : ∀ l b, G2 l = some b → (∃ i, i < m ∧ l = .comp d i ∧ own i = some b) ∨ ((∀ i, l ≠ .comp d i) ∧ l ≠ .slot d ∧ G l = some b) := fun l b hb => by
    cases l with
    | slot n =>
      simp only [G2] at hb
      split at hb
      · cases hb
      · rename_i hn; exact .inr ⟨by simp, by simp [hn], hb⟩
    | comp n i =>
      simp only [G2] at hb
      split at hb
      · rename_i hn
        split at hb
        · rename_i hi; exact .inl ⟨i, hi, by rw [hn], hb⟩
        · cases hb
      · rename_i hn; exact .inr ⟨by simp [hn], by simp, hb⟩
    | cell b' o => exact .inr ⟨by simp, by simp, hb⟩
    | box b' => exact .inr ⟨by simp, by simp, hb⟩
  have hblk : ∀ b, b < w.heap.size → w'.heap[b]? = w.heap[b]? := fun b hb => hw.block b hb (by simp)
  have hk : ∀ b, free Z G w b → free Z G2 w' b ∧ w'.heap[b]? = w.heap[b]? := fun b hf => by
    refine ⟨⟨Nat.lt_of_lt_of_le hf.1 hw.size, fun l e => ?_, hf.3⟩, hblk b hf.1⟩
    rcases hGi l b e with ⟨i, hi, _, h1⟩ | ⟨_, _, h1⟩
    · have := (hnewb i b hi h1).1; have := hf.1; omega
    · exact hf.2 l h1
  have hFr2 : ∀ b, Fr b → free Z G2 w' b := fun b hb => by
    obtain ⟨h1, h2⟩ := hFr b hb
    refine ⟨?_, fun l e => ?_, ?_⟩
    · rcases h1 with h1 | h1
      · exact Nat.lt_of_lt_of_le h1.1 hw.size
      · exact h1.2
    rotate_left
    · rcases h1 with h1 | h1
      · exact h1.3
      · exact h.zow b (.inr (Nat.le_trans h.size h1.1))
    · rcases hGi l b e with ⟨i, hi, _, h3⟩ | ⟨_, _, h3⟩
      · obtain ⟨e', t, xs, s, h4, h5⟩ := hown i b h3
        exact h2 i e' t xs s hi h4 h5
      · rcases h1 with h1 | h1
        · exact h1.2 l h3
        · have := (h.bnd l b h3).1; omega
  have hdval : (a.put (some d) (.tuple vs.toArray)).tmps.getD d undef = .tuple vs.toArray := put_tmps a d _ (by rw [h.tmps]; exact hd)
  refine ⟨G2, h.change (fun l => match l with | .slot n => n = d | .comp n i => n = d | _ => False) ?_ ?_ (by rw [put_defers]; exact h.defers) (by rw [put_size]; exact h.tmps) hw.os hw.tape hw.output hw.size
    (fun k hk' _ => hblk k (Nat.lt_of_lt_of_le hk' h.size)) hk (fun l _ b hl => hblk b (h.bnd l b hl).1) ?_
    (fun b e n hb => ⟨by rw [hg2]; exact hb, rfl, fun gb hgb => .inr (hblk gb (h.bnd _ gb hgb).1)⟩) ?_ (fun _ h => .inl h) ?_ ?_ ?_ ?_ ?_ ?_ ?_ ?_ ?_ ?_ ?_ ?_⟩
  · intro l hl
    rw [hg2]
    cases l with
    | slot n => simp only [] at hl; simp [hl]
    | comp n i => simp only [] at hl; simp [hl]
    | _ => rfl
  · intro l hl
    cases l with
    | slot n => simp only [] at hl; simp [G2, hl]
    | comp n i => simp only [] at hl; simp [G2, hl]
    | _ => rfl
  · intro l st _ hrt
    cases l with
    | slot n =>
      rw [RootKept, hg2]
      dsimp only
      by_cases hn : n = d
      · rw [if_pos hn]
        exact ⟨fun e1 t1 xs1 hx => (by cases hx), fun b1 o1 n t1 xs1 _ hx _ => (by cases hx)⟩
      · rw [if_neg hn]
        refine ⟨fun e1 t1 xs1 hx => ⟨xs1, hx, rfl, put_tmps_ne a _ (Ne.symm hn), by simp [G2, hn]⟩, fun b1 o1 n t1 xs1 hb => by cases hb⟩
    | comp n i => exact hrt.elim
    | box b => exact hrt.elim
    | cell b o =>
      rw [RootKept, hg2]
      dsimp only
      refine ⟨fun e1 t1 xs1 hx => ⟨xs1, hx, rfl, ?_, rfl⟩, fun b1 o1 n t1 xs1 _ hx _ => ⟨xs1, hx⟩⟩
      simp only [rootVal, G2]
      cases hgb : G (.box b) with
      | none => rfl
      | some gb => simp only [World.cell?_of_block (w := w) (w' := w') (a := ⟨gb, o, none⟩) (hblk gb (h.bnd _ gb hgb).1)]
  · intro k hk'
    rw [hg2]
    have h1 : k ≠ d := fun e => hD (e ▸ hk')
    simp [h1]
  · intro n hn
    exact put_tmps_ne a _ (fun e => hn e.symm)
  · intro n hn
    have : n = d := hn
    subst this
    rw [hg2, hdval]
    simp only [if_true]
    exact ⟨vs.toArray, rfl, by simpa using hm⟩
  · intro n k i hn hi hch
    have hnd : n = d := by rcases hch with e | e <;> exact e
    subst hnd
    rw [hg2] at hn ⊢
    simp only [if_true] at hn
    cases hn
    simp only [hi, and_self, if_true]
    rw [hdval]
    have hv : compOf (.tuple vs.toArray) i = vs.getD i undef := by simp [compOf, Array.getD_eq_getD_getElem?, List.getD_eq_getElem?_getD]
    rw [hv]
    rcases hR i hi with ⟨t, x, h1, cs, h2, h3⟩ | ⟨e, t, xs, h1, h2, h3⟩
    · rw [h1]
      exact ⟨cs, h2.keep (fun _ _ => rfl) hFr2, h3⟩
    · rw [h1]
      have : G2 (.comp n i) = (vs.getD i undef).ownBlock := by simp [G2, hi, own, h1]
      simp only [AVR, this]
      exact h2.mono hFr2
  · intro b e n hb; exact hb.elim
  · intro b o hb; exact hb.elim
  · intro b o o' hb; rcases hb with hb | hb <;> exact hb.elim
  · intro b hb; exact hb.elim
  · intro l hl
    rw [hg2]
    cases l with
    | slot n =>
      have : n = d := hl
      simp only [this, if_true]; trivial
    | comp n i =>
      have : n = d := hl
      subst this
      by_cases hi : i < m
      · simp only [hi, and_self, if_true]
        rcases hR i hi with ⟨t, x, h1, _⟩ | ⟨e, t, xs, h1, _⟩
        · rw [h1]; trivial
        · rw [h1]; exact .inr rfl
      · simp only [hi, and_false, if_false]
        have := h.stamps (.comp n i)
        generalize g (.comp n i) = v at this
        cases v with
        | own => exact .inl this
        | view => exact ⟨.inl this.1, this.2⟩
        | eptr => exact ⟨.inl this.1, this.2⟩
        | _ => trivial
    | _ => exact hl.elim
  · intro l c v hl hv
    rw [hg2] at hv
    cases l with
    | slot n =>
      have : n = d := hl
      simp only [this, if_true] at hv; cases hv
    | comp n i =>
      have : n = d := hl
      subst this
      by_cases hi : i < m
      · simp only [hi, and_self, if_true] at hv
        rcases hR i hi with ⟨t, x, h1, _⟩ | ⟨e, t, xs, h1, _⟩ <;> rw [h1] at hv <;> cases hv
      · simp only [hi, and_false, if_false] at hv
        exact h.ctx _ c v hv
    | _ => exact hl.elim
  · intro l b _ hb
    rcases hGi l b hb with ⟨i, hi, _, h1⟩ | ⟨_, _, h1⟩
    · have := hnewb i b hi h1
      exact ⟨this.2, .inr (Nat.le_trans h.size this.1)⟩
    · have := h.bnd l b h1
      exact ⟨Nat.lt_of_lt_of_le this.1 hw.size, this.2⟩
  · intro l b hl hb
    rcases hGi l b hb with ⟨i, hi, rfl, h1⟩ | ⟨h1, h2, _⟩
    · obtain ⟨e', t, xs, s, h4, h5⟩ := hown i b h1
      rw [hg2]
      simp only [hi, and_self, if_true]
      exact .inl ⟨e', t, xs, s, h4⟩
    · cases l with
      | slot n => exact absurd (show n = d from hl) (fun e => h2 (by rw [e]))
      | comp n i => exact absurd (show n = d from hl) (fun e => h1 i (by rw [e]))
      | _ => exact hl.elim
  · intro l l' b hl h1 h2
    rcases hGi l b h1 with ⟨i, hi, rfl, h3⟩ | ⟨h3, h4, _⟩
    · rcases hGi l' b h2 with ⟨j, hj, rfl, h5⟩ | ⟨_, _, h5⟩
      · obtain ⟨e1, t1, xs1, s1, k1, k2⟩ := hown i b h3
        obtain ⟨e2, t2, xs2, s2, k3, k4⟩ := hown j b h5
        rw [hap i j b e1 t1 xs1 s1 e2 t2 xs2 s2 hi hj k1 k3 k2 k4]
      · have := (hnewb i b hi h3).1
        have := (h.bnd l' b h5).1
        omega
    · cases l with
      | slot n => exact absurd (show n = d from hl) (fun e => h4 (by rw [e]))
      | comp n i => exact absurd (show n = d from hl) (fun e => h3 i (by rw [e]))
      | _ => exact hl.elim
end
end Go.Ev

namespace Go.Ev
open Go.RowKit
section
variable {Z : ZS} {E : Env} {N : Nat} {w0 : World} {Ow : OwS} {S S' D D' : Nat → Prop} {g g' : Mem} {G G' : Ghost} {a a' : Act} {w w' : World} {P : Program} {F : Fence} {n : Nat}

theorem ResR.mono {Pr Pr' : Nat → Prop} {B : Nat} {d : Dat} {v : Value} {k : RK} (h : ResR Pr B w d v k) (hp : (∀ b, Pr b → Pr' b) ∨ k.flat = true) : ResR Pr' B w d v k := by
  cases k with
  | dat t =>
    obtain ⟨cs, h1, h2⟩ := h
    rcases hp with hp | hp
    · exact ⟨cs, h1.keep (fun _ _ => rfl) hp, h2⟩
    · exact ⟨cs, h1.flat_any hp, h2⟩
  | own e t =>
    rcases hp with hp | hp
    · exact ⟨h.1.mono hp, h.2⟩
    · exact ⟨h.1.flat_any hp, h.2⟩

theorem sound_call {ctx : Ctx} {i : Nat} {o : Oper} {f0 : Nat} {xs : Array Operand} {Ts : Array Nat} (hE : EnvOk P E) (hsp : E.spec f0 ≠ none) (ho : o.op = .call { callee := .value (.func f0), args := xs, argTypes := Ts }) : Sound E P ctx i o := by
  intro Z N w0 Ow S D g G a w F n f next Qp h hg hp ht hfr hdst hF hS0 hn
  obtain ⟨hFP, hS0⟩ := hS0
  simp only [plan, ho] at hp
  split at hp
  case h_2 hn0 => exact absurd hn0 hsp
  simp only [callQ, Q.run_bind, Option.bind_eq_some_iff] at hp
  obtain ⟨Sp, hSp, r, hr, hp⟩ := hp
  replace hSp := ofO_some hSp
  have hM := hE.spec f0 Sp hSp
  obtain ⟨ds, ws⟩ := r
  have hws := args_ws h hg hr
  obtain ⟨G1, r1, r2, r3, r4, r5, r6⟩ := freezeAll h hws
  obtain ⟨frz, hfrz⟩ : ∃ b, b = !Sp.results.all RK.flat := ⟨_, rfl⟩
  rw [← hfrz] at hr
  let Pr : Nat → Prop := fun b => if frz then free Z G1 w b else b < w.heap.size
  have hPr : ∀ b, free Z G w b → Pr b := fun b hb => by
    simp only [Pr]; cases frz
    · exact hb.1
    · exact r2 b hb
  have hPl : ∀ b, Pr b → b < w.heap.size := fun b hb => by
    simp only [Pr] at hb; cases frz
    · exact hb
    · exact hb.1
  obtain ⟨ha1, ha2⟩ := args_val h hg hPr (fun hz l b hb => by subst hz; exact (h.bnd l b hb).1) hr (fun p hp' b hb => by
    simp only [Pr]; cases frz
    · exact (h.bnd _ b hb).1
    · exact r3 p hp' b hb)
  -- the call
  have hop : ∀ (pre : Sp.pre ds = true) (K : ∀ w' vs, w.grownBy w' none → vs.length = Sp.results.length →
      (∀ (j : Nat) k, Sp.results[j]? = some k → ResR (fun b => (free Z G1 w b ∨ (w.heap.size ≤ b ∧ b < w'.heap.size)) ∧ ∀ (q : Nat) e t, Sp.results[q]? = some (.own e t) → (vs.getD q undef).ownBlock ≠ some b) w.heap.size w' ((Sp.val ds).getD j ⟨.unit, ()⟩) (vs.getD j undef) k) →
      (∀ (p q : Nat) e t e' t' b, Sp.results[p]? = some (.own e t) → Sp.results[q]? = some (.own e' t') → (vs.getD p undef).ownBlock = some b → (vs.getD q undef).ownBlock = some b → p = q) →
      next (a.put o.dst (retVal vs)) w'), o.wpIn F n P a w next Qp := by
    intro pre K
    refine ⟨fun f _ => hF f, ?_⟩
    have hrun : (o.semAt F.round a.eval).run P w = .ok (.enter f0 (xs.map a.eval)) w := by
      have : (execOp a.eval o).run P w = .ok (.enter f0 (xs.map a.eval)) w := by
        simp only [execOp, ho, resolve, Act.eval, Deferred.ofValue, invoke, Sem.run_bind, Sem.run_pure, Result.andThen_ok, Array.append_empty, Array.empty_append, hM.enter]
      cases hr : F.round with
      | none => rw [Oper.semAt_none]; exact this
      | some l => rw [Oper.semAt_some l a.eval o (by rw [ho]; simp)]; exact this
    rw [hrun]
    have hc := hM.calls w Pr ds (xs.toList.map a.eval) hPl (h.globs' hPr) ha2 ha1 pre
    rw [show (xs.toList.map a.eval).toArray = xs.map a.eval from by rw [← Array.toList_map, Array.toArray_toList]] at hc
    refine ⟨fun hh => (by rw [hFP.depth] at hh; cases hh), hFP.calls (hc.mono ?_)⟩
    rintro e w' ⟨vs, rfl, hgr, hres⟩
    refine K w' vs hgr hres.len (fun j k hk => (hres.r j k hk).mono ?_) hres.apart
    cases hfz : frz with
    | true =>
      refine .inl (fun b hb => ⟨?_, hb.2⟩)
      have := hb.1
      simp only [Pr, hfz, if_true] at this
      exact this
    | false =>
      right
      rw [hfz] at hfrz
      have hall : Sp.results.all RK.flat = true := by simpa using hfrz
      exact List.all_eq_true.1 hall k (List.mem_of_getElem? hk)
  -- one result, told
  have hfree : ∀ {w' : World} {vs : List Value}, w.grownBy w' none → ∀ b, ((free Z G1 w b ∨ (w.heap.size ≤ b ∧ b < w'.heap.size)) ∧ ∀ (q : Nat) e t, Sp.results[q]? = some (.own e t) → (vs.getD q undef).ownBlock ≠ some b) → free Z G1 w' b := by
    intro w' vs hgr b hb
    rcases hb.1 with h1 | h1
    · exact ⟨Nat.lt_of_lt_of_le h1.1 hgr.size, h1.2, h1.3⟩
    · exact ⟨h1.2, fun l e => by have := (r1.bnd l b e).1; omega, h.zow b (.inr (Nat.le_trans h.size h1.1))⟩
  split at hp
  · rename_i d k hd hks
    simp only [Q.run, Option.some.injEq] at hp
    subst hp
    refine hop ht (fun w' vs hgr hlen hres hap => ?_)
    rw [hks] at hlen
    match vs, hlen with
    | [v], _ =>
      have h0 := hres 0 k (by rw [hks]; rfl)
      have e0 : (Sp.val ds).getD 0 ⟨.unit, ()⟩ = (Sp.val ds).headD ⟨.unit, ()⟩ := by cases Sp.val ds <;> rfl
      rw [e0, show ([v] : List Value).getD 0 undef = v from rfl] at h0
      have hg1 := r1.grow hgr
      cases k with
      | dat t =>
        obtain ⟨cs, h1, h2⟩ := h0
        exact fillAfter (v := .dat t _) hg1 hdst hd rfl trivial (by simp) ⟨cs, h1.keep (fun _ _ => rfl) (hfree hgr), h2⟩ hn
      | own e t =>
        obtain ⟨h1, h2⟩ := h0
        cases hgd : (!ctx.isEmpty) with
        | true =>
          simp only [RK.av, hgd, if_true] at hn
          exact fillAfter (v := .dat (.list t) _) hg1 hdst hd rfl trivial (by simp) ⟨[v], h1.frozen (hfree hgr) (fun b hb => ⟨(h2 b hb).2, fun l e => by have := (r1.bnd l b e).1; have := (h2 b hb).1; omega, h.zow b (.inr (Nat.le_trans h.size (h2 b hb).1))⟩), by simp [valOf, Ty.isAgg, retVal]⟩ hn
        | false =>
          simp only [RK.av, hgd, Bool.false_eq_true, if_false] at hn
          obtain ⟨hdN, hdD⟩ := hdst d hd
          obtain ⟨hz, cells, k1, k2, k3⟩ := h1
          obtain ⟨g2, G2, k4, k5⟩ := r1.putOwn' (a' := a.put (some d) v) hdN none (i + 1) hfr hdD (by simp) hgr (fun b hb => .inr (h2 b hb)) hz (k1.imp fun _ _ hc => hc.keep (fun _ _ => rfl) (fun b hb => ⟨hb.1, hb.2 0 e t (by rw [hks]; rfl)⟩)) k2
            (by rw [put_defers]; exact h.defers) (by rw [put_size]; exact h.tmps) (put_tmps a d v (by rw [h.tmps]; exact hdN)) (fun _ hn => put_tmps_ne a v hn)
          rw [show o.dst = some d from hd]
          refine hn _ _ _ _ (fun l => ?_) k5
          rw [k4, Mem.sets_append]
          simp only [Mem.sets, Mem.upd_apply]
          simp
  · rename_i d hd hks
    split at hp
    · simp [Q.run] at hp
    · rename_i hgd
      simp only [Q.run, Option.some.injEq] at hp
      subst hp
      refine hop ht (fun w' vs hgr hlen hres hap => ?_)
      obtain ⟨hdN, hdD⟩ := hdst d hd
      have hret : retVal vs = .tuple vs.toArray := by
        match vs, hlen with
        | [], _ => rfl
        | [v], hlen =>
          cases hk : Sp.results with
          | nil => rw [hk] at hlen; simp at hlen
          | cons k ks => rw [hk] at hlen; simp at hlen; exact (hks k (by rw [hk, hlen])).elim
        | _ :: _ :: _, _ => rfl
      have hgd' : (!ctx.isEmpty) = false := by simpa using hgd
      have hav : ∀ (j : Nat) k, Sp.results[j]? = some k → Sp.results.getD j (.dat .unit) = k := fun j k hk => by simp [List.getD_eq_getElem?_getD, hk]
      obtain ⟨G2, k1⟩ := r1.putTup hdN hdD hgr hlen hfr (R := fun q => (Sp.results.getD q (.dat .unit)).av i (!ctx.isEmpty) ((Sp.val ds).getD q ⟨.unit, ()⟩))
        (Fr := fun b => (free Z G1 w b ∨ (w.heap.size ≤ b ∧ b < w'.heap.size)) ∧ ∀ (q : Nat) e t, Sp.results[q]? = some (.own e t) → (vs.getD q undef).ownBlock ≠ some b)
        (fun b hb => ⟨hb.1, fun q e t xs s hq hR => by
          have hk := List.getElem?_eq_getElem hq
          rw [hav q _ hk, hgd'] at hR
          cases hk2 : Sp.results[q] with
          | dat t' => rw [hk2] at hR; cases hR
          | own e' t' => exact hb.2 q e' t' (by rw [hk, hk2])⟩)
        (fun q hq => by
          have hk := List.getElem?_eq_getElem hq
          have h0 := hres q _ hk
          rw [hav q _ hk, hgd']
          cases hk2 : Sp.results[q] with
          | dat t' =>
            rw [hk2] at h0
            obtain ⟨cs, h1, h2⟩ := h0
            exact .inl ⟨t', _, rfl, cs, h1, h2⟩
          | own e' t' =>
            rw [hk2] at h0
            exact .inr ⟨e', t', _, rfl, h0.1, h0.2⟩)
        (fun p q b e t xs s e' t' xs' s' hp hq hRp hRq hbp hbq => by
          have hkp := List.getElem?_eq_getElem hp
          have hkq := List.getElem?_eq_getElem hq
          rw [hav p _ hkp, hgd'] at hRp
          rw [hav q _ hkq, hgd'] at hRq
          cases hk2 : Sp.results[p] with
          | dat t' => rw [hk2] at hRp; cases hRp
          | own e1 t1 =>
            cases hk3 : Sp.results[q] with
            | dat t' => rw [hk3] at hRq; cases hRq
            | own e2 t2 => exact hap p q e1 t1 e2 t2 b (by rw [hkp, hk2]) (by rw [hkq, hk3]) hbp hbq)
        (g2 := g.sets (ws ++ (.slot d, .tup Sp.results.length) :: resultsW d i (!ctx.isEmpty) 0 Sp.results (Sp.val ds))) (fun l => by
          rw [Mem.sets_append, Mem.sets_cons, callQ_results]
          cases l <;> simp [Mem.upd_apply])
      rw [hret, show o.dst = some d from hd]
      exact hn _ _ _ _ (fun _ => rfl) k1
  · rename_i hd
    simp only [Q.run, Option.some.injEq] at hp
    subst hp
    refine hop ht (fun w' vs hgr hlen hres hap => ?_)
    rw [show o.dst = none from hd]
    exact hn _ _ _ _ (fun _ => rfl) ((r1.grow hgr).more (fun _ hs => .inl hs) (fun _ hd => hd) (r1.grow hgr).dbool)
end
end Go.Ev

namespace Go.Ev
open Go.RowKit
section
variable {Z : ZS} {E : Env} {N : Nat} {w0 : World} {Ow : OwS} {S D : Nat → Prop} {g g1 : Mem} {G G1 : Ghost} {a : Act} {w : World} {P : Program}

def NInj (m : Names) : Prop := ∀ b b' c, look m b = some c → look m b' = some c → b = b'
def NExt (m m' : Names) : Prop := ∀ b c, look m b = some c → look m' b = some c
theorem NExt.refl (m : Names) : NExt m m := fun _ _ h => h
theorem NExt.trans {m m' m'' : Names} (h : NExt m m') (k : NExt m' m'') : NExt m m'' := fun b c hb => k b c (h b c hb)
theorem look_mem : ∀ {m : Names} {b c : Nat}, look m b = some c → (b, c) ∈ m
  | [], _, _, h => by simp [look] at h
  | p :: r, b, c, h => by
    simp only [look] at h
    cases hp : Nat.beq p.1 b with
    | true =>
      rw [hp] at h
      have := Nat.eq_of_beq_eq_true hp
      simp only [cond_true, Option.some.injEq] at h
      subst this; subst h; simp
    | false => rw [hp] at h; exact List.mem_cons_of_mem _ (look_mem h)
theorem bindN_spec {m m' : Names} {b c : Nat} (h : bindN m b c = some m') (hi : NInj m) : NInj m' ∧ look m' b = some c ∧ NExt m m' := by
  unfold bindN at h
  split at h
  · rename_i c' hc
    cases he : Nat.beq c' c with
    | false => rw [he] at h; cases h
    | true =>
      rw [he] at h
      have := Nat.eq_of_beq_eq_true he
      subst this
      cases h
      exact ⟨hi, hc, NExt.refl _⟩
  · rename_i hn
    cases he : m.any (fun p => Nat.beq p.2 c) with
    | true => rw [he] at h; cases h
    | false =>
      rw [he] at h
      cases h
      have hno : ∀ x, look m x ≠ some c := fun x hx => by
        have := List.any_eq_false.1 he _ (look_mem hx)
        simp at this
      have hl : ∀ x, look ((b, c) :: m) x = if b = x then some c else look m x := fun x => by
        simp only [look]
        by_cases hx : b = x
        · subst hx; simp
        · have : Nat.beq b x = false := by
            cases hb : Nat.beq b x with
            | false => rfl
            | true => exact absurd (Nat.eq_of_beq_eq_true hb) hx
          rw [this, if_neg hx]; rfl
      refine ⟨fun x y z hx hy => ?_, by rw [hl, if_pos rfl], fun x z hx => ?_⟩
      · rw [hl] at hx hy
        split at hx
        · split at hy
          · rename_i e1 e2; rw [← e1, ← e2]
          · cases hx; exact absurd hy (hno y)
        · split at hy
          · cases hy; exact absurd hx (hno x)
          · exact hi x y z hx hy
      · rw [hl, if_neg (fun e => by subst e; rw [hn] at hx; cases hx)]; exact hx
theorem bindAll_spec : ∀ {bs cs : List Nat} {m m' : Names}, bindAll m bs cs = some m' → NInj m → NInj m' ∧ NExt m m' ∧ bs.length = cs.length ∧ ∀ (i b : Nat), bs[i]? = some b → ∃ c, cs[i]? = some c ∧ look m' b = some c
  | [], [], m, m', h, hi => by simp [bindAll] at h; subst h; exact ⟨hi, NExt.refl _, rfl, by simp⟩
  | [], _ :: _, m, m', h, _ => by simp [bindAll] at h
  | _ :: _, [], m, m', h, _ => by simp [bindAll] at h
  | b :: bs, c :: cs, m, m', h, hi => by
    simp only [bindAll] at h
    split at h
    · rename_i m1 h1
      obtain ⟨k1, k2, k3⟩ := bindN_spec h1 hi
      obtain ⟨q1, q2, q3, q4⟩ := bindAll_spec h k1
      refine ⟨q1, k3.trans q2, by simp [q3], fun i x hx => ?_⟩
      cases i with
      | zero => simp at hx; subst hx; exact ⟨c, by simp, q2 _ _ k2⟩
      | succ i => simpa using q4 i x (by simpa using hx)
    · cases h

/-- What a callee is told of a cell, and what its caller is. -/
inductive Conv (m : Names) : AV → AV → Prop
  | dead (v : AV) : Conv m .dead v
  | dat (t : Ty) (x : t.den) : Conv m (.dat t x) (.dat t x)
  | nilDat (t : Ty) : Conv m (.dat (.list t) []) .nil
  | own (e : Nat) (t : Ty) (xs : List t.den) (s : Nat) : Conv m (.own e t xs 0) (.own e t xs s)
  | nilOwn (e : Nat) (t : Ty) (h : 0 < t.sz) : Conv m (.own e t [] 0) .nil
  | ptr (b c o : Nat) (h : look m b = some c) : Conv m (.ptr b o) (.ptr c o)
  | mptr (b c o : Nat) (p : Bool) (h : look m b = some c) : Conv m (.mptr b o p) (.mptr c o p)
  | fn (f : Nat) (bs cs : List Nat) (hl : bs.length = cs.length) (h : ∀ (i b : Nat), bs[i]? = some b → ∃ c, cs[i]? = some c ∧ look m b = some c) : Conv m (.fn f bs) (.fn f cs)
  | nil : Conv m .nil .nil

/-- What a callee is told of an argument, as its caller knows it. -/
def ArgV (Z : ZS) (m : Names) (g : Mem) (G : Ghost) (w : World) (val : Value) : AV → Prop
  | .dead => True
  | .dat t x => ∃ cs, RV (free Z G w) w t x cs ∧ val = valOf t cs
  | .ptr b o => ∃ c e n gb, look m b = some c ∧ g (.box c) = .bx e n ∧ G (.box c) = some gb ∧ val = .pointer (some ⟨gb, o, none⟩)
  | .mptr b o p => (p = true → ∃ c e n gb, look m b = some c ∧ g (.box c) = .bx e n ∧ G (.box c) = some gb ∧ val = .pointer (some ⟨gb, o, none⟩)) ∧ (p = false → val = .pointer none)
  | .fn f bs => ∃ vs : Array Value, val = .func (.func f) #[] vs ∧ vs.size = bs.length ∧ ∀ (i b : Nat), bs[i]? = some b → ∃ c e n gb, look m b = some c ∧ g (.box c) = .bx e n ∧ G (.box c) = some gb ∧ vs.getD i undef = .pointer (some ⟨gb, 0, none⟩)
  | _ => False

/-- The callee's ghost. -/
def calleeG (m : Names) (gc : Mem) (G : Ghost) : Ghost := fun l => match l with
  | .box b => (match gc (.box b) with
    | .bx _ _ => (look m b).bind fun c => G (.box c)
    | _ => none)
  | .cell b o => (match gc (.cell b o) with
    | .own _ _ _ _ => (look m b).bind fun c => G (.cell c o)
    | _ => none)
  | _ => none
def calleeOw (m : Names) (gc : Mem) (G : Ghost) : OwS := ⟨fun b => ∃ l, calleeG m gc G l = some b, fun b => (look m b).bind fun c => G (.box c), []⟩
def calleeZ (Z : ZS) (m : Names) (gc : Mem) (G : Ghost) (w : World) : ZS := ⟨fun b => free Z G w b ∨ (∃ l, calleeG m gc G l = some b) ∨ w.heap.size ≤ b, 0⟩

theorem calleeG_some {m : Names} {gc : Mem} {G : Ghost} {l : Loc} {b : Nat} (h : calleeG m gc G l = some b) :
    (∃ x c e n, l = .box x ∧ look m x = some c ∧ G (.box c) = some b ∧ gc l = .bx e n) ∨ (∃ x c o e t xs s, l = .cell x o ∧ look m x = some c ∧ G (.cell c o) = some b ∧ gc l = .own e t xs s) := by
  cases l with
  | slot n => simp [calleeG] at h
  | comp n i => simp [calleeG] at h
  | box x =>
    simp only [calleeG] at h
    split at h
    · rename_i e n he
      rw [Option.bind_eq_some_iff] at h
      obtain ⟨c, h1, h2⟩ := h
      exact .inl ⟨x, c, e, n, rfl, h1, h2, he⟩
    · cases h
  | cell x o =>
    simp only [calleeG] at h
    split at h
    · rename_i e t xs s he
      rw [Option.bind_eq_some_iff] at h
      obtain ⟨c, h1, h2⟩ := h
      exact .inr ⟨x, c, o, e, t, xs, s, rfl, h1, h2, he⟩
    · cases h

theorem nil_window {cur : Array Value} {o : Nat} (ho : o < cur.size) {t : Ty} : (cur.toList.drop o).take (Ty.list t).sz = [cur.getD o undef] := by
  rw [List.drop_eq_getElem_cons (by simpa using ho)]
  simp [Ty.sz, Array.getD_eq_getD_getElem?, ho]

/-- **The callee's relation.** -/
theorem Rel.callee (h : Rel Z E N w0 Ow S D g G a w) (yl : Nat) {m : Names} (hm : NInj m) (hmr : ∀ b c, look m b = some c → 50000 ≤ b ∧ b < 100000) {gc : Mem} {args : List Value} (hal : args.length ≤ 50000)
    (hslot : ∀ n, ArgV Z m g G w (args.getD n undef) (gc (.slot n)))
    (hcomp : ∀ n i, gc (.comp n i) = .dead)
    (hbox : ∀ b, gc (.box b) = .dead ∨ ∃ c e n, look m b = some c ∧ g (.box c) = .bx e n ∧ gc (.box b) = .bx e n)
    (hall : ∀ b c, look m b = some c → gc (.box b) ≠ .dead)
    (hcell : ∀ b o, gc (.cell b o) = .dead ∨ ∃ c, look m b = some c ∧ Conv m (gc (.cell b o)) (g (.cell c o))) :
    Rel ⟨(calleeZ Z m gc G w).z, yl⟩ (globE E.glob) args.length w (calleeOw m gc G) (fun n => n = 0) (fun _ => False) gc (calleeG m gc G) { tmps := args.toArray, defers := [] } w := by
  have hGl : ∀ {l b}, calleeG m gc G l = some b → ∃ l', G l' = some b := fun {l b} e => by
    rcases calleeG_some e with ⟨_, c, _, _, _, _, h1, _⟩ | ⟨_, c, o, _, _, _, _, _, _, h1, _⟩
    · exact ⟨_, h1⟩
    · exact ⟨_, h1⟩
  have hfree : ∀ b, free Z G w b → free ⟨(calleeZ Z m gc G w).z, yl⟩ (calleeG m gc G) w b := fun b hb => ⟨hb.1, fun l e => by
    obtain ⟨l', h1⟩ := hGl e
    exact hb.2 l' h1, .inl hb⟩
  have hRV : ∀ {t : Ty} {x : t.den} {cs : List Value}, RV (free Z G w) w t x cs → RV (free ⟨(calleeZ Z m gc G w).z, yl⟩ (calleeG m gc G) w) w t x cs := fun hv => hv.keep (fun _ _ => rfl) hfree
  have hbx : ∀ {b c : Nat}, look m b = some c → ∃ e n, g (.box c) = .bx e n ∧ gc (.box b) = .bx e n := fun {b c} hb => by
    rcases hbox b with h1 | ⟨c', e, n, h1, h2, h3⟩
    · exact absurd h1 (hall b c hb)
    · rw [hb] at h1; cases h1; exact ⟨e, n, h2, h3⟩
  have hGb : ∀ {b c : Nat}, look m b = some c → calleeG m gc G (.box b) = G (.box c) := fun {b c} hb => by
    obtain ⟨e, n, _, h2⟩ := hbx hb
    simp only [calleeG, h2, hb, Option.bind_some]
  have hptr : ∀ {b c o : Nat} {v : Value}, look m b = some c → (∃ e n gb, g (.box c) = .bx e n ∧ G (.box c) = some gb ∧ v = .pointer (some ⟨gb, o, none⟩)) → ∃ e n gb, gc (.box b) = .bx e n ∧ calleeG m gc G (.box b) = some gb ∧ v = .pointer (some ⟨gb, o, none⟩) := fun {b c o v} hb ⟨e, n, gb, h1, h2, h3⟩ => by
    obtain ⟨e', n', h4, h5⟩ := hbx hb
    exact ⟨e', n', gb, h5, (hGb hb).trans h2, h3⟩
  refine ⟨rfl, by simp, rfl, rfl, rfl, Nat.le_refl _, fun _ _ _ => rfl, fun l b e => ?_, fun b hb => ?_, fun l l' b e e' => ?_, fun l b e => ?_, fun n => ?_, fun n k i hn => ?_, fun b e n hb => ?_, fun b o hne => ?_, fun b o o' h1 h2 hne => ?_, fun b => ?_, fun l => ?_, fun l c v hl => ?_, fun k hk => hk.elim, fun k d hk => ?_, fun b gb hp hne => ?_, fun b gb hp => ?_⟩
  · obtain ⟨l', h1⟩ := hGl e
    exact ⟨(h.bnd l' b h1).1, .inl ⟨l, e⟩⟩
  · rcases hb with h1 | h1
    · exact .inr (.inl h1)
    · exact .inr (.inr h1)
  · rcases calleeG_some e with ⟨x, c, _, _, rfl, h1, h2, _⟩ | ⟨x, c, o, _, _, _, _, rfl, h1, h2, _⟩ <;> rcases calleeG_some e' with ⟨x', c', _, _, rfl, h1', h2', _⟩ | ⟨x', c', o', _, _, _, _, rfl, h1', h2', _⟩ <;> have := h.inj _ _ b h2 h2'
    · cases this; rw [hm _ _ _ h1 h1']
    · cases this
    · cases this
    · cases this; rw [hm _ _ _ h1 h1']
  · rcases calleeG_some e with ⟨x, c, e1, n1, rfl, _, _, h3⟩ | ⟨x, c, o, e1, t1, xs1, s1, rfl, _, _, h3⟩
    · exact .inr ⟨e1, n1, h3⟩
    · exact .inl ⟨e1, t1, xs1, s1, h3⟩
  · have hv := hslot n
    have ha : args.toArray.getD n undef = args.getD n undef := by simp
    show AVR _ _ _ _ _ (gc (.slot n)) _ (args.toArray.getD n undef)
    rw [ha]
    cases hu : gc (.slot n) <;> rw [hu] at hv <;> simp only [ArgV] at hv
    · trivial
    · obtain ⟨cs, h1, h2⟩ := hv; exact ⟨cs, hRV h1, h2⟩
    · obtain ⟨c, e, n1, gb, h1, h2⟩ := hv
      exact hptr h1 ⟨e, n1, gb, h2⟩
    · obtain ⟨vs, h1, h2, h3⟩ := hv
      refine ⟨vs, h1, h2, fun i b hi => ?_⟩
      obtain ⟨c, e, n1, gb, h4, h5⟩ := h3 i b hi
      exact hptr h4 ⟨e, n1, gb, h5⟩
    · obtain ⟨t1, t2⟩ := hv
      refine ⟨fun hp => ?_, t2⟩
      obtain ⟨c, e, n1, gb, h1, h2⟩ := t1 hp
      exact hptr h1 ⟨e, n1, gb, h2⟩
  · have hv := hslot n
    rw [hn] at hv; exact hv.elim
  · rcases hbox b with h1 | ⟨c, e', n', h1, h2, h3⟩
    · rw [h1] at hb; cases hb
    · rw [h3] at hb; cases hb
      obtain ⟨gb, cur, h4, h5, h6⟩ := h.boxes c e n h2
      exact ⟨gb, cur, (hGb h1).trans h4, h5, h6⟩
  · rcases hcell b o with h1 | ⟨c, h1, h2⟩
    · exact absurd h1 hne
    · obtain ⟨e, n, h3, h4⟩ := hbx h1
      generalize hu : gc (.cell b o) = u at h2 hne
      generalize hv : g (.cell c o) = v at h2
      have hvne : v ≠ .dead := by rintro rfl; cases h2; exact hne rfl
      obtain ⟨e', n', gb, cur, k1, k2, k3, k4⟩ := h.cells c o (by rw [hv]; exact hvne)
      rw [h3] at k1; cases k1
      rw [hv] at k4
      refine ⟨e, n, gb, cur, h4, (hGb h1).trans k2, k3, ?_⟩
      cases h2 with
      | dead => trivial
      | dat t x => exact ⟨k4.1, hRV k4.2⟩
      | nilDat t =>
        refine ⟨k4.1, ?_⟩
        rw [nil_window k4.1, show cur.getD o undef = .slice Option.none 0 0 from k4.2]
        exact RV.nil_
      | own e1 t xs s =>
        refine ⟨k4.1, ?_⟩
        simp only [AVR, calleeG, hu, h1, Option.bind_some]
        exact (show OwnR _ _ _ _ _ _ _ from k4.2).keep (fun b hb => ⟨hfree b hb, rfl⟩) (fun _ _ => rfl)
      | nilOwn e1 t ht =>
        refine ⟨k4.1, ?_⟩
        have hGn : G (.cell c o) = Option.none := by
          cases hg : G (.cell c o) with
          | none => rfl
          | some b1 => rcases h.gone _ b1 hg with ⟨_, _, _, _, q⟩ | ⟨_, _, q⟩ <;> rw [hv] at q <;> cases q
        simp only [AVR, calleeG, hu, h1, Option.bind_some, hGn]
        rw [show cur.getD o undef = .slice Option.none 0 0 from k4.2]
        exact ⟨ht, [], .nil, ⟨by simp, .inl ⟨rfl, rfl⟩⟩, rfl⟩
      | ptr b1 c1 o1 hl => exact ⟨k4.1, hptr hl k4.2⟩
      | mptr b1 c1 o1 p hl => exact ⟨k4.1, fun hp => hptr hl (k4.2.1 hp), k4.2.2⟩
      | fn f bs cs hl hf =>
        refine ⟨k4.1, ?_⟩
        obtain ⟨vs, q1, q2, q3⟩ := k4.2
        refine ⟨vs, q1, q2.trans hl.symm, fun i b1 hi => ?_⟩
        obtain ⟨c1, hc1, hc2⟩ := hf i b1 hi
        exact hptr hc2 (q3 i c1 hc1)
      | nil => exact ⟨k4.1, k4.2⟩
  · have hsz : ∀ {b o}, gc (.cell b o) ≠ .dead → ∃ c, look m b = some c ∧ g (.cell c o) ≠ .dead ∧ (gc (.cell b o)).size = (g (.cell c o)).size := fun {b o} hne => by
      rcases hcell b o with k1 | ⟨c, k1, k2⟩
      · exact absurd k1 hne
      · refine ⟨c, k1, ?_⟩
        generalize gc (.cell b o) = u at k2 hne
        generalize g (.cell c o) = v at k2
        cases k2 <;> first | exact absurd rfl hne | exact ⟨by simp, rfl⟩
    obtain ⟨c, k1, k2, k3⟩ := hsz h1
    obtain ⟨c', q1, q2, q3⟩ := hsz h2
    rw [k1] at q1; cases q1
    rw [k3, q3]
    exact h.apart c o o' k2 q2 hne
  · rcases hbox b with h1 | ⟨c, e, n, h1, h2, h3⟩
    · exact .inl h1
    · exact .inr ⟨e, n, h3⟩
  · cases l with
    | slot n =>
      have hv := hslot n
      generalize gc (.slot n) = u at hv
      cases u <;> first | exact hv.elim | trivial
    | comp n i => rw [hcomp]; trivial
    | box b =>
      rcases hbox b with h1 | ⟨c, e, n, h1, h2, h3⟩
      · rw [h1]; trivial
      · rw [h3]; trivial
    | cell b o =>
      rcases hcell b o with h1 | ⟨c, h1, h2⟩
      · rw [h1]; trivial
      · generalize gc (.cell b o) = u at h2
        generalize g (.cell c o) = v at h2
        cases h2 <;> first | trivial | exact rfl
  · exfalso
    cases l with
    | slot n => have hv := hslot n; rw [hl] at hv; exact hv
    | comp n i => rw [hcomp] at hl; cases hl
    | box b =>
      rcases hbox b with h1 | ⟨c, e, n, h1, h2, h3⟩
      · rw [h1] at hl; cases hl
      · rw [h3] at hl; cases hl
    | cell b o =>
      rcases hcell b o with h1 | ⟨c', h1, h2⟩
      · rw [h1] at hl; cases hl
      · rw [hl] at h2; cases h2
  · obtain ⟨cs, h1, h2, h3⟩ := h.globs k d hk
    exact ⟨cs, hRV h1, fun hne => hfree _ (h2 hne), h3⟩
  · simp only [calleeOw, Option.bind_eq_some_iff] at hp
    obtain ⟨c, h1, h2⟩ := hp
    rw [hGb h1]; exact h2
  · simp only [calleeOw, Option.bind_eq_some_iff] at hp
    obtain ⟨c, h1, h2⟩ := hp
    have := hmr b c h1
    exact .inl ⟨by omega, this.2⟩
end
end Go.Ev

namespace Go.Ev
open Go.RowKit
section
variable {Z : ZS} {E : Env} {N : Nat} {w0 : World} {Ow : OwS} {S D : Nat → Prop} {g g1 : Mem} {G G1 : Ghost} {a : Act} {w : World} {P : Program}

theorem inArg_names {m : Names} {x : Operand} {k : Kd} {v : AV} {r : k.den × Names × List (Loc × AV)} (hr : (inArg m x k v).run g = some r) (hm : NInj m) : NInj r.2.1 ∧ NExt m r.2.1 := by
  unfold inArg at hr
  split at hr
  · split at hr
    · simp [Q.run] at hr; subst hr; exact ⟨hm, NExt.refl _⟩
    · simp only [Q.run_bind, Option.bind_eq_some_iff] at hr
      obtain ⟨d, _, hr⟩ := hr
      split at hr
      · simp [Q.run] at hr; subst hr; exact ⟨hm, NExt.refl _⟩
      · simp [Q.run] at hr
  · split at hr
    · simp only [Q.run_bind, Option.bind_eq_some_iff, Q.run, Option.some.injEq] at hr
      obtain ⟨m', h1, rfl⟩ := hr
      have := bindN_spec (ofO_some h1) hm
      exact ⟨this.1, this.2.2⟩
    · simp [Q.run] at hr
  · split at hr
    · simp only [Q.run_bind, Option.bind_eq_some_iff, Q.run, Option.some.injEq] at hr
      obtain ⟨m', h1, rfl⟩ := hr
      have := bindN_spec (ofO_some h1) hm
      exact ⟨this.1, this.2.2⟩
    · simp [Q.run] at hr
  · split at hr
    · simp only [Q.run_bind, Option.bind_eq_some_iff, Q.run, Option.some.injEq] at hr
      obtain ⟨m', h1, rfl⟩ := hr
      have := bindAll_spec (ofO_some h1) hm
      exact ⟨this.1, this.2.1⟩
    · simp [Q.run] at hr
  · simp [Q.run] at hr; subst hr; exact ⟨hm, NExt.refl _⟩
  · simp [Q.run] at hr
theorem inCell_names {m : Names} {l : Loc} {k : Kd} {v : AV} {r : k.den × Names × List (Loc × AV)} (hr : (inCell m l k v).run g = some r) (hm : NInj m) : NInj r.2.1 ∧ NExt m r.2.1 := by
  unfold inCell at hr
  split at hr
  · split at hr
    · simp [Q.run] at hr; subst hr; exact ⟨hm, NExt.refl _⟩
    · split at hr
      · simp [Q.run] at hr; subst hr; exact ⟨hm, NExt.refl _⟩
      · simp [Q.run] at hr
    · split at hr
      · simp [Q.run] at hr; subst hr; exact ⟨hm, NExt.refl _⟩
      · simp [Q.run] at hr
    · simp [Q.run] at hr
  · split at hr
    · split at hr
      · split at hr
        · simp [Q.run] at hr; subst hr; exact ⟨hm, NExt.refl _⟩
        · simp [Q.run] at hr
      · simp [Q.run] at hr
    · split at hr
      · simp [Q.run] at hr; subst hr; exact ⟨hm, NExt.refl _⟩
      · simp [Q.run] at hr
    · simp [Q.run] at hr
  · split at hr
    · simp only [Q.run_bind, Option.bind_eq_some_iff, Q.run, Option.some.injEq] at hr
      obtain ⟨m', h1, rfl⟩ := hr
      have := bindN_spec (ofO_some h1) hm
      exact ⟨this.1, this.2.2⟩
    · simp [Q.run] at hr
  · split at hr
    · simp only [Q.run_bind, Option.bind_eq_some_iff, Q.run, Option.some.injEq] at hr
      obtain ⟨m', h1, rfl⟩ := hr
      have := bindN_spec (ofO_some h1) hm
      exact ⟨this.1, this.2.2⟩
    · simp [Q.run] at hr
  · split at hr
    · simp only [Q.run_bind, Option.bind_eq_some_iff, Q.run, Option.some.injEq] at hr
      obtain ⟨m', h1, rfl⟩ := hr
      have := bindAll_spec (ofO_some h1) hm
      exact ⟨this.1, this.2.1⟩
    · simp [Q.run] at hr
  · simp [Q.run] at hr; subst hr; exact ⟨hm, NExt.refl _⟩
  · simp [Q.run] at hr; subst hr; exact ⟨hm, NExt.refl _⟩
  · simp [Q.run] at hr

/-- The values that are handed over. -/
def ArgOk (g : Mem) (G : Ghost) (a : Act) : Arg → Value → Prop
  | .opd x, v => v = a.eval x
  | .cap c, v => ∃ e n gb, g (.box c) = .bx e n ∧ G (.box c) = some gb ∧ v = .pointer (some ⟨gb, 0, none⟩)

theorem inArg_ws (h : Rel Z E N w0 Ow S D g G a w) {ctx : Ctx} (hg : (gcond ctx).run g = some true) {x : Arg} {v : AV} (hv : (rdArg E ctx x).run g = some v) {m : Names} {k : Kd} {r : k.den × Names × List (Loc × AV)} (hr : (inArg m x.opd' k v).run g = some r) : ∀ p ∈ r.2.2, isFrz g p := by
  unfold inArg at hr
  split at hr
  · split at hr
    · simp [Q.run] at hr; subst hr; simp
    · simp only [Q.run_bind, Option.bind_eq_some_iff] at hr
      obtain ⟨d, hd, hr⟩ := hr
      split at hr
      · simp [Q.run] at hr; subst hr
        cases x with
        | opd x => exact toDat_ws h (rd_told h hg hv) hd
        | cap c =>
          simp only [rdArg, Q.run, Option.some.injEq] at hv
          subst hv
          simp [toDat, Q.run] at hd
      · simp [Q.run] at hr
  · split at hr
    · simp only [Q.run_bind, Option.bind_eq_some_iff, Q.run, Option.some.injEq] at hr
      obtain ⟨m', _, rfl⟩ := hr
      simp
    · simp [Q.run] at hr
  · split at hr
    · simp only [Q.run_bind, Option.bind_eq_some_iff, Q.run, Option.some.injEq] at hr
      obtain ⟨m', _, rfl⟩ := hr
      simp
    · simp [Q.run] at hr
  · split at hr
    · simp only [Q.run_bind, Option.bind_eq_some_iff, Q.run, Option.some.injEq] at hr
      obtain ⟨m', _, rfl⟩ := hr
      simp
    · simp [Q.run] at hr
  · simp [Q.run] at hr; subst hr; simp
  · simp [Q.run] at hr
theorem inCell_ws {c o : Nat} {m : Names} {k : Kd} {v : AV} (hgv : g (.cell c o) = v) {r : k.den × Names × List (Loc × AV)} (hr : (inCell m (.cell c o) k v).run g = some r) : ∀ p ∈ r.2.2, isFrz g p := by
  unfold inCell at hr
  split at hr
  · split at hr
    · simp [Q.run] at hr; subst hr; simp
    · rename_i t e t' xs s
      split at hr
      · simp [Q.run] at hr; subst hr
        intro p hp
        simp at hp
        subst hp
        exact ⟨trivial, .inl ⟨e, t', xs, s, hgv, rfl⟩⟩
      · simp [Q.run] at hr
    · split at hr
      · simp [Q.run] at hr; subst hr; simp
      · simp [Q.run] at hr
    · simp [Q.run] at hr
  · split at hr
    · split at hr
      · split at hr
        · simp [Q.run] at hr; subst hr; simp
        · simp [Q.run] at hr
      · simp [Q.run] at hr
    · split at hr
      · simp [Q.run] at hr; subst hr; simp
      · simp [Q.run] at hr
    · simp [Q.run] at hr
  · split at hr
    · simp only [Q.run_bind, Option.bind_eq_some_iff, Q.run, Option.some.injEq] at hr
      obtain ⟨m', _, rfl⟩ := hr
      simp
    · simp [Q.run] at hr
  · split at hr
    · simp only [Q.run_bind, Option.bind_eq_some_iff, Q.run, Option.some.injEq] at hr
      obtain ⟨m', _, rfl⟩ := hr
      simp
    · simp [Q.run] at hr
  · split at hr
    · simp only [Q.run_bind, Option.bind_eq_some_iff, Q.run, Option.some.injEq] at hr
      obtain ⟨m', _, rfl⟩ := hr
      simp
    · simp [Q.run] at hr
  · simp [Q.run] at hr; subst hr; simp
  · simp [Q.run] at hr; subst hr; simp
  · simp [Q.run] at hr

/-- What was frozen on the way in. -/
structure Frozen (Z : ZS) (w : World) (g : Mem) (G : Ghost) (ws : List (Loc × AV)) (G1 : Ghost) : Prop where
  fr : ∀ b, free Z G w b → free Z G1 w b
  wf : ∀ p ∈ ws, ∀ b, G p.1 = some b → free Z G1 w b
  same : ∀ l, (∀ e t xs s, g l ≠ .own e t xs s) → g.sets ws l = g l
  ghost : ∀ l, G1 l = none ∨ G1 l = G l
  box : ∀ b, G1 (.box b) = G (.box b)

theorem Frozen.bx {ws : List (Loc × AV)} (hF : Frozen Z w g G ws G1) {c e n : Nat} (h : g (.box c) = .bx e n) : g.sets ws (.box c) = .bx e n := by
  rw [hF.same _ (by rw [h]; simp)]; exact h

theorem inArg_val (h : Rel Z E N w0 Ow S D g G a w) {ctx : Ctx} (hg : (gcond ctx).run g = some true) {ws : List (Loc × AV)} (hF : Frozen Z w g G ws G1) {x : Arg} {val : Value} (hx : ArgOk g G a x val) {v : AV} (hv : (rdArg E ctx x).run g = some v)
    {m M : Names} {k : Kd} {r : k.den × Names × List (Loc × AV)} (hr : (inArg m x.opd' k v).run g = some r) (hm : NInj m) (hM : NExt r.2.1 M) (hws : ∀ p ∈ r.2.2, p ∈ ws) : ArgV Z M (g.sets ws) G1 w val (k.mk r.1) := by
  have hnames := inArg_names hr hm
  -- the value, told
  have told : (∀ l, (∀ e t xs s, v = .own e t xs s → ∃ s', l = .slot s' ∧ x = .opd (.tmp s')) → AVR Z g G a w v l val) := fun l hl => by
    cases x with
    | opd x =>
      have hT := rd_told h hg hv
      rw [show val = a.eval x from hx]
      exact hT.r l (fun e t xs s e' => by obtain ⟨s', h1, h2⟩ := hl e t xs s e'; exact ⟨s', h1, by cases h2; rfl⟩)
    | cap c =>
      simp only [rdArg, Q.run, Option.some.injEq] at hv
      subst hv
      exact hx
  have hnil : v = .nil → val = .slice Option.none 0 0 := fun e => by subst e; exact told (.slot 0) (by simp)
  unfold inArg at hr
  split at hr
  · split at hr
    · rename_i t hv2
      simp [Q.run] at hr; subst hr
      exact ⟨_, RV.nil_, by rw [hnil rfl]; rfl⟩
    · simp only [Q.run_bind, Option.bind_eq_some_iff] at hr
      obtain ⟨d, hd, hr⟩ := hr
      split at hr
      · rename_i ht
        simp [Q.run] at hr; subst hr
        cases x with
        | opd x =>
          obtain ⟨cs, h1, h2⟩ := toDat_val h (rd_told h hg hv) hd hF.fr (fun p hp b hb => hF.wf p (hws p hp) b hb)
          obtain ⟨⟨dt, dx⟩, dw⟩ := d
          dsimp only at ht h1 h2
          subst ht
          exact ⟨cs, h1, by rw [show val = a.eval x from hx]; exact h2⟩
        | cap c =>
          simp only [rdArg, Q.run, Option.some.injEq] at hv
          subst hv
          simp [toDat, Q.run] at hd
      · simp [Q.run] at hr
  · rename_i b o c o'
    split at hr
    · rename_i ho
      have ho := Nat.eq_of_beq_eq_true ho
      subst ho
      simp only [Q.run_bind, Option.bind_eq_some_iff, Q.run, Option.some.injEq] at hr
      obtain ⟨m', h1, rfl⟩ := hr
      have hl := (bindN_spec (ofO_some h1) hm).2.1
      obtain ⟨e, n, gb, h2, h3, h4⟩ := told (.slot 0) (by simp)
      exact ⟨c, e, n, gb, hM _ _ hl, hF.bx h2, (hF.box c).trans h3, h4⟩
    · simp [Q.run] at hr
  · rename_i b o c o' pp
    split at hr
    · rename_i ho
      have ho := Nat.eq_of_beq_eq_true ho
      subst ho
      simp only [Q.run_bind, Option.bind_eq_some_iff, Q.run, Option.some.injEq] at hr
      obtain ⟨m', h1, rfl⟩ := hr
      have hl := (bindN_spec (ofO_some h1) hm).2.1
      obtain ⟨t1, t2⟩ := told (.slot 0) (by simp)
      refine ⟨fun hp => ?_, t2⟩
      obtain ⟨e, n, gb, h2, h3, h4⟩ := t1 hp
      exact ⟨c, e, n, gb, hM _ _ hl, hF.bx h2, (hF.box c).trans h3, h4⟩
    · simp [Q.run] at hr
  · rename_i f bs f' cs
    split at hr
    · rename_i hf
      have hf := Nat.eq_of_beq_eq_true hf
      subst hf
      simp only [Q.run_bind, Option.bind_eq_some_iff, Q.run, Option.some.injEq] at hr
      obtain ⟨m', h1, rfl⟩ := hr
      obtain ⟨_, _, hl, hi⟩ := bindAll_spec (ofO_some h1) hm
      obtain ⟨vs, h2, h3, h4⟩ := told (.slot 0) (by simp)
      refine ⟨vs, h2, h3.trans hl.symm, fun i b hb => ?_⟩
      obtain ⟨c, hc, hlk⟩ := hi i b hb
      obtain ⟨e, n, gb, h5, h6, h7⟩ := h4 i c hc
      exact ⟨c, e, n, gb, hM _ _ hlk, hF.bx h5, (hF.box c).trans h6, h7⟩
    · simp [Q.run] at hr
  · trivial
  · simp [Q.run] at hr

/-- A freezing write lies where it freezes. -/
theorem frz_at {ws : List (Loc × AV)} (hw : ∀ p ∈ ws, isFrz g p) {l : Loc} {e : Nat} {t : Ty} {xs : List t.den} {s : Nat} (hl : g l = .own e t xs s) (hm : ∃ p ∈ ws, p.1 = l) : g.sets ws l = .dat (.list t) xs := by
  rcases sets_get (ws := ws) (g := g) (l := l) with ⟨_, h2⟩ | ⟨p, h1, h2, h3⟩
  · obtain ⟨p, h1, h3⟩ := hm; exact absurd h3 (h2 p h1)
  · rw [h3]
    obtain ⟨_, h4⟩ := hw p h1
    rcases h4 with ⟨e', t', xs', s', h5, h6⟩ | ⟨t', xs', h5, _⟩
    · rw [h2, hl] at h5; cases h5; exact h6
    · rw [h2, hl] at h5; cases h5

theorem inCell_conv {ws : List (Loc × AV)} (hw : ∀ p ∈ ws, isFrz g p) (hF : Frozen Z w g G ws G1) {c o : Nat} {m M : Names} {k : Kd} {v : AV} (hgl : g (.cell c o) = v) {r : k.den × Names × List (Loc × AV)} (hr : (inCell m (.cell c o) k v).run g = some r) (hm : NInj m) (hM : NExt r.2.1 M)
    (hws : ∀ p ∈ r.2.2, p ∈ ws) (hown : ∀ e t, k = .own e t → ∀ p ∈ ws, p.1 ≠ .cell c o) : Conv M (k.mk r.1) (g.sets ws (.cell c o)) := by
  have same : (∀ e t xs s, g (.cell c o) ≠ .own e t xs s) → g.sets ws (.cell c o) = g (.cell c o) := hF.same _
  unfold inCell at hr
  split at hr
  · split at hr
    · rename_i t
      simp [Q.run] at hr; subst hr
      rw [same (by rw [hgl]; simp), hgl]
      exact .nilDat t
    · rename_i t e t' xs s
      split at hr
      · rename_i ht
        simp [Q.run] at hr; subst hr
        subst ht
        rw [frz_at hw hgl ⟨(.cell c o, .dat (.list t') xs), hws _ (List.mem_singleton.2 rfl), rfl⟩]
        exact .dat _ _
      · simp [Q.run] at hr
    · rename_i t t' x
      split at hr
      · rename_i ht
        simp [Q.run] at hr; subst hr
        subst ht
        rw [same (by rw [hgl]; simp), hgl]
        exact .dat _ _
      · simp [Q.run] at hr
    · simp [Q.run] at hr
  · rename_i e t v
    split at hr
    · rename_i e' t' xs s
      split at hr
      · rename_i ht
        split at hr
        · rename_i he
          have he := Nat.eq_of_beq_eq_true he
          simp [Q.run] at hr; subst hr
          subst ht; subst he
          rw [sets_other (hown _ _ rfl), hgl]
          exact .own _ _ _ _
        · simp [Q.run] at hr
      · simp [Q.run] at hr
    · split at hr
      · rename_i hz
        simp [Q.run] at hr; subst hr
        rw [same (by rw [hgl]; simp), hgl]
        exact .nilOwn _ _ (by simpa using hz)
      · simp [Q.run] at hr
    · simp [Q.run] at hr
  · rename_i b o1 c1 o1'
    split at hr
    · rename_i ho
      have ho := Nat.eq_of_beq_eq_true ho
      subst ho
      simp only [Q.run_bind, Option.bind_eq_some_iff, Q.run, Option.some.injEq] at hr
      obtain ⟨m', h1, rfl⟩ := hr
      rw [same (by rw [hgl]; simp), hgl]
      exact .ptr _ _ _ (hM _ _ (bindN_spec (ofO_some h1) hm).2.1)
    · simp [Q.run] at hr
  · rename_i b o1 c1 o1' pp
    split at hr
    · rename_i ho
      have ho := Nat.eq_of_beq_eq_true ho
      subst ho
      simp only [Q.run_bind, Option.bind_eq_some_iff, Q.run, Option.some.injEq] at hr
      obtain ⟨m', h1, rfl⟩ := hr
      rw [same (by rw [hgl]; simp), hgl]
      exact .mptr _ _ _ _ (hM _ _ (bindN_spec (ofO_some h1) hm).2.1)
    · simp [Q.run] at hr
  · rename_i f bs f' cs
    split at hr
    · rename_i hf
      have hf := Nat.eq_of_beq_eq_true hf
      subst hf
      simp only [Q.run_bind, Option.bind_eq_some_iff, Q.run, Option.some.injEq] at hr
      obtain ⟨m', h1, rfl⟩ := hr
      obtain ⟨_, _, hl, hi⟩ := bindAll_spec (ofO_some h1) hm
      rw [same (by rw [hgl]; simp), hgl]
      exact .fn _ _ _ hl (fun i b hb => by obtain ⟨c', h2, h3⟩ := hi i b hb; exact ⟨c', h2, hM _ _ h3⟩)
    · simp [Q.run] at hr
  · simp [Q.run] at hr; subst hr
    rw [same (by rw [hgl]; simp), hgl]
    exact .nil
  · exact .dead _
  · simp [Q.run] at hr

/-- What is told of a place, by the reading that told it. -/
def EntQ (E : Env) (ctx : Ctx) (xs : List Arg) (g : Mem) (sh : Shape) (M : Names) (ws : List (Loc × AV)) (u : AV) : Loc → Prop
  | .slot n => u = .dead ∨ ∃ x v m k r, xs[n]? = some x ∧ (rdArg E ctx x).run g = some v ∧ (inArg m x.opd' k v).run g = some r ∧ NInj m ∧ NExt r.2.1 M ∧ (∀ p ∈ r.2.2, p ∈ ws) ∧ u = k.mk r.1
  | .box b => u = .dead ∨ ∃ c e n, look M b = some c ∧ g (.box c) = .bx e n ∧ u = .bx e n
  | .cell b o => u = .dead ∨ ∃ c m k r, look M b = some c ∧ (inCell m (.cell c o) k (g (.cell c o))).run g = some r ∧ NInj m ∧ NExt r.2.1 M ∧ (∀ p ∈ r.2.2, p ∈ ws) ∧ u = k.mk r.1 ∧ (Loc.cell b o, k) ∈ sh
  | .comp _ _ => u = .dead
theorem EntQ.mono {E : Env} {ctx : Ctx} {xs : List Arg} {sh sh' : Shape} {M M' : Names} {ws ws' : List (Loc × AV)} {u : AV} {l : Loc} (h : EntQ E ctx xs g sh M ws u l) (hM : NExt M M') (hw : ∀ p ∈ ws, p ∈ ws') (hs : ∀ p ∈ sh, p ∈ sh') : EntQ E ctx xs g sh' M' ws' u l := by
  cases l with
  | slot n =>
    rcases h with h | ⟨x, v, m, k, r, h1, h2, h3, h4, h5, h6, h7⟩
    · exact .inl h
    · exact .inr ⟨x, v, m, k, r, h1, h2, h3, h4, h5.trans hM, fun p hp => hw p (h6 p hp), h7⟩
  | comp n i => exact h
  | box b =>
    rcases h with h | ⟨c, e, n, h1, h2, h3⟩
    · exact .inl h
    · exact .inr ⟨c, e, n, hM _ _ h1, h2, h3⟩
  | cell b o =>
    rcases h with h | ⟨c, m, k, r, h1, h2, h3, h4, h5, h6, h7⟩
    · exact .inl h
    · exact .inr ⟨c, m, k, r, hM _ _ h1, h2, h3, h4.trans hM, fun p hp => hw p (h5 p hp), h6, hs _ h7⟩

theorem inQ_spec (h : Rel Z E N w0 Ow S D g G a w) {ctx : Ctx} (hg : (gcond ctx).run g = some true) {xs : List Arg} : ∀ {sh : Shape} {m : Names} {q : Tup sh × Names × List (Loc × AV)}, (inQ E ctx xs sh m).run g = some q → NInj m →
    NInj q.2.1 ∧ NExt m q.2.1 ∧ (∀ p ∈ q.2.2, isFrz g p) ∧ ∀ l, EntQ E ctx xs g sh q.2.1 q.2.2 (St.get (mkSt sh q.1) l) l
  | [], m, q, hq, hm => by
    simp [inQ, Q.run] at hq
    subst hq
    refine ⟨hm, NExt.refl _, by simp, fun l => ?_⟩
    cases l <;> first | exact .inl rfl | rfl
  | (.slot n, k) :: r, m, q, hq, hm => by
    simp only [inQ] at hq
    split at hq
    · rename_i x hx
      simp only [Q.run_bind, Option.bind_eq_some_iff, Q.run, Option.some.injEq] at hq
      obtain ⟨v, hv, p, hp, q', hq', rfl⟩ := hq
      obtain ⟨n1, n2⟩ := inArg_names hp hm
      obtain ⟨k1, k2, k3, k4⟩ := inQ_spec h hg hq' n1
      refine ⟨k1, n2.trans k2, fun p' hp' => ?_, fun l => ?_⟩
      · rcases List.mem_append.1 hp' with hp' | hp'
        · exact inArg_ws h hg hv hp p' hp'
        · exact k3 p' hp'
      · show EntQ _ _ _ _ _ _ _ (St.get ((.slot n, k.mk p.1) :: mkSt r q'.1) l) l
        simp only [St.get]
        cases he : (Loc.slot n).eq l with
        | true =>
          have := Loc.eq_iff.1 he
          subst this
          exact .inr ⟨x, v, m, k, p, hx, hv, hp, hm, k2, fun p' hp' => List.mem_append.2 (.inl hp'), rfl⟩
        | false => exact (k4 l).mono (NExt.refl _) (fun p' hp' => List.mem_append.2 (.inr hp')) (fun p' hp' => List.mem_cons_of_mem _ hp')
    · simp [Q.run] at hq
  | (.comp n i, k) :: r, m, q, hq, hm => by simp [inQ, Q.run] at hq
  | (.box b, k) :: r, m, q, hq, hm => by
    cases k with
    | bx e n =>
      simp only [inQ] at hq
      split at hq
      · rename_i c hc
        simp only [Q.run] at hq
        split at hq
        · rename_i e' n' hb
          split at hq
          · rename_i he
            simp only [Bool.and_eq_true] at he
            have h1 := Nat.eq_of_beq_eq_true he.1
            have h2 := Nat.eq_of_beq_eq_true he.2
            subst h1; subst h2
            simp only [Q.run_bind, Option.bind_eq_some_iff, Q.run, Option.some.injEq] at hq
            obtain ⟨q', hq', rfl⟩ := hq
            obtain ⟨k1, k2, k3, k4⟩ := inQ_spec h hg hq' hm
            refine ⟨k1, k2, k3, fun l => ?_⟩
            show EntQ _ _ _ _ _ _ _ (St.get ((.box b, .bx e' n') :: mkSt r q'.1) l) l
            simp only [St.get]
            cases he : (Loc.box b).eq l with
            | true =>
              have := Loc.eq_iff.1 he
              subst this
              exact .inr ⟨c, e', n', k2 _ _ hc, hb, rfl⟩
            | false => exact (k4 l).mono (NExt.refl _) (fun _ hp' => hp') (fun p' hp' => List.mem_cons_of_mem _ hp')
          · simp [Q.run] at hq
        · simp [Q.run] at hq
      · simp [Q.run] at hq
    | _ => simp [inQ, Q.run] at hq
  | (.cell b o, k) :: r, m, q, hq, hm => by
    simp only [inQ] at hq
    split at hq
    · rename_i c hc
      simp only [Q.run_bind, Option.bind_eq_some_iff, Q.run, Option.some.injEq] at hq
      obtain ⟨p, hp, q', hq', rfl⟩ := hq
      obtain ⟨n1, n2⟩ := inCell_names hp hm
      obtain ⟨k1, k2, k3, k4⟩ := inQ_spec h hg hq' n1
      refine ⟨k1, n2.trans k2, fun p' hp' => ?_, fun l => ?_⟩
      · rcases List.mem_append.1 hp' with hp' | hp'
        · exact inCell_ws rfl hp p' hp'
        · exact k3 p' hp'
      · show EntQ _ _ _ _ _ _ _ (St.get ((.cell b o, k.mk p.1) :: mkSt r q'.1) l) l
        simp only [St.get]
        cases he : (Loc.cell b o).eq l with
        | true =>
          have := Loc.eq_iff.1 he
          subst this
          exact .inr ⟨c, m, k, p, k2 _ _ (n2 _ _ hc), hp, hm, k2, fun p' hp' => List.mem_append.2 (.inl hp'), rfl, by simp⟩
        | false => exact (k4 l).mono (NExt.refl _) (fun p' hp' => List.mem_append.2 (.inr hp')) (fun p' hp' => List.mem_cons_of_mem _ hp')
    · simp [Q.run] at hq
end
end Go.Ev

namespace Go.Ev
open Go.RowKit
section
variable {Z : ZS} {E : Env} {N : Nat} {w0 : World} {Ow : OwS} {S D : Nat → Prop} {g : Mem} {G : Ghost} {a a' : Act} {w w' : World} {P : Program}

theorem outAV_size {m : Names} {d st : Nat} {u : AV} (h : outAV m d st u ≠ .dead) : (outAV m d st u).size = u.size := by
  cases u <;> first | rfl | exact absurd rfl h
theorem outAV_ne {m : Names} {d st : Nat} {u : AV} (h : outAV m d st u ≠ .dead) : u ≠ .dead := by rintro rfl; exact h rfl

/-- **The caller goes on.** -/
theorem Rel.merge (h : Rel Z E N w0 Ow S D g G a w) {m : Names} (hm : NInj m) {gc gp : Mem} {Gp : Ghost} {vs : List Value} {d st' : Nat} {bs : List Nat} {dst : Option Nat} {rl : Loc → Option Nat} {g2 : Mem}
    (hp : Rel (calleeZ Z m gc G w) (globE E.glob) vs.length w (calleeOw m gc G) (fun n => n = 0) (fun _ => False) gp Gp { tmps := vs.toArray, defers := [] } w')
    (hmr : ∀ b c, look m b = some c → 50000 ≤ b ∧ b < 100000)
    (hst' : ¬ S st')
    (hinj : ∀ b ∈ bs, ∀ b' ∈ bs, backN m d b = backN m d b' → b = b')
    (hbs : ∀ b, gp (.box b) ≠ .dead → b ∈ bs)
    (hold : ∀ b c, look m b = some c → b ∈ bs ∧ ∃ e n, g (.box c) = .bx e n ∧ gp (.box b) = .bx e n)
    (hnew : ∀ b ∈ bs, look m b = none → g (.box (backN m d b)) = .dead)
    (hnh : ∀ b ∈ bs, look m b = none → E.held (backN m d b) = false)
    (harr : ∀ b c o n t x, look m b = some c → gp (.cell b o) = .dat (.arr n t) x → ∃ x', g (.cell c o) = .dat (.arr n t) x')
    (hg2b : ∀ b ∈ bs, g2 (.box (backN m d b)) = gp (.box b))
    (hg2c : ∀ b ∈ bs, ∀ o, g2 (.cell (backN m d b) o) = outAV m d st' (gp (.cell b o)))
    (hg2r : ∀ l j, rl l = some j → g2 l = outAV m d st' (gp (.slot j)))
    (hg2o : ∀ l, (∀ n, dst = some n → l ≠ .slot n) → rl l = none → (∀ b ∈ bs, l ≠ .box (backN m d b) ∧ ∀ o, l ≠ .cell (backN m d b) o) → g2 l = g l)
    (hrl1 : ∀ l j, rl l = some j → j < vs.length ∧ ∃ n, dst = some n ∧ (l = .slot n ∨ ∃ i, l = .comp n i))
    (hrl2 : ∀ l l' j, rl l = some j → rl l' = some j → l = l')
    (hdef : a'.defers = a.defers) (hsz : a'.tmps.size = a.tmps.size) (hoth : ∀ n, dst ≠ some n → a'.tmps.getD n undef = a.tmps.getD n undef)
    (hdst : ∀ n, dst = some n → n < N ∧ ¬ D n)
    (hd : ∀ n, dst = some n → (rl (.slot n) = some 0 ∧ a'.tmps.getD n undef = vs.getD 0 undef) ∨ (rl (.slot n) = none ∧ (g2 (.slot n) = .dead ∨ (g2 (.slot n) = .tup vs.length ∧ a'.tmps.getD n undef = .tuple vs.toArray ∧ ∀ i, i < vs.length → rl (.comp n i) = some i)))) :
    ∃ G2, Rel Z E N w0 Ow (fun n => S n ∨ n = st') D g2 G2 a' w' := by
  let inv : Nat → Option Nat := fun c => bs.find? fun b => Nat.beq (backN m d b) c
  have hinv : ∀ b ∈ bs, inv (backN m d b) = some b := fun b hb => by
    simp only [inv]
    cases hf : bs.find? fun b' => Nat.beq (backN m d b') (backN m d b) with
    | none => exact absurd (List.find?_eq_none.1 hf b hb) (by simp)
    | some b' =>
      have h1 := List.find?_some hf
      have h2 := List.mem_of_find?_eq_some hf
      rw [hinj b' h2 b hb (Nat.eq_of_beq_eq_true h1)]
  have hinv2 : ∀ {c b}, inv c = some b → b ∈ bs ∧ backN m d b = c := fun {c b} hf => ⟨List.mem_of_find?_eq_some hf, Nat.eq_of_beq_eq_true (List.find?_some (p := fun b => Nat.beq (backN m d b) c) hf)⟩
  have hinv3 : ∀ {c}, inv c = none → ∀ b ∈ bs, backN m d b ≠ c := fun {c} hf b hb e => by
    have := List.find?_eq_none.1 hf b hb
    rw [e] at this; simp at this
  let G2 : Ghost := fun l => match rl l with
    | some j => Gp (.slot j)
    | none => match l with
      | .slot n => if dst = some n then none else G l
      | .comp _ _ => G l
      | .box c => (match inv c with
        | some b => Gp (.box b)
        | none => G l)
      | .cell c o => (match inv c with
        | some b => Gp (.cell b o)
        | none => G l)
  have rlb : ∀ c, rl (.box c) = none := fun c => by
    cases hr : rl (.box c) with
    | none => rfl
    | some j => obtain ⟨_, n, _, e | ⟨i, e⟩⟩ := hrl1 _ _ hr <;> cases e
  have rlc : ∀ c o, rl (.cell c o) = none := fun c o => by
    cases hr : rl (.cell c o) with
    | none => rfl
    | some j => obtain ⟨_, n, _, e | ⟨i, e⟩⟩ := hrl1 _ _ hr <;> cases e
  have hG2b : ∀ b ∈ bs, G2 (.box (backN m d b)) = Gp (.box b) := fun b hb => by simp only [G2, rlb, hinv b hb]
  have hG2c : ∀ b ∈ bs, ∀ o, G2 (.cell (backN m d b) o) = Gp (.cell b o) := fun b hb o => by simp only [G2, rlc, hinv b hb]
  have hG2r : ∀ l j, rl l = some j → G2 l = Gp (.slot j) := fun l j hr => by simp only [G2, hr]
  -- the changed places
  let Ch : Loc → Prop := fun l => (∃ n, dst = some n ∧ l = .slot n) ∨ (∃ j, rl l = some j) ∨ ∃ b ∈ bs, l = .box (backN m d b) ∨ ∃ o, l = .cell (backN m d b) o
  have hchB : ∀ {c}, Ch (.box c) → ∃ b ∈ bs, c = backN m d b := fun {c} hc => by
    rcases hc with ⟨n, _, e⟩ | ⟨j, e⟩ | ⟨b, hb, e | ⟨o, e⟩⟩
    · cases e
    · rw [rlb] at e; cases e
    · cases e; exact ⟨b, hb, rfl⟩
    · cases e
  have hchC : ∀ {c o}, Ch (.cell c o) → ∃ b ∈ bs, c = backN m d b := fun {c o} hc => by
    rcases hc with ⟨n, _, e⟩ | ⟨j, e⟩ | ⟨b, hb, e | ⟨o', e⟩⟩
    · cases e
    · rw [rlc] at e; cases e
    · cases e
    · cases e; exact ⟨b, hb, rfl⟩
  have hchS : ∀ {n}, Ch (.slot n) → dst = some n := fun {n} hc => by
    rcases hc with ⟨n', h1, e⟩ | ⟨j, e⟩ | ⟨b, hb, e | ⟨o, e⟩⟩
    · cases e; exact h1
    · obtain ⟨_, n', h1, e' | ⟨i, e'⟩⟩ := hrl1 _ _ e
      · cases e'; exact h1
      · cases e'
    · cases e
    · cases e
  have hchK : ∀ {n i}, Ch (.comp n i) → dst = some n := fun {n i} hc => by
    rcases hc with ⟨n', h1, e⟩ | ⟨j, e⟩ | ⟨b, hb, e | ⟨o, e⟩⟩
    · cases e
    · obtain ⟨_, n', h1, e' | ⟨i', e'⟩⟩ := hrl1 _ _ e
      · cases e'
      · cases e'; exact h1
    · cases e
    · cases e
  have hgO : ∀ l, ¬ Ch l → g2 l = g l := fun l hl => hg2o l (fun n hn e => hl (.inl ⟨n, hn, e⟩)) (by
    cases hr : rl l with
    | none => rfl
    | some j => exact absurd (.inr (.inl ⟨j, hr⟩)) hl) (fun b hb => ⟨fun e => hl (.inr (.inr ⟨b, hb, .inl e⟩)), fun o e => hl (.inr (.inr ⟨b, hb, .inr ⟨o, e⟩⟩))⟩)
  have hGO : ∀ l, ¬ Ch l → G2 l = G l := fun l hl => by
    have hr : rl l = none := by
      cases hr : rl l with
      | none => rfl
      | some j => exact absurd (.inr (.inl ⟨j, hr⟩)) hl
    cases l with
    | slot n => simp only [G2, hr]; rw [if_neg (fun e => hl (.inl ⟨n, e, rfl⟩))]
    | comp n i => simp only [G2, hr]
    | box c =>
      simp only [G2, hr]
      split
      · rename_i b hb
        obtain ⟨h1, h2⟩ := hinv2 hb
        exact absurd (.inr (.inr ⟨b, h1, .inl (by rw [h2])⟩)) hl
      · rfl
    | cell c o =>
      simp only [G2, hr]
      split
      · rename_i b hb
        obtain ⟨h1, h2⟩ := hinv2 hb
        exact absurd (.inr (.inr ⟨b, h1, .inr ⟨o, by rw [h2]⟩⟩)) hl
      · rfl
  have hGs : ∀ {l b}, G2 l = some b → (∃ l', Gp l' = some b ∧ Ch l) ∨ (G l = some b ∧ ¬ Ch l) := fun {l b} e => by
    by_cases hc : Ch l
    · left
      cases hr : rl l with
      | some j => rw [hG2r l j hr] at e; exact ⟨_, e, hc⟩
      | none =>
        cases l with
        | slot n => simp only [G2, hr] at e; rw [if_pos (hchS hc)] at e; cases e
        | comp n i =>
          rcases hc with ⟨n', _, e'⟩ | ⟨j, e'⟩ | ⟨b', hb, e' | ⟨o, e'⟩⟩
          · cases e'
          · rw [hr] at e'; cases e'
          · cases e'
          · cases e'
        | box c =>
          obtain ⟨b', hb, rfl⟩ := hchB hc
          rw [hG2b b' hb] at e; exact ⟨_, e, hc⟩
        | cell c o =>
          obtain ⟨b', hb, rfl⟩ := hchC hc
          rw [hG2c b' hb] at e; exact ⟨_, e, hc⟩
    · rw [hGO l hc] at e; exact .inr ⟨e, hc⟩
  -- what the callee might change
  have hcal : ∀ {l b}, calleeG m gc G l = some b → ∃ l', G l' = some b ∧ Ch l' := fun {l b} e => by
    rcases calleeG_some e with ⟨x, c, _, _, _, h1, h2, _⟩ | ⟨x, c, o, _, _, _, _, _, h1, h2, _⟩
    · have hb := (hold x c h1).1
      have : backN m d x = c := by simp only [backN, h1]
      exact ⟨.box c, h2, .inr (.inr ⟨x, hb, .inl (by rw [this])⟩)⟩
    · have hb := (hold x c h1).1
      have : backN m d x = c := by simp only [backN, h1]
      exact ⟨.cell c o, h2, .inr (.inr ⟨x, hb, .inr ⟨o, by rw [this]⟩⟩)⟩
  have hlowp : ∀ k, k < w.heap.size → (∀ l, calleeG m gc G l ≠ some k) → w'.heap[k]? = w.heap[k]? := fun k h1 h2 => hp.low k h1 (fun ⟨l, hl⟩ => h2 l hl)
  have hblk : ∀ l, ¬ Ch l → ∀ b, G l = some b → w'.heap[b]? = w.heap[b]? := fun l hl b hb => hlowp b (h.bnd l b hb).1 (fun l0 e => by
    obtain ⟨l', h1, h2⟩ := hcal e
    rw [h.inj l l' b hb h1] at hl; exact hl h2)
  have hk : ∀ b, free Z G w b → free Z G2 w' b ∧ w'.heap[b]? = w.heap[b]? := fun b hb => by
    refine ⟨⟨Nat.lt_of_lt_of_le hb.1 hp.size, fun l e => ?_, hb.3⟩, hlowp b hb.1 (fun l0 e => by
      obtain ⟨l', h1, _⟩ := hcal e
      exact hb.2 l' h1)⟩
    rcases hGs e with ⟨l', h1, _⟩ | ⟨h1, _⟩
    · rcases (hp.bnd l' b h1).2 with ⟨l0, h2⟩ | h2
      · obtain ⟨l1, h3, _⟩ := hcal h2; exact hb.2 l1 h3
      · have := hb.1; omega
    · exact hb.2 l h1
  have hZ : ∀ b, calleeZ Z m gc G w b → Z b := fun b hb => by
    rcases hb with hb | ⟨l, hl⟩ | hb
    · exact hb.3
    · obtain ⟨l', h1, _⟩ := hcal hl; exact h.zow b (h.bnd l' b h1).2
    · exact h.zow b (.inr (Nat.le_trans h.size hb))
  have hfp : ∀ b, free (calleeZ Z m gc G w) Gp w' b → free Z G2 w' b := fun b hb => ⟨hb.1, fun l e => by
    rcases hGs e with ⟨l', h1, _⟩ | ⟨h1, h2⟩
    · exact hb.2 l' h1
    · rcases hb.3 with h3 | ⟨l0, h3⟩ | h3
      · exact h3.2 l h1
      · obtain ⟨l1, h4, h5⟩ := hcal h3
        rw [h.inj l l1 b h1 h4] at h2; exact h2 h5
      · have := (h.bnd l b h1).1; omega, hZ b hb.3⟩
  have hRV : ∀ {t : Ty} {x : t.den} {cs : List Value}, RV (free (calleeZ Z m gc G w) Gp w') w' t x cs → RV (free Z G2 w') w' t x cs := fun hv => hv.keep (fun _ _ => rfl) hfp
  have hptr : ∀ {b o : Nat} {v : Value}, (∃ e n gb, gp (.box b) = .bx e n ∧ Gp (.box b) = some gb ∧ v = .pointer (some ⟨gb, o, none⟩)) → ∃ e n gb, g2 (.box (backN m d b)) = .bx e n ∧ G2 (.box (backN m d b)) = some gb ∧ v = .pointer (some ⟨gb, o, none⟩) := fun {b o v} ⟨e, n, gb, h1, h2, h3⟩ => by
    have hb := hbs b (by rw [h1]; simp)
    exact ⟨e, n, gb, by rw [hg2b b hb]; exact h1, by rw [hG2b b hb]; exact h2, h3⟩
  -- one value
  have tr : ∀ {l l2 : Loc} {val : Value}, G2 l2 = Gp l → AVR (calleeZ Z m gc G w) gp Gp { tmps := vs.toArray, defers := [] } w' (gp l) l val → AVR Z g2 G2 a' w' (outAV m d st' (gp l)) l2 val := fun {l l2 val} hGl hv => by
    cases hu : gp l <;> rw [hu] at hv <;> simp only [outAV] <;> try trivial
    · obtain ⟨cs, h1, h2⟩ := hv; exact ⟨cs, hRV h1, h2⟩
    · simp only [AVR] at hv ⊢
      rw [hGl]
      exact hv.keep (fun b hb => ⟨hfp b hb, rfl⟩) (fun _ _ => rfl)
    · exact hptr hv
    · obtain ⟨b, k, cs, h1, h2, h3, h4⟩ := hv
      exact ⟨b, k, cs, hRV h1, fun hne => hfp _ (h2 hne), h3, h4⟩
    · obtain ⟨vs1, h1, h2, h3⟩ := hv
      refine ⟨vs1, h1, by simpa using h2, fun i b hi => ?_⟩
      simp only [List.getElem?_map, Option.map_eq_some_iff] at hi
      obtain ⟨b0, hb0, rfl⟩ := hi
      exact hptr (h3 i b0 hb0)
    all_goals first | exact hv | exact ⟨fun hp' => hptr (hv.1 hp'), hv.2⟩
  have trLeaf : ∀ {b o : Nat} {cur : Array Value}, b ∈ bs → LeafR (calleeZ Z m gc G w) gp Gp { tmps := vs.toArray, defers := [] } w' (.cell b o) o cur (gp (.cell b o)) → LeafR Z g2 G2 a' w' (.cell (backN m d b) o) o cur (outAV m d st' (gp (.cell b o))) := fun {b o cur} hb hv => by
    have ht := fun hv' => tr (l := .cell b o) (l2 := .cell (backN m d b) o) (val := cur.getD o undef) (hG2c b hb o) hv'
    cases hu : gp (.cell b o) <;> rw [hu] at hv ht <;> simp only [outAV] at ht ⊢ <;> try trivial
    · exact ⟨hv.1, hRV hv.2⟩
    all_goals exact ⟨hv.1, ht hv.2⟩
  refine ⟨G2, h.change Ch hgO hGO (hdef.trans h.defers) (hsz.trans h.tmps) hp.os hp.tape hp.output hp.size ?_ hk hblk ?_ ?_ ?_ (fun _ h => .inl h) ?_ ?_ ?_ ?_ ?_ ?_ ?_ ?_ ?_ ?_ ?_ ?_ ?_⟩
  · -- low
    intro k h1 h2
    refine hlowp k (Nat.lt_of_lt_of_le h1 h.size) (fun l e => ?_)
    obtain ⟨l', h3, _⟩ := hcal e
    rcases (h.bnd l' k h3).2 with h4 | h4
    · exact h2 h4
    · omega
  · -- roots
    intro l st hst hrt
    cases l with
    | comp n i => exact hrt.elim
    | box b => exact hrt.elim
    | slot n =>
      refine ⟨fun e t xs hx => ?_, fun b o n' t xs hb => by cases hb⟩
      by_cases hn : dst = some n
      · exfalso
        rcases hd n hn with ⟨h1, _⟩ | ⟨_, h1 | ⟨h1, _⟩⟩
        · rw [hg2r _ _ h1] at hx
          cases hu : gp (.slot 0) <;> rw [hu] at hx <;> simp only [outAV] at hx <;> cases hx
          exact hst' hst
        · rw [h1] at hx; cases hx
        · rw [h1] at hx; cases hx
      · have hc : ¬ Ch (.slot n) := fun hc => hn (hchS hc)
        rw [hgO _ hc] at hx
        exact ⟨xs, hx, rfl, hoth n hn, hGO _ hc⟩
    | cell c o =>
      by_cases hc : Ch (.cell c o)
      · obtain ⟨b, hb, rfl⟩ := hchC hc
        refine ⟨fun e t xs hx => ?_, fun b' o' n' t xs e' hx hlive => ?_⟩
        · exfalso
          rw [hg2c b hb] at hx
          cases hu : gp (.cell b o) <;> rw [hu] at hx <;> simp only [outAV] at hx <;> cases hx
          exact hst' hst
        · cases e'
          rw [hg2c b hb] at hx
          cases hl : look m b with
          | none =>
            obtain ⟨e1, m1, h1⟩ := hlive
            rw [hnew b hb hl] at h1; cases h1
          | some c =>
            have hcb : backN m d b = c := by simp only [backN, hl]
            cases hu : gp (.cell b o) <;> rw [hu] at hx <;> simp only [outAV] at hx <;> cases hx
            obtain ⟨x', h1⟩ := harr b c o n' t _ hl hu
            exact ⟨x', by rw [hcb]; exact h1⟩
      · refine ⟨fun e t xs hx => ⟨xs, by rwa [hgO _ hc] at hx, rfl, ?_, hGO _ hc⟩, fun b' o' n' t xs _ hx _ => ⟨xs, by rwa [hgO _ hc] at hx⟩⟩
        have hcb : ¬ Ch (.box c) := fun hcb => by
          obtain ⟨b, hb, rfl⟩ := hchB hcb
          exact hc (.inr (.inr ⟨b, hb, .inr ⟨o, rfl⟩⟩))
        simp only [rootVal, hGO _ hcb]
        cases hgb : G (.box c) with
        | none => rfl
        | some gb => simp only [World.cell?_of_block (w := w) (w' := w') (a := ⟨gb, o, none⟩) (hblk _ hcb gb hgb)]
  · -- boxes stay
    intro c e n hb
    by_cases hc : Ch (.box c)
    · obtain ⟨b, hbb, rfl⟩ := hchB hc
      cases hl : look m b with
      | none => rw [hnew b hbb hl] at hb; cases hb
      | some c' =>
        have hcb : backN m d b = c' := by simp only [backN, hl]
        obtain ⟨_, e', n', h1, h2⟩ := hold b c' hl
        rw [hcb] at hb
        rw [hb] at h1; cases h1
        obtain ⟨gb0, cur0, q1, _, _⟩ := h.boxes c' e n hb
        have hpin : (calleeOw m gc G).pin b = some gb0 := by simp only [calleeOw, hl, Option.bind_some, q1]
        have := hp.pins b gb0 hpin (by rw [h2]; simp)
        refine ⟨by rw [hg2b b hbb]; exact h2, by rw [hG2b b hbb, this, hcb, q1], fun gb _ => .inl ⟨hc, fun o => .inr (.inr ⟨b, hbb, .inr ⟨o, rfl⟩⟩)⟩⟩
    · exact ⟨by rw [hgO _ hc]; exact hb, hGO _ hc, fun gb hgb => .inr (hblk _ hc gb hgb)⟩
  · -- guards
    intro k hk'
    exact hgO _ (fun hc => (hdst k (hchS hc)).2 hk')
  · intro n hn
    exact hoth n (fun e => hn (.inl ⟨n, e, rfl⟩))
  · -- slots
    intro n hc
    have hn := hchS hc
    rcases hd n hn with ⟨h1, h2⟩ | ⟨h0, h1 | ⟨h1, h2, h3⟩⟩
    · rw [hg2r _ _ h1, h2]
      have hv := hp.slots 0
      refine tr (hG2r _ _ h1) ?_
      simpa using hv
    · rw [h1]; trivial
    · rw [h1, h2]; exact ⟨vs.toArray, rfl, by simp⟩
  · -- comps
    intro n k i h1 h2 hch
    have hn : dst = some n := by rcases hch with hch | hch; exact hchS hch; exact hchK hch
    rcases hd n hn with ⟨h3, _⟩ | ⟨_, h3 | ⟨h3, h4, h5⟩⟩
    · rw [hg2r _ _ h3] at h1
      cases hu : gp (.slot 0) <;> rw [hu] at h1 <;> simp only [outAV] at h1 <;> cases h1
    · rw [h3] at h1; cases h1
    · rw [h3] at h1; cases h1
      have h6 := h5 i h2
      rw [hg2r _ _ h6, h4]
      have hv := hp.slots i
      refine tr (hG2r _ _ h6) ?_
      simpa [compOf] using hv
  · -- boxes
    intro c e n hc hb
    obtain ⟨b, hbb, rfl⟩ := hchB hc
    rw [hg2b b hbb] at hb
    obtain ⟨gb, cur, h1, h2, h3⟩ := hp.boxes b e n hb
    exact ⟨gb, cur, by rw [hG2b b hbb]; exact h1, h2, h3⟩
  · -- cells
    intro c o hc hne
    obtain ⟨b, hbb, rfl⟩ := hchC hc
    rw [hg2c b hbb] at hne ⊢
    obtain ⟨e, n, gb, cur, h1, h2, h3, h4⟩ := hp.cells b o (outAV_ne hne)
    exact ⟨e, n, gb, cur, by rw [hg2b b hbb]; exact h1, by rw [hG2b b hbb]; exact h2, h3, trLeaf hbb h4⟩
  · -- apart
    intro c o o' hc h1 h2 hne
    have : ∃ b ∈ bs, c = backN m d b := by rcases hc with hc | hc <;> exact hchC hc
    obtain ⟨b, hbb, rfl⟩ := this
    rw [hg2c b hbb] at h1 h2 ⊢
    rw [hg2c b hbb, outAV_size h1, outAV_size h2]
    exact hp.apart b o o' (outAV_ne h1) (outAV_ne h2) hne
  · intro c hc
    obtain ⟨b, hbb, rfl⟩ := hchB hc
    rw [hg2b b hbb]
    exact hp.boxAV b
  · -- stamps
    intro l hc
    have hout : ∀ u : AV, stampIn (fun n => S n ∨ n = st') (outAV m d st' u) := fun u => by cases u <;> first | trivial | exact .inr rfl
    rcases hc with ⟨n, hn, rfl⟩ | ⟨j, hj⟩ | ⟨b, hbb, rfl | ⟨o, rfl⟩⟩
    · rcases hd n hn with ⟨h3, _⟩ | ⟨_, h3 | ⟨h3, h4, h5⟩⟩
      · rw [hg2r _ _ h3]; exact hout _
      · rw [h3]; trivial
      · rw [h3]; trivial
    · rw [hg2r _ _ hj]; exact hout _
    · rw [hg2b b hbb]
      rcases hp.boxAV b with h1 | ⟨e, n, h1⟩ <;> rw [h1] <;> trivial
    · rw [hg2c b hbb]; exact hout _
  · -- no guarded values
    intro l c v hc hv
    exfalso
    have hout : ∀ u : AV, outAV m d st' u ≠ .opt c v := fun u => by cases u <;> simp [outAV]
    rcases hc with ⟨n, hn, rfl⟩ | ⟨j, hj⟩ | ⟨b, hbb, rfl | ⟨o, rfl⟩⟩
    · rcases hd n hn with ⟨h3, _⟩ | ⟨_, h3 | ⟨h3, h4, h5⟩⟩
      · rw [hg2r _ _ h3] at hv; exact hout _ hv
      · rw [h3] at hv; cases hv
      · rw [h3] at hv; cases hv
    · rw [hg2r _ _ hj] at hv; exact hout _ hv
    · rw [hg2b b hbb] at hv
      rcases hp.boxAV b with h1 | ⟨e, n, h1⟩ <;> rw [h1] at hv <;> cases hv
    · rw [hg2c b hbb] at hv; exact hout _ hv
  · -- where ghosts lie
    intro l b hc hb
    rcases hGs hb with ⟨l', h1, _⟩ | ⟨_, h2⟩
    · have h3 := hp.bnd l' b h1
      refine ⟨h3.1, ?_⟩
      rcases h3.2 with ⟨l0, h4⟩ | h4
      · obtain ⟨l1, h5, _⟩ := hcal h4; exact (h.bnd l1 b h5).2
      · exact .inr (Nat.le_trans h.size h4)
    · exact absurd hc h2
  · -- whose they are
    intro l b hc hb
    have hout : ∀ {l' : Loc} {u : AV}, gp l' = u → Gp l' = some b → (∃ e t xs s, outAV m d st' u = .own e t xs s) ∨ ∃ e n, outAV m d st' u = .bx e n := fun {l' u} hu hb' => by
      rcases hp.gone l' b hb' with ⟨e, t, xs, s, h1⟩ | ⟨e, n, h1⟩
      · rw [hu] at h1; subst h1; exact .inl ⟨e, t, xs, st', rfl⟩
      · rw [hu] at h1; subst h1; exact .inr ⟨e, n, rfl⟩
    cases hr : rl l with
    | some j =>
      rw [hG2r l j hr] at hb
      rw [hg2r l j hr]
      exact hout rfl hb
    | none =>
      cases l with
      | slot n => simp only [G2, hr] at hb; rw [if_pos (hchS hc)] at hb; cases hb
      | comp n i =>
        rcases hc with ⟨n', _, e'⟩ | ⟨j, e'⟩ | ⟨b', hb', e' | ⟨o, e'⟩⟩
        · cases e'
        · rw [hr] at e'; cases e'
        · cases e'
        · cases e'
      | box c =>
        obtain ⟨b', hbb, rfl⟩ := hchB hc
        rw [hG2b b' hbb] at hb
        rw [hg2b b' hbb]
        exact hp.gone _ b hb
      | cell c o =>
        obtain ⟨b', hbb, rfl⟩ := hchC hc
        rw [hG2c b' hbb] at hb
        rw [hg2c b' hbb]
        exact hout rfl hb
  · -- one owner
    intro l l' b hc h1 h2
    have key : ∀ {l}, Ch l → G2 l = some b → (∃ j, rl l = some j ∧ Gp (.slot j) = some b) ∨ (∃ x ∈ bs, l = .box (backN m d x) ∧ Gp (.box x) = some b) ∨ (∃ x ∈ bs, ∃ o, l = .cell (backN m d x) o ∧ Gp (.cell x o) = some b) := fun {l} hc hb => by
      cases hr : rl l with
      | some j => rw [hG2r l j hr] at hb; exact .inl ⟨j, rfl, hb⟩
      | none =>
        cases l with
        | slot n => simp only [G2, hr] at hb; rw [if_pos (hchS hc)] at hb; cases hb
        | comp n i =>
          rcases hc with ⟨n', _, e'⟩ | ⟨j, e'⟩ | ⟨b', hb', e' | ⟨o, e'⟩⟩
          · cases e'
          · rw [hr] at e'; cases e'
          · cases e'
          · cases e'
        | box c =>
          obtain ⟨b', hbb, rfl⟩ := hchB hc
          rw [hG2b b' hbb] at hb
          exact .inr (.inl ⟨b', hbb, rfl, hb⟩)
        | cell c o =>
          obtain ⟨b', hbb, rfl⟩ := hchC hc
          rw [hG2c b' hbb] at hb
          exact .inr (.inr ⟨b', hbb, o, rfl, hb⟩)
    by_cases hc' : Ch l'
    · rcases key hc h1 with ⟨j, e1, q1⟩ | ⟨x, hx, rfl, q1⟩ | ⟨x, hx, o, rfl, q1⟩ <;> rcases key hc' h2 with ⟨j', e1', q1'⟩ | ⟨x', hx', rfl, q1'⟩ | ⟨x', hx', o', rfl, q1'⟩ <;> have hj := hp.inj _ _ b q1 q1' <;> cases hj
      · exact hrl2 _ _ _ e1 e1'
      · rfl
      · rfl
    · exfalso
      rw [hGO _ hc'] at h2
      rcases hGs h1 with ⟨l0, q1, _⟩ | ⟨_, q2⟩
      · rcases (hp.bnd l0 b q1).2 with ⟨l1, q3⟩ | q3
        · obtain ⟨l2, q4, q5⟩ := hcal q3
          rw [h.inj l' l2 b h2 q4] at hc'; exact hc' q5
        · have := (h.bnd l' b h2).1; omega
      · exact q2 hc
  · -- pinned boxes
    intro c gb hc hd0 _ hpn
    exfalso
    obtain ⟨b, hbb, rfl⟩ := hchB hc
    have h1 := h.pinR _ _ hpn
    cases hl : look m b with
    | none =>
      have h2 := hnh b hbb hl
      rcases h1 with h1 | h1
      · simp only [backN, hl, pinMax] at h1; omega
      · rw [h2] at h1; cases h1
    | some c' =>
      have hcb : backN m d b = c' := by simp only [backN, hl]
      obtain ⟨_, e', n', h2, _⟩ := hold b c' hl
      rw [hcb, h2] at hd0; cases hd0
end
end Go.Ev
