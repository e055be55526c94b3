/- A library for the proofs of this seat, part 3 of 4: an evaluator of the code over abstract states, and its soundness. It states nothing of the program. -/
import Derived.Test.YtohcmlejdglimaaEv2
import Derived.OrdersIn
import Derived.LoopNIn
import Derived.RangeFuncLeaves
import Derived.RangeFuncSeq
import Derived.Conc.MuLone
import Derived.Laws.Small
set_option linter.unusedSimpArgs false
set_option linter.unusedVariables false
set_option linter.deprecated false
/- Calls, at the operation; every operation. -/
namespace Go.Ev
open Go.RowKit
section
variable {Z : ZS} {E : Env} {N : Nat} {w0 : World} {Ow : OwS} {S S' D D' : Nat → Prop} {g g' : Mem} {G G' : Ghost} {a a' : Act} {w w' : World} {P : Program} {F : Fence} {n : Nat}

theorem ResR.mono {Pr Pr' : Nat → Prop} {B : Nat} {d : Dat} {v : Value} {k : RK} (h : ResR Pr B w d v k) (hp : (∀ b, Pr b → Pr' b) ∨ k.flat = true) : ResR Pr' B w d v k := by
  cases k with
  | dat t =>
    obtain ⟨cs, h1, h2⟩ := h
    rcases hp with hp | hp
    · exact ⟨cs, h1.keep (fun _ _ => rfl) hp, h2⟩
    · exact ⟨cs, h1.flat_any hp, h2⟩
  | own e t =>
    rcases hp with hp | hp
    · exact ⟨h.1.mono hp, h.2⟩
    · exact ⟨h.1.flat_any hp, h.2⟩

theorem sound_call {ctx : Ctx} {i : Nat} {o : Oper} {f0 : Nat} {xs : Array Operand} {Ts : Array Nat} (hE : EnvOk P E) (hsp : E.spec f0 ≠ none) (ho : o.op = .call { callee := .value (.func f0), args := xs, argTypes := Ts }) : Sound E P ctx i o := by
  intro Z N w0 Ow S D g G a w F n f next Qp h hg hp ht hfr hdst hF hS0 hn
  obtain ⟨hFP, hS0⟩ := hS0
  simp only [plan, ho] at hp
  split at hp
  case h_2 hn0 => exact absurd hn0 hsp
  simp only [callQ, Q.run_bind, Option.bind_eq_some_iff] at hp
  obtain ⟨Sp, hSp, r, hr, hp⟩ := hp
  replace hSp := ofO_some hSp
  have hM := hE.spec f0 Sp hSp
  obtain ⟨ds, ws⟩ := r
  have hws := args_ws h hg hr
  obtain ⟨G1, r1, r2, r3, r4, r5, r6⟩ := freezeAll h hws
  obtain ⟨frz, hfrz⟩ : ∃ b, b = !Sp.results.all RK.flat := ⟨_, rfl⟩
  rw [← hfrz] at hr
  let Pr : Nat → Prop := fun b => if frz then free Z G1 w b else b < w.heap.size
  have hPr : ∀ b, free Z G w b → Pr b := fun b hb => by
    simp only [Pr]; cases frz
    · exact hb.1
    · exact r2 b hb
  have hPl : ∀ b, Pr b → b < w.heap.size := fun b hb => by
    simp only [Pr] at hb; cases frz
    · exact hb
    · exact hb.1
  obtain ⟨ha1, ha2⟩ := args_val h hg hPr (fun hz l b hb => by subst hz; exact (h.bnd l b hb).1) hr (fun p hp' b hb => by
    simp only [Pr]; cases frz
    · exact (h.bnd _ b hb).1
    · exact r3 p hp' b hb)
  -- the call
  have hop : ∀ (pre : Sp.pre ds = true) (K : ∀ w' vs, w.grownBy w' none → vs.length = Sp.results.length →
      (∀ (j : Nat) k, Sp.results[j]? = some k → ResR (fun b => (free Z G1 w b ∨ (w.heap.size ≤ b ∧ b < w'.heap.size)) ∧ ∀ (q : Nat) e t, Sp.results[q]? = some (.own e t) → (vs.getD q undef).ownBlock ≠ some b) w.heap.size w' ((Sp.val ds).getD j ⟨.unit, ()⟩) (vs.getD j undef) k) →
      (∀ (p q : Nat) e t e' t' b, Sp.results[p]? = some (.own e t) → Sp.results[q]? = some (.own e' t') → (vs.getD p undef).ownBlock = some b → (vs.getD q undef).ownBlock = some b → p = q) →
      next (a.put o.dst (retVal vs)) w'), o.wpIn F n P a w next Qp := by
    intro pre K
    refine ⟨fun f _ => hF f, ?_⟩
    have hrun : (o.semAt F.round a.eval).run P w = .ok (.enter f0 (xs.map a.eval)) w := by
      have : (execOp a.eval o).run P w = .ok (.enter f0 (xs.map a.eval)) w := by
        simp only [execOp, ho, resolve, Act.eval, Deferred.ofValue, invoke, Sem.run_bind, Sem.run_pure, Result.andThen_ok, Array.append_empty, Array.empty_append, hM.enter]
      cases hr : F.round with
      | none => rw [Oper.semAt_none]; exact this
      | some l => rw [Oper.semAt_some l a.eval o (by rw [ho]; simp)]; exact this
    rw [hrun]
    have hc := hM.calls w Pr ds (xs.toList.map a.eval) hPl (h.globs' hPr) ha2 ha1 pre
    rw [show (xs.toList.map a.eval).toArray = xs.map a.eval from by rw [← Array.toList_map, Array.toArray_toList]] at hc
    refine ⟨fun hh => (by rw [hFP.depth] at hh; cases hh), hFP.calls (hc.mono ?_)⟩
    rintro e w' ⟨vs, rfl, hgr, hres⟩
    refine K w' vs hgr hres.len (fun j k hk => (hres.r j k hk).mono ?_) hres.apart
    cases hfz : frz with
    | true =>
      refine .inl (fun b hb => ⟨?_, hb.2⟩)
      have := hb.1
      simp only [Pr, hfz, if_true] at this
      exact this
    | false =>
      right
      rw [hfz] at hfrz
      have hall : Sp.results.all RK.flat = true := by simpa using hfrz
      exact List.all_eq_true.1 hall k (List.mem_of_getElem? hk)
  -- one result, told
  have hfree : ∀ {w' : World} {vs : List Value}, w.grownBy w' none → ∀ b, ((free Z G1 w b ∨ (w.heap.size ≤ b ∧ b < w'.heap.size)) ∧ ∀ (q : Nat) e t, Sp.results[q]? = some (.own e t) → (vs.getD q undef).ownBlock ≠ some b) → free Z G1 w' b := by
    intro w' vs hgr b hb
    rcases hb.1 with h1 | h1
    · exact ⟨Nat.lt_of_lt_of_le h1.1 hgr.size, h1.2, h1.3⟩
    · exact ⟨h1.2, fun l e => by have := (r1.bnd l b e).1; omega, h.zow b (.inr (Nat.le_trans h.size h1.1))⟩
  split at hp
  · rename_i d k hd hks
    simp only [Q.run, Option.some.injEq] at hp
    subst hp
    refine hop ht (fun w' vs hgr hlen hres hap => ?_)
    rw [hks] at hlen
    match vs, hlen with
    | [v], _ =>
      have h0 := hres 0 k (by rw [hks]; rfl)
      have e0 : (Sp.val ds).getD 0 ⟨.unit, ()⟩ = (Sp.val ds).headD ⟨.unit, ()⟩ := by cases Sp.val ds <;> rfl
      rw [e0, show ([v] : List Value).getD 0 undef = v from rfl] at h0
      have hg1 := r1.grow hgr
      cases k with
      | dat t =>
        obtain ⟨cs, h1, h2⟩ := h0
        exact fillAfter (v := .dat t _) hg1 hdst hd rfl trivial (by simp) ⟨cs, h1.keep (fun _ _ => rfl) (hfree hgr), h2⟩ hn
      | own e t =>
        obtain ⟨h1, h2⟩ := h0
        cases hgd : (!ctx.isEmpty) with
        | true =>
          simp only [RK.av, hgd, if_true] at hn
          exact fillAfter (v := .dat (.list t) _) hg1 hdst hd rfl trivial (by simp) ⟨[v], h1.frozen (hfree hgr) (fun b hb => ⟨(h2 b hb).2, fun l e => by have := (r1.bnd l b e).1; have := (h2 b hb).1; omega, h.zow b (.inr (Nat.le_trans h.size (h2 b hb).1))⟩), by simp [valOf, Ty.isAgg, retVal]⟩ hn
        | false =>
          simp only [RK.av, hgd, Bool.false_eq_true, if_false] at hn
          obtain ⟨hdN, hdD⟩ := hdst d hd
          obtain ⟨hz, cells, k1, k2, k3⟩ := h1
          obtain ⟨g2, G2, k4, k5⟩ := r1.putOwn' (a' := a.put (some d) v) hdN none (i + 1) hfr hdD (by simp) hgr (fun b hb => .inr (h2 b hb)) hz (k1.imp fun _ _ hc => hc.keep (fun _ _ => rfl) (fun b hb => ⟨hb.1, hb.2 0 e t (by rw [hks]; rfl)⟩)) k2
            (by rw [put_defers]; exact h.defers) (by rw [put_size]; exact h.tmps) (put_tmps a d v (by rw [h.tmps]; exact hdN)) (fun _ hn => put_tmps_ne a v hn)
          rw [show o.dst = some d from hd]
          refine hn _ _ _ _ (fun l => ?_) k5
          rw [k4, Mem.sets_append]
          simp only [Mem.sets, Mem.upd_apply]
          simp
  · rename_i d hd hks
    split at hp
    · simp [Q.run] at hp
    · rename_i hgd
      simp only [Q.run, Option.some.injEq] at hp
      subst hp
      refine hop ht (fun w' vs hgr hlen hres hap => ?_)
      obtain ⟨hdN, hdD⟩ := hdst d hd
      have hret : retVal vs = .tuple vs.toArray := by
        match vs, hlen with
        | [], _ => rfl
        | [v], hlen =>
          cases hk : Sp.results with
          | nil => rw [hk] at hlen; simp at hlen
          | cons k ks => rw [hk] at hlen; simp at hlen; exact (hks k (by rw [hk, hlen])).elim
        | _ :: _ :: _, _ => rfl
      have hgd' : (!ctx.isEmpty) = false := by simpa using hgd
      have hav : ∀ (j : Nat) k, Sp.results[j]? = some k → Sp.results.getD j (.dat .unit) = k := fun j k hk => by simp [List.getD_eq_getElem?_getD, hk]
      obtain ⟨G2, k1⟩ := r1.putTup hdN hdD hgr hlen hfr (R := fun q => (Sp.results.getD q (.dat .unit)).av i (!ctx.isEmpty) ((Sp.val ds).getD q ⟨.unit, ()⟩))
        (Fr := fun b => (free Z G1 w b ∨ (w.heap.size ≤ b ∧ b < w'.heap.size)) ∧ ∀ (q : Nat) e t, Sp.results[q]? = some (.own e t) → (vs.getD q undef).ownBlock ≠ some b)
        (fun b hb => ⟨hb.1, fun q e t xs s hq hR => by
          have hk := List.getElem?_eq_getElem hq
          rw [hav q _ hk, hgd'] at hR
          cases hk2 : Sp.results[q] with
          | dat t' => rw [hk2] at hR; cases hR
          | own e' t' => exact hb.2 q e' t' (by rw [hk, hk2])⟩)
        (fun q hq => by
          have hk := List.getElem?_eq_getElem hq
          have h0 := hres q _ hk
          rw [hav q _ hk, hgd']
          cases hk2 : Sp.results[q] with
          | dat t' =>
            rw [hk2] at h0
            obtain ⟨cs, h1, h2⟩ := h0
            exact .inl ⟨t', _, rfl, cs, h1, h2⟩
          | own e' t' =>
            rw [hk2] at h0
            exact .inr ⟨e', t', _, rfl, h0.1, h0.2⟩)
        (fun p q b e t xs s e' t' xs' s' hp hq hRp hRq hbp hbq => by
          have hkp := List.getElem?_eq_getElem hp
          have hkq := List.getElem?_eq_getElem hq
          rw [hav p _ hkp, hgd'] at hRp
          rw [hav q _ hkq, hgd'] at hRq
          cases hk2 : Sp.results[p] with
          | dat t' => rw [hk2] at hRp; cases hRp
          | own e1 t1 =>
            cases hk3 : Sp.results[q] with
            | dat t' => rw [hk3] at hRq; cases hRq
            | own e2 t2 => exact hap p q e1 t1 e2 t2 b (by rw [hkp, hk2]) (by rw [hkq, hk3]) hbp hbq)
        (g2 := g.sets (ws ++ (.slot d, .tup Sp.results.length) :: resultsW d i (!ctx.isEmpty) 0 Sp.results (Sp.val ds))) (fun l => by
          rw [Mem.sets_append, Mem.sets_cons, callQ_results]
          cases l <;> simp [Mem.upd_apply])
      rw [hret, show o.dst = some d from hd]
      exact hn _ _ _ _ (fun _ => rfl) k1
  · rename_i hd
    simp only [Q.run, Option.some.injEq] at hp
    subst hp
    refine hop ht (fun w' vs hgr hlen hres hap => ?_)
    rw [show o.dst = none from hd]
    exact hn _ _ _ _ (fun _ => rfl) ((r1.grow hgr).more (fun _ hs => .inl hs) (fun _ hd => hd) (r1.grow hgr).dbool)
end
end Go.Ev

/- What is handed to a callee: names, data, boxes; the callee's own relation. -/
namespace Go.Ev
open Go.RowKit
section
variable {Z : ZS} {E : Env} {N : Nat} {w0 : World} {Ow : OwS} {S D : Nat → Prop} {g g1 : Mem} {G G1 : Ghost} {a : Act} {w : World} {P : Program}

def NInj (m : Names) : Prop := ∀ b b' c, look m b = some c → look m b' = some c → b = b'
def NExt (m m' : Names) : Prop := ∀ b c, look m b = some c → look m' b = some c
theorem NExt.refl (m : Names) : NExt m m := fun _ _ h => h
theorem NExt.trans {m m' m'' : Names} (h : NExt m m') (k : NExt m' m'') : NExt m m'' := fun b c hb => k b c (h b c hb)
theorem look_mem : ∀ {m : Names} {b c : Nat}, look m b = some c → (b, c) ∈ m
  | [], _, _, h => by simp [look] at h
  | p :: r, b, c, h => by
    simp only [look] at h
    cases hp : Nat.beq p.1 b with
    | true =>
      rw [hp] at h
      have := Nat.eq_of_beq_eq_true hp
      simp only [cond_true, Option.some.injEq] at h
      subst this; subst h; simp
    | false => rw [hp] at h; exact List.mem_cons_of_mem _ (look_mem h)
theorem bindN_spec {m m' : Names} {b c : Nat} (h : bindN m b c = some m') (hi : NInj m) : NInj m' ∧ look m' b = some c ∧ NExt m m' := by
  unfold bindN at h
  split at h
  · rename_i c' hc
    cases he : Nat.beq c' c with
    | false => rw [he] at h; cases h
    | true =>
      rw [he] at h
      have := Nat.eq_of_beq_eq_true he
      subst this
      cases h
      exact ⟨hi, hc, NExt.refl _⟩
  · rename_i hn
    cases he : m.any (fun p => Nat.beq p.2 c) with
    | true => rw [he] at h; cases h
    | false =>
      rw [he] at h
      cases h
      have hno : ∀ x, look m x ≠ some c := fun x hx => by
        have := List.any_eq_false.1 he _ (look_mem hx)
        simp at this
      have hl : ∀ x, look ((b, c) :: m) x = if b = x then some c else look m x := fun x => by
        simp only [look]
        by_cases hx : b = x
        · subst hx; simp
        · have : Nat.beq b x = false := by
            cases hb : Nat.beq b x with
            | false => rfl
            | true => exact absurd (Nat.eq_of_beq_eq_true hb) hx
          rw [this, if_neg hx]; rfl
      refine ⟨fun x y z hx hy => ?_, by rw [hl, if_pos rfl], fun x z hx => ?_⟩
      · rw [hl] at hx hy
        split at hx
        · split at hy
          · rename_i e1 e2; rw [← e1, ← e2]
          · cases hx; exact absurd hy (hno y)
        · split at hy
          · cases hy; exact absurd hx (hno x)
          · exact hi x y z hx hy
      · rw [hl, if_neg (fun e => by subst e; rw [hn] at hx; cases hx)]; exact hx
theorem bindAll_spec : ∀ {bs cs : List Nat} {m m' : Names}, bindAll m bs cs = some m' → NInj m → NInj m' ∧ NExt m m' ∧ bs.length = cs.length ∧ ∀ (i b : Nat), bs[i]? = some b → ∃ c, cs[i]? = some c ∧ look m' b = some c
  | [], [], m, m', h, hi => by simp [bindAll] at h; subst h; exact ⟨hi, NExt.refl _, rfl, by simp⟩
  | [], _ :: _, m, m', h, _ => by simp [bindAll] at h
  | _ :: _, [], m, m', h, _ => by simp [bindAll] at h
  | b :: bs, c :: cs, m, m', h, hi => by
    simp only [bindAll] at h
    split at h
    · rename_i m1 h1
      obtain ⟨k1, k2, k3⟩ := bindN_spec h1 hi
      obtain ⟨q1, q2, q3, q4⟩ := bindAll_spec h k1
      refine ⟨q1, k3.trans q2, by simp [q3], fun i x hx => ?_⟩
      cases i with
      | zero => simp at hx; subst hx; exact ⟨c, by simp, q2 _ _ k2⟩
      | succ i => simpa using q4 i x (by simpa using hx)
    · cases h

/-- What a callee is told of a cell, and what its caller is. -/
inductive Conv (m : Names) : AV → AV → Prop
  | dead (v : AV) : Conv m .dead v
  | dat (t : Ty) (x : t.den) : Conv m (.dat t x) (.dat t x)
  | nilDat (t : Ty) : Conv m (.dat (.list t) []) .nil
  | own (e : Nat) (t : Ty) (xs : List t.den) (s : Nat) : Conv m (.own e t xs 0) (.own e t xs s)
  | nilOwn (e : Nat) (t : Ty) (h : 0 < t.sz) : Conv m (.own e t [] 0) .nil
  | ptr (b c o : Nat) (h : look m b = some c) : Conv m (.ptr b o) (.ptr c o)
  | mptr (b c o : Nat) (p : Bool) (h : look m b = some c) : Conv m (.mptr b o p) (.mptr c o p)
  | fn (f : Nat) (bs cs : List Nat) (hl : bs.length = cs.length) (h : ∀ (i b : Nat), bs[i]? = some b → ∃ c, cs[i]? = some c ∧ look m b = some c) : Conv m (.fn f bs) (.fn f cs)
  | nil : Conv m .nil .nil

/-- What a callee is told of an argument, as its caller knows it. -/
def ArgV (Z : ZS) (m : Names) (g : Mem) (G : Ghost) (w : World) (val : Value) : AV → Prop
  | .dead => True
  | .dat t x => ∃ cs, RV (free Z G w) w t x cs ∧ val = valOf t cs
  | .ptr b o => ∃ c e n gb, look m b = some c ∧ g (.box c) = .bx e n ∧ G (.box c) = some gb ∧ val = .pointer (some ⟨gb, o, none⟩)
  | .mptr b o p => (p = true → ∃ c e n gb, look m b = some c ∧ g (.box c) = .bx e n ∧ G (.box c) = some gb ∧ val = .pointer (some ⟨gb, o, none⟩)) ∧ (p = false → val = .pointer none)
  | .fn f bs => ∃ vs : Array Value, val = .func (.func f) #[] vs ∧ vs.size = bs.length ∧ ∀ (i b : Nat), bs[i]? = some b → ∃ c e n gb, look m b = some c ∧ g (.box c) = .bx e n ∧ G (.box c) = some gb ∧ vs.getD i undef = .pointer (some ⟨gb, 0, none⟩)
  | _ => False

/-- The callee's ghost. -/
def calleeG (m : Names) (gc : Mem) (G : Ghost) : Ghost := fun l => match l with
  | .box b => (match gc (.box b) with
    | .bx _ _ => (look m b).bind fun c => G (.box c)
    | _ => none)
  | .cell b o => (match gc (.cell b o) with
    | .own _ _ _ _ => (look m b).bind fun c => G (.cell c o)
    | _ => none)
  | _ => none
def calleeOw (m : Names) (gc : Mem) (G : Ghost) : OwS := ⟨fun b => ∃ l, calleeG m gc G l = some b, fun b => (look m b).bind fun c => G (.box c), []⟩
def calleeZ (Z : ZS) (m : Names) (gc : Mem) (G : Ghost) (w : World) : ZS := ⟨fun b => free Z G w b ∨ (∃ l, calleeG m gc G l = some b) ∨ w.heap.size ≤ b, 0⟩

theorem calleeG_some {m : Names} {gc : Mem} {G : Ghost} {l : Loc} {b : Nat} (h : calleeG m gc G l = some b) :
    (∃ x c e n, l = .box x ∧ look m x = some c ∧ G (.box c) = some b ∧ gc l = .bx e n) ∨ (∃ x c o e t xs s, l = .cell x o ∧ look m x = some c ∧ G (.cell c o) = some b ∧ gc l = .own e t xs s) := by
  cases l with
  | slot n => simp [calleeG] at h
  | comp n i => simp [calleeG] at h
  | box x =>
    simp only [calleeG] at h
    split at h
    · rename_i e n he
      rw [Option.bind_eq_some_iff] at h
      obtain ⟨c, h1, h2⟩ := h
      exact .inl ⟨x, c, e, n, rfl, h1, h2, he⟩
    · cases h
  | cell x o =>
    simp only [calleeG] at h
    split at h
    · rename_i e t xs s he
      rw [Option.bind_eq_some_iff] at h
      obtain ⟨c, h1, h2⟩ := h
      exact .inr ⟨x, c, o, e, t, xs, s, rfl, h1, h2, he⟩
    · cases h

theorem nil_window {cur : Array Value} {o : Nat} (ho : o < cur.size) {t : Ty} : (cur.toList.drop o).take (Ty.list t).sz = [cur.getD o undef] := by
  rw [List.drop_eq_getElem_cons (by simpa using ho)]
  simp [Ty.sz, Array.getD_eq_getD_getElem?, ho]

/-- **The callee's relation.** -/
theorem Rel.callee (h : Rel Z E N w0 Ow S D g G a w) (yl : Nat) {m : Names} (hm : NInj m) (hmr : ∀ b c, look m b = some c → 50000 ≤ b ∧ b < 100000) {gc : Mem} {args : List Value} (hal : args.length ≤ 50000)
    (hslot : ∀ n, ArgV Z m g G w (args.getD n undef) (gc (.slot n)))
    (hcomp : ∀ n i, gc (.comp n i) = .dead)
    (hbox : ∀ b, gc (.box b) = .dead ∨ ∃ c e n, look m b = some c ∧ g (.box c) = .bx e n ∧ gc (.box b) = .bx e n)
    (hall : ∀ b c, look m b = some c → gc (.box b) ≠ .dead)
    (hcell : ∀ b o, gc (.cell b o) = .dead ∨ ∃ c, look m b = some c ∧ Conv m (gc (.cell b o)) (g (.cell c o))) :
    Rel ⟨(calleeZ Z m gc G w).z, yl⟩ (globE E.glob) args.length w (calleeOw m gc G) (fun n => n = 0) (fun _ => False) gc (calleeG m gc G) { tmps := args.toArray, defers := [] } w := by
  have hGl : ∀ {l b}, calleeG m gc G l = some b → ∃ l', G l' = some b := fun {l b} e => by
    rcases calleeG_some e with ⟨_, c, _, _, _, _, h1, _⟩ | ⟨_, c, o, _, _, _, _, _, _, h1, _⟩
    · exact ⟨_, h1⟩
    · exact ⟨_, h1⟩
  have hfree : ∀ b, free Z G w b → free ⟨(calleeZ Z m gc G w).z, yl⟩ (calleeG m gc G) w b := fun b hb => ⟨hb.1, fun l e => by
    obtain ⟨l', h1⟩ := hGl e
    exact hb.2 l' h1, .inl hb⟩
  have hRV : ∀ {t : Ty} {x : t.den} {cs : List Value}, RV (free Z G w) w t x cs → RV (free ⟨(calleeZ Z m gc G w).z, yl⟩ (calleeG m gc G) w) w t x cs := fun hv => hv.keep (fun _ _ => rfl) hfree
  have hbx : ∀ {b c : Nat}, look m b = some c → ∃ e n, g (.box c) = .bx e n ∧ gc (.box b) = .bx e n := fun {b c} hb => by
    rcases hbox b with h1 | ⟨c', e, n, h1, h2, h3⟩
    · exact absurd h1 (hall b c hb)
    · rw [hb] at h1; cases h1; exact ⟨e, n, h2, h3⟩
  have hGb : ∀ {b c : Nat}, look m b = some c → calleeG m gc G (.box b) = G (.box c) := fun {b c} hb => by
    obtain ⟨e, n, _, h2⟩ := hbx hb
    simp only [calleeG, h2, hb, Option.bind_some]
  have hptr : ∀ {b c o : Nat} {v : Value}, look m b = some c → (∃ e n gb, g (.box c) = .bx e n ∧ G (.box c) = some gb ∧ v = .pointer (some ⟨gb, o, none⟩)) → ∃ e n gb, gc (.box b) = .bx e n ∧ calleeG m gc G (.box b) = some gb ∧ v = .pointer (some ⟨gb, o, none⟩) := fun {b c o v} hb ⟨e, n, gb, h1, h2, h3⟩ => by
    obtain ⟨e', n', h4, h5⟩ := hbx hb
    exact ⟨e', n', gb, h5, (hGb hb).trans h2, h3⟩
  refine ⟨rfl, by simp, rfl, rfl, rfl, Nat.le_refl _, fun _ _ _ => rfl, fun l b e => ?_, fun b hb => ?_, fun l l' b e e' => ?_, fun l b e => ?_, fun n => ?_, fun n k i hn => ?_, fun b e n hb => ?_, fun b o hne => ?_, fun b o o' h1 h2 hne => ?_, fun b => ?_, fun l => ?_, fun l c v hl => ?_, fun k hk => hk.elim, fun k d hk => ?_, fun b gb hp hne => ?_, fun b gb hp => ?_⟩
  · obtain ⟨l', h1⟩ := hGl e
    exact ⟨(h.bnd l' b h1).1, .inl ⟨l, e⟩⟩
  · rcases hb with h1 | h1
    · exact .inr (.inl h1)
    · exact .inr (.inr h1)
  · rcases calleeG_some e with ⟨x, c, _, _, rfl, h1, h2, _⟩ | ⟨x, c, o, _, _, _, _, rfl, h1, h2, _⟩ <;> rcases calleeG_some e' with ⟨x', c', _, _, rfl, h1', h2', _⟩ | ⟨x', c', o', _, _, _, _, rfl, h1', h2', _⟩ <;> have := h.inj _ _ b h2 h2'
    · cases this; rw [hm _ _ _ h1 h1']
    · cases this
    · cases this
    · cases this; rw [hm _ _ _ h1 h1']
  · rcases calleeG_some e with ⟨x, c, e1, n1, rfl, _, _, h3⟩ | ⟨x, c, o, e1, t1, xs1, s1, rfl, _, _, h3⟩
    · exact .inr ⟨e1, n1, h3⟩
    · exact .inl ⟨e1, t1, xs1, s1, h3⟩
  · have hv := hslot n
    have ha : args.toArray.getD n undef = args.getD n undef := by simp
    show AVR _ _ _ _ _ (gc (.slot n)) _ (args.toArray.getD n undef)
    rw [ha]
    cases hu : gc (.slot n) <;> rw [hu] at hv <;> simp only [ArgV] at hv
    · trivial
    · obtain ⟨cs, h1, h2⟩ := hv; exact ⟨cs, hRV h1, h2⟩
    · obtain ⟨c, e, n1, gb, h1, h2⟩ := hv
      exact hptr h1 ⟨e, n1, gb, h2⟩
    · obtain ⟨vs, h1, h2, h3⟩ := hv
      refine ⟨vs, h1, h2, fun i b hi => ?_⟩
      obtain ⟨c, e, n1, gb, h4, h5⟩ := h3 i b hi
      exact hptr h4 ⟨e, n1, gb, h5⟩
    · obtain ⟨t1, t2⟩ := hv
      refine ⟨fun hp => ?_, t2⟩
      obtain ⟨c, e, n1, gb, h1, h2⟩ := t1 hp
      exact hptr h1 ⟨e, n1, gb, h2⟩
  · have hv := hslot n
    rw [hn] at hv; exact hv.elim
  · rcases hbox b with h1 | ⟨c, e', n', h1, h2, h3⟩
    · rw [h1] at hb; cases hb
    · rw [h3] at hb; cases hb
      obtain ⟨gb, cur, h4, h5, h6⟩ := h.boxes c e n h2
      exact ⟨gb, cur, (hGb h1).trans h4, h5, h6⟩
  · rcases hcell b o with h1 | ⟨c, h1, h2⟩
    · exact absurd h1 hne
    · obtain ⟨e, n, h3, h4⟩ := hbx h1
      generalize hu : gc (.cell b o) = u at h2 hne
      generalize hv : g (.cell c o) = v at h2
      have hvne : v ≠ .dead := by rintro rfl; cases h2; exact hne rfl
      obtain ⟨e', n', gb, cur, k1, k2, k3, k4⟩ := h.cells c o (by rw [hv]; exact hvne)
      rw [h3] at k1; cases k1
      rw [hv] at k4
      refine ⟨e, n, gb, cur, h4, (hGb h1).trans k2, k3, ?_⟩
      cases h2 with
      | dead => trivial
      | dat t x => exact ⟨k4.1, hRV k4.2⟩
      | nilDat t =>
        refine ⟨k4.1, ?_⟩
        rw [nil_window k4.1, show cur.getD o undef = .slice Option.none 0 0 from k4.2]
        exact RV.nil_
      | own e1 t xs s =>
        refine ⟨k4.1, ?_⟩
        simp only [AVR, calleeG, hu, h1, Option.bind_some]
        exact (show OwnR _ _ _ _ _ _ _ from k4.2).keep (fun b hb => ⟨hfree b hb, rfl⟩) (fun _ _ => rfl)
      | nilOwn e1 t ht =>
        refine ⟨k4.1, ?_⟩
        have hGn : G (.cell c o) = Option.none := by
          cases hg : G (.cell c o) with
          | none => rfl
          | some b1 => rcases h.gone _ b1 hg with ⟨_, _, _, _, q⟩ | ⟨_, _, q⟩ <;> rw [hv] at q <;> cases q
        simp only [AVR, calleeG, hu, h1, Option.bind_some, hGn]
        rw [show cur.getD o undef = .slice Option.none 0 0 from k4.2]
        exact ⟨ht, [], .nil, ⟨by simp, .inl ⟨rfl, rfl⟩⟩, rfl⟩
      | ptr b1 c1 o1 hl => exact ⟨k4.1, hptr hl k4.2⟩
      | mptr b1 c1 o1 p hl => exact ⟨k4.1, fun hp => hptr hl (k4.2.1 hp), k4.2.2⟩
      | fn f bs cs hl hf =>
        refine ⟨k4.1, ?_⟩
        obtain ⟨vs, q1, q2, q3⟩ := k4.2
        refine ⟨vs, q1, q2.trans hl.symm, fun i b1 hi => ?_⟩
        obtain ⟨c1, hc1, hc2⟩ := hf i b1 hi
        exact hptr hc2 (q3 i c1 hc1)
      | nil => exact ⟨k4.1, k4.2⟩
  · have hsz : ∀ {b o}, gc (.cell b o) ≠ .dead → ∃ c, look m b = some c ∧ g (.cell c o) ≠ .dead ∧ (gc (.cell b o)).size = (g (.cell c o)).size := fun {b o} hne => by
      rcases hcell b o with k1 | ⟨c, k1, k2⟩
      · exact absurd k1 hne
      · refine ⟨c, k1, ?_⟩
        generalize gc (.cell b o) = u at k2 hne
        generalize g (.cell c o) = v at k2
        cases k2 <;> first | exact absurd rfl hne | exact ⟨by simp, rfl⟩
    obtain ⟨c, k1, k2, k3⟩ := hsz h1
    obtain ⟨c', q1, q2, q3⟩ := hsz h2
    rw [k1] at q1; cases q1
    rw [k3, q3]
    exact h.apart c o o' k2 q2 hne
  · rcases hbox b with h1 | ⟨c, e, n, h1, h2, h3⟩
    · exact .inl h1
    · exact .inr ⟨e, n, h3⟩
  · cases l with
    | slot n =>
      have hv := hslot n
      generalize gc (.slot n) = u at hv
      cases u <;> first | exact hv.elim | trivial
    | comp n i => rw [hcomp]; trivial
    | box b =>
      rcases hbox b with h1 | ⟨c, e, n, h1, h2, h3⟩
      · rw [h1]; trivial
      · rw [h3]; trivial
    | cell b o =>
      rcases hcell b o with h1 | ⟨c, h1, h2⟩
      · rw [h1]; trivial
      · generalize gc (.cell b o) = u at h2
        generalize g (.cell c o) = v at h2
        cases h2 <;> first | trivial | exact rfl
  · exfalso
    cases l with
    | slot n => have hv := hslot n; rw [hl] at hv; exact hv
    | comp n i => rw [hcomp] at hl; cases hl
    | box b =>
      rcases hbox b with h1 | ⟨c, e, n, h1, h2, h3⟩
      · rw [h1] at hl; cases hl
      · rw [h3] at hl; cases hl
    | cell b o =>
      rcases hcell b o with h1 | ⟨c', h1, h2⟩
      · rw [h1] at hl; cases hl
      · rw [hl] at h2; cases h2
  · obtain ⟨cs, h1, h2, h3⟩ := h.globs k d hk
    exact ⟨cs, hRV h1, fun hne => hfree _ (h2 hne), h3⟩
  · simp only [calleeOw, Option.bind_eq_some_iff] at hp
    obtain ⟨c, h1, h2⟩ := hp
    rw [hGb h1]; exact h2
  · simp only [calleeOw, Option.bind_eq_some_iff] at hp
    obtain ⟨c, h1, h2⟩ := hp
    have := hmr b c h1
    exact .inl ⟨by omega, this.2⟩
end
end Go.Ev

/- What is handed to a callee, as the operation reads it. -/
namespace Go.Ev
open Go.RowKit
section
variable {Z : ZS} {E : Env} {N : Nat} {w0 : World} {Ow : OwS} {S D : Nat → Prop} {g g1 : Mem} {G G1 : Ghost} {a : Act} {w : World} {P : Program}

theorem inArg_names {m : Names} {x : Operand} {k : Kd} {v : AV} {r : k.den × Names × List (Loc × AV)} (hr : (inArg m x k v).run g = some r) (hm : NInj m) : NInj r.2.1 ∧ NExt m r.2.1 := by
  unfold inArg at hr
  split at hr
  · split at hr
    · simp [Q.run] at hr; subst hr; exact ⟨hm, NExt.refl _⟩
    · simp only [Q.run_bind, Option.bind_eq_some_iff] at hr
      obtain ⟨d, _, hr⟩ := hr
      split at hr
      · simp [Q.run] at hr; subst hr; exact ⟨hm, NExt.refl _⟩
      · simp [Q.run] at hr
  · split at hr
    · simp only [Q.run_bind, Option.bind_eq_some_iff, Q.run, Option.some.injEq] at hr
      obtain ⟨m', h1, rfl⟩ := hr
      have := bindN_spec (ofO_some h1) hm
      exact ⟨this.1, this.2.2⟩
    · simp [Q.run] at hr
  · split at hr
    · simp only [Q.run_bind, Option.bind_eq_some_iff, Q.run, Option.some.injEq] at hr
      obtain ⟨m', h1, rfl⟩ := hr
      have := bindN_spec (ofO_some h1) hm
      exact ⟨this.1, this.2.2⟩
    · simp [Q.run] at hr
  · split at hr
    · simp only [Q.run_bind, Option.bind_eq_some_iff, Q.run, Option.some.injEq] at hr
      obtain ⟨m', h1, rfl⟩ := hr
      have := bindAll_spec (ofO_some h1) hm
      exact ⟨this.1, this.2.1⟩
    · simp [Q.run] at hr
  · simp [Q.run] at hr; subst hr; exact ⟨hm, NExt.refl _⟩
  · simp [Q.run] at hr
theorem inCell_names {m : Names} {l : Loc} {k : Kd} {v : AV} {r : k.den × Names × List (Loc × AV)} (hr : (inCell m l k v).run g = some r) (hm : NInj m) : NInj r.2.1 ∧ NExt m r.2.1 := by
  unfold inCell at hr
  split at hr
  · split at hr
    · simp [Q.run] at hr; subst hr; exact ⟨hm, NExt.refl _⟩
    · split at hr
      · simp [Q.run] at hr; subst hr; exact ⟨hm, NExt.refl _⟩
      · simp [Q.run] at hr
    · split at hr
      · simp [Q.run] at hr; subst hr; exact ⟨hm, NExt.refl _⟩
      · simp [Q.run] at hr
    · simp [Q.run] at hr
  · split at hr
    · split at hr
      · split at hr
        · simp [Q.run] at hr; subst hr; exact ⟨hm, NExt.refl _⟩
        · simp [Q.run] at hr
      · simp [Q.run] at hr
    · split at hr
      · simp [Q.run] at hr; subst hr; exact ⟨hm, NExt.refl _⟩
      · simp [Q.run] at hr
    · simp [Q.run] at hr
  · split at hr
    · simp only [Q.run_bind, Option.bind_eq_some_iff, Q.run, Option.some.injEq] at hr
      obtain ⟨m', h1, rfl⟩ := hr
      have := bindN_spec (ofO_some h1) hm
      exact ⟨this.1, this.2.2⟩
    · simp [Q.run] at hr
  · split at hr
    · simp only [Q.run_bind, Option.bind_eq_some_iff, Q.run, Option.some.injEq] at hr
      obtain ⟨m', h1, rfl⟩ := hr
      have := bindN_spec (ofO_some h1) hm
      exact ⟨this.1, this.2.2⟩
    · simp [Q.run] at hr
  · split at hr
    · simp only [Q.run_bind, Option.bind_eq_some_iff, Q.run, Option.some.injEq] at hr
      obtain ⟨m', h1, rfl⟩ := hr
      have := bindAll_spec (ofO_some h1) hm
      exact ⟨this.1, this.2.1⟩
    · simp [Q.run] at hr
  · simp [Q.run] at hr; subst hr; exact ⟨hm, NExt.refl _⟩
  · simp [Q.run] at hr; subst hr; exact ⟨hm, NExt.refl _⟩
  · simp [Q.run] at hr

/-- The values that are handed over. -/
def ArgOk (g : Mem) (G : Ghost) (a : Act) : Arg → Value → Prop
  | .opd x, v => v = a.eval x
  | .cap c, v => ∃ e n gb, g (.box c) = .bx e n ∧ G (.box c) = some gb ∧ v = .pointer (some ⟨gb, 0, none⟩)

theorem inArg_ws (h : Rel Z E N w0 Ow S D g G a w) {ctx : Ctx} (hg : (gcond ctx).run g = some true) {x : Arg} {v : AV} (hv : (rdArg E ctx x).run g = some v) {m : Names} {k : Kd} {r : k.den × Names × List (Loc × AV)} (hr : (inArg m x.opd' k v).run g = some r) : ∀ p ∈ r.2.2, isFrz g p := by
  unfold inArg at hr
  split at hr
  · split at hr
    · simp [Q.run] at hr; subst hr; simp
    · simp only [Q.run_bind, Option.bind_eq_some_iff] at hr
      obtain ⟨d, hd, hr⟩ := hr
      split at hr
      · simp [Q.run] at hr; subst hr
        cases x with
        | opd x => exact toDat_ws h (rd_told h hg hv) hd
        | cap c =>
          simp only [rdArg, Q.run, Option.some.injEq] at hv
          subst hv
          simp [toDat, Q.run] at hd
      · simp [Q.run] at hr
  · split at hr
    · simp only [Q.run_bind, Option.bind_eq_some_iff, Q.run, Option.some.injEq] at hr
      obtain ⟨m', _, rfl⟩ := hr
      simp
    · simp [Q.run] at hr
  · split at hr
    · simp only [Q.run_bind, Option.bind_eq_some_iff, Q.run, Option.some.injEq] at hr
      obtain ⟨m', _, rfl⟩ := hr
      simp
    · simp [Q.run] at hr
  · split at hr
    · simp only [Q.run_bind, Option.bind_eq_some_iff, Q.run, Option.some.injEq] at hr
      obtain ⟨m', _, rfl⟩ := hr
      simp
    · simp [Q.run] at hr
  · simp [Q.run] at hr; subst hr; simp
  · simp [Q.run] at hr
theorem inCell_ws {c o : Nat} {m : Names} {k : Kd} {v : AV} (hgv : g (.cell c o) = v) {r : k.den × Names × List (Loc × AV)} (hr : (inCell m (.cell c o) k v).run g = some r) : ∀ p ∈ r.2.2, isFrz g p := by
  unfold inCell at hr
  split at hr
  · split at hr
    · simp [Q.run] at hr; subst hr; simp
    · rename_i t e t' xs s
      split at hr
      · simp [Q.run] at hr; subst hr
        intro p hp
        simp at hp
        subst hp
        exact ⟨trivial, .inl ⟨e, t', xs, s, hgv, rfl⟩⟩
      · simp [Q.run] at hr
    · split at hr
      · simp [Q.run] at hr; subst hr; simp
      · simp [Q.run] at hr
    · simp [Q.run] at hr
  · split at hr
    · split at hr
      · split at hr
        · simp [Q.run] at hr; subst hr; simp
        · simp [Q.run] at hr
      · simp [Q.run] at hr
    · split at hr
      · simp [Q.run] at hr; subst hr; simp
      · simp [Q.run] at hr
    · simp [Q.run] at hr
  · split at hr
    · simp only [Q.run_bind, Option.bind_eq_some_iff, Q.run, Option.some.injEq] at hr
      obtain ⟨m', _, rfl⟩ := hr
      simp
    · simp [Q.run] at hr
  · split at hr
    · simp only [Q.run_bind, Option.bind_eq_some_iff, Q.run, Option.some.injEq] at hr
      obtain ⟨m', _, rfl⟩ := hr
      simp
    · simp [Q.run] at hr
  · split at hr
    · simp only [Q.run_bind, Option.bind_eq_some_iff, Q.run, Option.some.injEq] at hr
      obtain ⟨m', _, rfl⟩ := hr
      simp
    · simp [Q.run] at hr
  · simp [Q.run] at hr; subst hr; simp
  · simp [Q.run] at hr; subst hr; simp
  · simp [Q.run] at hr

/-- What was frozen on the way in. -/
structure Frozen (Z : ZS) (w : World) (g : Mem) (G : Ghost) (ws : List (Loc × AV)) (G1 : Ghost) : Prop where
  fr : ∀ b, free Z G w b → free Z G1 w b
  wf : ∀ p ∈ ws, ∀ b, G p.1 = some b → free Z G1 w b
  same : ∀ l, (∀ e t xs s, g l ≠ .own e t xs s) → g.sets ws l = g l
  ghost : ∀ l, G1 l = none ∨ G1 l = G l
  box : ∀ b, G1 (.box b) = G (.box b)

theorem Frozen.bx {ws : List (Loc × AV)} (hF : Frozen Z w g G ws G1) {c e n : Nat} (h : g (.box c) = .bx e n) : g.sets ws (.box c) = .bx e n := by
  rw [hF.same _ (by rw [h]; simp)]; exact h

theorem inArg_val (h : Rel Z E N w0 Ow S D g G a w) {ctx : Ctx} (hg : (gcond ctx).run g = some true) {ws : List (Loc × AV)} (hF : Frozen Z w g G ws G1) {x : Arg} {val : Value} (hx : ArgOk g G a x val) {v : AV} (hv : (rdArg E ctx x).run g = some v)
    {m M : Names} {k : Kd} {r : k.den × Names × List (Loc × AV)} (hr : (inArg m x.opd' k v).run g = some r) (hm : NInj m) (hM : NExt r.2.1 M) (hws : ∀ p ∈ r.2.2, p ∈ ws) : ArgV Z M (g.sets ws) G1 w val (k.mk r.1) := by
  have hnames := inArg_names hr hm
  -- the value, told
  have told : (∀ l, (∀ e t xs s, v = .own e t xs s → ∃ s', l = .slot s' ∧ x = .opd (.tmp s')) → AVR Z g G a w v l val) := fun l hl => by
    cases x with
    | opd x =>
      have hT := rd_told h hg hv
      rw [show val = a.eval x from hx]
      exact hT.r l (fun e t xs s e' => by obtain ⟨s', h1, h2⟩ := hl e t xs s e'; exact ⟨s', h1, by cases h2; rfl⟩)
    | cap c =>
      simp only [rdArg, Q.run, Option.some.injEq] at hv
      subst hv
      exact hx
  have hnil : v = .nil → val = .slice Option.none 0 0 := fun e => by subst e; exact told (.slot 0) (by simp)
  unfold inArg at hr
  split at hr
  · split at hr
    · rename_i t hv2
      simp [Q.run] at hr; subst hr
      exact ⟨_, RV.nil_, by rw [hnil rfl]; rfl⟩
    · simp only [Q.run_bind, Option.bind_eq_some_iff] at hr
      obtain ⟨d, hd, hr⟩ := hr
      split at hr
      · rename_i ht
        simp [Q.run] at hr; subst hr
        cases x with
        | opd x =>
          obtain ⟨cs, h1, h2⟩ := toDat_val h (rd_told h hg hv) hd hF.fr (fun p hp b hb => hF.wf p (hws p hp) b hb)
          obtain ⟨⟨dt, dx⟩, dw⟩ := d
          dsimp only at ht h1 h2
          subst ht
          exact ⟨cs, h1, by rw [show val = a.eval x from hx]; exact h2⟩
        | cap c =>
          simp only [rdArg, Q.run, Option.some.injEq] at hv
          subst hv
          simp [toDat, Q.run] at hd
      · simp [Q.run] at hr
  · rename_i b o c o'
    split at hr
    · rename_i ho
      have ho := Nat.eq_of_beq_eq_true ho
      subst ho
      simp only [Q.run_bind, Option.bind_eq_some_iff, Q.run, Option.some.injEq] at hr
      obtain ⟨m', h1, rfl⟩ := hr
      have hl := (bindN_spec (ofO_some h1) hm).2.1
      obtain ⟨e, n, gb, h2, h3, h4⟩ := told (.slot 0) (by simp)
      exact ⟨c, e, n, gb, hM _ _ hl, hF.bx h2, (hF.box c).trans h3, h4⟩
    · simp [Q.run] at hr
  · rename_i b o c o' pp
    split at hr
    · rename_i ho
      have ho := Nat.eq_of_beq_eq_true ho
      subst ho
      simp only [Q.run_bind, Option.bind_eq_some_iff, Q.run, Option.some.injEq] at hr
      obtain ⟨m', h1, rfl⟩ := hr
      have hl := (bindN_spec (ofO_some h1) hm).2.1
      obtain ⟨t1, t2⟩ := told (.slot 0) (by simp)
      refine ⟨fun hp => ?_, t2⟩
      obtain ⟨e, n, gb, h2, h3, h4⟩ := t1 hp
      exact ⟨c, e, n, gb, hM _ _ hl, hF.bx h2, (hF.box c).trans h3, h4⟩
    · simp [Q.run] at hr
  · rename_i f bs f' cs
    split at hr
    · rename_i hf
      have hf := Nat.eq_of_beq_eq_true hf
      subst hf
      simp only [Q.run_bind, Option.bind_eq_some_iff, Q.run, Option.some.injEq] at hr
      obtain ⟨m', h1, rfl⟩ := hr
      obtain ⟨_, _, hl, hi⟩ := bindAll_spec (ofO_some h1) hm
      obtain ⟨vs, h2, h3, h4⟩ := told (.slot 0) (by simp)
      refine ⟨vs, h2, h3.trans hl.symm, fun i b hb => ?_⟩
      obtain ⟨c, hc, hlk⟩ := hi i b hb
      obtain ⟨e, n, gb, h5, h6, h7⟩ := h4 i c hc
      exact ⟨c, e, n, gb, hM _ _ hlk, hF.bx h5, (hF.box c).trans h6, h7⟩
    · simp [Q.run] at hr
  · trivial
  · simp [Q.run] at hr

/-- A freezing write lies where it freezes. -/
theorem frz_at {ws : List (Loc × AV)} (hw : ∀ p ∈ ws, isFrz g p) {l : Loc} {e : Nat} {t : Ty} {xs : List t.den} {s : Nat} (hl : g l = .own e t xs s) (hm : ∃ p ∈ ws, p.1 = l) : g.sets ws l = .dat (.list t) xs := by
  rcases sets_get (ws := ws) (g := g) (l := l) with ⟨_, h2⟩ | ⟨p, h1, h2, h3⟩
  · obtain ⟨p, h1, h3⟩ := hm; exact absurd h3 (h2 p h1)
  · rw [h3]
    obtain ⟨_, h4⟩ := hw p h1
    rcases h4 with ⟨e', t', xs', s', h5, h6⟩ | ⟨t', xs', h5, _⟩
    · rw [h2, hl] at h5; cases h5; exact h6
    · rw [h2, hl] at h5; cases h5

theorem inCell_conv {ws : List (Loc × AV)} (hw : ∀ p ∈ ws, isFrz g p) (hF : Frozen Z w g G ws G1) {c o : Nat} {m M : Names} {k : Kd} {v : AV} (hgl : g (.cell c o) = v) {r : k.den × Names × List (Loc × AV)} (hr : (inCell m (.cell c o) k v).run g = some r) (hm : NInj m) (hM : NExt r.2.1 M)
    (hws : ∀ p ∈ r.2.2, p ∈ ws) (hown : ∀ e t, k = .own e t → ∀ p ∈ ws, p.1 ≠ .cell c o) : Conv M (k.mk r.1) (g.sets ws (.cell c o)) := by
  have same : (∀ e t xs s, g (.cell c o) ≠ .own e t xs s) → g.sets ws (.cell c o) = g (.cell c o) := hF.same _
  unfold inCell at hr
  split at hr
  · split at hr
    · rename_i t
      simp [Q.run] at hr; subst hr
      rw [same (by rw [hgl]; simp), hgl]
      exact .nilDat t
    · rename_i t e t' xs s
      split at hr
      · rename_i ht
        simp [Q.run] at hr; subst hr
        subst ht
        rw [frz_at hw hgl ⟨(.cell c o, .dat (.list t') xs), hws _ (List.mem_singleton.2 rfl), rfl⟩]
        exact .dat _ _
      · simp [Q.run] at hr
    · rename_i t t' x
      split at hr
      · rename_i ht
        simp [Q.run] at hr; subst hr
        subst ht
        rw [same (by rw [hgl]; simp), hgl]
        exact .dat _ _
      · simp [Q.run] at hr
    · simp [Q.run] at hr
  · rename_i e t v
    split at hr
    · rename_i e' t' xs s
      split at hr
      · rename_i ht
        split at hr
        · rename_i he
          have he := Nat.eq_of_beq_eq_true he
          simp [Q.run] at hr; subst hr
          subst ht; subst he
          rw [sets_other (hown _ _ rfl), hgl]
          exact .own _ _ _ _
        · simp [Q.run] at hr
      · simp [Q.run] at hr
    · split at hr
      · rename_i hz
        simp [Q.run] at hr; subst hr
        rw [same (by rw [hgl]; simp), hgl]
        exact .nilOwn _ _ (by simpa using hz)
      · simp [Q.run] at hr
    · simp [Q.run] at hr
  · rename_i b o1 c1 o1'
    split at hr
    · rename_i ho
      have ho := Nat.eq_of_beq_eq_true ho
      subst ho
      simp only [Q.run_bind, Option.bind_eq_some_iff, Q.run, Option.some.injEq] at hr
      obtain ⟨m', h1, rfl⟩ := hr
      rw [same (by rw [hgl]; simp), hgl]
      exact .ptr _ _ _ (hM _ _ (bindN_spec (ofO_some h1) hm).2.1)
    · simp [Q.run] at hr
  · rename_i b o1 c1 o1' pp
    split at hr
    · rename_i ho
      have ho := Nat.eq_of_beq_eq_true ho
      subst ho
      simp only [Q.run_bind, Option.bind_eq_some_iff, Q.run, Option.some.injEq] at hr
      obtain ⟨m', h1, rfl⟩ := hr
      rw [same (by rw [hgl]; simp), hgl]
      exact .mptr _ _ _ _ (hM _ _ (bindN_spec (ofO_some h1) hm).2.1)
    · simp [Q.run] at hr
  · rename_i f bs f' cs
    split at hr
    · rename_i hf
      have hf := Nat.eq_of_beq_eq_true hf
      subst hf
      simp only [Q.run_bind, Option.bind_eq_some_iff, Q.run, Option.some.injEq] at hr
      obtain ⟨m', h1, rfl⟩ := hr
      obtain ⟨_, _, hl, hi⟩ := bindAll_spec (ofO_some h1) hm
      rw [same (by rw [hgl]; simp), hgl]
      exact .fn _ _ _ hl (fun i b hb => by obtain ⟨c', h2, h3⟩ := hi i b hb; exact ⟨c', h2, hM _ _ h3⟩)
    · simp [Q.run] at hr
  · simp [Q.run] at hr; subst hr
    rw [same (by rw [hgl]; simp), hgl]
    exact .nil
  · exact .dead _
  · simp [Q.run] at hr

/-- What is told of a place, by the reading that told it. -/
def EntQ (E : Env) (ctx : Ctx) (xs : List Arg) (g : Mem) (sh : Shape) (M : Names) (ws : List (Loc × AV)) (u : AV) : Loc → Prop
  | .slot n => u = .dead ∨ ∃ x v m k r, xs[n]? = some x ∧ (rdArg E ctx x).run g = some v ∧ (inArg m x.opd' k v).run g = some r ∧ NInj m ∧ NExt r.2.1 M ∧ (∀ p ∈ r.2.2, p ∈ ws) ∧ u = k.mk r.1
  | .box b => u = .dead ∨ ∃ c e n, look M b = some c ∧ g (.box c) = .bx e n ∧ u = .bx e n
  | .cell b o => u = .dead ∨ ∃ c m k r, look M b = some c ∧ (inCell m (.cell c o) k (g (.cell c o))).run g = some r ∧ NInj m ∧ NExt r.2.1 M ∧ (∀ p ∈ r.2.2, p ∈ ws) ∧ u = k.mk r.1 ∧ (Loc.cell b o, k) ∈ sh
  | .comp _ _ => u = .dead
theorem EntQ.mono {E : Env} {ctx : Ctx} {xs : List Arg} {sh sh' : Shape} {M M' : Names} {ws ws' : List (Loc × AV)} {u : AV} {l : Loc} (h : EntQ E ctx xs g sh M ws u l) (hM : NExt M M') (hw : ∀ p ∈ ws, p ∈ ws') (hs : ∀ p ∈ sh, p ∈ sh') : EntQ E ctx xs g sh' M' ws' u l := by
  cases l with
  | slot n =>
    rcases h with h | ⟨x, v, m, k, r, h1, h2, h3, h4, h5, h6, h7⟩
    · exact .inl h
    · exact .inr ⟨x, v, m, k, r, h1, h2, h3, h4, h5.trans hM, fun p hp => hw p (h6 p hp), h7⟩
  | comp n i => exact h
  | box b =>
    rcases h with h | ⟨c, e, n, h1, h2, h3⟩
    · exact .inl h
    · exact .inr ⟨c, e, n, hM _ _ h1, h2, h3⟩
  | cell b o =>
    rcases h with h | ⟨c, m, k, r, h1, h2, h3, h4, h5, h6, h7⟩
    · exact .inl h
    · exact .inr ⟨c, m, k, r, hM _ _ h1, h2, h3, h4.trans hM, fun p hp => hw p (h5 p hp), h6, hs _ h7⟩

theorem inQ_spec (h : Rel Z E N w0 Ow S D g G a w) {ctx : Ctx} (hg : (gcond ctx).run g = some true) {xs : List Arg} : ∀ {sh : Shape} {m : Names} {q : Tup sh × Names × List (Loc × AV)}, (inQ E ctx xs sh m).run g = some q → NInj m →
    NInj q.2.1 ∧ NExt m q.2.1 ∧ (∀ p ∈ q.2.2, isFrz g p) ∧ ∀ l, EntQ E ctx xs g sh q.2.1 q.2.2 (St.get (mkSt sh q.1) l) l
  | [], m, q, hq, hm => by
    simp [inQ, Q.run] at hq
    subst hq
    refine ⟨hm, NExt.refl _, by simp, fun l => ?_⟩
    cases l <;> first | exact .inl rfl | rfl
  | (.slot n, k) :: r, m, q, hq, hm => by
    simp only [inQ] at hq
    split at hq
    · rename_i x hx
      simp only [Q.run_bind, Option.bind_eq_some_iff, Q.run, Option.some.injEq] at hq
      obtain ⟨v, hv, p, hp, q', hq', rfl⟩ := hq
      obtain ⟨n1, n2⟩ := inArg_names hp hm
      obtain ⟨k1, k2, k3, k4⟩ := inQ_spec h hg hq' n1
      refine ⟨k1, n2.trans k2, fun p' hp' => ?_, fun l => ?_⟩
      · rcases List.mem_append.1 hp' with hp' | hp'
        · exact inArg_ws h hg hv hp p' hp'
        · exact k3 p' hp'
      · show EntQ _ _ _ _ _ _ _ (St.get ((.slot n, k.mk p.1) :: mkSt r q'.1) l) l
        simp only [St.get]
        cases he : (Loc.slot n).eq l with
        | true =>
          have := Loc.eq_iff.1 he
          subst this
          exact .inr ⟨x, v, m, k, p, hx, hv, hp, hm, k2, fun p' hp' => List.mem_append.2 (.inl hp'), rfl⟩
        | false => exact (k4 l).mono (NExt.refl _) (fun p' hp' => List.mem_append.2 (.inr hp')) (fun p' hp' => List.mem_cons_of_mem _ hp')
    · simp [Q.run] at hq
  | (.comp n i, k) :: r, m, q, hq, hm => by simp [inQ, Q.run] at hq
  | (.box b, k) :: r, m, q, hq, hm => by
    cases k with
    | bx e n =>
      simp only [inQ] at hq
      split at hq
      · rename_i c hc
        simp only [Q.run] at hq
        split at hq
        · rename_i e' n' hb
          split at hq
          · rename_i he
            simp only [Bool.and_eq_true] at he
            have h1 := Nat.eq_of_beq_eq_true he.1
            have h2 := Nat.eq_of_beq_eq_true he.2
            subst h1; subst h2
            simp only [Q.run_bind, Option.bind_eq_some_iff, Q.run, Option.some.injEq] at hq
            obtain ⟨q', hq', rfl⟩ := hq
            obtain ⟨k1, k2, k3, k4⟩ := inQ_spec h hg hq' hm
            refine ⟨k1, k2, k3, fun l => ?_⟩
            show EntQ _ _ _ _ _ _ _ (St.get ((.box b, .bx e' n') :: mkSt r q'.1) l) l
            simp only [St.get]
            cases he : (Loc.box b).eq l with
            | true =>
              have := Loc.eq_iff.1 he
              subst this
              exact .inr ⟨c, e', n', k2 _ _ hc, hb, rfl⟩
            | false => exact (k4 l).mono (NExt.refl _) (fun _ hp' => hp') (fun p' hp' => List.mem_cons_of_mem _ hp')
          · simp [Q.run] at hq
        · simp [Q.run] at hq
      · simp [Q.run] at hq
    | _ => simp [inQ, Q.run] at hq
  | (.cell b o, k) :: r, m, q, hq, hm => by
    simp only [inQ] at hq
    split at hq
    · rename_i c hc
      simp only [Q.run_bind, Option.bind_eq_some_iff, Q.run, Option.some.injEq] at hq
      obtain ⟨p, hp, q', hq', rfl⟩ := hq
      obtain ⟨n1, n2⟩ := inCell_names hp hm
      obtain ⟨k1, k2, k3, k4⟩ := inQ_spec h hg hq' n1
      refine ⟨k1, n2.trans k2, fun p' hp' => ?_, fun l => ?_⟩
      · rcases List.mem_append.1 hp' with hp' | hp'
        · exact inCell_ws rfl hp p' hp'
        · exact k3 p' hp'
      · show EntQ _ _ _ _ _ _ _ (St.get ((.cell b o, k.mk p.1) :: mkSt r q'.1) l) l
        simp only [St.get]
        cases he : (Loc.cell b o).eq l with
        | true =>
          have := Loc.eq_iff.1 he
          subst this
          exact .inr ⟨c, m, k, p, k2 _ _ (n2 _ _ hc), hp, hm, k2, fun p' hp' => List.mem_append.2 (.inl hp'), rfl, by simp⟩
        | false => exact (k4 l).mono (NExt.refl _) (fun p' hp' => List.mem_append.2 (.inr hp')) (fun p' hp' => List.mem_cons_of_mem _ hp')
    · simp [Q.run] at hq
end
end Go.Ev

/- What comes back from a callee that was handed boxes: the caller's relation. -/
namespace Go.Ev
open Go.RowKit
section
variable {Z : ZS} {E : Env} {N : Nat} {w0 : World} {Ow : OwS} {S D : Nat → Prop} {g : Mem} {G : Ghost} {a a' : Act} {w w' : World} {P : Program}

theorem outAV_size {m : Names} {d st : Nat} {u : AV} (h : outAV m d st u ≠ .dead) : (outAV m d st u).size = u.size := by
  cases u <;> first | rfl | exact absurd rfl h
theorem outAV_ne {m : Names} {d st : Nat} {u : AV} (h : outAV m d st u ≠ .dead) : u ≠ .dead := by rintro rfl; exact h rfl

/-- **The caller goes on.** -/
theorem Rel.merge (h : Rel Z E N w0 Ow S D g G a w) {m : Names} (hm : NInj m) {gc gp : Mem} {Gp : Ghost} {vs : List Value} {d st' : Nat} {bs : List Nat} {dst : Option Nat} {rl : Loc → Option Nat} {g2 : Mem}
    (hp : Rel (calleeZ Z m gc G w) (globE E.glob) vs.length w (calleeOw m gc G) (fun n => n = 0) (fun _ => False) gp Gp { tmps := vs.toArray, defers := [] } w')
    (hmr : ∀ b c, look m b = some c → 50000 ≤ b ∧ b < 100000)
    (hst' : ¬ S st')
    (hinj : ∀ b ∈ bs, ∀ b' ∈ bs, backN m d b = backN m d b' → b = b')
    (hbs : ∀ b, gp (.box b) ≠ .dead → b ∈ bs)
    (hold : ∀ b c, look m b = some c → b ∈ bs ∧ ∃ e n, g (.box c) = .bx e n ∧ gp (.box b) = .bx e n)
    (hnew : ∀ b ∈ bs, look m b = none → g (.box (backN m d b)) = .dead)
    (hnh : ∀ b ∈ bs, look m b = none → E.held (backN m d b) = false)
    (harr : ∀ b c o n t x, look m b = some c → gp (.cell b o) = .dat (.arr n t) x → ∃ x', g (.cell c o) = .dat (.arr n t) x')
    (hg2b : ∀ b ∈ bs, g2 (.box (backN m d b)) = gp (.box b))
    (hg2c : ∀ b ∈ bs, ∀ o, g2 (.cell (backN m d b) o) = outAV m d st' (gp (.cell b o)))
    (hg2r : ∀ l j, rl l = some j → g2 l = outAV m d st' (gp (.slot j)))
    (hg2o : ∀ l, (∀ n, dst = some n → l ≠ .slot n) → rl l = none → (∀ b ∈ bs, l ≠ .box (backN m d b) ∧ ∀ o, l ≠ .cell (backN m d b) o) → g2 l = g l)
    (hrl1 : ∀ l j, rl l = some j → j < vs.length ∧ ∃ n, dst = some n ∧ (l = .slot n ∨ ∃ i, l = .comp n i))
    (hrl2 : ∀ l l' j, rl l = some j → rl l' = some j → l = l')
    (hdef : a'.defers = a.defers) (hsz : a'.tmps.size = a.tmps.size) (hoth : ∀ n, dst ≠ some n → a'.tmps.getD n undef = a.tmps.getD n undef)
    (hdst : ∀ n, dst = some n → n < N ∧ ¬ D n)
    (hd : ∀ n, dst = some n → (rl (.slot n) = some 0 ∧ a'.tmps.getD n undef = vs.getD 0 undef) ∨ (rl (.slot n) = none ∧ (g2 (.slot n) = .dead ∨ (g2 (.slot n) = .tup vs.length ∧ a'.tmps.getD n undef = .tuple vs.toArray ∧ ∀ i, i < vs.length → rl (.comp n i) = some i)))) :
    ∃ G2, Rel Z E N w0 Ow (fun n => S n ∨ n = st') D g2 G2 a' w' := by
  let inv : Nat → Option Nat := fun c => bs.find? fun b => Nat.beq (backN m d b) c
  have hinv : ∀ b ∈ bs, inv (backN m d b) = some b := fun b hb => by
    simp only [inv]
    cases hf : bs.find? fun b' => Nat.beq (backN m d b') (backN m d b) with
    | none => exact absurd (List.find?_eq_none.1 hf b hb) (by simp)
    | some b' =>
      have h1 := List.find?_some hf
      have h2 := List.mem_of_find?_eq_some hf
      rw [hinj b' h2 b hb (Nat.eq_of_beq_eq_true h1)]
  have hinv2 : ∀ {c b}, inv c = some b → b ∈ bs ∧ backN m d b = c := fun {c b} hf => ⟨List.mem_of_find?_eq_some hf, Nat.eq_of_beq_eq_true (List.find?_some (p := fun b => Nat.beq (backN m d b) c) hf)⟩
  have hinv3 : ∀ {c}, inv c = none → ∀ b ∈ bs, backN m d b ≠ c := fun {c} hf b hb e => by
    have := List.find?_eq_none.1 hf b hb
    rw [e] at this; simp at this
  let G2 : Ghost := fun l => match rl l with
    | some j => Gp (.slot j)
    | none => match l with
      | .slot n => if dst = some n then none else G l
      | .comp _ _ => G l
      | .box c => (match inv c with
        | some b => Gp (.box b)
        | none => G l)
      | .cell c o => (match inv c with
        | some b => Gp (.cell b o)
        | none => G l)
  have rlb : ∀ c, rl (.box c) = none := fun c => by
    cases hr : rl (.box c) with
    | none => rfl
    | some j => obtain ⟨_, n, _, e | ⟨i, e⟩⟩ := hrl1 _ _ hr <;> cases e
  have rlc : ∀ c o, rl (.cell c o) = none := fun c o => by
    cases hr : rl (.cell c o) with
    | none => rfl
    | some j => obtain ⟨_, n, _, e | ⟨i, e⟩⟩ := hrl1 _ _ hr <;> cases e
  have hG2b : ∀ b ∈ bs, G2 (.box (backN m d b)) = Gp (.box b) := fun b hb => by simp only [G2, rlb, hinv b hb]
  have hG2c : ∀ b ∈ bs, ∀ o, G2 (.cell (backN m d b) o) = Gp (.cell b o) := fun b hb o => by simp only [G2, rlc, hinv b hb]
  have hG2r : ∀ l j, rl l = some j → G2 l = Gp (.slot j) := fun l j hr => by simp only [G2, hr]
  -- the changed places
  let Ch : Loc → Prop := fun l => (∃ n, dst = some n ∧ l = .slot n) ∨ (∃ j, rl l = some j) ∨ ∃ b ∈ bs, l = .box (backN m d b) ∨ ∃ o, l = .cell (backN m d b) o
  have hchB : ∀ {c}, Ch (.box c) → ∃ b ∈ bs, c = backN m d b := fun {c} hc => by
    rcases hc with ⟨n, _, e⟩ | ⟨j, e⟩ | ⟨b, hb, e | ⟨o, e⟩⟩
    · cases e
    · rw [rlb] at e; cases e
    · cases e; exact ⟨b, hb, rfl⟩
    · cases e
  have hchC : ∀ {c o}, Ch (.cell c o) → ∃ b ∈ bs, c = backN m d b := fun {c o} hc => by
    rcases hc with ⟨n, _, e⟩ | ⟨j, e⟩ | ⟨b, hb, e | ⟨o', e⟩⟩
    · cases e
    · rw [rlc] at e; cases e
    · cases e
    · cases e; exact ⟨b, hb, rfl⟩
  have hchS : ∀ {n}, Ch (.slot n) → dst = some n := fun {n} hc => by
    rcases hc with ⟨n', h1, e⟩ | ⟨j, e⟩ | ⟨b, hb, e | ⟨o, e⟩⟩
    · cases e; exact h1
    · obtain ⟨_, n', h1, e' | ⟨i, e'⟩⟩ := hrl1 _ _ e
      · cases e'; exact h1
      · cases e'
    · cases e
    · cases e
  have hchK : ∀ {n i}, Ch (.comp n i) → dst = some n := fun {n i} hc => by
    rcases hc with ⟨n', h1, e⟩ | ⟨j, e⟩ | ⟨b, hb, e | ⟨o, e⟩⟩
    · cases e
    · obtain ⟨_, n', h1, e' | ⟨i', e'⟩⟩ := hrl1 _ _ e
      · cases e'
      · cases e'; exact h1
    · cases e
    · cases e
  have hgO : ∀ l, ¬ Ch l → g2 l = g l := fun l hl => hg2o l (fun n hn e => hl (.inl ⟨n, hn, e⟩)) (by
    cases hr : rl l with
    | none => rfl
    | some j => exact absurd (.inr (.inl ⟨j, hr⟩)) hl) (fun b hb => ⟨fun e => hl (.inr (.inr ⟨b, hb, .inl e⟩)), fun o e => hl (.inr (.inr ⟨b, hb, .inr ⟨o, e⟩⟩))⟩)
  have hGO : ∀ l, ¬ Ch l → G2 l = G l := fun l hl => by
    have hr : rl l = none := by
      cases hr : rl l with
      | none => rfl
      | some j => exact absurd (.inr (.inl ⟨j, hr⟩)) hl
    cases l with
    | slot n => simp only [G2, hr]; rw [if_neg (fun e => hl (.inl ⟨n, e, rfl⟩))]
    | comp n i => simp only [G2, hr]
    | box c =>
      simp only [G2, hr]
      split
      · rename_i b hb
        obtain ⟨h1, h2⟩ := hinv2 hb
        exact absurd (.inr (.inr ⟨b, h1, .inl (by rw [h2])⟩)) hl
      · rfl
    | cell c o =>
      simp only [G2, hr]
      split
      · rename_i b hb
        obtain ⟨h1, h2⟩ := hinv2 hb
        exact absurd (.inr (.inr ⟨b, h1, .inr ⟨o, by rw [h2]⟩⟩)) hl
      · rfl
  have hGs : ∀ {l b}, G2 l = some b → (∃ l', Gp l' = some b ∧ Ch l) ∨ (G l = some b ∧ ¬ Ch l) := fun {l b} e => by
    by_cases hc : Ch l
    · left
      cases hr : rl l with
      | some j => rw [hG2r l j hr] at e; exact ⟨_, e, hc⟩
      | none =>
        cases l with
        | slot n => simp only [G2, hr] at e; rw [if_pos (hchS hc)] at e; cases e
        | comp n i =>
          rcases hc with ⟨n', _, e'⟩ | ⟨j, e'⟩ | ⟨b', hb, e' | ⟨o, e'⟩⟩
          · cases e'
          · rw [hr] at e'; cases e'
          · cases e'
          · cases e'
        | box c =>
          obtain ⟨b', hb, rfl⟩ := hchB hc
          rw [hG2b b' hb] at e; exact ⟨_, e, hc⟩
        | cell c o =>
          obtain ⟨b', hb, rfl⟩ := hchC hc
          rw [hG2c b' hb] at e; exact ⟨_, e, hc⟩
    · rw [hGO l hc] at e; exact .inr ⟨e, hc⟩
  -- what the callee might change
  have hcal : ∀ {l b}, calleeG m gc G l = some b → ∃ l', G l' = some b ∧ Ch l' := fun {l b} e => by
    rcases calleeG_some e with ⟨x, c, _, _, _, h1, h2, _⟩ | ⟨x, c, o, _, _, _, _, _, h1, h2, _⟩
    · have hb := (hold x c h1).1
      have : backN m d x = c := by simp only [backN, h1]
      exact ⟨.box c, h2, .inr (.inr ⟨x, hb, .inl (by rw [this])⟩)⟩
    · have hb := (hold x c h1).1
      have : backN m d x = c := by simp only [backN, h1]
      exact ⟨.cell c o, h2, .inr (.inr ⟨x, hb, .inr ⟨o, by rw [this]⟩⟩)⟩
  have hlowp : ∀ k, k < w.heap.size → (∀ l, calleeG m gc G l ≠ some k) → w'.heap[k]? = w.heap[k]? := fun k h1 h2 => hp.low k h1 (fun ⟨l, hl⟩ => h2 l hl)
  have hblk : ∀ l, ¬ Ch l → ∀ b, G l = some b → w'.heap[b]? = w.heap[b]? := fun l hl b hb => hlowp b (h.bnd l b hb).1 (fun l0 e => by
    obtain ⟨l', h1, h2⟩ := hcal e
    rw [h.inj l l' b hb h1] at hl; exact hl h2)
  have hk : ∀ b, free Z G w b → free Z G2 w' b ∧ w'.heap[b]? = w.heap[b]? := fun b hb => by
    refine ⟨⟨Nat.lt_of_lt_of_le hb.1 hp.size, fun l e => ?_, hb.3⟩, hlowp b hb.1 (fun l0 e => by
      obtain ⟨l', h1, _⟩ := hcal e
      exact hb.2 l' h1)⟩
    rcases hGs e with ⟨l', h1, _⟩ | ⟨h1, _⟩
    · rcases (hp.bnd l' b h1).2 with ⟨l0, h2⟩ | h2
      · obtain ⟨l1, h3, _⟩ := hcal h2; exact hb.2 l1 h3
      · have := hb.1; omega
    · exact hb.2 l h1
  have hZ : ∀ b, calleeZ Z m gc G w b → Z b := fun b hb => by
    rcases hb with hb | ⟨l, hl⟩ | hb
    · exact hb.3
    · obtain ⟨l', h1, _⟩ := hcal hl; exact h.zow b (h.bnd l' b h1).2
    · exact h.zow b (.inr (Nat.le_trans h.size hb))
  have hfp : ∀ b, free (calleeZ Z m gc G w) Gp w' b → free Z G2 w' b := fun b hb => ⟨hb.1, fun l e => by
    rcases hGs e with ⟨l', h1, _⟩ | ⟨h1, h2⟩
    · exact hb.2 l' h1
    · rcases hb.3 with h3 | ⟨l0, h3⟩ | h3
      · exact h3.2 l h1
      · obtain ⟨l1, h4, h5⟩ := hcal h3
        rw [h.inj l l1 b h1 h4] at h2; exact h2 h5
      · have := (h.bnd l b h1).1; omega, hZ b hb.3⟩
  have hRV : ∀ {t : Ty} {x : t.den} {cs : List Value}, RV (free (calleeZ Z m gc G w) Gp w') w' t x cs → RV (free Z G2 w') w' t x cs := fun hv => hv.keep (fun _ _ => rfl) hfp
  have hptr : ∀ {b o : Nat} {v : Value}, (∃ e n gb, gp (.box b) = .bx e n ∧ Gp (.box b) = some gb ∧ v = .pointer (some ⟨gb, o, none⟩)) → ∃ e n gb, g2 (.box (backN m d b)) = .bx e n ∧ G2 (.box (backN m d b)) = some gb ∧ v = .pointer (some ⟨gb, o, none⟩) := fun {b o v} ⟨e, n, gb, h1, h2, h3⟩ => by
    have hb := hbs b (by rw [h1]; simp)
    exact ⟨e, n, gb, by rw [hg2b b hb]; exact h1, by rw [hG2b b hb]; exact h2, h3⟩
  -- one value
  have tr : ∀ {l l2 : Loc} {val : Value}, G2 l2 = Gp l → AVR (calleeZ Z m gc G w) gp Gp { tmps := vs.toArray, defers := [] } w' (gp l) l val → AVR Z g2 G2 a' w' (outAV m d st' (gp l)) l2 val := fun {l l2 val} hGl hv => by
    cases hu : gp l <;> rw [hu] at hv <;> simp only [outAV] <;> try trivial
    · obtain ⟨cs, h1, h2⟩ := hv; exact ⟨cs, hRV h1, h2⟩
    · simp only [AVR] at hv ⊢
      rw [hGl]
      exact hv.keep (fun b hb => ⟨hfp b hb, rfl⟩) (fun _ _ => rfl)
    · exact hptr hv
    · obtain ⟨b, k, cs, h1, h2, h3, h4⟩ := hv
      exact ⟨b, k, cs, hRV h1, fun hne => hfp _ (h2 hne), h3, h4⟩
    · obtain ⟨vs1, h1, h2, h3⟩ := hv
      refine ⟨vs1, h1, by simpa using h2, fun i b hi => ?_⟩
      simp only [List.getElem?_map, Option.map_eq_some_iff] at hi
      obtain ⟨b0, hb0, rfl⟩ := hi
      exact hptr (h3 i b0 hb0)
    all_goals first | exact hv | exact ⟨fun hp' => hptr (hv.1 hp'), hv.2⟩
  have trLeaf : ∀ {b o : Nat} {cur : Array Value}, b ∈ bs → LeafR (calleeZ Z m gc G w) gp Gp { tmps := vs.toArray, defers := [] } w' (.cell b o) o cur (gp (.cell b o)) → LeafR Z g2 G2 a' w' (.cell (backN m d b) o) o cur (outAV m d st' (gp (.cell b o))) := fun {b o cur} hb hv => by
    have ht := fun hv' => tr (l := .cell b o) (l2 := .cell (backN m d b) o) (val := cur.getD o undef) (hG2c b hb o) hv'
    cases hu : gp (.cell b o) <;> rw [hu] at hv ht <;> simp only [outAV] at ht ⊢ <;> try trivial
    · exact ⟨hv.1, hRV hv.2⟩
    all_goals exact ⟨hv.1, ht hv.2⟩
  refine ⟨G2, h.change Ch hgO hGO (hdef.trans h.defers) (hsz.trans h.tmps) hp.os hp.tape hp.output hp.size ?_ hk hblk ?_ ?_ ?_ (fun _ h => .inl h) ?_ ?_ ?_ ?_ ?_ ?_ ?_ ?_ ?_ ?_ ?_ ?_ ?_⟩
  · -- low
    intro k h1 h2
    refine hlowp k (Nat.lt_of_lt_of_le h1 h.size) (fun l e => ?_)
    obtain ⟨l', h3, _⟩ := hcal e
    rcases (h.bnd l' k h3).2 with h4 | h4
    · exact h2 h4
    · omega
  · -- roots
    intro l st hst hrt
    cases l with
    | comp n i => exact hrt.elim
    | box b => exact hrt.elim
    | slot n =>
      refine ⟨fun e t xs hx => ?_, fun b o n' t xs hb => by cases hb⟩
      by_cases hn : dst = some n
      · exfalso
        rcases hd n hn with ⟨h1, _⟩ | ⟨_, h1 | ⟨h1, _⟩⟩
        · rw [hg2r _ _ h1] at hx
          cases hu : gp (.slot 0) <;> rw [hu] at hx <;> simp only [outAV] at hx <;> cases hx
          exact hst' hst
        · rw [h1] at hx; cases hx
        · rw [h1] at hx; cases hx
      · have hc : ¬ Ch (.slot n) := fun hc => hn (hchS hc)
        rw [hgO _ hc] at hx
        exact ⟨xs, hx, rfl, hoth n hn, hGO _ hc⟩
    | cell c o =>
      by_cases hc : Ch (.cell c o)
      · obtain ⟨b, hb, rfl⟩ := hchC hc
        refine ⟨fun e t xs hx => ?_, fun b' o' n' t xs e' hx hlive => ?_⟩
        · exfalso
          rw [hg2c b hb] at hx
          cases hu : gp (.cell b o) <;> rw [hu] at hx <;> simp only [outAV] at hx <;> cases hx
          exact hst' hst
        · cases e'
          rw [hg2c b hb] at hx
          cases hl : look m b with
          | none =>
            obtain ⟨e1, m1, h1⟩ := hlive
            rw [hnew b hb hl] at h1; cases h1
          | some c =>
            have hcb : backN m d b = c := by simp only [backN, hl]
            cases hu : gp (.cell b o) <;> rw [hu] at hx <;> simp only [outAV] at hx <;> cases hx
            obtain ⟨x', h1⟩ := harr b c o n' t _ hl hu
            exact ⟨x', by rw [hcb]; exact h1⟩
      · refine ⟨fun e t xs hx => ⟨xs, by rwa [hgO _ hc] at hx, rfl, ?_, hGO _ hc⟩, fun b' o' n' t xs _ hx _ => ⟨xs, by rwa [hgO _ hc] at hx⟩⟩
        have hcb : ¬ Ch (.box c) := fun hcb => by
          obtain ⟨b, hb, rfl⟩ := hchB hcb
          exact hc (.inr (.inr ⟨b, hb, .inr ⟨o, rfl⟩⟩))
        simp only [rootVal, hGO _ hcb]
        cases hgb : G (.box c) with
        | none => rfl
        | some gb => simp only [World.cell?_of_block (w := w) (w' := w') (a := ⟨gb, o, none⟩) (hblk _ hcb gb hgb)]
  · -- boxes stay
    intro c e n hb
    by_cases hc : Ch (.box c)
    · obtain ⟨b, hbb, rfl⟩ := hchB hc
      cases hl : look m b with
      | none => rw [hnew b hbb hl] at hb; cases hb
      | some c' =>
        have hcb : backN m d b = c' := by simp only [backN, hl]
        obtain ⟨_, e', n', h1, h2⟩ := hold b c' hl
        rw [hcb] at hb
        rw [hb] at h1; cases h1
        obtain ⟨gb0, cur0, q1, _, _⟩ := h.boxes c' e n hb
        have hpin : (calleeOw m gc G).pin b = some gb0 := by simp only [calleeOw, hl, Option.bind_some, q1]
        have := hp.pins b gb0 hpin (by rw [h2]; simp)
        refine ⟨by rw [hg2b b hbb]; exact h2, by rw [hG2b b hbb, this, hcb, q1], fun gb _ => .inl ⟨hc, fun o => .inr (.inr ⟨b, hbb, .inr ⟨o, rfl⟩⟩)⟩⟩
    · exact ⟨by rw [hgO _ hc]; exact hb, hGO _ hc, fun gb hgb => .inr (hblk _ hc gb hgb)⟩
  · -- guards
    intro k hk'
    exact hgO _ (fun hc => (hdst k (hchS hc)).2 hk')
  · intro n hn
    exact hoth n (fun e => hn (.inl ⟨n, e, rfl⟩))
  · -- slots
    intro n hc
    have hn := hchS hc
    rcases hd n hn with ⟨h1, h2⟩ | ⟨h0, h1 | ⟨h1, h2, h3⟩⟩
    · rw [hg2r _ _ h1, h2]
      have hv := hp.slots 0
      refine tr (hG2r _ _ h1) ?_
      simpa using hv
    · rw [h1]; trivial
    · rw [h1, h2]; exact ⟨vs.toArray, rfl, by simp⟩
  · -- comps
    intro n k i h1 h2 hch
    have hn : dst = some n := by rcases hch with hch | hch; exact hchS hch; exact hchK hch
    rcases hd n hn with ⟨h3, _⟩ | ⟨_, h3 | ⟨h3, h4, h5⟩⟩
    · rw [hg2r _ _ h3] at h1
      cases hu : gp (.slot 0) <;> rw [hu] at h1 <;> simp only [outAV] at h1 <;> cases h1
    · rw [h3] at h1; cases h1
    · rw [h3] at h1; cases h1
      have h6 := h5 i h2
      rw [hg2r _ _ h6, h4]
      have hv := hp.slots i
      refine tr (hG2r _ _ h6) ?_
      simpa [compOf] using hv
  · -- boxes
    intro c e n hc hb
    obtain ⟨b, hbb, rfl⟩ := hchB hc
    rw [hg2b b hbb] at hb
    obtain ⟨gb, cur, h1, h2, h3⟩ := hp.boxes b e n hb
    exact ⟨gb, cur, by rw [hG2b b hbb]; exact h1, h2, h3⟩
  · -- cells
    intro c o hc hne
    obtain ⟨b, hbb, rfl⟩ := hchC hc
    rw [hg2c b hbb] at hne ⊢
    obtain ⟨e, n, gb, cur, h1, h2, h3, h4⟩ := hp.cells b o (outAV_ne hne)
    exact ⟨e, n, gb, cur, by rw [hg2b b hbb]; exact h1, by rw [hG2b b hbb]; exact h2, h3, trLeaf hbb h4⟩
  · -- apart
    intro c o o' hc h1 h2 hne
    have : ∃ b ∈ bs, c = backN m d b := by rcases hc with hc | hc <;> exact hchC hc
    obtain ⟨b, hbb, rfl⟩ := this
    rw [hg2c b hbb] at h1 h2 ⊢
    rw [hg2c b hbb, outAV_size h1, outAV_size h2]
    exact hp.apart b o o' (outAV_ne h1) (outAV_ne h2) hne
  · intro c hc
    obtain ⟨b, hbb, rfl⟩ := hchB hc
    rw [hg2b b hbb]
    exact hp.boxAV b
  · -- stamps
    intro l hc
    have hout : ∀ u : AV, stampIn (fun n => S n ∨ n = st') (outAV m d st' u) := fun u => by cases u <;> first | trivial | exact .inr rfl
    rcases hc with ⟨n, hn, rfl⟩ | ⟨j, hj⟩ | ⟨b, hbb, rfl | ⟨o, rfl⟩⟩
    · rcases hd n hn with ⟨h3, _⟩ | ⟨_, h3 | ⟨h3, h4, h5⟩⟩
      · rw [hg2r _ _ h3]; exact hout _
      · rw [h3]; trivial
      · rw [h3]; trivial
    · rw [hg2r _ _ hj]; exact hout _
    · rw [hg2b b hbb]
      rcases hp.boxAV b with h1 | ⟨e, n, h1⟩ <;> rw [h1] <;> trivial
    · rw [hg2c b hbb]; exact hout _
  · -- no guarded values
    intro l c v hc hv
    exfalso
    have hout : ∀ u : AV, outAV m d st' u ≠ .opt c v := fun u => by cases u <;> simp [outAV]
    rcases hc with ⟨n, hn, rfl⟩ | ⟨j, hj⟩ | ⟨b, hbb, rfl | ⟨o, rfl⟩⟩
    · rcases hd n hn with ⟨h3, _⟩ | ⟨_, h3 | ⟨h3, h4, h5⟩⟩
      · rw [hg2r _ _ h3] at hv; exact hout _ hv
      · rw [h3] at hv; cases hv
      · rw [h3] at hv; cases hv
    · rw [hg2r _ _ hj] at hv; exact hout _ hv
    · rw [hg2b b hbb] at hv
      rcases hp.boxAV b with h1 | ⟨e, n, h1⟩ <;> rw [h1] at hv <;> cases hv
    · rw [hg2c b hbb] at hv; exact hout _ hv
  · -- where ghosts lie
    intro l b hc hb
    rcases hGs hb with ⟨l', h1, _⟩ | ⟨_, h2⟩
    · have h3 := hp.bnd l' b h1
      refine ⟨h3.1, ?_⟩
      rcases h3.2 with ⟨l0, h4⟩ | h4
      · obtain ⟨l1, h5, _⟩ := hcal h4; exact (h.bnd l1 b h5).2
      · exact .inr (Nat.le_trans h.size h4)
    · exact absurd hc h2
  · -- whose they are
    intro l b hc hb
    have hout : ∀ {l' : Loc} {u : AV}, gp l' = u → Gp l' = some b → (∃ e t xs s, outAV m d st' u = .own e t xs s) ∨ ∃ e n, outAV m d st' u = .bx e n := fun {l' u} hu hb' => by
      rcases hp.gone l' b hb' with ⟨e, t, xs, s, h1⟩ | ⟨e, n, h1⟩
      · rw [hu] at h1; subst h1; exact .inl ⟨e, t, xs, st', rfl⟩
      · rw [hu] at h1; subst h1; exact .inr ⟨e, n, rfl⟩
    cases hr : rl l with
    | some j =>
      rw [hG2r l j hr] at hb
      rw [hg2r l j hr]
      exact hout rfl hb
    | none =>
      cases l with
      | slot n => simp only [G2, hr] at hb; rw [if_pos (hchS hc)] at hb; cases hb
      | comp n i =>
        rcases hc with ⟨n', _, e'⟩ | ⟨j, e'⟩ | ⟨b', hb', e' | ⟨o, e'⟩⟩
        · cases e'
        · rw [hr] at e'; cases e'
        · cases e'
        · cases e'
      | box c =>
        obtain ⟨b', hbb, rfl⟩ := hchB hc
        rw [hG2b b' hbb] at hb
        rw [hg2b b' hbb]
        exact hp.gone _ b hb
      | cell c o =>
        obtain ⟨b', hbb, rfl⟩ := hchC hc
        rw [hG2c b' hbb] at hb
        rw [hg2c b' hbb]
        exact hout rfl hb
  · -- one owner
    intro l l' b hc h1 h2
    have key : ∀ {l}, Ch l → G2 l = some b → (∃ j, rl l = some j ∧ Gp (.slot j) = some b) ∨ (∃ x ∈ bs, l = .box (backN m d x) ∧ Gp (.box x) = some b) ∨ (∃ x ∈ bs, ∃ o, l = .cell (backN m d x) o ∧ Gp (.cell x o) = some b) := fun {l} hc hb => by
      cases hr : rl l with
      | some j => rw [hG2r l j hr] at hb; exact .inl ⟨j, rfl, hb⟩
      | none =>
        cases l with
        | slot n => simp only [G2, hr] at hb; rw [if_pos (hchS hc)] at hb; cases hb
        | comp n i =>
          rcases hc with ⟨n', _, e'⟩ | ⟨j, e'⟩ | ⟨b', hb', e' | ⟨o, e'⟩⟩
          · cases e'
          · rw [hr] at e'; cases e'
          · cases e'
          · cases e'
        | box c =>
          obtain ⟨b', hbb, rfl⟩ := hchB hc
          rw [hG2b b' hbb] at hb
          exact .inr (.inl ⟨b', hbb, rfl, hb⟩)
        | cell c o =>
          obtain ⟨b', hbb, rfl⟩ := hchC hc
          rw [hG2c b' hbb] at hb
          exact .inr (.inr ⟨b', hbb, o, rfl, hb⟩)
    by_cases hc' : Ch l'
    · rcases key hc h1 with ⟨j, e1, q1⟩ | ⟨x, hx, rfl, q1⟩ | ⟨x, hx, o, rfl, q1⟩ <;> rcases key hc' h2 with ⟨j', e1', q1'⟩ | ⟨x', hx', rfl, q1'⟩ | ⟨x', hx', o', rfl, q1'⟩ <;> have hj := hp.inj _ _ b q1 q1' <;> cases hj
      · exact hrl2 _ _ _ e1 e1'
      · rfl
      · rfl
    · exfalso
      rw [hGO _ hc'] at h2
      rcases hGs h1 with ⟨l0, q1, _⟩ | ⟨_, q2⟩
      · rcases (hp.bnd l0 b q1).2 with ⟨l1, q3⟩ | q3
        · obtain ⟨l2, q4, q5⟩ := hcal q3
          rw [h.inj l' l2 b h2 q4] at hc'; exact hc' q5
        · have := (h.bnd l' b h2).1; omega
      · exact q2 hc
  · -- pinned boxes
    intro c gb hc hd0 _ hpn
    exfalso
    obtain ⟨b, hbb, rfl⟩ := hchB hc
    have h1 := h.pinR _ _ hpn
    cases hl : look m b with
    | none =>
      have h2 := hnh b hbb hl
      rcases h1 with h1 | h1
      · simp only [backN, hl, pinMax] at h1; omega
      · rw [h2] at h1; cases h1
    | some c' =>
      have hcb : backN m d b = c' := by simp only [backN, hl]
      obtain ⟨_, e', n', h2, _⟩ := hold b c' hl
      rw [hcb, h2] at hd0; cases hd0
end
end Go.Ev

/- Calls that hand boxes in, at the operation. -/
namespace Go.Ev
open Go.RowKit
section
variable {Z : ZS} {E : Env} {N : Nat} {w0 : World} {Ow : OwS} {S D : Nat → Prop} {g : Mem} {G : Ghost} {a a' : Act} {w w' : World} {P : Program} {F : Fence} {n : Nat}

theorem outBoxes_get : ∀ {sh : Shape} {s : Tup sh} {b : Nat}, St.get (mkSt sh s) (.box b) ≠ .dead → b ∈ outBoxes sh
  | [], _, _, h => absurd rfl h
  | (l, k) :: r, s, b, h => by
    have ih := fun h' => outBoxes_get (sh := r) (s := s.2) (b := b) h'
    simp only [mkSt, St.get] at h
    cases he : l.eq (.box b) with
    | true =>
      have := Loc.eq_iff.1 he
      subst this
      simp [outBoxes]
    | false =>
      rw [he] at h
      have := ih h
      cases l <;> simp [outBoxes, this]
theorem outOffs_get : ∀ {sh : Shape} {s : Tup sh} {b o : Nat}, St.get (mkSt sh s) (.cell b o) ≠ .dead → o ∈ outOffs b sh
  | [], _, _, _, h => absurd rfl h
  | (l, k) :: r, s, b, o, h => by
    have ih := fun h' => outOffs_get (sh := r) (s := s.2) (b := b) (o := o) h'
    simp only [mkSt, St.get] at h
    cases he : l.eq (.cell b o) with
    | true =>
      have := Loc.eq_iff.1 he
      subst this
      simp [outOffs]
    | false =>
      rw [he] at h
      have := ih h
      cases l with
      | cell c o' =>
        simp only [outOffs]
        cases Nat.beq c b <;> simp [this]
      | _ => simpa [outOffs] using this
theorem inQ_boxes {ctx : Ctx} {xs : List Arg} : ∀ {sh : Shape} {m : Names} {q : Tup sh × Names × List (Loc × AV)}, (inQ E ctx xs sh m).run g = some q → ∀ b ∈ outBoxes sh, St.get (mkSt sh q.1) (.box b) ≠ .dead
  | [], _, _, _, b, hb => by simp [outBoxes] at hb
  | (.slot n, k) :: r, m, q, hq, b, hb => by
    simp only [inQ] at hq
    split at hq
    · simp only [Q.run_bind, Option.bind_eq_some_iff, Q.run, Option.some.injEq] at hq
      obtain ⟨v, hv, p, hp, q', hq', rfl⟩ := hq
      exact inQ_boxes hq' b (by simpa [outBoxes] using hb)
    · simp [Q.run] at hq
  | (.comp n i, k) :: r, m, q, hq, b, hb => by simp [inQ, Q.run] at hq
  | (.box c, k) :: r, m, q, hq, b, hb => by
    cases k with
    | bx e n =>
      simp only [inQ] at hq
      split at hq
      · simp only [Q.run] at hq
        split at hq
        · split at hq
          · simp only [Q.run_bind, Option.bind_eq_some_iff, Q.run, Option.some.injEq] at hq
            obtain ⟨q', hq', rfl⟩ := hq
            show St.get ((.box c, .bx e n) :: mkSt r q'.1) (.box b) ≠ .dead
            simp only [St.get]
            cases he : (Loc.box c).eq (.box b) with
            | true => simp
            | false =>
              refine inQ_boxes hq' b ?_
              have : c ≠ b := fun e => by subst e; rw [Loc.eq_iff.2 rfl] at he; cases he
              simpa [outBoxes, Ne.symm this] using hb
          · simp [Q.run] at hq
        · simp [Q.run] at hq
      · simp [Q.run] at hq
    | _ => simp [inQ, Q.run] at hq
  | (.cell c o, k) :: r, m, q, hq, b, hb => by
    simp only [inQ] at hq
    split at hq
    · simp only [Q.run_bind, Option.bind_eq_some_iff, Q.run, Option.some.injEq] at hq
      obtain ⟨p, hp, q', hq', rfl⟩ := hq
      exact inQ_boxes hq' b (by simpa [outBoxes] using hb)
    · simp [Q.run] at hq
theorem ownKept_spec {m : Names} {ws : List (Loc × AV)} : ∀ {sh : Shape}, ownKept sh m ws = true → ∀ {b o e c : Nat} {t : Ty}, (Loc.cell b o, Kd.own e t) ∈ sh → look m b = some c → ∀ p ∈ ws, p.1 ≠ .cell c o
  | [], _, _, _, _, _, _, h, _ => by simp at h
  | (l, k) :: r, hk, b, o, e, c, t, h, hl => by
    have hr : ownKept r m ws = true := by
      cases l <;> cases k <;> simp only [ownKept, Bool.and_eq_true] at hk <;> first | exact hk.2 | exact hk
    rcases List.mem_cons.1 h with h | h
    · cases h
      simp only [ownKept, hl, Bool.and_eq_true] at hk
      intro p hp he
      have := List.all_eq_true.1 hk.1 p hp
      rw [Loc.eq_iff.2 he] at this
      cases this
    · exact ownKept_spec hr h hl

theorem offsQ_spec (h : Rel Z E N w0 Ow S D g G a w) {b n : Nat} : ∀ {k o : Nat} {os : List Nat}, (offsQ b n k o).run g = some os → n + 1 ≤ o + k → ∀ j, o ≤ j → j ≤ n → g (.cell b j) ≠ .dead → j ∈ os
  | 0, o, os, _, hk, j, h1, h2, _ => by omega
  | k + 1, o, os, hr, hk, j, h1, h2, hj => by
    simp only [offsQ] at hr
    split at hr
    · simp only [Q.run] at hr
      split at hr
      · rename_i hd
        have : o ≠ j := fun e => by
          subst e
          generalize g (.cell b o) = v at hd hj
          cases v <;> simp [isDead] at hd
          exact hj rfl
        exact offsQ_spec h hr (by omega) j (by omega) h2 hj
      · rename_i hd
        simp only [Q.run_bind, Option.bind_eq_some_iff, Q.run, Option.some.injEq] at hr
        obtain ⟨os', hr', rfl⟩ := hr
        by_cases he : o = j
        · subst he; simp
        · have hne : g (.cell b o) ≠ .dead := fun e => by rw [e] at hd; simp [isDead] at hd
          have hap := h.apart b o j hne hj he
          refine List.mem_cons_of_mem _ (offsQ_spec h hr' (by omega) j ?_ h2 hj)
          omega
    · omega

/-- What is read of a box that comes back. -/
theorem outBox_some {m : Names} {d st : Nat} {so : St} {pout : Shape} {b : Nat} {ws : List (Loc × AV)} (hr : (outBox m d st so pout b).run g = some ws) :
    (∃ c e n os, look m b = some c ∧ g (.box c) = .bx e n ∧ so.get (.box b) = .bx e n ∧ (offsQ c n (n + 1) 0).run g = some os ∧ (outBox.arrsQ so b c (outOffs b pout)).run g = some () ∧
      ws = (os ++ outOffs b pout).map fun o => (.cell c o, outAV m d st (so.get (.cell b o)))) ∨
    (∃ e n, look m b = none ∧ g (.box (backN m d b)) = .dead ∧ so.get (.box b) = .bx e n ∧ ws = (.box (backN m d b), .bx e n) :: (outOffs b pout).map fun o => (.cell (backN m d b) o, outAV m d st (so.get (.cell b o)))) := by
  simp only [outBox, Q.run] at hr
  split at hr
  · rename_i c e n e' n' hl hg hs
    split at hr
    · rename_i he
      simp only [Bool.and_eq_true] at he
      have h1 := Nat.eq_of_beq_eq_true he.1
      have h2 := Nat.eq_of_beq_eq_true he.2
      subst h1; subst h2
      simp only [Q.run_bind, Option.bind_eq_some_iff, Q.run, Option.some.injEq] at hr
      obtain ⟨os, h3, u, h4, rfl⟩ := hr
      left
      refine ⟨c, e', n', os, hl, ?_, hs, h3, h4, rfl⟩
      simpa [backN, hl] using hg
    · simp [Q.run] at hr
  · rename_i e n hl hg hs
    simp only [Q.run, Option.some.injEq] at hr
    exact .inr ⟨e, n, hl, hg, hs, hr.symm⟩
  · simp [Q.run] at hr
theorem arrsQ_some {so : St} {b c : Nat} : ∀ {os : List Nat}, (outBox.arrsQ so b c os).run g = some () → ∀ o ∈ os, ∀ n t x, so.get (.cell b o) = .dat (.arr n t) x → ∃ x', g (.cell c o) = .dat (.arr n t) x'
  | [], _, o, ho, _, _, _, _ => by simp at ho
  | o :: r, hr, o', ho, n, t, x, hs => by
    simp only [outBox.arrsQ] at hr
    split at hr
    · rename_i n1 t1 ha
      simp only [Q.run] at hr
      split at hr
      · rename_i n2 t2 x2 hg
        split at hr
        · rename_i he
          simp only [Bool.and_eq_true, beq_iff_eq] at he
          have h1 := Nat.eq_of_beq_eq_true he.1
          rcases List.mem_cons.1 ho with rfl | ho
          · simp only [arrAt, hs, Option.some.injEq, Prod.mk.injEq] at ha
            obtain ⟨rfl, rfl⟩ := ha
            obtain ⟨_, rfl⟩ := he
            subst h1
            exact ⟨x2, hg⟩
          · exact arrsQ_some hr o' ho n t x hs
        · simp [Q.run] at hr
      · simp [Q.run] at hr
    · rename_i ha
      rcases List.mem_cons.1 ho with rfl | ho
      · simp [arrAt, hs] at ha
      · exact arrsQ_some hr o' ho n t x hs
theorem outBoxesQ_some {m : Names} {d st : Nat} {so : St} {pout : Shape} : ∀ {bs : List Nat} {W : List (Loc × AV)}, (outBoxesQ m d st so pout bs).run g = some W →
    (∀ b ∈ bs, ∃ ws, (outBox m d st so pout b).run g = some ws ∧ ∀ p ∈ ws, p ∈ W) ∧ ∀ p ∈ W, ∃ b ∈ bs, ∃ ws, (outBox m d st so pout b).run g = some ws ∧ p ∈ ws
  | [], W, hr => by simp [outBoxesQ, Q.run] at hr; subst hr; simp
  | b :: r, W, hr => by
    simp only [outBoxesQ, Q.run_bind, Option.bind_eq_some_iff, Q.run, Option.some.injEq] at hr
    obtain ⟨ws, h1, us, h2, rfl⟩ := hr
    obtain ⟨k1, k2⟩ := outBoxesQ_some h2
    refine ⟨fun b' hb' => ?_, fun p hp => ?_⟩
    · rcases List.mem_cons.1 hb' with rfl | hb'
      · exact ⟨ws, h1, fun p hp => List.mem_append.2 (.inl hp)⟩
      · obtain ⟨ws', q1, q2⟩ := k1 b' hb'
        exact ⟨ws', q1, fun p hp => List.mem_append.2 (.inr (q2 p hp))⟩
    · rcases List.mem_append.1 hp with hp | hp
      · exact ⟨b, by simp, ws, h1, hp⟩
      · obtain ⟨b', q1, q2⟩ := k2 p hp
        exact ⟨b', by simp [q1], q2⟩
theorem outRes_sets {m : Names} {d st : Nat} {so : St} : ∀ {k j0 : Nat} (g0 : Mem) (l : Loc), g0.sets (outRes m d st so j0 k) l = match l with
    | .comp n j => if n = d ∧ j0 ≤ j ∧ j < j0 + k then outAV m d st (so.get (.slot j)) else g0 (.comp n j)
    | l => g0 l
  | 0, j0, g0, l => by
    cases l with
    | comp n j => rw [outRes]; simp only [Mem.sets]; rw [if_neg (by omega)]
    | _ => rfl
  | k + 1, j0, g0, l => by
    rw [outRes, Mem.sets_cons, outRes_sets]
    cases l with
    | comp n j =>
      simp only [Mem.upd_apply, Loc.comp.injEq]
      by_cases h1 : n = d
      · subst h1
        by_cases h2 : j = j0
        · subst h2
          rw [if_neg (by omega), if_pos ⟨rfl, rfl⟩, if_pos ⟨rfl, by omega, by omega⟩]
        · by_cases h3 : j0 + 1 ≤ j ∧ j < j0 + 1 + k
          · rw [if_pos ⟨rfl, h3⟩, if_pos ⟨rfl, by omega, by omega⟩]
          · rw [if_neg (fun e => h3 e.2), if_neg (fun e => h2 e.2), if_neg (by omega)]
      · rw [if_neg (fun e => h1 e.1), if_neg (fun e => h1 e.1), if_neg (fun e => h1 e.1)]
    | _ => simp [Mem.upd_apply]
theorem distinct_inj {f : Nat → Nat} : ∀ {bs : List Nat}, distinct (bs.map f) = true → ∀ b ∈ bs, ∀ b' ∈ bs, f b = f b' → b = b'
  | [], _, b, hb, _, _, _ => by simp at hb
  | x :: r, hd, b, hb, b', hb', he => by
    simp only [List.map_cons, distinct, Bool.and_eq_true, Bool.not_eq_true'] at hd
    have hno : ∀ y ∈ r, f y ≠ f x := fun y hy e => by
      have := List.any_eq_false.1 hd.1 (f y) (List.mem_map.2 ⟨y, hy, rfl⟩)
      rw [e] at this; simp at this
    rcases List.mem_cons.1 hb with h1 | h1 <;> rcases List.mem_cons.1 hb' with h2 | h2
    · rw [h1, h2]
    · subst h1; exact absurd he.symm (hno b' h2)
    · subst h2; exact absurd he (hno b h1)
    · exact distinct_inj hd.2 b h1 b' h2 he

theorem Rel.env {E' : Env} (h : Rel Z E N w0 Ow S D g G a w) (he : E'.glob = E.glob) (hh : ∀ b, E.held b = true → E'.held b = true) : Rel Z E' N w0 Ow S D g G a w :=
  { h with globs := fun k d hk => h.globs k d (by rw [← he]; exact hk), pinR := fun b gb hp => (h.pinR b gb hp).imp id (hh b) }

theorem newOk_none {held : Nat → Bool} {m : Names} {d b : Nat} (hl : look m b = none) (h : newOk held m d b = true) : held (backN m d b) = false := by
  unfold newOk at h
  rw [hl] at h
  revert h
  generalize backN m d b = k
  intro h
  cases hk : held k with
  | false => rfl
  | true => rw [hk] at h; cases h
/-- **A call that hands boxes in.** -/
theorem sound_call2 (hE : EnvOk P E) {ctx : Ctx} {i : Nat} {o : Oper} {f0 : Nat} {l0 : List Nat} {Sp : Spec2} (hsp : E.spec2 f0 l0 = some Sp) {xs : List Arg} {f : Eff} {next : Act → World → Prop} {Qp : Exit → Act → World → Prop}
    (h : Rel Z E N w0 Ow S D g G a w) (hg : (gcond ctx).run g = some true) (hp : (call2Q E ctx i o.dst Sp xs).run g = some f) (ht : f.test = true) (hfr : ¬ S (i + 1)) (hdst : ∀ d, o.dst = some d → d < N ∧ ¬ D d) (hF : ∀ f, F.fn f) (hFP : Plain P F)
    {args : List Value} (hal : args.length = xs.length) (hargs : ∀ (j : Nat) x, xs[j]? = some x → ArgOk g G a x (args.getD j undef)) (hrun : (o.semAt F.round a.eval).run P w = .ok (.enter f0 args.toArray) w)
    (hn : ∀ a' w' g' G', (∀ l, g' l = g.sets f.writes l) → Rel Z E N w0 Ow (fun n => S n ∨ n = i + 1) D g' G' a' w' → next a' w') : o.wpIn F n P a w next Qp := by
  have hM := hE.spec2 f0 l0 Sp hsp
  simp only [call2Q, Q.run_bind, Option.bind_eq_some_iff] at hp
  obtain ⟨q, hq, hp⟩ := hp
  obtain ⟨s, m, ws⟩ := q
  dsimp only at hp
  split at hp
  · rename_i hok
    simp only [Bool.and_eq_true] at hok
    obtain ⟨⟨⟨⟨⟨hdis, hnames⟩, hown⟩, hres⟩, hnp⟩, hheld⟩ := hok
    have hnp := Nat.eq_of_beq_eq_true hnp
    simp only [namesOk, Bool.and_eq_true] at hnames
    obtain ⟨hlen5, hnames⟩ := hnames
    have hlen5 := Nat.le_of_ble_eq_true hlen5
    have hnm : ∀ b c, look m b = some c → (∃ b' ∈ outBoxes Sp.pin, b' = b) ∧ (∃ b' ∈ outBoxes Sp.pout, b' = b) ∧ 50000 ≤ b ∧ b < 100000 := fun b c hl => by
      have := List.all_eq_true.1 hnames _ (look_mem hl)
      simp only [Bool.and_eq_true, List.any_eq_true] at this
      obtain ⟨⟨⟨⟨b1, h1, e1⟩, ⟨b2, h2, e2⟩⟩, h3⟩, h4⟩ := this
      exact ⟨⟨b1, h1, Nat.eq_of_beq_eq_true e1⟩, ⟨b2, h2, Nat.eq_of_beq_eq_true e2⟩, Nat.le_of_ble_eq_true h3, by rw [Nat.blt_eq] at h4; exact h4⟩
    simp only [Q.run_bind, Option.bind_eq_some_iff] at hp
    obtain ⟨W, hW, hp⟩ := hp
    obtain ⟨d, hd⟩ : ∃ d, d = o.dst.getD 0 := ⟨_, rfl⟩
    obtain ⟨ov, hov⟩ : ∃ ov, ov = (Sp.f s).getD (Tup.zero Sp.pout) := ⟨_, rfl⟩
    rw [← hd] at hW hdis hheld
    rw [← hov] at hp hW hres
    obtain ⟨hmi, _, hfz, hent⟩ := inQ_spec h hg hq (fun b b' c hb => by simp [look] at hb)
    have hbxs := inQ_boxes hq
    obtain ⟨G1, r1, r2, r3, r4, r5, r6⟩ := freezeAll h hfz
    have hFz : Frozen Z w g G ws G1 := ⟨r2, r3, r4, r5, r6⟩
    -- the callee's relation
    have hcal := r1.callee 0 (m := m) hmi (fun b c hl => (hnm b c hl).2.2) (gc := St.get (mkSt Sp.pin s)) (args := args) (by omega)
      (fun j => by
        rcases hent (.slot j) with h1 | ⟨x, v, m1, k, r, h1, h2, h3, h4, h5, h6, h7⟩
        · rw [h1]; trivial
        · rw [h7]; exact inArg_val h hg hFz (hargs j x h1) h2 h3 h4 h5 h6)
      (fun j q => hent (.comp j q))
      (fun b => by
        rcases hent (.box b) with h1 | ⟨c, e, k, h1, h2, h3⟩
        · exact .inl h1
        · exact .inr ⟨c, e, k, h1, hFz.bx h2, h3⟩)
      (fun b c hl => by
        obtain ⟨b', h1, rfl⟩ := (hnm b c hl).1
        exact hbxs b' h1)
      (fun b j => by
        rcases hent (.cell b j) with h1 | ⟨c, m1, k, r, h1, h2, h3, h4, h5, h6, h7⟩
        · exact .inl h1
        · refine .inr ⟨c, h1, ?_⟩
          rw [h6]
          exact inCell_conv hfz hFz rfl h2 h3 h4 h5 (fun e t hk => by subst hk; exact ownKept_spec hown h7 h1))
    obtain ⟨gc, hgc⟩ : ∃ gc, gc = St.get (mkSt Sp.pin s) := ⟨_, rfl⟩
    rw [← hgc] at hcal
    -- the call, and what comes back
    have hgo : ∀ (hso : Sp.f s = some ov) {rl : Loc → Option Nat} {R : List (Loc × AV)},
        f.writes = ws ++ W ++ R →
        (∀ l j, rl l = some j → j < nres Sp.pout ∧ ∃ n, o.dst = some n ∧ (l = .slot n ∨ ∃ i, l = .comp n i)) →
        (∀ l l' j, rl l = some j → rl l' = some j → l = l') →
        (∀ (g0 : Mem) l j, rl l = some j → g0.sets R l = outAV m d (i + 1) (St.get (mkSt Sp.pout ov) (.slot j))) →
        (∀ (g0 : Mem) l, (∀ n, o.dst = some n → l ≠ .slot n) → rl l = none → g0.sets R l = g0 l) →
        (∀ vs : List Value, vs.length = nres Sp.pout → ∀ n, o.dst = some n → (rl (.slot n) = some 0 ∧ retVal vs = vs.getD 0 undef) ∨ (rl (.slot n) = none ∧ ((∀ g0 : Mem, g0.sets R (.slot n) = .dead) ∨ ((∀ g0 : Mem, g0.sets R (.slot n) = .tup (nres Sp.pout)) ∧ retVal vs = .tuple vs.toArray ∧ ∀ i, i < nres Sp.pout → rl (.comp n i) = some i)))) →
        o.wpIn F n P a w next Qp := by
      intro hso rl R hfw hrl1 hrl2 hRr hRo hRd
      refine ⟨fun f _ => hF f, ?_⟩
      rw [hrun]
      have hc := hM.calls (calleeZ Z m gc G1 w) w (calleeOw m gc G1) (calleeG m gc G1) args s ov hso rfl (fun b gb hb => by
        simp only [calleeOw, Option.bind_eq_some_iff] at hb
        obtain ⟨c, h1, _⟩ := hb
        exact (hnm b c h1).2.2.1) (by omega) (by rw [← hgc]; exact hcal)
      refine ⟨fun hh => (by rw [hFP.depth] at hh; cases hh), hFP.calls (hc.mono ?_)⟩
      rintro e w' ⟨vs, Gp, rfl, hvl, hpost⟩
      obtain ⟨gp, hgp⟩ : ∃ gp, gp = St.get (mkSt Sp.pout ov) := ⟨_, rfl⟩
      rw [← hgp] at hpost
      obtain ⟨hB1, hB2⟩ := outBoxesQ_some hW
      have hmem : ∀ {b}, gp (.box b) ≠ .dead → b ∈ outBoxes Sp.pout := fun hb => by rw [hgp] at hb; exact outBoxes_get hb
      have hshape : ∀ b ∈ outBoxes Sp.pout, ∃ wsb, (outBox m d (i + 1) (mkSt Sp.pout ov) Sp.pout b).run g = some wsb ∧ ∀ p ∈ wsb, p ∈ W := hB1
      have hWp : ∀ p ∈ W, ∃ b ∈ outBoxes Sp.pout, (p.1 = .box (backN m d b) ∧ p.2 = gp (.box b)) ∨ ∃ j, p.1 = .cell (backN m d b) j ∧ p.2 = outAV m d (i + 1) (gp (.cell b j)) := fun p hp => by
        obtain ⟨b, hb, wsb, h1, h2⟩ := hB2 p hp
        refine ⟨b, hb, ?_⟩
        rcases outBox_some h1 with ⟨c, e, k, os, k1, k2, k3, k4, k5, rfl⟩ | ⟨e, k, k1, k2, k3, rfl⟩
        · obtain ⟨j, _, rfl⟩ := List.mem_map.1 h2
          exact .inr ⟨j, by simp [backN, k1], by rw [hgp]⟩
        · rcases List.mem_cons.1 h2 with rfl | h2
          · exact .inl ⟨rfl, by rw [hgp, k3]⟩
          · obtain ⟨j, _, rfl⟩ := List.mem_map.1 h2
            exact .inr ⟨j, rfl, by rw [hgp]⟩
      have hsets : ∀ l, g.sets f.writes l = ((g.sets ws).sets W).sets R l := fun l => by rw [hfw, Mem.sets_append, Mem.sets_append]
      have hRbc : ∀ (g0 : Mem) l, (∀ n, l ≠ .slot n) → (∀ n i, l ≠ .comp n i) → g0.sets R l = g0 l := fun g0 l h1 h2 => hRo g0 l (fun n _ => h1 n) (by
        cases hr : rl l with
        | none => rfl
        | some j => obtain ⟨_, n, _, e | ⟨i, e⟩⟩ := hrl1 l j hr
                    · exact absurd e (h1 n)
                    · exact absurd e (h2 n i))
      have hinj := distinct_inj hdis
      have hdead1 : ∀ l, g l = .dead → g.sets ws l = .dead := fun l hl => by rw [r4 l (by rw [hl]; simp)]; exact hl
      obtain ⟨G2, hrel⟩ := r1.merge (m := m) hmi (gc := gc) (gp := gp) (Gp := Gp) (vs := vs) (d := d) (st' := i + 1) (bs := outBoxes Sp.pout) (dst := o.dst) (rl := rl) (g2 := g.sets f.writes) (a' := a.put o.dst (retVal vs)) hpost (fun b c hl => (hnm b c hl).2.2) hfr hinj (fun b hb => hmem hb)
        (fun b c hl => by
          obtain ⟨b', h1, rfl⟩ := (hnm b c hl).2.1
          refine ⟨h1, ?_⟩
          obtain ⟨wsb, h2, _⟩ := hshape b' h1
          rcases outBox_some h2 with ⟨c', e, k, os, k1, k2, k3, _⟩ | ⟨e, k, k1, _⟩
          · rw [hl] at k1; cases k1
            exact ⟨e, k, hFz.bx k2, by rw [hgp]; exact k3⟩
          · rw [hl] at k1; cases k1)
        (fun b hb hl => by
          obtain ⟨wsb, h2, _⟩ := hshape b hb
          rcases outBox_some h2 with ⟨c', e, k, os, k1, _⟩ | ⟨e, k, k1, k2, _⟩
          · rw [hl] at k1; cases k1
          · exact hdead1 _ k2)
        (fun b hb hl => by
          exact newOk_none hl (List.all_eq_true.1 hheld b hb))
        (fun b c j k t x hl hx => by
          obtain ⟨b', h1, rfl⟩ := (hnm b c hl).2.1
          obtain ⟨wsb, h2, _⟩ := hshape b' h1
          rcases outBox_some h2 with ⟨c', e, k', os, k1, k2, k3, k4, k5, _⟩ | ⟨e, k', k1, _⟩
          · rw [hl] at k1; cases k1
            have hj : j ∈ outOffs b' Sp.pout := outOffs_get (s := ov) (by rw [← hgp, hx]; simp)
            obtain ⟨x', h3⟩ := arrsQ_some k5 j hj k t x (by rw [← hgp]; exact hx)
            exact ⟨x', by rw [r4 _ (by rw [h3]; simp)]; exact h3⟩
          · rw [hl] at k1; cases k1)
        (fun b hb => by
          rw [hsets, hRbc _ _ (by simp) (by simp)]
          rcases sets_get (ws := W) (g := g.sets ws) (l := .box (backN m d b)) with ⟨h1, h2⟩ | ⟨p, h1, h2, h3⟩
          · obtain ⟨wsb, h4, h5⟩ := hshape b hb
            rcases outBox_some h4 with ⟨c', e, k, os, k1, k2, k3, _⟩ | ⟨e, k, k1, k2, k3, rfl⟩
            · rw [h1, show backN m d b = c' by simp only [backN, k1], hFz.bx k2, hgp, k3]
            · exact absurd rfl (h2 _ (h5 _ (List.mem_cons_self ..)))
          · obtain ⟨b', hb', ⟨k1, k2⟩ | ⟨j, k1, _⟩⟩ := hWp p h1
            · rw [h2] at k1
              injection k1 with k3
              have := hinj b' hb' b hb k3.symm
              subst this
              rw [h3, k2]
            · rw [h2] at k1; cases k1)
        (fun b hb j => by
          rw [hsets, hRbc _ _ (by simp) (by simp)]
          rcases sets_get (ws := W) (g := g.sets ws) (l := .cell (backN m d b) j) with ⟨h1, h2⟩ | ⟨p, h1, h2, h3⟩
          · obtain ⟨wsb, h4, h5⟩ := hshape b hb
            have hout : gp (.cell b j) = .dead := Classical.byContradiction fun hne => by
              have hj : j ∈ outOffs b Sp.pout := outOffs_get (s := ov) (by rw [← hgp]; exact hne)
              rcases outBox_some h4 with ⟨c', e, k, os, k1, k2, k3, k4, k5, rfl⟩ | ⟨e, k, k1, k2, k3, rfl⟩
              · exact h2 _ (h5 _ (List.mem_map.2 ⟨j, List.mem_append.2 (.inr hj), rfl⟩)) (by simp [backN, k1])
              · exact h2 _ (h5 _ (List.mem_cons_of_mem _ (List.mem_map.2 ⟨j, hj, rfl⟩))) rfl
            rw [h1, hout]
            refine Classical.byContradiction fun hne => ?_
            have hgne : g (.cell (backN m d b) j) ≠ .dead := fun e => hne (hdead1 _ e)
            rcases outBox_some h4 with ⟨c', e, k, os, k1, k2, k3, k4, k5, rfl⟩ | ⟨e, k, k1, k2, k3, rfl⟩
            · have hcb : backN m d b = c' := by simp only [backN, k1]
              rw [hcb] at hgne
              obtain ⟨e', n', gb, cur, q1, q2, q3, q4⟩ := h.cells c' j hgne
              rw [k2] at q1; cases q1
              obtain ⟨gb', cur', z1, z2, z3⟩ := h.boxes c' e k k2
              rw [q2] at z1; cases z1
              rw [q3] at z2; cases z2
              have hjn : j ≤ k := by
                generalize g (.cell c' j) = v at q4 hgne
                cases v <;> first | exact absurd rfl hgne | (have := q4.1; omega)
              have := offsQ_spec h k4 (by omega) j (Nat.zero_le _) hjn hgne
              exact h2 _ (h5 _ (List.mem_map.2 ⟨j, List.mem_append.2 (.inl this), rfl⟩)) (by simp [backN, k1])
            · obtain ⟨e', n', gb, cur, q1, _⟩ := h.cells _ j hgne
              rw [k2] at q1; cases q1
          · obtain ⟨b', hb', ⟨k1, _⟩ | ⟨j', k1, k2⟩⟩ := hWp p h1
            · rw [h2] at k1; cases k1
            · rw [h2] at k1
              injection k1 with k3 k4
              subst k4
              have := hinj b' hb' b hb k3.symm
              subst this
              rw [h3, k2])
        (fun l j hr => by rw [hsets, hRr _ l j hr, ← hgp])
        (fun l h1 h2 h3 => by
          rw [hsets, hRo _ l h1 h2]
          refine sets_other (fun p hp he => ?_)
          obtain ⟨b', hb', ⟨k1, _⟩ | ⟨j', k1, _⟩⟩ := hWp p hp
          · exact (h3 b' hb').1 (by rw [← he]; exact k1)
          · exact (h3 b' hb').2 j' (by rw [← he]; exact k1))
        (fun l j hr => by rw [hvl]; exact hrl1 l j hr) hrl2 (put_defers _ _ _) (put_size _ _ _)
        (fun j hj => by
          cases hdd : o.dst with
          | none => rfl
          | some d' => exact put_tmps_ne a _ (fun e => hj (by rw [hdd, e])))
        hdst
        (fun j hj => by
          have hv : (a.put o.dst (retVal vs)).tmps.getD j undef = retVal vs := by rw [hj]; exact put_tmps a j _ (by rw [h.tmps]; exact (hdst j hj).1)
          rcases hRd vs hvl j hj with ⟨k1, k2⟩ | ⟨k1, k2 | ⟨k2, k3, k4⟩⟩
          · exact .inl ⟨k1, by rw [hv]; exact k2⟩
          · exact .inr ⟨k1, .inl (by rw [hsets]; exact k2 _)⟩
          · exact .inr ⟨k1, .inr ⟨by rw [hsets, hvl]; exact k2 _, by rw [hv]; exact k3, fun i hi => k4 i (by omega)⟩⟩)
      exact hn _ _ _ _ (fun _ => rfl) hrel
    have hsome : ∀ {b : Bool}, b = (Sp.f s).isSome → b = true → Sp.f s = some ov := fun {b} e hb => by
      rw [e] at hb
      obtain ⟨o', ho'⟩ := Option.isSome_iff_exists.1 hb
      rw [hov, ho']; rfl
    split at hp
    · -- one result
      rename_i d' hd' hk
      simp only [Q.run, Option.some.injEq] at hp
      subst hp
      have hdd : d = d' := by rw [hd, hd']; rfl
      subst hdd
      refine hgo (hsome rfl ht) (rl := fun l => if l = .slot d then some 0 else none) (R := [(.slot d, outAV m d (i + 1) (St.get (mkSt Sp.pout ov) (.slot 0)))]) rfl ?_ ?_ ?_ ?_ ?_
      · intro l j hr
        split at hr
        · rename_i e; cases hr; exact ⟨by omega, d, hd', .inl e⟩
        · cases hr
      · intro l l' j hr hr'
        split at hr
        · split at hr'
          · rename_i e e'; rw [e, e']
          · cases hr'
        · cases hr
      · intro g0 l j hr
        split at hr
        · rename_i e; cases hr; subst e; simp [Mem.sets, Mem.upd_apply]
        · cases hr
      · intro g0 l h1 h2
        simp only [Mem.sets, Mem.upd_apply]
        rw [if_neg (h1 d hd')]
      · intro vs hvl j hj
        rw [hd'] at hj; cases hj
        left
        refine ⟨by simp, ?_⟩
        match vs, hvl with
        | [v], _ => rfl
        | [], hvl => simp at hvl; omega
        | _ :: _ :: _, hvl => simp at hvl; omega
    · -- no result
      rename_i d' hd' hk
      simp only [Q.run, Option.some.injEq] at hp
      subst hp
      have hdd : d = d' := by rw [hd, hd']; rfl
      subst hdd
      refine hgo (hsome rfl ht) (rl := fun _ => none) (R := [(.slot d, .dead)]) rfl ?_ ?_ ?_ ?_ ?_
      · intro l j hr; cases hr
      · intro l l' j hr; cases hr
      · intro g0 l j hr; cases hr
      · intro g0 l h1 h2
        simp only [Mem.sets, Mem.upd_apply]
        rw [if_neg (h1 d hd')]
      · intro vs hvl j hj
        rw [hd'] at hj; cases hj
        exact .inr ⟨rfl, .inl (fun g0 => by simp [Mem.sets, Mem.upd_apply])⟩
    · -- several results
      rename_i k d' hd' hn1 hn0
      simp only [Q.run, Option.some.injEq] at hp
      subst hp
      have hdd : d = d' := by rw [hd, hd']; rfl
      subst hdd
      refine hgo (hsome rfl ht) (rl := fun l => match l with | .comp n j => if n = d ∧ j < nres Sp.pout then some j else none | _ => none) (R := outRes m d (i + 1) (mkSt Sp.pout ov) 0 (nres Sp.pout) ++ [(.slot d, .tup (nres Sp.pout))]) (by simp [List.append_assoc]) ?_ ?_ ?_ ?_ ?_
      · intro l j hr
        cases l with
        | comp n i =>
          simp only [] at hr
          split at hr
          · rename_i e; cases hr; exact ⟨e.2, d, hd', .inr ⟨_, congrArg (Loc.comp · _) e.1⟩⟩
          · cases hr
        | _ => cases hr
      · intro l l' j hr hr'
        cases l with
        | comp n i =>
          cases l' with
          | comp n' i' =>
            simp only [] at hr hr'
            split at hr
            · split at hr'
              · rename_i e e'; cases hr; cases hr'; rw [e.1, e'.1]
              · cases hr'
            · cases hr
          | _ => cases hr'
        | _ => cases hr
      · intro g0 l j hr
        cases l with
        | comp n i =>
          simp only [] at hr
          split at hr
          · rename_i e; cases hr
            rw [Mem.sets_append]
            simp only [Mem.sets, Mem.upd_apply]
            rw [if_neg (by simp), outRes_sets, e.1]
            simp only []
            rw [if_pos ⟨trivial, Nat.zero_le _, by omega⟩]
          · cases hr
        | _ => cases hr
      · intro g0 l h1 h2
        rw [Mem.sets_append]
        simp only [Mem.sets, Mem.upd_apply]
        rw [if_neg (h1 d hd'), outRes_sets]
        cases l with
        | comp n i =>
          simp only [] at h2 ⊢
          rw [if_neg (fun e => by rw [if_pos ⟨e.1, by omega⟩] at h2; cases h2)]
        | _ => rfl
      · intro vs hvl j hj
        rw [hd'] at hj; cases hj
        refine .inr ⟨rfl, .inr ⟨fun g0 => by rw [Mem.sets_append]; simp [Mem.sets, Mem.upd_apply], ?_, fun i hi => by simp [hi]⟩⟩
        match vs, hvl with
        | [], hvl => exact absurd hvl.symm hn0
        | [_], hvl => exact absurd hvl.symm hn1
        | _ :: _ :: _, _ => rfl
    · have hd' : o.dst = none := by assumption
      simp only [Q.run, Option.some.injEq] at hp
      subst hp
      refine hgo (hsome rfl ht) (rl := fun _ => none) (R := []) (by simp) ?_ ?_ ?_ ?_ ?_
      · intro l j hr; cases hr
      · intro l l' j hr; cases hr
      · intro g0 l j hr; cases hr
      · intro g0 l h1 h2; rfl
      · intro vs hvl j hj; rw [hd'] at hj; cases hj
  · simp [Q.run] at hp
end
end Go.Ev

/- Calls that hand boxes in, of functions and of function values; function values made. -/
namespace Go.Ev
open Go.RowKit
section
variable {Z : ZS} {E : Env} {N : Nat} {w0 : World} {Ow : OwS} {S D : Nat → Prop} {g : Mem} {G : Ghost} {a a' : Act} {w w' : World} {P : Program} {F : Fence} {n : Nat}

theorem sound_callTwo {ctx : Ctx} {i : Nat} {o : Oper} {f0 : Nat} {xs : Array Operand} {Ts : Array Nat} (hE : EnvOk P E) (hsp : E.spec f0 = none) (ho : o.op = .call { callee := .value (.func f0), args := xs, argTypes := Ts }) : Sound E P ctx i o := by
  intro Z N w0 Ow S D g G a w F n f next Qp h hg hp ht hfr hdst hF hS0 hn
  obtain ⟨hFP, _⟩ := hS0
  simp only [plan, ho, hsp, Q.run_bind, Option.bind_eq_some_iff] at hp
  obtain ⟨l, _, Sp, hSp, hp⟩ := hp
  replace hSp := ofO_some hSp
  refine sound_call2 hE hSp h hg hp ht hfr hdst hF hFP (args := xs.toList.map a.eval) (by simp) (fun j x hx => ?_) ?_ hn
  · simp only [List.getElem?_map, Option.map_eq_some_iff] at hx
    obtain ⟨y, hy, rfl⟩ := hx
    simp [ArgOk, List.getD_eq_getElem?_getD, hy]
  · have hM := hE.spec2 f0 l Sp hSp
    have : (execOp a.eval o).run P w = .ok (.enter f0 (xs.map a.eval)) w := by
      simp only [execOp, ho, resolve, Act.eval, Deferred.ofValue, invoke, Sem.run_bind, Sem.run_pure, Result.andThen_ok, Array.append_empty, Array.empty_append, hM.enter]
    rw [show (xs.toList.map a.eval).toArray = xs.map a.eval from by rw [← Array.toList_map, Array.toArray_toList]]
    cases hr : F.round with
    | none => rw [Oper.semAt_none]; exact this
    | some l => rw [Oper.semAt_some l a.eval o (by rw [ho]; simp)]; exact this

theorem sound_callValue {ctx : Ctx} {i : Nat} {o : Oper} {t : Nat} {xs : Array Operand} {Ts : Array Nat} (hE : EnvOk P E) (ho : o.op = .call { callee := .value (.tmp t), args := xs, argTypes := Ts }) : Sound E P ctx i o := by
  intro Z N w0 Ow S D g G a w F n f next Qp h hg hp ht hfr hdst hF hS0 hn
  obtain ⟨hFP, _⟩ := hS0
  simp only [plan, ho, Q.run_bind, Option.bind_eq_some_iff] at hp
  obtain ⟨v, hv, hp⟩ := hp
  have hT := rd_told h hg hv
  split at hp
  · rename_i f0 cs
    simp only [Q.run_bind, Option.bind_eq_some_iff] at hp
    obtain ⟨l, _, Sp, hSp, hp⟩ := hp
    replace hSp := ofO_some hSp
    obtain ⟨vs, hv1, hv2, hv3⟩ := hT.r (.slot 0) (by simp)
    refine sound_call2 hE hSp h hg hp ht hfr hdst hF hFP (args := xs.toList.map a.eval ++ vs.toList) (by simp [hv2]) (fun j x hx => ?_) ?_ hn
    · by_cases hj : j < xs.size
      · rw [List.getElem?_append_left (by simpa using hj)] at hx
        simp only [List.getElem?_map, Option.map_eq_some_iff] at hx
        obtain ⟨y, hy, rfl⟩ := hx
        show (xs.toList.map a.eval ++ vs.toList).getD j undef = a.eval y
        rw [List.getD_eq_getElem?_getD, List.getElem?_append_left (by simpa using hj), List.getElem?_map, hy]
        rfl
      · rw [List.getElem?_append_right (by simpa using hj)] at hx
        simp only [List.getElem?_map, Option.map_eq_some_iff, List.length_map, Array.length_toList] at hx
        obtain ⟨c, hc, rfl⟩ := hx
        obtain ⟨e, n, gb, h1, h2, h3⟩ := hv3 _ c hc
        refine ⟨e, n, gb, h1, h2, ?_⟩
        rw [List.getD_eq_getElem?_getD, List.getElem?_append_right (by simpa using hj)]
        simpa [Array.getD_eq_getD_getElem?] using h3
    · have hM := hE.spec2 f0 l Sp hSp
      have : (execOp a.eval o).run P w = .ok (.enter f0 (xs.map a.eval ++ vs)) w := by
        simp only [execOp, ho, resolve, hv1, Deferred.ofValue, invoke, Sem.run_bind, Sem.run_pure, Result.andThen_ok, Array.empty_append, hM.enter]
      rw [show (xs.toList.map a.eval ++ vs.toList).toArray = xs.map a.eval ++ vs from by apply Array.ext'; simp]
      cases hr : F.round with
      | none => rw [Oper.semAt_none]; exact this
      | some l => rw [Oper.semAt_some l a.eval o (by rw [ho]; simp)]; exact this
  · simp [Q.run] at hp

theorem capsQ_some (h : Rel Z E N w0 Ow S D g G a w) {ctx : Ctx} (hg : (gcond ctx).run g = some true) : ∀ {xs : List Operand} {l : List Nat}, (capsQ E ctx xs).run g = some l →
    xs.length = l.length ∧ ∀ (i b : Nat), l[i]? = some b → ∃ e n gb, g (.box b) = .bx e n ∧ G (.box b) = some gb ∧ (xs.map a.eval).getD i undef = .pointer (some ⟨gb, 0, none⟩)
  | [], l, hl => by simp [capsQ, Q.run] at hl; subst hl; simp
  | x :: r, l, hl => by
    simp only [capsQ, Q.run_bind, Option.bind_eq_some_iff] at hl
    obtain ⟨v, hv, hl⟩ := hl
    have hT := rd_told h hg hv
    split at hl
    · rename_i b
      simp only [Q.run_bind, Option.bind_eq_some_iff, Q.run, Option.some.injEq] at hl
      obtain ⟨l', hl', rfl⟩ := hl
      obtain ⟨k1, k2⟩ := capsQ_some h hg hl'
      refine ⟨by simp [k1], fun i b' hb' => ?_⟩
      cases i with
      | zero =>
        simp at hb'; subst hb'
        obtain ⟨e, n, gb, h1, h2, h3⟩ := hT.r (.slot 0) (by simp)
        exact ⟨e, n, gb, h1, h2, by simpa using h3⟩
      | succ i => simpa using k2 i b' (by simpa using hb')
    · simp [Q.run] at hl

theorem sound_makeFunc {ctx : Ctx} {i : Nat} {o : Oper} {f0 : Nat} {first caps : Array Operand} (ho : o.op = .makeFunc (.func f0) first caps) : Sound E P ctx i o := by
  intro Z N w0 Ow S D g G a w F n f next Qp h hg hp ht hfr hdst hF _ hn
  simp only [plan, ho] at hp
  split at hp
  · rename_i hfirst
    have hfirst : first = #[] := by simpa using hfirst
    subst hfirst
    simp only [Q.run_bind, Option.bind_eq_some_iff, Q.run, Option.some.injEq] at hp
    obtain ⟨d, hd, l, hl, rfl⟩ := hp
    replace hd := sureD_some hd
    obtain ⟨k1, k2⟩ := capsQ_some h hg hl
    refine wpIn_value hF (by rw [ho]; simp) (v := .func (.func f0) #[] (caps.map a.eval)) (w' := w) ?_ (fill1 (v := .fn f0 l) h hdst hd rfl trivial (by simp) ?_ hn)
    · simp [execOp, ho, Instr.makeFunc]
    · refine ⟨caps.map a.eval, rfl, by simpa using k1, fun j b hb => ?_⟩
      obtain ⟨e, n, gb, h1, h2, h3⟩ := k2 j b hb
      exact ⟨e, n, gb, h1, h2, by simpa [Array.getD_eq_getD_getElem?, List.getD_eq_getElem?_getD] using h3⟩
  · simp [Q.run] at hp
end
end Go.Ev

/- Every operation; regions. -/
namespace Go.Ev
open Go.RowKit
section
variable {Z : ZS} {E : Env} {N : Nat} {w0 : World} {Ow : OwS} {S S' D D' : Nat → Prop} {g g' : Mem} {G G' : Ghost} {a a' : Act} {w w' : World} {P : Program} {F : Fence} {n : Nat}

theorem sound_none {ctx : Ctx} {i : Nat} {o : Oper} (h : plan E ctx i o = .fail) : Sound E P ctx i o := by
  intro Z N w0 Ow S D g G a w F n f next Qp _ _ hp
  rw [h] at hp; simp [Q.run] at hp

theorem sound_all (hE : EnvOk P E) (ctx : Ctx) (i : Nat) (o : Oper) : Sound E P ctx i o := by
  cases ho : o.op with
  | move x => exact sound_move ho
  | assign x => exact sound_assign hE.tab ho
  | pick c x y =>
    cases c with
    | tmp s => exact sound_pick ho
    | _ => exact sound_none (by simp only [plan, ho])
  | alloc T => exact sound_alloc' hE.tab ho
  | box T x => exact sound_box' hE.tab ho
  | build T ps => exact sound_build hE.tab ho
  | buildSlice T m ps => exact sound_buildSlice hE.tab ho
  | load T x => exact sound_load' hE.tab ho
  | store T p x => exact sound_store' hE.tab ho
  | nilCheck x => exact sound_nilCheck ho
  | binOp op T x y T' => exact sound_binOp hE.tab ho
  | unOp op T x => exact sound_unOp ho
  | convert s d x => exact sound_convert hE.tab ho
  | makeSlice T x y => exact sound_makeSlice hE.tab ho
  | slice T x lo hi mx =>
    cases mx with
    | none => exact sound_slice hE.tab ho
    | some m => exact sound_none (by simp only [plan, ho])
  | fieldAddr T x k => exact sound_fieldAddr hE.tab ho
  | field T x k => exact sound_field hE.tab ho
  | indexAddr T x k => exact sound_indexAddr hE.tab ho
  | index T x k => exact sound_index hE.tab ho
  | extract x k =>
    cases x with
    | tmp s => exact sound_extract ho
    | _ => exact sound_none (by simp only [plan, ho])
  | makeFunc fn first caps =>
    cases fn with
    | func f => exact sound_makeFunc ho
    | _ => exact sound_none (by simp only [plan, ho])
  | call c =>
    obtain ⟨cal, args, Ts⟩ := c
    cases cal with
    | builtin b =>
      cases b with
      | len => exact sound_len hE.tab ho
      | min => exact sound_minmax (.inl rfl) ho
      | max => exact sound_minmax (.inr rfl) ho
      | append => exact sound_append hE.tab ho
      | _ => exact sound_none (by simp only [plan, ho, builtinQ])
    | invoke r m => exact sound_none (by simp only [plan, ho])
    | value x =>
      cases x with
      | func f =>
        cases hsp : E.spec f with
        | none => exact sound_callTwo hE hsp ho
        | some Sp => exact sound_call hE (by rw [hsp]; simp) ho
      | tmp t => exact sound_callValue hE ho
      | _ => exact sound_none (by simp only [plan, ho])
  | _ => exact sound_none (by simp only [plan, ho])
end
end Go.Ev

/- One operation of a region, guarded or not. -/
namespace Go.Ev
open Go.RowKit

def tmpsPut (a a' : Act) (d : Option Nat) : Prop := ∃ v, a'.tmps = (a.put d v).tmps
section
variable {Z : ZS} {E : Env} {N : Nat} {w0 : World} {Ow : OwS} {P : Program} {F : Fence} {n : Nat}

theorem wpIn_put {o : Oper} {a : Act} {w : World} {next : Act → World → Prop} {Qp : Exit → Act → World → Prop} (h : o.wpIn F n P a w (fun a' w' => tmpsPut a a' o.dst → next a' w') Qp) : o.wpIn F n P a w next Qp := by
  refine ⟨h.1, ?_⟩
  have h := h.2
  generalize (o.semAt F.round a.eval).run P w = r at *
  cases r with
  | ok x w' =>
    cases x <;> simp only [Oper.uponIn] at h ⊢
    case value v => exact h ⟨v, rfl⟩
    case skip => exact h ⟨undef, rfl⟩
    case defer d => exact h ⟨undef, by cases o.dst <;> rfl⟩
    case enter f args => exact ⟨h.1, CallsIn.mono h.2 (fun e w'' he => by cases e <;> first | exact he ⟨_, rfl⟩ | exact he)⟩
    case row => exact ⟨h.1, RowsIn.mono h.2 (fun v w'' he => he ⟨v, rfl⟩)⟩
    case round => exact ⟨h.1, RoundIn.mono h.2 (fun e w'' he => by cases e <;> first | exact he ⟨_, rfl⟩ | exact he)⟩
    all_goals exact h
  | halt x w' => cases x <;> simp only [Oper.uponIn] at h ⊢ <;> exact h

/-- Is k the guard of an operation? -/
def isG (ops : List Oper) (k : Nat) : Prop := ∃ (i : Nat) (o : Oper) (want : Bool), ops[i]? = some o ∧ o.guard = some (k, want)
def isB (v : AV) : Prop := ∃ x, v = .dat .bool x ∨ ∃ c, v = .opt c (.dat .bool x)
def dstOf (ops : List Oper) (k : Nat) : Option Nat := (ops[k]?).bind (·.dst)
def Dof (ops : List Oper) (X : Nat → Prop) (g : Mem) (d : Nat) : Prop := ∃ k, X k ∧ isG ops k ∧ dstOf ops k = some d ∧ isB (g (.slot d))
def Sof (X : Nat → Prop) (m : Nat) : Prop := m = 0 ∨ ∃ j, X j ∧ m = j + 1
/-- What is known of an executed guard. -/
def GuardR (g : Mem) (a : Act) (d : Nat) (c : Ctx) : Prop :=
  (c = [] → ∃ x, g (.slot d) = .dat .bool x) ∧ (c ≠ [] → ∃ x, g (.slot d) = .opt c (.dat .bool x) ∧ ((gcond c).run g = some false → ∀ b, a.tmps.getD d undef ≠ .bool b))
structure Inv (Z : ZS) (E : Env) (N : Nat) (w0 : World) (Ow : OwS) (ops : List Oper) (X : Nat → Prop) (g : Mem) (G : Ghost) (a : Act) (w : World) : Prop where
  rel : Rel Z E N w0 Ow (Sof X) (Dof ops X g) g G a w
  guards : ∀ k d p c m, X k → isG ops k → ops[k]? = some p → p.dst = some d → isB (g (.slot d)) → ctxOf ops m p.guard = some c → GuardR g a d c
  closed : ∀ k p j want, X k → ops[k]? = some p → p.guard = some (j, want) → X j
  bound : ∀ k, X k → k < ops.length

theorem ctxOf_none (ops : List Oper) (m : Nat) : ctxOf ops m none = some [] := by cases m <;> rfl
theorem ctxOf_some {ops : List Oper} {m k : Nat} {want : Bool} {c : Ctx} (h : ctxOf ops m (some (k, want)) = some c) :
    ∃ m' p d c', m = m' + 1 ∧ ops[k]? = some p ∧ p.dst = some d ∧ ctxOf ops m' p.guard = some c' ∧ c = (d, want) :: c' := by
  cases m with
  | zero => simp [ctxOf] at h
  | succ m' =>
    simp only [ctxOf] at h
    split at h
    · rename_i p hp
      split at h
      · rename_i d c' hd hc
        cases h
        exact ⟨m', p, d, c', rfl, hp, hd, hc, rfl⟩
      · cases h
    · cases h
theorem ctxOf_det {ops : List Oper} : ∀ {m m' : Nat} {x : Option (Nat × Bool)} {c c' : Ctx}, ctxOf ops m x = some c → ctxOf ops m' x = some c' → c = c'
  | m, m', none, c, c', h, h' => by rw [ctxOf_none] at h h'; cases h; cases h'; rfl
  | 0, _, some _, c, c', h, _ => by simp [ctxOf] at h
  | m + 1, m', some (k, want), c, c', h, h' => by
    obtain ⟨m1, p, d, c1, e1, hp, hd, hc, rfl⟩ := ctxOf_some h
    obtain ⟨m2, p2, d2, c2, e2, hp2, hd2, hc2, rfl⟩ := ctxOf_some h'
    rw [hp] at hp2; cases hp2
    rw [hd] at hd2; cases hd2
    cases e1
    rw [ctxOf_det hc hc2]

theorem zipIdx_all {α : Type} {l : List α} {f : α → Nat → Bool} (h : (l.zipIdx.all fun p => f p.1 p.2) = true) {i : Nat} {x : α} (hx : l[i]? = some x) : f x i = true := by
  rw [List.all_eq_true] at h
  refine h (x, i) ?_
  rw [List.mem_iff_getElem?]
  exact ⟨i, by simp [List.getElem?_zipIdx, hx]⟩

/-- What the region's check says. -/
structure RegOk (N : Nat) (ops : List Oper) : Prop where
  dst : ∀ (i : Nat) (o : Oper) (d : Nat), ops[i]? = some o → o.dst = some d → d < N
  back : ∀ (i : Nat) (o : Oper), ops[i]? = some o → ∀ e ∈ o.after, Region.binds .any e = true → e.on < i
  guard : ∀ (i : Nat) (o : Oper) (k : Nat) (want : Bool), ops[i]? = some o → o.guard = some (k, want) → k < i ∧ (∃ e ∈ o.after, e.on = k ∧ Region.binds .any e = true) ∧ ∃ (p : Oper) (d : Nat), ops[k]? = some p ∧ p.dst = some d ∧ ∀ (j : Nat) (q : Oper), ops[j]? = some q → q.dst = some d → j = k

theorem blt_lt {a b : Nat} (h : Nat.blt a b = true) : a < b := by rw [Nat.blt_eq] at h; exact h
theorem regOk_of {N : Nat} {ops : List Oper} (h : regionOk N ops = true) : RegOk N ops := by
  have key : ∀ i o, ops[i]? = some o → regionOk1 N ops i o = true := fun i o ho => zipIdx_all (f := fun o i => regionOk1 N ops i o) h ho
  have key2 : ∀ i o, ops[i]? = some o → _ := fun i o ho => by
    have := key i o ho
    unfold regionOk1 at this
    rw [Bool.and_eq_true, Bool.and_eq_true] at this
    exact this
  refine ⟨fun i o d ho hd => ?_, fun i o ho e he hb => ?_, fun i o k want ho hg => ?_⟩
  · have := (key2 i o ho).1.1
    rw [hd] at this
    exact blt_lt this
  · have := List.all_eq_true.1 (key2 i o ho).1.2 e (by simpa using he)
    rw [hb] at this
    exact blt_lt (by simpa using this)
  · have := (key2 i o ho).2
    rw [hg] at this
    simp only [Bool.and_eq_true] at this
    obtain ⟨⟨h1, h2⟩, h3⟩ := this
    refine ⟨blt_lt h1, ?_, ?_⟩
    · obtain ⟨e, he, h4⟩ := List.any_eq_true.1 h2
      simp only [Bool.and_eq_true] at h4
      exact ⟨e, by simpa using he, Nat.eq_of_beq_eq_true h4.1, h4.2⟩
    · split at h3
      · rename_i p hp
        split at h3
        · rename_i d hd
          refine ⟨p, d, hp, hd, fun j q hq hqd => ?_⟩
          have := zipIdx_all (f := fun q j => Nat.beq j k || (match q.dst with | some d' => !Nat.beq d' d | none => true)) h3 hq
          rw [hqd] at this
          simp only [Bool.or_eq_true, Bool.not_eq_true'] at this
          rcases this with h5 | h5
          · exact Nat.eq_of_beq_eq_true h5
          · rw [Nat.beq_refl] at h5; cases h5
        · cases h3
      · cases h3

theorem isGuardSlot_of {ops : List Oper} {k d : Nat} {p : Oper} (hg : isG ops k) (hp : ops[k]? = some p) (hd : p.dst = some d) : isGuardSlot ops d = true := by
  obtain ⟨i, o, want, ho, hog⟩ := hg
  rw [isGuardSlot, List.any_eq_true]
  refine ⟨o, List.mem_of_getElem? ho, ?_⟩
  simp only [hog, hp, hd, Nat.beq_refl]

theorem okW_slot {ops : List Oper} {dst : Option Nat} {ws : List (Loc × AV)} (h : okW ops dst ws = true) {d : Nat} (hd : isGuardSlot ops d = true) (hne : dst ≠ some d) (g : Mem) : g.sets ws (.slot d) = g (.slot d) := by
  refine sets_other (fun p hp e => ?_)
  have := List.all_eq_true.1 h p hp
  rw [e] at this
  simp only [hd, Bool.not_true, Bool.or_false] at this
  cases hdst : dst with
  | none => rw [hdst] at this; cases this
  | some d' =>
    rw [hdst] at this
    exact hne (by rw [hdst, Nat.eq_of_beq_eq_true this])

theorem single_writer {ops : List Oper} (hok : RegOk N ops) {k d : Nat} (hg : isG ops k) (hd : dstOf ops k = some d) {j : Nat} {q : Oper} (hq : ops[j]? = some q) (hqd : q.dst = some d) : j = k := by
  obtain ⟨i, o, want, ho, hog⟩ := hg
  obtain ⟨_, _, p, d', hp, hd', h⟩ := hok.guard i o k want ho hog
  simp only [dstOf, hp, Option.bind_some, hd'] at hd
  cases hd
  exact h j q hq hqd
theorem guardSlot_of {ops : List Oper} {k d : Nat} (hg : isG ops k) (hd : dstOf ops k = some d) : isGuardSlot ops d = true := by
  simp only [dstOf, Option.bind_eq_some_iff] at hd
  obtain ⟨p, hp, hpd⟩ := hd
  exact isGuardSlot_of hg hp hpd

/-- The slot of an executed guard stays. -/
theorem dof_same {ops : List Oper} (hok : RegOk N ops) {X : Nat → Prop} {g g' : Mem} {i : Nat} {o : Oper} (ho : ops[i]? = some o) (hX : ¬ X i) {ws : List (Loc × AV)} (hg' : ∀ l, g' l = g.sets ws l) (hw : okW ops o.dst ws = true)
    {k d : Nat} (hk : X k) (hg : isG ops k) (hd : dstOf ops k = some d) : g' (.slot d) = g (.slot d) ∧ o.dst ≠ some d := by
  have hne : o.dst ≠ some d := fun e => by
    have := single_writer hok hg hd ho e
    exact hX (this ▸ hk)
  exact ⟨by rw [hg', okW_slot hw (guardSlot_of hg hd) hne], hne⟩

theorem tmps_other {a a' : Act} {dst : Option Nat} (h : tmpsPut a a' dst) {d : Nat} (hne : dst ≠ some d) : a'.tmps.getD d undef = a.tmps.getD d undef := by
  obtain ⟨v, hv⟩ := h
  rw [hv]
  cases dst with
  | none => rfl
  | some e => exact put_tmps_ne a v (fun e' => hne (by rw [e']))

theorem inv_next {ops : List Oper} (hok : RegOk N ops) {X : Nat → Prop} {g : Mem} {G : Ghost} {a : Act} {w : World} (h : Inv Z E N w0 Ow ops X g G a w) {i : Nat} {o : Oper} (ho : ops[i]? = some o) (hX : ¬ X i) (hgX : ∀ k want, o.guard = some (k, want) → X k)
    {ws : List (Loc × AV)} (hw : okW ops o.dst ws = true) {g' : Mem} {G' : Ghost} {a' : Act} {w' : World} {Z' : ZS} {w0' : World} {Ow' : OwS} (hg' : ∀ l, g' l = g.sets ws l) (hr : Rel Z' E N w0' Ow' (fun m => Sof X m ∨ m = i + 1) (Dof ops X g) g' G' a' w') (hp : tmpsPut a a' o.dst)
    (hown : isG ops i → ∀ d, o.dst = some d → isB (g' (.slot d)) → ∀ c m, ctxOf ops m o.guard = some c → GuardR g' a' d c) :
    Inv Z' E N w0' Ow' ops (fun j => X j ∨ j = i) g' G' a' w' := by
  have hDs : ∀ {k d}, X k → isG ops k → dstOf ops k = some d → g' (.slot d) = g (.slot d) ∧ o.dst ≠ some d := fun hk hg hd => dof_same hok ho hX hg' hw hk hg hd
  refine ⟨hr.more (fun m hm => ?_) (fun d hd => ?_) (fun d hd => ?_), fun k d p c m hk hg hkp hpd hb hc => ?_, fun k p j want hk hkp hpg => ?_, fun k hk => ?_⟩
  · rcases hm with (hm | ⟨j, hj, hm⟩) | hm
    · exact .inl hm
    · exact .inr ⟨j, .inl hj, hm⟩
    · exact .inr ⟨i, .inr rfl, hm⟩
  · obtain ⟨k, hk, hg, hkd, hb⟩ := hd
    exact ⟨k, .inl hk, hg, hkd, by rw [(hDs hk hg hkd).1]; exact hb⟩
  · obtain ⟨k, hk, hg, hkd, hb⟩ := hd
    exact hb
  · rcases hk with hk | rfl
    · have hkd : dstOf ops k = some d := by simp only [dstOf, hkp, Option.bind_some, hpd]
      obtain ⟨h1, h2⟩ := hDs hk hg hkd
      rw [h1] at hb
      obtain ⟨k1, k2⟩ := h.guards k d p c m hk hg hkp hpd hb hc
      refine ⟨fun e => by rw [h1]; exact k1 e, fun e => ?_⟩
      obtain ⟨x, k3, k4⟩ := k2 e
      refine ⟨x, by rw [h1]; exact k3, fun hgc => ?_⟩
      rw [tmps_other hp h2]
      refine k4 ?_
      rw [← hgc]
      refine (gcond_congr (fun p hp' => ?_)).symm
      obtain ⟨k5, hk5, hg5, hd5, _⟩ := (h.rel.ctx (.slot d) c _ k3).1 p hp'
      exact (hDs hk5 hg5 hd5).1
    · rw [ho] at hkp; cases hkp
      exact hown hg d hpd hb c m hc
  · rcases hk with hk | rfl
    · exact .inl (h.closed k p j want hk hkp hpg)
    · rw [ho] at hkp; cases hkp
      exact .inl (hgX j want hpg)
  · rcases hk with hk | rfl
    · exact h.bound k hk
    · exact (List.getElem?_eq_some_iff.1 ho).1

/-- A guard's slots are told. -/
theorem gcond_isB {g : Mem} : ∀ {c : Ctx} {b : Bool}, (gcond c).run g = some b → ∀ p ∈ c, isB (g (.slot p.1))
  | [], _, _, p, hp => by simp at hp
  | (s, want) :: c, b, h, p, hp => by
    simp only [gcond, Q.run, Q.run_bind, Option.bind_eq_some_iff] at h
    obtain ⟨v, hv, x, hx, r, hr, _⟩ := h
    rcases List.mem_cons.1 hp with rfl | hp
    · have hvb : v = .dat .bool x := by
        unfold boolOf at hx; split at hx <;> simp [Q.run] at hx; subst hx; rfl
      subst hvb
      rcases strip_some hv with ⟨h1, _⟩ | ⟨c', h1, _⟩
      · exact ⟨x, .inl h1⟩
      · exact ⟨x, .inr ⟨c', h1⟩⟩
    · exact gcond_isB hr p hp

theorem ctx_dof {ops : List Oper} {X : Nat → Prop} {g : Mem} (hcl : ∀ k p j want, X k → ops[k]? = some p → p.guard = some (j, want) → X j) :
    ∀ {m : Nat} {i : Nat} {o : Oper} {c : Ctx}, ops[i]? = some o → (∀ k want, o.guard = some (k, want) → X k) → ctxOf ops m o.guard = some c → (∀ p ∈ c, isB (g (.slot p.1))) → ∀ p ∈ c, Dof ops X g p.1
  | m, i, o, c, ho, hgX, hc, hb, p, hp => by
    cases hog : o.guard with
    | none => rw [hog, ctxOf_none] at hc; cases hc; simp at hp
    | some kw =>
      obtain ⟨k, want⟩ := kw
      rw [hog] at hc
      obtain ⟨m', q, d, c', rfl, hq, hqd, hc', rfl⟩ := ctxOf_some hc
      have hXk := hgX k want hog
      rcases List.mem_cons.1 hp with rfl | hp
      · exact ⟨k, hXk, ⟨i, o, want, ho, hog⟩, by simp only [dstOf, hq, Option.bind_some, hqd], hb _ (by simp)⟩
      · exact ctx_dof hcl hq (fun k' want' hg' => hcl k q k' want' hXk hq hg') hc' (fun p hp => hb p (by simp [hp])) p hp

/-- Is the operation wanted? -/
theorem guard_wanted {ops : Array Oper} {X : Nat → Prop} {g : Mem} {G : Ghost} {a : Act} {w : World} (h : Inv Z E N w0 Ow ops.toList X g G a w) {i : Nat} {o : Oper} (ho : ops.toList[i]? = some o) {k : Nat} {want : Bool} (hog : o.guard = some (k, want)) (hk : X k)
    {m : Nat} {c : Ctx} (hc : ctxOf ops.toList m o.guard = some c) {b : Bool} (hb : (gcond c).run g = some b) : Region.wanted o (yielded ops a.tmps) = b := by
  rw [hog] at hc
  obtain ⟨m', p, d, c', rfl, hp, hpd, hc', rfl⟩ := ctxOf_some hc
  have hG : isG ops.toList k := ⟨i, o, want, ho, hog⟩
  have hisB := gcond_isB hb (d, want) (by simp)
  have hgr := h.guards k d p c' m' hk hG hp hpd hisB hc'
  simp only [gcond, Q.run, Q.run_bind, Option.bind_eq_some_iff] at hb
  obtain ⟨v, hv, x, hx, r, hr, hb⟩ := hb
  have hvb : v = .dat .bool x := by
    unfold boolOf at hx; split at hx <;> simp [Q.run] at hx; subst hx; rfl
  subst hvb
  simp only [Q.run, Option.some.injEq] at hb
  have hp' : ops[k]? = some p := by simpa using hp
  have hslot := h.rel.slots d
  have hy : yielded ops a.tmps k = (match a.tmps[d]? with | some (.bool b) => some b | _ => none) := by
    unfold yielded
    rw [hp', Option.bind_some, hpd, Option.bind_some]
    rfl
  have hval : ∀ y, a.tmps.getD d undef = .bool y → yielded ops a.tmps k = some y := fun y hd => by
    rw [hy]
    rw [Array.getD_eq_getD_getElem?] at hd
    cases ht : a.tmps[d]? with
    | none => rw [ht] at hd; simp [undef] at hd
    | some z => rw [ht] at hd; simp at hd; subst hd; rfl
  have hno : (∀ y, a.tmps.getD d undef ≠ .bool y) → yielded ops a.tmps k = none := fun hd => by
    rw [hy]
    cases ht : a.tmps[d]? with
    | none => rfl
    | some z =>
      cases z <;> try rfl
      rename_i y
      exact absurd (by rw [Array.getD_eq_getD_getElem?, ht]; rfl) (hd y)
  have hwant : Region.wanted o (yielded ops a.tmps) = (yielded ops a.tmps k == some want) := by simp [Region.wanted, hog]
  rw [hwant]
  by_cases hce : c' = []
  · subst hce
    obtain ⟨y, hy1⟩ := hgr.1 rfl
    simp [gcond, Q.run] at hr
    subst hr
    rw [hy1] at hv hslot
    simp [strip, Q.run] at hv
    subst hv
    obtain ⟨cs, h1, h2⟩ := hslot
    simp only [RV] at h1
    subst h1
    rw [hval y h2, ← hb]
    cases y <;> cases want <;> rfl
  · obtain ⟨y, hy1, hy2⟩ := hgr.2 hce
    rw [hy1] at hv hslot
    simp only [strip] at hv
    split at hv
    · simp [Q.run] at hv
      subst hv
      cases r with
      | true =>
        obtain ⟨cs, h1, h2⟩ := hslot hr
        simp only [RV] at h1
        subst h1
        rw [hval y h2, ← hb]
        cases y <;> cases want <;> rfl
      | false =>
        rw [hno (hy2 hr), ← hb]
        cases y <;> cases want <;> rfl
    · simp [Q.run] at hv
end
end Go.Ev

/- Guarded operations: what stands behind them. -/
namespace Go.Ev
open Go.RowKit
section
variable {Z : ZS} {E : Env} {N : Nat} {w0 : World} {Ow : OwS} {S D : Nat → Prop} {g g' : Mem} {G : Ghost} {a : Act} {w : World}

theorem natsEq_iff : ∀ {a b : List Nat}, natsEq a b = true → a = b
  | [], [], _ => rfl
  | x :: a, y :: b, h => by
    simp only [natsEq, Bool.and_eq_true] at h
    rw [Nat.eq_of_beq_eq_true h.1, natsEq_iff h.2]
  | [], _ :: _, h => by cases h
  | _ :: _, [], h => by cases h
theorem merge_true {st : Nat} {v old u : AV} (h : mergeAV true st v old = some u) : u = v := by
  unfold mergeAV at h
  split at h
  · split at h
    · cases h; rfl
    · cases h
  · split at h
    · split at h
      · split at h
        · cases h; rfl
        · split at h
          · rename_i hs; cases h; rw [Nat.eq_of_beq_eq_true hs]; rfl
          · cases h
      · cases h
    · cases h
  all_goals first
    | (cases h; rfl)
    | (split at h <;> cases h; rfl)
    | cases h
theorem merge_false {st : Nat} {v old u : AV} (h : mergeAV false st v old = some u) : u = old ∨ ∃ e t xs s, old = .own e t xs s ∧ u = .own e t xs st := by
  unfold mergeAV at h
  split at h
  · split at h
    · rename_i ht; subst ht; cases h; exact .inl rfl
    · cases h
  · split at h
    · rename_i ht
      subst ht
      split at h
      · rename_i he
        have := Nat.eq_of_beq_eq_true he
        subst this
        split at h
        · rename_i hs
          have := Nat.eq_of_beq_eq_true hs
          subst this
          cases h; exact .inl rfl
        · split at h
          · cases h; exact .inr ⟨_, _, _, _, rfl, rfl⟩
          · cases h
      · cases h
    · cases h
  all_goals first
    | (cases h; exact .inl rfl)
    | (split at h
       · rename_i hq
         simp only [Bool.and_eq_true] at hq
         cases h
         first
           | (rw [Nat.eq_of_beq_eq_true hq.1, Nat.eq_of_beq_eq_true hq.2]; exact .inl rfl)
           | (rw [Nat.eq_of_beq_eq_true hq.1, natsEq_iff hq.2]; exact .inl rfl)
       · cases h)
    | cases h
theorem sets_lastW (l : Loc) : ∀ (ws : List (Loc × AV)) (g : Mem), g.sets ws l = (lastW l ws).getD (g l)
  | [], _ => rfl
  | p :: r, g => by
    rw [Mem.sets, sets_lastW l r]
    simp only [lastW]
    cases hl : lastW l r with
    | some v => rfl
    | none =>
      simp only [Option.getD_none, Mem.upd]
      cases hq : p.1.eq l with
      | true => rfl
      | false => rfl
theorem lastW_none {l : Loc} : ∀ {ws : List (Loc × AV)}, lastW l ws = none → ∀ p ∈ ws, p.1.eq l = false
  | [], _, p, hp => by simp at hp
  | q :: r, h, p, hp => by
    simp only [lastW] at h
    cases hl : lastW l r with
    | some v => rw [hl] at h; cases h
    | none =>
      rw [hl] at h
      rcases List.mem_cons.1 hp with rfl | hp
      · cases hq : p.1.eq l with
        | true => rw [hq] at h; cases h
        | false => rfl
      · exact lastW_none hl p hp
theorem effQ_run {c : Bool} {st : Nat} {d : Option Nat} : ∀ {ws us : List (Loc × AV)}, (effQ c st d ws).run g = some us →
    (∀ p ∈ us, isSlotD d p.1 = false) ∧ (∀ p ∈ us, ∃ v, lastW p.1 ws = some v ∧ mergeAV c st v (g p.1) = some p.2) ∧ ∀ l, isSlotD d l = false → lastW l ws ≠ none → ∃ p ∈ us, p.1 = l
  | [], us, h => by
    simp only [effQ, Q.run, Option.some.injEq] at h
    subst h
    exact ⟨by simp, by simp, fun l _ h => absurd rfl h⟩
  | p :: r, us, h => by
    simp only [effQ] at h
    cases hb : (isSlotD d p.1 || r.any fun q => q.1.eq p.1) with
    | true =>
      rw [hb] at h
      obtain ⟨h1, h2, h3⟩ := effQ_run (ws := r) h
      refine ⟨h1, fun q hq => ?_, fun l hl hn => ?_⟩
      · obtain ⟨v, hv, hm⟩ := h2 q hq
        exact ⟨v, by simp only [lastW, hv], hm⟩
      · simp only [lastW] at hn
        cases hlr : lastW l r with
        | some v => exact h3 l hl (by rw [hlr]; simp)
        | none =>
          rw [hlr] at hn
          cases hq : p.1.eq l with
          | false => rw [hq] at hn; exact absurd rfl hn
          | true =>
            have := Loc.eq_iff.1 hq
            subst this
            rw [hl] at hb
            simp only [Bool.false_or, List.any_eq_true] at hb
            obtain ⟨q, hqm, hqe⟩ := hb
            rw [lastW_none hlr q hqm] at hqe
            cases hqe
    | false =>
      rw [hb] at h
      simp only [cond_false, Q.run, Q.run_bind, Option.bind_eq_some_iff] at h
      obtain ⟨u, hu, us', hus, h⟩ := h
      replace hu := ofO_some hu
      simp only [Option.some.injEq] at h
      subst h
      simp only [Bool.or_eq_false_iff] at hb
      obtain ⟨h1, h2, h3⟩ := effQ_run (ws := r) hus
      have hlr : lastW p.1 r = none := by
        cases hl : lastW p.1 r with
        | none => rfl
        | some v =>
          exfalso
          have : ∀ {ws : List (Loc × AV)} {v : AV}, lastW p.1 ws = some v → (ws.any fun q => q.1.eq p.1) = true := by
            intro ws
            induction ws with
            | nil => intro v h; cases h
            | cons q r ih =>
              intro v h
              simp only [lastW] at h
              rw [List.any_cons, Bool.or_eq_true]
              cases hl : lastW p.1 r with
              | some v' => exact .inr (ih hl)
              | none =>
                rw [hl] at h
                cases hq : q.1.eq p.1 with
                | true => exact .inl rfl
                | false => rw [hq] at h; cases h
          rw [this hl] at hb
          cases hb.2
      refine ⟨fun q hq => ?_, fun q hq => ?_, fun l hl hn => ?_⟩
      · rcases List.mem_cons.1 hq with rfl | hq
        · exact hb.1
        · exact h1 q hq
      · rcases List.mem_cons.1 hq with rfl | hq
        · exact ⟨p.2, by simp only [lastW, hlr]; rw [Loc.eq_iff.2 rfl]; rfl, hu⟩
        · obtain ⟨v, hv, hm⟩ := h2 q hq
          exact ⟨v, by simp only [lastW, hv], hm⟩
      · simp only [lastW] at hn
        cases hlr' : lastW l r with
        | some v =>
          obtain ⟨q, hq, hqe⟩ := h3 l hl (by rw [hlr']; simp)
          exact ⟨q, by simp [hq], hqe⟩
        | none =>
          rw [hlr'] at hn
          cases hq : p.1.eq l with
          | false => rw [hq] at hn; exact absurd rfl hn
          | true => exact ⟨(p.1, u), by simp, Loc.eq_iff.1 hq⟩
/-- Behind a guarded operation, at a place that is not its own slot. -/
theorem effQ_get {c : Bool} {st : Nat} {d : Option Nat} {ws us : List (Loc × AV)} (h : (effQ c st d ws).run g = some us) {l : Loc} (hl : isSlotD d l = false) :
    (lastW l ws = none ∧ g.sets us l = g l) ∨ ∃ v, lastW l ws = some v ∧ mergeAV c st v (g l) = some (g.sets us l) := by
  obtain ⟨h1, h2, h3⟩ := effQ_run h
  rcases sets_get (ws := us) (g := g) (l := l) with ⟨k1, k2⟩ | ⟨q, k1, k2, k3⟩
  · left
    refine ⟨?_, k1⟩
    cases hn : lastW l ws with
    | none => rfl
    | some v =>
      obtain ⟨p, hp, hpe⟩ := h3 l hl (by rw [hn]; simp)
      exact absurd hpe (k2 p hp)
  · right
    subst k2
    obtain ⟨v, hv, hm⟩ := h2 q k1
    exact ⟨v, hv, by rw [k3]; exact hm⟩
theorem effQ_slot {c : Bool} {st : Nat} {d : Option Nat} {ws us : List (Loc × AV)} (h : (effQ c st d ws).run g = some us) {e : Nat} (hd : d = some e) : g.sets us (.slot e) = g (.slot e) := by
  obtain ⟨h1, _, _⟩ := effQ_run h
  refine sets_other (fun p hp e' => ?_)
  have := h1 p hp
  rw [e', hd] at this
  simp only [isSlotD] at this
  rw [Loc.eq_iff.2 rfl] at this
  cases this
theorem slotW_some {ctx : Ctx} {d : Option Nat} {ws vs : List (Loc × AV)} (h : slotW ctx d ws = some vs) :
    (d = none ∧ vs = []) ∨ ∃ e v u, d = some e ∧ lastW (.slot e) ws = some v ∧ vs = [(.slot e, .opt ctx u)] ∧ (u = v ∨ ∃ e t xs s, v = .own e t xs s ∧ u = .dat (.list t) xs) ∧ (∀ a b c d, u ≠ .own a b c d) ∧ (∀ a b, u ≠ .opt a b) ∧ (∀ n, u ≠ .tup n) ∧ ∀ a b, u ≠ .bx a b := by
  unfold slotW at h
  split at h
  · cases h; exact .inl ⟨rfl, rfl⟩
  · rename_i e
    split at h
    · rename_i v hv
      split at h
      · rename_i e0 t xs s
        cases h
        exact .inr ⟨e, _, _, rfl, hv, rfl, .inr ⟨e0, t, xs, s, rfl, rfl⟩, by simp, by simp, by simp, by simp⟩
      · cases h
      · cases h
      · cases h
      · rename_i h1 h2 h3 h4
        cases h
        exact .inr ⟨e, _, _, rfl, hv, rfl, .inl rfl, h1, h2, h3, h4⟩
    · cases h
/-- What a slot owns is frozen, where the guard stands. -/
theorem Rel.tellSlot (h : Rel Z E N w0 Ow S D g G a w) {d : Nat} {v u : AV} (hv : g (.slot d) = v) (hu : u = v ∨ ∃ e t xs s, v = .own e t xs s ∧ u = .dat (.list t) xs) : ∃ G2, Rel Z E N w0 Ow S D (g.upd (.slot d) u) G2 a w := by
  rcases hu with rfl | ⟨e, t, xs, s, rfl, rfl⟩
  · refine ⟨G, ?_⟩
    have : g.upd (.slot d) u = g := by
      funext l
      rw [Mem.upd_apply]
      split
      · rename_i hl; rw [hl, hv]
      · rfl
    rw [this]; exact h
  · exact ⟨_, h.freeze (l := .slot d) trivial hv⟩
/-- Owned slices are told with a new stamp. -/
theorem Rel.restamp (h : Rel Z E N w0 Ow S D g G a w) {st : Nat} (hst : ¬ S st) (hg : ∀ l, g' l = g l ∨ ∃ e t xs s, g l = .own e t xs s ∧ g' l = .own e t xs st) : Rel Z E N w0 Ow (fun n => S n ∨ n = st) D g' G a w := by
  have hsame : ∀ l, (∀ e t xs s, g l ≠ .own e t xs s) → g' l = g l := fun l hl => by
    rcases hg l with e | ⟨e, t, xs, s, h1, _⟩
    · exact e
    · exact absurd h1 (hl e t xs s)
  have hroot : ∀ l s, S s → isRoot l → RootKept g G a w g' G a w l s := fun l s hs _ => by
    refine ⟨fun e t xs' hx => ?_, fun b o n t xs' _ hx _ => ?_⟩
    · rcases hg l with e1 | ⟨e1, t1, xs1, s1, _, h2⟩
      · exact ⟨xs', by rw [← e1]; exact hx, rfl, rfl, rfl⟩
      · rw [h2] at hx; cases hx; exact absurd hs hst
    · rcases hg l with e1 | ⟨e1, t1, xs1, s1, _, h2⟩
      · exact ⟨xs', by rw [← e1]; exact hx⟩
      · rw [h2] at hx; cases hx
  have hdead : ∀ l, g' l = .dead → g l = .dead := fun l hl => by
    rcases hg l with e | ⟨e, t, xs, s, _, h2⟩
    · rw [← e]; exact hl
    · rw [h2] at hl; cases hl
  have hnd : ∀ l, g' l ≠ .dead → g l ≠ .dead := fun l hl e => hl (by rw [hsame l (by rw [e]; simp)]; exact e)
  have hbxs : ∀ b, g' (.box b) = g (.box b) := fun b => hsame _ (fun e t xs s hq => by
    rcases h.boxAV b with e1 | ⟨e1, n1, e1⟩
    · rw [e1] at hq; cases hq
    · rw [e1] at hq; cases hq)
  have hctx : ∀ d, D d → g' (.slot d) = g (.slot d) := fun d hd => hsame _ (fun e t xs s hq => by
    obtain ⟨x, hx | ⟨c, hx⟩⟩ := h.dbool d hd
    · rw [hx] at hq; cases hq
    · rw [hx] at hq; cases hq)
  have keep : ∀ {l : Loc} {v : AV} {val : Value}, v = g l → AVR Z g G a w v l val → AVR Z g' G a w v l val := fun {l v val} hv hr =>
    AVR.keep S D rfl (fun b hb => ⟨hb, rfl⟩) hroot (fun b e n hb => ⟨by rw [hbxs]; exact hb, rfl⟩) hctx (fun _ _ _ _ _ => ⟨rfl, fun _ _ => rfl⟩) (fun _ _ _ _ _ => hv.symm) (by rw [hv]; exact h.stamps l)
      (fun c u e => by rw [hv] at e; exact ⟨(h.ctx l c u e).1, (h.ctx l c u e).2.1, (h.ctx l c u e).2.2.1, (h.ctx l c u e).2.2.2.2⟩) hr
  have told : ∀ {l : Loc} {val : Value}, AVR Z g G a w (g l) l val → AVR Z g' G a w (g' l) l val := fun {l val} hr => by
    rcases hg l with e | ⟨e, t, xs, s, h1, h2⟩
    · rw [e]; exact keep rfl hr
    · rw [h2]
      have := keep rfl hr
      rw [h1] at this
      exact this
  have hsz : ∀ l, (g' l).size = (g l).size := fun l => by
    rcases hg l with e | ⟨e, t, xs, s, h1, h2⟩
    · rw [e]
    · rw [h1, h2]; rfl
  refine ⟨h.defers, h.tmps, h.os, h.tape, h.output, h.size, h.low, h.bnd, h.zow, h.inj, fun l b hl => ?_, fun n => told (h.slots n), fun n k i hk hi => ?_, fun b e n hb => h.boxes b e n (by rw [← hbxs]; exact hb), fun b o hne => ?_, fun b o o' h1 h2 hoo => ?_, fun b => by rw [hbxs]; exact h.boxAV b, fun l => ?_, fun l c v hv => ?_, fun k hk => ?_, h.globs, fun b gb hp hne => h.pins b gb hp (by rw [← hbxs]; exact hne), h.pinR⟩
  · rcases h.gone l b hl with ⟨e, t, xs, s, hq⟩ | ⟨e, n, hq⟩
    · rcases hg l with e1 | ⟨e1, t1, xs1, s1, _, h2⟩
      · exact .inl ⟨e, t, xs, s, by rw [e1]; exact hq⟩
      · exact .inl ⟨e1, t1, xs1, st, h2⟩
    · exact .inr ⟨e, n, by rw [hsame l (by rw [hq]; simp)]; exact hq⟩
  · have hk' : g (.slot n) = .tup k := by
      rcases hg (.slot n) with e1 | ⟨e1, t1, xs1, s1, _, h2⟩
      · rw [← e1]; exact hk
      · rw [h2] at hk; cases hk
    exact told (h.comps n k i hk' hi)
  · obtain ⟨e, n, gb, cur, h1, h2, h3, h4⟩ := h.cells b o (hnd _ hne)
    refine ⟨e, n, gb, cur, by rw [hbxs]; exact h1, h2, h3, ?_⟩
    rcases hg (.cell b o) with e1 | ⟨e1, t1, xs1, s1, k1, k2⟩
    · rw [e1]
      generalize hv : g (.cell b o) = v at h4
      have hv' := hv.symm
      cases v with
      | dead => trivial
      | dat t x => exact h4
      | _ => exact ⟨h4.1, keep hv' h4.2⟩
    · rw [k2]
      rw [k1] at h4
      have := keep k1.symm h4.2
      exact ⟨h4.1, this⟩
  · have := h.apart b o o' (hnd _ h1) (hnd _ h2) hoo
    rw [hsz, hsz]
    exact this
  · rcases hg l with e | ⟨e, t, xs, s, h1, h2⟩
    · rw [e]
      have := h.stamps l
      generalize g l = v at this
      cases v with
      | own => exact .inl this
      | view => exact ⟨.inl this.1, this.2⟩
      | eptr => exact ⟨.inl this.1, this.2⟩
      | _ => trivial
    · rw [h2]; exact .inr rfl
  · have hv' : g l = .opt c v := by
      rcases hg l with e1 | ⟨e1, t1, xs1, s1, _, h2⟩
      · rw [← e1]; exact hv
      · rw [h2] at hv; cases hv
    obtain ⟨k1, k2, k3, k4, k5⟩ := h.ctx l c v hv'
    refine ⟨k1, k2, k3, k4, fun hq => ?_⟩
    have := k5 (by rw [← gcond_congr (fun p hp => hctx p.1 (k1 p hp))]; exact hq)
    cases v with
    | own => exact .inl this
    | view => exact ⟨.inl this.1, this.2⟩
    | eptr => exact ⟨.inl this.1, this.2⟩
    | _ => trivial
  · obtain ⟨x, hx⟩ := h.dbool k hk
    refine ⟨x, ?_⟩
    rw [hctx k hk]
    exact hx
end
end Go.Ev

/- Regions. -/
namespace Go.Ev
open Go.RowKit
section
variable {Z : ZS} {E : Env} {N : Nat} {w0 : World} {Ow : OwS} {P : Program} {F : Fence} {n : Nat}

theorem opt_plain {v : AV} {c : Ctx} (h1 : ∀ a b c d, v ≠ .own a b c d) (h2 : ∀ a b, v ≠ .opt a b) (h3 : ∀ n, v ≠ .tup n) (h4 : ∀ a b, v ≠ .bx a b) : plainAV v = true ∧ plainAV (.opt c v) = true := by
  cases v <;> first | exact ⟨rfl, rfl⟩ | exact absurd rfl (h1 _ _ _ _) | exact absurd rfl (h2 _ _) | exact absurd rfl (h3 _) | exact absurd rfl (h4 _ _)

theorem region_step (hE : EnvOk P E) (hFP : Plain P F) {ops : Array Oper} (hok : RegOk N ops.toList) {X : Nat → Prop} {g : Mem} {G : Ghost} {a : Act} {w : World} (h : Inv Z E N w0 Ow ops.toList X g G a w) {i : Nat} {o : Oper} (ho : ops.toList[i]? = some o) (hX : ¬ X i) (hgX : ∀ k want, o.guard = some (k, want) → X k)
    {f : Eff} (hf : (opQ E ops.toList i o).run g = some f) (ht : f.test = true) {K : Act → World → Prop} {Qp : Exit → Act → World → Prop}
    (hK : ∀ a' w' g' G', (∀ l, g' l = g.sets f.writes l) → Inv Z E N w0 Ow ops.toList (fun j => X j ∨ j = i) g' G' a' w' → K a' w') :
    wpOpIn F n P ops Qp i K a w := by
  have ho' : ops[i]? = some o := by simpa using ho
  have hfr : ¬ Sof X (i + 1) := fun hs => by
    rcases hs with hs | ⟨j, hj, hs⟩
    · omega
    · exact hX (by rw [show i = j by omega]; exact hj)
  have hdst : ∀ d, o.dst = some d → d < N ∧ ¬ Dof ops.toList X g d := fun d hd => ⟨hok.dst i o d ho hd, fun ⟨k, hk, hg, hkd, _⟩ => by
    have := single_writer hok hg hkd ho hd
    exact hX (this ▸ hk)⟩
  have hS0 : Sof X 0 := .inl rfl
  simp only [opQ, Q.run_bind, Option.bind_eq_some_iff] at hf
  obtain ⟨ctx, hctx, hf⟩ := hf
  replace hctx := ofO_some hctx
  unfold wpOpIn
  rw [ho']
  dsimp only
  split at hf
  · -- no guard
    simp only [Q.run_bind, Option.bind_eq_some_iff] at hf
    obtain ⟨f', hp, hf⟩ := hf
    split at hf
    · rename_i hw
      simp only [Bool.and_eq_true] at hw
      obtain ⟨hw, hpw⟩ := hw
      simp only [Q.run, Option.some.injEq] at hf
      subst hf
      have hog : o.guard = none := by
        cases hog : o.guard with
        | none => rfl
        | some kw =>
          obtain ⟨k, want⟩ := kw
          rw [hog] at hctx
          obtain ⟨_, _, _, _, _, _, _, _, hc⟩ := ctxOf_some hctx
          cases hc
      have hwant : Region.wanted o (yielded ops a.tmps) = true := by simp [Region.wanted, hog]
      rw [if_pos hwant]
      refine wpIn_put (sound_all hE [] i o h.rel rfl hp ht hfr hdst hFP.fn ⟨hFP, hS0⟩ (fun a' w' g' G' hg' hr htp => hK a' w' g' G' hg' ?_))
      refine inv_next hok h ho hX hgX hw hg' hr htp (fun hG d hd hb c m hc => ?_)
      have : c = [] := by rw [hog, ctxOf_none] at hc; cases hc; rfl
      subst this
      refine ⟨fun _ => ?_, fun hne => absurd rfl hne⟩
      obtain ⟨x, hx | ⟨c, hx⟩⟩ := hb
      · exact ⟨x, hx⟩
      · exfalso
        simp only [plainW, hd, Bool.and_eq_true] at hpw
        obtain ⟨h1, h2⟩ := hpw
        rw [hg'] at hx
        rcases sets_get (ws := f'.writes) (g := g) (l := .slot d) with ⟨_, h3⟩ | ⟨q, h3, h4, h5⟩
        · obtain ⟨q, hq, hqe⟩ := List.any_eq_true.1 h2
          exact h3 q hq (Loc.eq_iff.1 hqe)
        · rw [h5] at hx
          have := List.all_eq_true.1 h1 q h3
          rw [hx] at this
          cases this
    · simp [Q.run] at hf
  · rename_i p c
    simp only [guardQ, Q.run_bind, Option.bind_eq_some_iff] at hf
    obtain ⟨g0, hg0, f', hp, ws, ⟨us, hus, vs, hvs, hws⟩, hf⟩ := hf
    replace hvs := ofO_some hvs
    simp only [Q.run, Option.some.injEq] at hws
    subst hws
    split at hf
    · rename_i hw
      simp only [Q.run, Option.some.injEq] at hf
      subst hf
      obtain ⟨k, want, hog⟩ : ∃ k want, o.guard = some (k, want) := by
        cases hog : o.guard with
        | none => rw [hog, ctxOf_none] at hctx; cases hctx
        | some kw => exact ⟨kw.1, kw.2, rfl⟩
      have hkX := hgX k want hog
      have hwant := guard_wanted h ho hog hkX hctx hg0
      rw [hwant]
      have hD := ctx_dof h.closed ho hgX hctx (gcond_isB hg0)
      have hcong : ∀ {g2 : Mem}, (∀ l, g2 l = g.sets (us ++ vs) l) → (gcond (p :: c)).run g2 = (gcond (p :: c)).run g := fun {g2} hg2 => gcond_congr (fun q hq => by
        obtain ⟨k5, hk5, hg5, hd5, _⟩ := hD q hq
        exact (dof_same hok ho hX hg2 hw hk5 hg5 hd5).1)
      cases g0 with
      | true =>
        rw [if_pos rfl]
        have ht' : f'.test = true := by simpa using ht
        refine wpIn_put (sound_all hE (p :: c) i o h.rel hg0 hp ht' hfr hdst hFP.fn ⟨hFP, hS0⟩ (fun a' w' g1 G1 hg1 hr htp => ?_))
        have hoth : ∀ l, isSlotD o.dst l = false → g.sets us l = g1 l := fun l hl => by
          rw [hg1 l, sets_lastW l f'.writes g]
          rcases effQ_get hus hl with ⟨k1, k2⟩ | ⟨v, k1, k2⟩
          · rw [k1, k2]; rfl
          · rw [k1, merge_true k2]; rfl
        rcases slotW_some hvs with ⟨e3, e2⟩ | ⟨d, v, u, hd, e1, e2, hvu, n1, n2, n3, n4⟩
        · have hg2 : ∀ l, g1 l = g.sets (us ++ vs) l := fun l => by rw [e2, List.append_nil, hoth l (by rw [e3]; rfl)]
          refine hK a' w' g1 G1 hg2 (inv_next hok h ho hX hgX hw hg2 hr htp (fun hG d hd hb c' m hc => ?_))
          rw [e3] at hd; cases hd
        · obtain ⟨hdN, hdD⟩ := hdst d hd
          obtain ⟨p1, p2⟩ := opt_plain (c := p :: c) n1 n2 n3 n4
          have hgd : g1 (.slot d) = v := by rw [hg1, sets_lastW, e1]; rfl
          obtain ⟨G1', hr⟩ := hr.tellSlot hgd hvu
          obtain ⟨g1', hg1'⟩ : ∃ g1', g1' = g1.upd (.slot d) u := ⟨_, rfl⟩
          rw [← hg1'] at hr
          have hslot := hr.slots d
          have hstp := hr.stamps (.slot d)
          have hgd' : g1' (.slot d) = u := by rw [hg1']; exact Mem.upd_same _ _ _
          rw [hgd'] at hslot hstp
          have hr2 := hr.retell hdN (v := .opt (p :: c) u) p2 trivial hdD (fun c' u e => by cases e; exact ⟨hD, fun _ => hstp⟩) (fun _ => hslot)
          have hg2 : ∀ l, g1'.upd (.slot d) (.opt (p :: c) u) l = g.sets (us ++ vs) l := fun l => by
            rw [e2, Mem.sets_append, hg1']
            simp only [Mem.sets, Mem.upd]
            cases hl : (Loc.slot d).eq l with
            | true => rfl
            | false =>
              refine (hoth l ?_).symm
              rw [hd]
              cases hl2 : isSlotD (some d) l with
              | false => rfl
              | true =>
                have := Loc.eq_iff.1 (show l.eq (.slot d) = true from hl2)
                rw [this, Loc.eq_iff.2 rfl] at hl
                cases hl
          refine hK a' w' _ _ hg2 (inv_next hok h ho hX hgX hw hg2 hr2 htp (fun hG d' hd' hb c' m hc => ?_))
          have := ctxOf_det hc hctx
          subst this
          rw [hd] at hd'; cases hd'
          refine ⟨fun e => (by cases e), fun _ => ?_⟩
          obtain ⟨x, hx | ⟨c2, hx⟩⟩ := hb
          · rw [Mem.upd_same] at hx; cases hx
          · rw [Mem.upd_same] at hx
            cases hx
            refine ⟨x, Mem.upd_same _ _ _, fun hgc => ?_⟩
            exfalso
            rw [hcong hg2, hg0] at hgc
            cases hgc
      | false =>
        rw [if_neg (by simp)]
        refine ⟨fun f _ => hFP.fn f, ?_⟩
        obtain ⟨g3, hg3'⟩ : ∃ g3 : Mem, g3 = fun l => bif isSlotD o.dst l then g l else g.sets us l := ⟨_, rfl⟩
        have hg3 : ∀ l, g3 l = bif isSlotD o.dst l then g l else g.sets us l := fun l => by rw [hg3']
        have hr3 := h.rel.restamp (st := i + 1) (g' := g3) hfr (fun l => by
          rw [hg3 l]
          cases hl : isSlotD o.dst l with
          | true => exact .inl rfl
          | false =>
            rcases effQ_get hus hl with ⟨_, k2⟩ | ⟨v, _, k2⟩
            · exact .inl k2
            · rcases merge_false k2 with e | ⟨e, t, xs, s, e1, e2⟩
              · exact .inl e
              · exact .inr ⟨e, t, xs, s, e1, e2⟩)
        rcases slotW_some hvs with ⟨e3, e2⟩ | ⟨d, v, u, hd, e1, e2, hvu, n1, n2, n3, n4⟩
        · have hg2 : ∀ l, g3 l = g.sets (us ++ vs) l := fun l => by rw [hg3 l, e3, e2, List.append_nil]; rfl
          rw [e3]
          refine hK a w g3 G hg2 (inv_next hok h ho hX hgX hw hg2 hr3 ⟨undef, by rw [e3]; rfl⟩ (fun hG d hd hb c' m hc => ?_))
          rw [e3] at hd; cases hd
        · obtain ⟨hdN, hdD⟩ := hdst d hd
          obtain ⟨p1, p2⟩ := opt_plain (c := p :: c) n1 n2 n3 n4
          have hc3 : (gcond (p :: c)).run g3 = some false := by
            rw [← hg0]
            refine gcond_congr (fun q hq => ?_)
            obtain ⟨k5, hk5, hg5, hd5, _⟩ := hD q hq
            have h6 := dof_same (g' := g.sets (us ++ vs)) hok ho hX (fun _ => rfl) hw hk5 hg5 hd5
            have hne : isSlotD o.dst (.slot q.1) = false := by
              rw [hd]
              cases hl2 : isSlotD (some d) (.slot q.1) with
              | false => rfl
              | true =>
                have := Loc.eq_iff.1 (show (Loc.slot q.1).eq (.slot d) = true from hl2)
                cases this
                exact absurd hd h6.2
            have h7 := h6.1
            rw [Mem.sets_append, e2] at h7
            rw [hg3 _]
            simp only [hne, cond_false]
            rw [← h7]
            simp only [Mem.sets, Mem.upd]
            rw [hd] at hne
            have : (Loc.slot d).eq (.slot q.1) = false := by
              cases hl : (Loc.slot d).eq (.slot q.1) with
              | false => rfl
              | true =>
                have := Loc.eq_iff.1 hl
                cases this
                simp only [isSlotD] at hne
                rw [Loc.eq_iff.2 rfl] at hne
                cases hne
            rw [this]; rfl
          have hr2 := hr3.put hdN (v := .opt (p :: c) u) (val := undef) p2 trivial hdD (fun c' u e => by cases e; exact ⟨hD, fun hgc => by rw [hc3] at hgc; cases hgc⟩) (fun hgc => by rw [hc3] at hgc; cases hgc)
          have hg2 : ∀ l, g3.upd (.slot d) (.opt (p :: c) u) l = g.sets (us ++ vs) l := fun l => by
            rw [e2, Mem.sets_append]
            simp only [Mem.sets, Mem.upd]
            cases hl : (Loc.slot d).eq l with
            | true => rfl
            | false =>
              rw [hg3 l, hd]
              cases hl2 : isSlotD (some d) l with
              | false => rfl
              | true =>
                have := Loc.eq_iff.1 (show l.eq (.slot d) = true from hl2)
                rw [this, Loc.eq_iff.2 rfl] at hl
                cases hl
          have htp : tmpsPut a (a.put o.dst undef) o.dst := ⟨undef, rfl⟩
          rw [hd]
          rw [hd] at htp
          refine hK _ w _ _ hg2 (inv_next hok h ho hX hgX hw hg2 hr2 (by rw [hd]; exact htp) (fun hG d' hd' hb c' m hc => ?_))
          have := ctxOf_det hc hctx
          subst this
          rw [hd] at hd'; cases hd'
          refine ⟨fun e => (by cases e), fun _ => ?_⟩
          obtain ⟨x, hx | ⟨c2, hx⟩⟩ := hb
          · rw [Mem.upd_same] at hx; cases hx
          · rw [Mem.upd_same] at hx
            cases hx
            refine ⟨x, Mem.upd_same _ _ _, fun _ b hb => ?_⟩
            rw [put_tmps a d undef (by rw [h.rel.tmps]; exact hdN)] at hb
            simp [undef] at hb
    · simp [Q.run] at hf
end
end Go.Ev

/- Regions, in the text's order and in whatever order. -/
namespace Go.Ev
open Go.RowKit
section
variable {Z : ZS} {E : Env} {N : Nat} {w0 : World} {Ow : OwS} {P : Program} {F : Fence} {n : Nat}

theorem get_sets (st : St) (ws : List (Loc × AV)) : St.get (st.sets ws) = Mem.sets (St.get st) ws := by
  induction ws generalizing st with
  | nil => rfl
  | cons p r ih =>
    show St.get (St.sets (p :: st) r) = _
    rw [ih, Mem.sets_cons]
    congr 1
theorem evOps_cons {R : Type} {ops : List Oper} {o : Oper} {rest : List Oper} {i : Nat} {st : St} {K : St → Option R} {r : R} (h : evOps E ops (o :: rest) i st K = some r) :
    ∃ f, (opQ E ops i o).run st.get = some f ∧ f.test = true ∧ evOps E ops rest (i + 1) (st.sets f.writes) K = some r := by
  simp only [evOps] at h
  split at h
  · rename_i f hf
    cases ht : f.test with
    | true => rw [ht] at h; exact ⟨f, hf, ht, h⟩
    | false => rw [ht] at h; cases h
  · cases h

theorem region_seq (hE : EnvOk P E) (hFP : Plain P F) {ops : Array Oper} (hok : RegOk N ops.toList) {R : Type} {K : St → Option R} {r : R} {Qp : Exit → Act → World → Prop}
    (hQ : ∀ a w G st, K st = some r → Inv Z E N w0 Ow ops.toList (fun j => j < ops.size) (St.get st) G a w → Qp .normal a w) :
    ∀ (m i : Nat) (st : St) (G : Ghost) (a : Act) (w : World), i + m = ops.size → evOps E ops.toList (ops.toList.drop i) i st K = some r → Inv Z E N w0 Ow ops.toList (fun j => j < i) (St.get st) G a w →
      wpOpsIn F n P ops Qp (List.range' i m) a w
  | 0, i, st, G, a, w, him, hev, hinv => by
    have : ops.toList.drop i = [] := List.drop_eq_nil_of_le (by simp; omega)
    rw [this] at hev
    have hi : i = ops.size := by omega
    subst hi
    exact hQ a w G st hev hinv
  | m + 1, i, st, G, a, w, him, hev, hinv => by
    have hlt : i < ops.toList.length := by simp; omega
    rw [List.drop_eq_getElem_cons hlt] at hev
    obtain ⟨f, hf, ht, hrest⟩ := evOps_cons hev
    rw [List.range'_succ, wpOpsIn_cons]
    refine region_step hE hFP hok hinv (List.getElem?_eq_getElem hlt) (Nat.lt_irrefl i) (fun k want hg => (hok.guard i _ k want (List.getElem?_eq_getElem hlt) hg).1) hf ht (fun a' w' g' G' hg' hi => ?_)
    refine region_seq hE hFP hok hQ m (i + 1) (st.sets f.writes) G' a' w' (by omega) hrest ?_
    have e1 : g' = St.get (st.sets f.writes) := by rw [get_sets]; exact funext hg'
    have e2 : (fun j => j < i ∨ j = i) = (fun j => j < i + 1) := by funext j; exact propext ⟨by omega, by omega⟩
    rw [← e1, ← e2]
    exact hi

/-! ### Whatever order -/
theorem sets_congr {g g' : Mem} {l : Loc} (h : g l = g' l) : ∀ (ws : List (Loc × AV)), g.sets ws l = g'.sets ws l := by
  intro ws
  induction ws generalizing g g' with
  | nil => exact h
  | cons p r ih =>
    rw [Mem.sets_cons, Mem.sets_cons]
    refine ih ?_
    simp only [Mem.upd_apply]
    split
    · rfl
    · exact h
theorem sets_mem {l : Loc} : ∀ {ws : List (Loc × AV)}, (∃ p ∈ ws, p.1 = l) → ∀ (g g' : Mem), g.sets ws l = g'.sets ws l := by
  intro ws
  induction ws with
  | nil => rintro ⟨p, hp, _⟩; simp at hp
  | cons p r ih =>
    intro h g g'
    rw [Mem.sets_cons, Mem.sets_cons]
    by_cases hr : ∃ q ∈ r, q.1 = l
    · exact ih hr _ _
    · refine sets_congr ?_ r
      obtain ⟨q, hq, hql⟩ := h
      rcases List.mem_cons.1 hq with rfl | hq
      · rw [← hql, Mem.upd_same, Mem.upd_same]
      · exact absurd ⟨q, hq, hql⟩ hr
theorem sets_comm {g : Mem} {a b : List (Loc × AV)} (h : ∀ p ∈ a, ∀ q ∈ b, p.1 ≠ q.1) (l : Loc) : (g.sets a).sets b l = (g.sets b).sets a l := by
  by_cases ha : ∃ p ∈ a, p.1 = l
  · have hb : ∀ q ∈ b, q.1 ≠ l := fun q hq e => by obtain ⟨p, hp, hpl⟩ := ha; exact h p hp q hq (hpl.trans e.symm)
    rw [sets_other hb, sets_mem ha g (g.sets b)]
  · have ha' : ∀ p ∈ a, p.1 ≠ l := fun p hp e => ha ⟨p, hp, e⟩
    rw [sets_other (ws := a) (g := g.sets b) ha']
    exact sets_congr (sets_other ha') b

def memOf (g0 : Mem) (ef : Nat → Eff) (X : Nat → Bool) : Nat → Mem
  | 0 => g0
  | m + 1 => if X m then (memOf g0 ef X m).sets (ef m).writes else memOf g0 ef X m
theorem memOf_agree {g0 : Mem} {ef : Nat → Eff} {X Y : Nat → Bool} {l : Loc} : ∀ {m : Nat}, (∀ j, j < m → (∃ p ∈ (ef j).writes, p.1 = l) → X j = Y j) → memOf g0 ef X m l = memOf g0 ef Y m l := by
  intro m
  induction m with
  | zero => intro _; rfl
  | succ m ih =>
    intro h
    have ih := ih (fun j hj => h j (by omega))
    simp only [memOf]
    by_cases hw : ∃ p ∈ (ef m).writes, p.1 = l
    · rw [h m (by omega) hw]
      split
      · exact sets_congr ih _
      · exact ih
    · have hw' : ∀ p ∈ (ef m).writes, p.1 ≠ l := fun p hp e => hw ⟨p, hp, e⟩
      split <;> split <;> simp only [sets_other hw', ih]
theorem memOf_upto {g0 : Mem} {ef : Nat → Eff} {sts : Nat → Mem} (h0 : sts 0 = g0) {n : Nat} (hs : ∀ i, i < n → sts (i + 1) = (sts i).sets (ef i).writes) {i : Nat} : ∀ {m : Nat}, m ≤ n → memOf g0 ef (fun j => decide (j < i)) m = sts (min i m) := by
  intro m
  induction m with
  | zero => intro _; simp [memOf, h0]
  | succ m ih =>
    intro hm
    have ih := ih (by omega)
    simp only [memOf, ih, decide_eq_true_eq]
    split
    · rw [show min i (m + 1) = m + 1 by omega, show min i m = m by omega, hs m (by omega)]
    · rw [show min i (m + 1) = min i m by omega]
theorem memOf_next {g0 : Mem} {ef : Nat → Eff} {X X' : Nat → Bool} {i : Nat} (hi : X i = false) (hX : ∀ j, X' j = (X j || decide (j = i))) {n : Nat} (hin : i < n)
    (hd : ∀ j, i < j → j < n → X j = true → ∀ p ∈ (ef i).writes, ∀ q ∈ (ef j).writes, p.1 ≠ q.1) (l : Loc) : memOf g0 ef X' n l = (memOf g0 ef X n).sets (ef i).writes l := by
  have low : ∀ m, m ≤ i → memOf g0 ef X' m = memOf g0 ef X m := by
    intro m
    induction m with
    | zero => intro _; rfl
    | succ m ih =>
      intro hm
      simp only [memOf, ih (by omega), hX, show (decide (m = i)) = false from by simp; omega, Bool.or_false]
  have key : ∀ m, i < m → m ≤ n → ∀ l, memOf g0 ef X' m l = (memOf g0 ef X m).sets (ef i).writes l := by
    intro m
    induction m with
    | zero => intro h; omega
    | succ m ih =>
      intro h1 h2 l
      by_cases hm : m = i
      · subst hm
        simp only [memOf, hX, hi, low m (Nat.le_refl _)]
        simp
      · have ih := ih (by omega) (by omega)
        simp only [memOf, hX, show (decide (m = i)) = false from by simp [hm], Bool.or_false]
        split
        · rename_i hXm
          exact (sets_congr (ih l) _).trans (sets_comm (hd m (by omega) (by omega) hXm) l)
        · exact ih l
  exact key n hin (Nat.le_refl _) l

/-- The run in the text's order, as states. -/
theorem evOps_states {ops : List Oper} {R : Type} {K : St → Option R} {r : R} : ∀ {rest : List Oper} {i : Nat} {st : St}, evOps E ops rest i st K = some r →
    ∃ (sts : Nat → Mem) (ef : Nat → Eff) (st' : St), sts 0 = St.get st ∧ K st' = some r ∧ St.get st' = sts rest.length ∧
      (∀ (j : Nat) (o : Oper), rest[j]? = some o → (opQ E ops (i + j) o).run (sts j) = some (ef j) ∧ (ef j).test = true ∧ sts (j + 1) = (sts j).sets (ef j).writes) ∧
      (∀ (j : Nat) (o : Oper), rest[j]? = some o → (logOps E ops rest i st)[j]? = some ⟨(opQ E ops (i + j) o).reads (sts j), (ef j).writes.map (·.1)⟩)
  | [], i, st, h => ⟨fun _ => St.get st, fun _ => ⟨true, []⟩, st, rfl, h, rfl, by simp, by simp⟩
  | o :: rest, i, st, h => by
    obtain ⟨f, hf, ht, hr⟩ := evOps_cons h
    obtain ⟨sts, ef, st', h0, h1, h2, h3, h4⟩ := evOps_states hr
    refine ⟨fun j => match j with | 0 => St.get st | j + 1 => sts j, fun j => match j with | 0 => f | j + 1 => ef j, st', rfl, h1, h2, fun j q hq => ?_, fun j q hq => ?_⟩
    · cases j with
      | zero =>
        simp only [List.getElem?_cons_zero, Option.some.injEq] at hq
        subst hq
        exact ⟨hf, ht, by show sts 0 = Mem.sets (St.get st) f.writes; rw [h0, get_sets]⟩
      | succ j =>
        simp only [List.getElem?_cons_succ] at hq
        have := h3 j q hq
        rw [show i + 1 + j = i + (j + 1) by omega] at this
        exact this
    · have e : logOps E ops (o :: rest) i st = ⟨(opQ E ops i o).reads st.get, f.writes.map (·.1)⟩ :: logOps E ops rest (i + 1) (st.sets f.writes) := by
        simp only [logOps, hf]
      rw [e]
      cases j with
      | zero =>
        simp only [List.getElem?_cons_zero, Option.some.injEq] at hq
        subst hq
        rfl
      | succ j =>
        simp only [List.getElem?_cons_succ] at hq ⊢
        rw [h4 j q hq, show i + 1 + j = i + (j + 1) by omega]

/-- A set of operations that holds whom they wait for. -/
def ClosedY (ops : List Oper) (Y : Nat → Prop) : Prop := ∀ (k : Nat) (o : Oper), ops[k]? = some o → Y k → ∀ e ∈ o.after, Region.binds .any e = true → Y e.on
theorem maskOf_bit {ms : List Nat} {o : Oper} {i : Nat} (h : Nat.testBit (maskOf ms o) i = true) : ∃ e ∈ o.after, Region.binds .any e = true ∧ (e.on = i ∨ Nat.testBit (ms.getD e.on 0) i = true) := by
  have key : ∀ (l : List Edge) (acc : Nat), Nat.testBit (l.foldl (fun m e => bif Region.binds .any e then m ||| (ms.getD e.on 0 ||| 2 ^ e.on) else m) acc) i = true → Nat.testBit acc i = true ∨ ∃ e ∈ l, Region.binds .any e = true ∧ (e.on = i ∨ Nat.testBit (ms.getD e.on 0) i = true) := by
    intro l
    induction l with
    | nil => intro acc h; exact .inl h
    | cons x l ih =>
      intro acc h
      rw [List.foldl_cons] at h
      rcases ih _ h with h1 | ⟨e, he, h1⟩
      · cases hb : Region.binds .any x with
        | false => rw [hb] at h1; exact .inl h1
        | true =>
          rw [hb] at h1
          simp only [cond_true, Nat.testBit_or, Bool.or_eq_true] at h1
          rcases h1 with h1 | h1 | h1
          · exact .inl h1
          · exact .inr ⟨x, by simp, hb, .inr h1⟩
          · rw [Nat.testBit_two_pow] at h1
            exact .inr ⟨x, by simp, hb, .inl (of_decide_eq_true h1)⟩
      · exact .inr ⟨e, by simp [he], h1⟩
  rcases key _ _ h with h1 | ⟨e, he, h1⟩
  · simp at h1
  · exact ⟨e, by simpa using he, h1⟩
def GoodM (ops : List Oper) (ms : List Nat) : Prop := ∀ k i, Nat.testBit (ms.getD k 0) i = true → ∀ Y, ClosedY ops Y → Y k → Y i
theorem ordered1_some {m : Nat} {b : Log} : ∀ {as : List Log} {j : Nat}, ordered1 m b j as = true → ∀ (i : Nat) (a : Log), as[i]? = some a → clash a b = true → Nat.testBit m (j + i) = true
  | [], _, _, i, a, ha, _ => by simp at ha
  | x :: as, j, h, i, a, ha, hc => by
    simp only [ordered1, Bool.and_eq_true] at h
    cases i with
    | zero =>
      simp only [List.getElem?_cons_zero, Option.some.injEq] at ha
      subst ha
      rw [hc] at h
      simpa using h.1
    | succ i =>
      simp only [List.getElem?_cons_succ] at ha
      have := ordered1_some h.2 i a ha hc
      rw [show j + (i + 1) = j + 1 + i by omega]; exact this
theorem goodM_next {ops : List Oper} {ms : List Nat} (h : GoodM ops ms) {o : Oper} (ho : ops[ms.length]? = some o) : GoodM ops (ms ++ [maskOf ms o]) := by
  intro k i hk Y hY hYk
  rcases Nat.lt_trichotomy k ms.length with hl | hl | hl
  · refine h k i ?_ Y hY hYk
    rw [List.getD_eq_getElem?_getD, List.getElem?_append_left hl, ← List.getD_eq_getElem?_getD] at hk
    exact hk
  · subst hl
    rw [List.getD_eq_getElem?_getD, List.getElem?_append_right (Nat.le_refl _), Nat.sub_self] at hk
    obtain ⟨e, he, h1, h2⟩ := maskOf_bit (by simpa using hk)
    have hYe := hY _ _ ho hYk e he h1
    rcases h2 with rfl | h2
    · exact hYe
    · exact h _ _ h2 Y hY hYe
  · rw [List.getD_eq_getElem?_getD, List.getElem?_eq_none (by simp; omega)] at hk
    simp at hk
theorem orderedAll_some {ops : List Oper} : ∀ {os : List Oper} {done logs : List Log} {ms : List Nat}, orderedAll os done ms logs = true → (∀ j, os[j]? = ops[ms.length + j]?) → GoodM ops ms → ∀ (j : Nat) (o : Oper) (b : Log), os[j]? = some o → logs[j]? = some b → ∀ (i : Nat) (a : Log), (done ++ logs.take j)[i]? = some a → clash a b = true →
    ∃ e ∈ o.after, Region.binds .any e = true ∧ ∀ Y, ClosedY ops Y → Y e.on → Y i
  | [], _, _, _, _, _, _, j, o, b, ho, _, _, _, _, _ => by simp at ho
  | _ :: _, _, [], _, h, _, _, _, _, _, _, _, _, _, _, _ => by simp [orderedAll] at h
  | o0 :: os, done, l :: ls, ms, h, hos, hg, j, o, b, ho, hb, i, a, ha, hc => by
    simp only [orderedAll, Bool.and_eq_true] at h
    cases j with
    | zero =>
      simp only [List.getElem?_cons_zero, Option.some.injEq] at ho hb
      subst ho; subst hb
      simp only [List.take_zero, List.append_nil] at ha
      have h1 := ordered1_some h.1 i a ha hc
      rw [Nat.zero_add] at h1
      obtain ⟨e, he, h2, h3⟩ := maskOf_bit h1
      refine ⟨e, he, h2, fun Y hY hYe => ?_⟩
      rcases h3 with rfl | h3
      · exact hYe
      · exact hg _ _ h3 Y hY hYe
    | succ j =>
      simp only [List.getElem?_cons_succ] at ho hb
      have h0 : ops[ms.length]? = some o0 := by
        have := hos 0
        rw [Nat.add_zero] at this
        rw [← this]; rfl
      exact orderedAll_some h.2 (fun j => by
        have := hos (j + 1)
        rw [List.getElem?_cons_succ] at this
        rw [this, List.length_append, List.length_singleton]
        congr 1; omega) (goodM_next hg h0) j o b ho hb i a (by simpa using ha) hc

theorem meets_of {a b : List Loc} {l : Loc} (ha : l ∈ a) (hb : l ∈ b) : meets a b = true := by
  rw [meets, List.any_eq_true]
  exact ⟨l, ha, List.any_eq_true.2 ⟨l, hb, Loc.eq_iff.2 rfl⟩⟩

def countT (l : Array Bool) (n : Nat) : Nat := (List.range n).countP fun j => l.getD j false
theorem countT_set {l : Array Bool} {i n : Nat} (hi : i < n) (hs : n ≤ l.size) (h0 : l.getD i false = false) : countT (l.setIfInBounds i true) n = countT l n + 1 := by
  unfold countT
  have : ∀ m, m ≤ n → (List.range m).countP (fun j => (l.setIfInBounds i true).getD j false) = (List.range m).countP (fun j => l.getD j false) + (if i < m then 1 else 0) := by
    intro m
    induction m with
    | zero => intro _; simp
    | succ m ih =>
      intro hm
      rw [List.range_succ, List.countP_append, List.countP_append, ih (by omega)]
      by_cases hmi : m = i
      · subst hmi
        have h1 : (l.setIfInBounds m true).getD m false = true := by simp [Array.getD_eq_getD_getElem?, show m < l.size by omega]
        simp only [List.countP_singleton, h1, h0]
        simp
      · have h1 : (l.setIfInBounds i true).getD m false = l.getD m false := by simp [Array.getD_eq_getD_getElem?, Array.getElem?_setIfInBounds_ne (Ne.symm hmi)]
        simp only [List.countP_singleton, h1]
        by_cases him : i < m
        · simp [him, show i < m + 1 by omega]; omega
        · simp [him, show ¬ i < m + 1 by omega]
  rw [this n (Nat.le_refl _), if_pos hi]
theorem countT_all {l : Array Bool} {n : Nat} (h : countT l n = n) : ∀ j, j < n → l.getD j false = true := by
  unfold countT at h
  have : (List.range n).countP (fun j => l.getD j false) = (List.range n).length := by simpa using h
  rw [List.countP_eq_length] at this
  intro j hj
  exact this j (List.mem_range.2 hj)

theorem region_draw (hE : EnvOk P E) (hFP : Plain P F) {ops : Array Oper} (hok : RegOk N ops.toList) {R : Type} {K : St → Option R} {r : R} {Qp : Exit → Act → World → Prop}
    (hQ : ∀ a w G st, K st = some r → Inv Z E N w0 Ow ops.toList (fun j => j < ops.size) (St.get st) G a w → Qp .normal a w)
    {st : St} (hev : evOps E ops.toList ops.toList 0 st K = some r) (hd : drawOk E ops.toList st = true) {G : Ghost} {a : Act} {w : World} (hinv : Inv Z E N w0 Ow ops.toList (fun _ => False) (St.get st) G a w) :
    wpAnyIn F n P .any ops Qp ops.size (Array.replicate ops.size false) a w := by
  obtain ⟨sts, ef, st', h0, h1, h2, h3, h4⟩ := evOps_states hev
  have hlen : ops.toList.length = ops.size := by simp
  have edge : ∀ (i j : Nat) (oi oj : Oper), i < j → ops.toList[i]? = some oi → ops.toList[j]? = some oj →
      clash ⟨(opQ E ops.toList i oi).reads (sts i), (ef i).writes.map (·.1)⟩ ⟨(opQ E ops.toList j oj).reads (sts j), (ef j).writes.map (·.1)⟩ = true → ∃ e ∈ oj.after, Region.binds .any e = true ∧ ∀ Y, ClosedY ops.toList Y → Y e.on → Y i := by
    intro i j oi oj hij hi hj hc
    have li := h4 i oi hi
    have lj := h4 j oj hj
    rw [Nat.zero_add] at li lj
    refine orderedAll_some (ops := ops.toList) (os := ops.toList) (done := []) (ms := []) (logs := logOps E ops.toList ops.toList 0 st) hd (fun j => by simp) (fun k i hk => by simp at hk) j oj _ hj lj i _ ?_ hc
    rw [List.nil_append, List.getElem?_take, if_pos hij]
    exact li
  have main : ∀ (fuel : Nat) (listed : Array Bool) (G : Ghost) (a : Act) (w : World), listed.size = ops.size → countT listed ops.size + fuel = ops.size →
      (∀ j o, ops.toList[j]? = some o → listed.getD j false = true → ∀ e ∈ o.after, Region.binds .any e = true → listed.getD e.on false = true) →
      Inv Z E N w0 Ow ops.toList (fun j => listed.getD j false = true) (memOf (St.get st) ef (fun j => listed.getD j false) ops.size) G a w →
      wpAnyIn F n P .any ops Qp fuel listed a w := by
    intro fuel
    have done : ∀ (listed : Array Bool) (G : Ghost) (a : Act) (w : World), listed.size = ops.size → (∀ j, j < ops.size → listed.getD j false = true) →
        Inv Z E N w0 Ow ops.toList (fun j => listed.getD j false = true) (memOf (St.get st) ef (fun j => listed.getD j false) ops.size) G a w → Qp .normal a w := by
      intro listed G a w hs hall hi
      have e1 : memOf (St.get st) ef (fun j => listed.getD j false) ops.size = St.get st' := by
        funext l
        rw [h2, hlen, memOf_agree (Y := fun j => decide (j < ops.size)) (fun j hj _ => by rw [hall j hj]; simp [hj])]
        rw [memOf_upto h0 (n := ops.size) (fun i hi => (h3 i _ (List.getElem?_eq_getElem (by rw [hlen]; exact hi))).2.2) (Nat.le_refl _), Nat.min_self]
      have e2 : (fun j => listed.getD j false = true) = (fun j => j < ops.size) := by
        funext j
        refine propext ⟨fun hj => ?_, hall j⟩
        have := hi.bound j hj
        rw [hlen] at this; exact this
      rw [e1, e2] at hi
      exact hQ a w G st' h1 hi
    induction fuel with
    | zero =>
      intro listed G a w hs hc hcl hi
      have hall := countT_all (l := listed) (n := ops.size) (by omega)
      refine ⟨?_, done listed G a w hs hall hi⟩
      rw [List.eq_nil_iff_forall_not_mem]
      intro j hj
      obtain ⟨k1, o, k2, _⟩ := mem_ready.1 hj
      have hlt : j < ops.size := (Array.getElem?_eq_some_iff.1 k2).1
      have := hall j hlt
      simp only [Array.getD_eq_getD_getElem?] at k1 this
      cases hx : listed[j]? with
      | none => rw [hx] at this; simp at this
      | some b => rw [hx] at k1 this; simp at k1 this; rw [k1] at this; cases this
    | succ fuel ih =>
      intro listed G a w hs hc hcl hi
      refine ⟨fun hr => ?_, fun i hir => ?_⟩
      · refine done listed G a w hs ?_ hi
        intro j
        induction j using Nat.strongRecOn with
        | _ j ihj =>
          intro hj
          apply Classical.byContradiction
          intro hne
          have hj' : j < ops.toList.length := by rw [hlen]; exact hj
          have : j ∈ Region.ready .any ops listed := mem_ready.2 ⟨by
            have hf : listed.getD j false = false := by simpa using hne
            simp only [Array.getD_eq_getD_getElem?] at hf ⊢
            cases hx : listed[j]? with
            | none => rw [Array.getElem?_eq_none_iff] at hx; omega
            | some b => rw [hx] at hf; simpa using hf, ops.toList[j], by simp [hj], fun e he hb => ihj e.on (hok.back j _ (List.getElem?_eq_getElem hj') e he hb) (by
              have := hok.back j _ (List.getElem?_eq_getElem hj') e he hb; omega)⟩
          rw [hr] at this
          simp at this
      · obtain ⟨k1, o, k2, k3⟩ := mem_ready.1 hir
        have hlt : i < ops.size := (Array.getElem?_eq_some_iff.1 k2).1
        have ho : ops.toList[i]? = some o := by simpa using k2
        have hXi : listed.getD i false = false := by
          simp only [Array.getD_eq_getD_getElem?] at k1 ⊢
          cases hx : listed[i]? with
          | none => rfl
          | some b => rw [hx] at k1; simpa using k1
        have hget : ∀ (j : Nat) (hj : j < ops.size), ops.toList[j]? = some (ops.toList[j]'(by rw [hlen]; exact hj)) := fun j hj => List.getElem?_eq_getElem _
        have step := h3 i o ho
        rw [Nat.zero_add] at step
        -- what it reads is as in the text's order
        have hreads : ∀ l ∈ (opQ E ops.toList i o).reads (sts i), memOf (St.get st) ef (fun j => listed.getD j false) ops.size l = sts i l := by
          intro l hl
          have hup := memOf_upto h0 (n := ops.size) (fun i hi => (h3 i _ (List.getElem?_eq_getElem (by rw [hlen]; exact hi))).2.2) (i := i) (Nat.le_refl _)
          rw [Nat.min_eq_left (by omega)] at hup
          rw [← hup]
          refine memOf_agree (fun j hj hw => ?_)
          obtain ⟨p, hp, hpl⟩ := hw
          have hwl : l ∈ (ef j).writes.map (·.1) := List.mem_map.2 ⟨p, hp, hpl⟩
          rcases Nat.lt_trichotomy j i with hji | hji | hji
          · have hcl' : clash ⟨(opQ E ops.toList j (ops.toList[j]'(by rw [hlen]; exact hj))).reads (sts j), (ef j).writes.map (·.1)⟩ ⟨(opQ E ops.toList i o).reads (sts i), (ef i).writes.map (·.1)⟩ = true := by
              simp only [clash, meets_of hwl hl, Bool.or_true, Bool.true_or]
            obtain ⟨e, he, h5, h6⟩ := edge j i _ o hji (hget j hj) ho hcl'
            have := h6 (fun j => listed.getD j false = true) hcl (k3 e he h5)
            simp only [this, hji, decide_true]
          · subst hji
            simp only [hXi, Nat.lt_irrefl, decide_false]
          · have hcl' : clash ⟨(opQ E ops.toList i o).reads (sts i), (ef i).writes.map (·.1)⟩ ⟨(opQ E ops.toList j (ops.toList[j]'(by rw [hlen]; exact hj))).reads (sts j), (ef j).writes.map (·.1)⟩ = true := by
              simp only [clash, meets_of hl hwl, Bool.or_true]
            obtain ⟨e, he, h5, h6⟩ := edge i j o _ hji ho (hget j hj) hcl'
            have hn : listed.getD j false = false := by
              cases hlj : listed.getD j false with
              | false => rfl
              | true =>
                have := h6 (fun j => listed.getD j false = true) hcl (hcl j _ (hget j hj) hlj e he h5)
                rw [hXi] at this; cases this
            simp only [hn, show ¬ j < i by omega, decide_false]
        have hrun : (opQ E ops.toList i o).run (memOf (St.get st) ef (fun j => listed.getD j false) ops.size) = some (ef i) := by
          rw [(Q.congr _ hreads).1]; exact step.1
        refine region_step hE hFP hok hi ho (by rw [hXi]; simp) (fun k want hg => ?_) hrun step.2.1 (fun a' w' g' G' hg' hi' => ?_)
        · obtain ⟨_, ⟨e, he, h5, h6⟩, _⟩ := hok.guard i o k want ho hg
          have := k3 e he h6
          rw [h5] at this
          exact this
        · have hX' : ∀ j, (listed.setIfInBounds i true).getD j false = (listed.getD j false || decide (j = i)) := fun j => by
            by_cases hji : j = i
            · subst hji
              simp [Array.getD_eq_getD_getElem?, hs, hlt]
            · simp [Array.getD_eq_getD_getElem?, Array.getElem?_setIfInBounds_ne (Ne.symm hji), hji]
          refine ih (listed.setIfInBounds i true) G' a' w' (by simpa using hs) (by rw [countT_set hlt (by omega) hXi]; omega) (fun j oj hoj hlj e he hb => ?_) ?_
          · rw [hX'] at hlj ⊢
            simp only [Bool.or_eq_true, decide_eq_true_eq] at hlj ⊢
            rcases hlj with hlj | rfl
            · exact .inl (hcl j oj hoj hlj e he hb)
            · rw [ho] at hoj; cases hoj
              exact .inl (k3 e he hb)
          · have e1 : g' = memOf (St.get st) ef (fun j => (listed.setIfInBounds i true).getD j false) ops.size := by
              funext l
              rw [hg' l]
              refine (memOf_next (X := fun j => listed.getD j false) hXi hX' hlt (fun j hij hj hXj p hp q hq e' => ?_) l).symm
              have hcl' : clash ⟨(opQ E ops.toList i o).reads (sts i), (ef i).writes.map (·.1)⟩ ⟨(opQ E ops.toList j (ops.toList[j]'(by rw [hlen]; exact hj))).reads (sts j), (ef j).writes.map (·.1)⟩ = true := by
                simp only [clash, meets_of (l := p.1) (List.mem_map.2 ⟨p, hp, rfl⟩) (List.mem_map.2 ⟨q, hq, e'.symm⟩), Bool.true_or]
              obtain ⟨e, he, h5, h6⟩ := edge i j o _ hij ho (hget j hj) hcl'
              have := h6 (fun j => listed.getD j false = true) hcl (hcl j _ (hget j hj) hXj e he h5)
              rw [hXi] at this; cases this
            have e2 : (fun j => listed.getD j false = true ∨ j = i) = (fun j => (listed.setIfInBounds i true).getD j false = true) := by
              funext j
              rw [hX']
              simp
            rw [← e1, ← e2]
            exact hi'
  refine main ops.size (Array.replicate ops.size false) G a w (by simp) ?_ (fun j o _ hl => ?_) ?_
  · have : countT (Array.replicate ops.size false) ops.size = 0 := by
      unfold countT
      rw [List.countP_eq_zero]
      intro j hj
      simp at hj
      simp [Array.getD_eq_getD_getElem?, hj]
    omega
  · exfalso
    simp only [Array.getD_eq_getD_getElem?, Array.getElem?_replicate] at hl
    split at hl <;> simp at hl
  · have hz : ∀ j, (Array.replicate ops.size false).getD j false = false := fun j => by
      simp only [Array.getD_eq_getD_getElem?, Array.getElem?_replicate]
      split <;> rfl
    have e1 : memOf (St.get st) ef (fun j => (Array.replicate ops.size false).getD j false) ops.size = St.get st := by
      have hzf : (fun j => (Array.replicate ops.size false).getD j false) = fun _ => false := funext hz
      rw [hzf]
      have : ∀ m, memOf (St.get st) ef (fun _ => false) m = St.get st := by
        intro m
        induction m with
        | zero => rfl
        | succ m ih => simp [memOf, ih]
      exact this _
    have e2 : (fun j => (Array.replicate ops.size false).getD j false = true) = (fun _ => False) := by
      funext j; rw [hz]; simp
    rw [e1, e2]
    exact hinv
end
end Go.Ev

/- Code. -/
namespace Go.Ev
open Go.RowKit
section
variable {Z : ZS} {E : Env} {N : Nat} {w0 : World} {Ow : OwS} {P : Program} {F : Fence} {n : Nat}

/-- Between regions. -/
def RelC (Z : ZS) (E : Env) (N : Nat) (w0 : World) (Ow : OwS) (st : St) (G : Ghost) (a : Act) (w : World) : Prop :=
  Rel Z E N w0 Ow (fun n => n = 0) (fun _ => False) (St.get st) G a w

theorem relC_inv {ops : List Oper} {st : St} {G : Ghost} {a : Act} {w : World} (h : RelC Z E N w0 Ow st G a w) : Inv Z E N w0 Ow ops (fun _ => False) (St.get st) G a w := by
  refine ⟨?_, fun _ _ _ _ _ hk => hk.elim, fun _ _ _ _ hk => hk.elim, fun _ hk => hk.elim⟩
  refine Rel.more h (fun m hm => .inl hm) (fun _ hd => hd.elim) (fun d ⟨_, hk, _⟩ => hk.elim)

theorem relC_norm {st : St} {S D : Nat → Prop} {G : Ghost} {a : Act} {w : World} (h : Rel Z E N w0 Ow S D (St.get st) G a w) (k : Keep) : ∃ G', RelC Z E N w0 Ow (norm k st) G' a w := h.norm k st (fun _ => rfl)

theorem get_filter (st : St) (t : Nat) (l : Loc) : St.get (st.filter fun p => !p.1.eq (.slot t)) l = if l = .slot t then .dead else St.get st l := by
  induction st with
  | nil => simp [St.get]
  | cons p st ih =>
    rw [List.filter_cons]
    cases hp : p.1.eq (.slot t) with
    | true =>
      have := Loc.eq_iff.1 hp
      simp only [Bool.not_true, Bool.false_eq_true, if_false, ih, St.get]
      split
      · rfl
      · rename_i hne
        have : p.1.eq l = false := by
          cases hq : p.1.eq l with
          | false => rfl
          | true => exact absurd ((Loc.eq_iff.1 hq).symm.trans this) hne
        rw [this]; rfl
    | false =>
      simp only [Bool.not_false, if_true, St.get, ih]
      cases hq : p.1.eq l with
      | false => rfl
      | true =>
        have e := Loc.eq_iff.1 hq
        have : l ≠ .slot t := fun e' => by
          rw [e, e'] at hp
          rw [Loc.eq_iff.2 rfl] at hp
          cases hp
        simp [this]

theorem cond_told {st : St} {G : Ghost} {a : Act} {w : World} (h : RelC Z E N w0 Ow st G a w) {c : Operand} {b : Bool} (hc : condQ st c = some b) : a.eval c = .bool b := by
  unfold condQ at hc
  split at hc
  · rename_i t
    split at hc
    · rename_i x hx
      cases hc
      have := h.slots t
      rw [hx] at this
      obtain ⟨cs, h1, h2⟩ := this
      simp only [RV] at h1
      subst h1
      exact h2
    · cases hc
  · cases hc; rfl
  · cases hc
theorem relC_drop {st : St} {G : Ghost} {a : Act} {w : World} (h : RelC Z E N w0 Ow st G a w) {c : Operand} {b : Bool} (hc : condQ st c = some b) (kp : Nat → Bool) : ∃ G', RelC Z E N w0 Ow (dropO kp b st c) G' a w := by
  have hb := cond_told h hc
  unfold dropO
  split
  · rename_i t
    cases hk : kp t with
    | false =>
      have h2 := Rel.put' (a' := a) (d := t) (v := .dead) (val := a.tmps.getD t undef) h rfl trivial (fun hd => hd) (fun c u e => by cases e) trivial h.defers h.tmps rfl (fun _ _ => rfl)
      have : St.get (st.filter fun p => !p.1.eq (.slot t)) = Mem.upd (St.get st) (.slot t) .dead := by
        funext l
        rw [get_filter, Mem.upd_apply]
      refine ⟨G.upd (.slot t) none, ?_⟩
      unfold RelC
      simp only [cond_false]
      rw [this]
      exact h2
    | true =>
      have h2 := Rel.put' (a' := a) (d := t) (v := .dat .bool b) (val := a.tmps.getD t undef) h rfl trivial (fun hd => hd) (fun c u e => by cases e) ⟨[.bool b], rfl, hb⟩ h.defers h.tmps rfl (fun _ _ => rfl)
      have : St.get ((.slot t, .dat .bool b) :: st.filter fun p => !p.1.eq (.slot t)) = Mem.upd (St.get st) (.slot t) (.dat .bool b) := by
        funext l
        rw [Mem.upd_apply, St.get, get_filter]
        cases hl : (Loc.slot t).eq l with
        | true =>
          have e := Loc.eq_iff.1 hl
          subst e
          simp
        | false =>
          have : ¬ l = .slot t := fun e => by rw [e, Loc.eq_iff.2 rfl] at hl; cases hl
          rw [if_neg this, if_neg this]; rfl
      refine ⟨G.upd (.slot t) none, ?_⟩
      unfold RelC
      simp only [cond_true]
      rw [this]
      exact h2
  · exact ⟨G, h⟩

/-- **What 'ev' answers is what the code does.** -/
theorem ev_sound (hE : EnvOk P E) (hFP : Plain P F) (hm : P.follows .mixedOrders = true) {O : Orc} (hN : O.n = N) {R : Type} {fuel : Nat} {r : R} :
    ∀ (c : Code) (st : St) (K : Cont R) (Qp : Exit → Act → World → Prop) (G : Ghost) (a : Act) (w : World),
      (∀ e a w st G, K e st = some r → RelC Z E N w0 Ow st G a w → Qp e a w) → ev E O fuel c st K = some r → RelC Z E N w0 Ow st G a w → c.wpIn F n P Qp a w := by
  intro c
  induction c with
  | skip => intro st K Qp G a w hQ hev h; exact wpIn_skip (hQ _ _ _ _ _ hev h)
  | label l => intro st K Qp G a w hQ hev h; exact wpIn_label (hQ _ _ _ _ _ hev h)
  | exit id => intro st K Qp G a w hQ hev h; exact wpIn_exit (hQ _ _ _ _ _ hev h)
  | ret => intro st K Qp G a w hQ hev h; exact wpIn_ret (hQ _ _ _ _ _ hev h)
  | region id ops draw =>
    intro st K Qp G a w hQ hev h
    simp only [ev] at hev
    cases hg : (regionOk O.n ops.toList && (!draw || drawOk E ops.toList (normO (O.i id) st))) with
    | false => rw [hg] at hev; cases hev
    | true =>
      rw [hg] at hev
      simp only [cond_true] at hev
      simp only [Bool.and_eq_true] at hg
      rw [hN] at hg
      have hok := regOk_of hg.1
      have h1 : ∃ G1, RelC Z E N w0 Ow (normO (O.i id) st) G1 a w := by
        unfold normO
        split
        · exact relC_norm h _
        · exact ⟨G, h⟩
      obtain ⟨G1, h1⟩ := h1
      have hfin : ∀ a w G st', K .normal (norm (O.o id) st') = some r → Inv Z E N w0 Ow ops.toList (fun j => j < ops.size) (St.get st') G a w → Qp .normal a w := by
        intro a w G st' hk hi
        obtain ⟨G2, h2⟩ := relC_norm hi.rel (O.o id)
        exact hQ _ _ _ _ _ hk h2
      cases draw with
      | false =>
        refine wpIn_region ?_
        rw [List.range_eq_range']
        refine region_seq hE hFP hok (K := fun st' => K .normal (norm (O.o id) st')) hfin ops.size 0 (normO (O.i id) st) G1 a w (by omega) hev ?_
        have e : (fun j => j < 0) = (fun _ : Nat => False) := by funext j; simp
        rw [e]
        exact relC_inv h1
      | true =>
        refine wpIn_region_any hm ?_
        have hd : drawOk E ops.toList (normO (O.i id) st) = true := by simpa using hg.2
        refine region_draw hE hFP hok (K := fun st' => K .normal (norm (O.o id) st')) hfin hev hd (relC_inv ?_) (G := G1)
        exact Rel.world h1 rfl rfl rfl rfl
  | seq x y ihx ihy =>
    intro st K Qp G a w hQ hev h
    simp only [ev] at hev
    refine wpIn_seq (ihx st _ _ G a w (fun e a w st G hk hr => ?_) hev h)
    cases e <;> first | exact ihy st K Qp G a w hQ hk hr | exact hQ _ _ _ _ _ hk hr
  | cond c x y ihx ihy =>
    intro st K Qp G a w hQ hev h
    simp only [ev] at hev
    split at hev
    · rename_i b hc
      obtain ⟨G1, h1⟩ := relC_drop h hc O.c
      refine wpIn_cond (cond_told h hc) ?_
      cases b with
      | true => exact ihx _ K Qp G1 a w hQ hev h1
      | false => exact ihy _ K Qp G1 a w hQ hev h1
    · cases hev
  | block id c ih =>
    intro st K Qp G a w hQ hev h
    simp only [ev] at hev
    refine wpIn_block (ih st _ _ G a w (fun e a w st G hk hr => ?_) hev h)
    cases e with
    | exit id' =>
      simp only [] at hk
      simp only [Exit.inBlock]
      split at hk
      · rename_i hid; rw [if_pos hid]; exact hQ _ _ _ _ _ hk hr
      · rename_i hid; rw [if_neg hid]; exact hQ _ _ _ _ _ hk hr
    | _ => exact hQ _ _ _ _ _ hk hr
  | loop c ih =>
    intro st K Qp G a w hQ hev h
    simp only [ev] at hev
    have key : ∀ (m : Nat) (st : St) (G : Ghost) (a : Act) (w : World), loopN (fun st K => ev E O fuel c st K) m st K = some r → RelC Z E N w0 Ow st G a w → Code.roundsIn F n P c Qp m a w := by
      intro m
      induction m with
      | zero => intro st G a w hl; simp [loopN] at hl
      | succ m ihm =>
        intro st G a w hl hr
        simp only [loopN] at hl
        refine ih st _ _ G a w (fun e a w st G hk hr => ?_) hl hr
        cases e <;> first | exact ihm st G a w hk hr | exact hQ _ _ _ _ _ hk hr
    exact wpIn_loop_rounds fuel (key fuel st G a w hev h)
  | _ => intro st K Qp G a w hQ hev h; simp [ev] at hev
end
end Go.Ev

/- Another world to start from. -/
namespace Go.Ev
open Go.RowKit
section
variable {Z Z' : ZS} {E : Env} {N : Nat} {w0 : World} {Ow Ow' : OwS} {S D : Nat → Prop} {g : Mem} {G : Ghost} {a a' : Act} {w w' : World} {P : Program}

/-- **The relation, told from a later world**, in which what the state speaks of is as it was. -/
theorem Rel.rebase (h : Rel Z E N w0 Ow S D g G a w) (hyl : Z'.yl = Z.yl) (hs : w.heap.size ≤ w'.heap.size) (hz : ∀ b, b < w.heap.size → Z b → w'.heap[b]? = w.heap[b]?)
    (hZ1 : ∀ b, b < w.heap.size → Z b → Z' b) (hZ2 : ∀ b, w'.heap.size ≤ b → Z' b) (hO : ∀ l b, G l = some b → Ow' b) (hO2 : ∀ b, Ow' b → Z' b) (hpin : Ow'.pin = Ow.pin) (hdl : Ow'.dl = Ow.dl) : Rel Z' E N w' Ow' S D g G a w' := by
  have hGz : ∀ {l b}, G l = some b → b < w.heap.size ∧ Z b := fun {l b} e => ⟨(h.bnd l b e).1, h.zow b (h.bnd l b e).2⟩
  have hGh : ∀ {l b}, G l = some b → w'.heap[b]? = w.heap[b]? := fun {l b} e => hz b (hGz e).1 (hGz e).2
  have hk : ∀ b, free Z G w b → free Z' G w' b ∧ w'.heap[b]? = w.heap[b]? := fun b hb => ⟨⟨by have := hb.1; omega, hb.2, hZ1 b hb.1 hb.3⟩, hz b hb.1 hb.3⟩
  have hroot : ∀ l, rootVal G a w' l = rootVal G a w l := fun l => by
    cases l with
    | cell b o =>
      simp only [rootVal]
      cases hgb : G (.box b) with
      | none => rfl
      | some gb => simp only [World.cell?_of_block (w := w) (w' := w') (a := ⟨gb, o, none⟩) (hGh hgb)]
    | _ => rfl
  have key : ∀ {l : Loc} {val : Value}, AVR Z g G a w (g l) l val → AVR Z' g G a w' (g l) l val := fun {l val} hv => by
    refine AVR.keep S D hyl hk (fun l st _ _ => ⟨fun e t xs hx => ⟨xs, hx, rfl, hroot l, rfl⟩, fun b o n t xs _ hx _ => ⟨xs, hx⟩⟩) (fun b e n hb => ⟨hb, rfl⟩) (fun _ _ => rfl) (fun _ _ _ _ _ => ⟨rfl, fun b hb => hGh hb⟩) (fun _ _ _ _ e => e ▸ rfl) (h.stamps l)
      (fun c u e => ⟨(h.ctx l c u e).1, (h.ctx l c u e).2.1, (h.ctx l c u e).2.2.1, (h.ctx l c u e).2.2.2.2⟩) hv
  exact {
    defers := by rw [hdl]; exact h.defers
    tmps := h.tmps
    os := rfl
    tape := rfl
    output := rfl
    size := Nat.le_refl _
    low := fun _ _ _ => rfl
    bnd := fun l b hb => ⟨by have := (hGz hb).1; omega, .inl (hO l b hb)⟩
    zow := fun b hb => hb.elim (hO2 b) (hZ2 b)
    inj := h.inj
    gone := h.gone
    slots := fun n => key (h.slots n)
    comps := fun n k i h1 h2 => key (h.comps n k i h1 h2)
    boxes := fun b e n hb => by
      obtain ⟨gb, cur, h1, h2, h3⟩ := h.boxes b e n hb
      exact ⟨gb, cur, h1, (hGh h1).trans h2, h3⟩
    cells := fun b o hne => by
      obtain ⟨e, n, gb, cur, h1, h2, h3, h4⟩ := h.cells b o hne
      refine ⟨e, n, gb, cur, h1, h2, (hGh h2).trans h3, ?_⟩
      have hk' := key (l := .cell b o) (val := cur.getD o undef)
      generalize g (.cell b o) = v at h4 hk'
      cases v with
      | dead => trivial
      | dat t x => exact ⟨h4.1, h4.2.keep (fun b hb => (hk b hb).2) (fun b hb => (hk b hb).1)⟩
      | _ => exact ⟨h4.1, hk' h4.2⟩
    apart := h.apart
    boxAV := h.boxAV
    stamps := h.stamps
    ctx := h.ctx
    dbool := h.dbool
    globs := fun k d hk1 => by
      obtain ⟨cs, h1, h2, h3⟩ := h.globs k d hk1
      exact ⟨cs, h1.keep (fun b hb => (hk b hb).2) (fun b hb => (hk b hb).1), fun hne => (hk k (h2 hne)).1, h3.keep fun hne => (hk k (h2 hne)).2⟩
    pins := fun b gb hp hne => h.pins b gb (by rw [← hpin]; exact hp) hne
    pinR := fun b gb hp => h.pinR b gb (by rw [← hpin]; exact hp) }

/-- A later start: what it may count on. -/
structure Base (Z : ZS) (w0 : World) (Ow : OwS) (Z1 : ZS) (w1 : World) (Ow1 : OwS) : Prop where
  yl : Z1.yl = Z.yl
  os : w1.os = w0.os
  tape : w1.tape = w0.tape
  output : w1.output = w0.output
  size : w0.heap.size ≤ w1.heap.size
  low : ∀ k, k < w0.heap.size → ¬ Ow k → w1.heap[k]? = w0.heap[k]?
  ow : ∀ b, Ow1 b → Ow b ∨ w0.heap.size ≤ b
  z : ∀ b, Z1 b → Z b
  pin : Ow1.pin = Ow.pin
  nd : Ow1.dl.Nodup
  dl : ∀ d ∈ Ow1.dl, ∃ k, d = { target := .collected k, args := #[] } ∧ w0.heap.size ≤ k ∧ k < w1.heap.size ∧ ¬ Ow1 k ∧ ¬ Z1 k ∧ w1.heap[k]? = some (.deferred (some []))
theorem Base.refl (Z : ZS) (w : World) {Ow : OwS} (h : Ow.dl = []) : Base Z w Ow Z w Ow := ⟨rfl, rfl, rfl, rfl, Nat.le_refl _, fun _ _ _ => rfl, fun _ h => .inl h, fun _ h => h, rfl, by rw [h]; exact List.nodup_nil, by rw [h]; simp⟩

/-- **The relation, told from the function's start.** -/
theorem Rel.unbase {Z1 : ZS} {w1 : World} {Ow1 : OwS} (hb : Base Z w0 Ow Z1 w1 Ow1) (hz : ∀ b, (Ow b ∨ w0.heap.size ≤ b) → Z b) (h : Rel Z1 E N w1 Ow1 S D g G a w) (Ow2 : OwS) (h1 : Ow2.ow = Ow.ow) (h2 : Ow2.pin = Ow.pin) (h3 : Ow2.dl = Ow1.dl) : Rel Z E N w0 Ow2 S D g G a w := by
  have e1 : ∀ b, Ow2 b ↔ Ow b := fun b => by show Ow2.ow b ↔ Ow.ow b; rw [h1]
  have hk : ∀ b, free Z1 G w b → free Z G w b ∧ w.heap[b]? = w.heap[b]? := fun b hf => ⟨⟨hf.1, hf.2, hb.z b hf.3⟩, rfl⟩
  have key : ∀ {l : Loc} {val : Value}, AVR Z1 g G a w (g l) l val → AVR Z g G a w (g l) l val := fun {l val} hv => by
    refine AVR.keep S D hb.yl.symm hk (fun l st _ _ => ⟨fun e t xs hx => ⟨xs, hx, rfl, rfl, rfl⟩, fun b o n t xs _ hx _ => ⟨xs, hx⟩⟩) (fun b e n hb => ⟨hb, rfl⟩) (fun _ _ => rfl) (fun _ _ _ _ _ => ⟨rfl, fun _ _ => rfl⟩) (fun _ _ _ _ e => e ▸ rfl) (h.stamps l)
      (fun c u e => ⟨(h.ctx l c u e).1, (h.ctx l c u e).2.1, (h.ctx l c u e).2.2.1, (h.ctx l c u e).2.2.2.2⟩) hv
  exact {
    defers := by rw [h3]; exact h.defers
    tmps := h.tmps
    os := h.os.trans hb.os
    tape := h.tape.trans hb.tape
    output := h.output.trans hb.output
    size := Nat.le_trans hb.size h.size
    low := fun k hk1 hk2 => by
      rw [e1] at hk2
      rw [h.low k (Nat.lt_of_lt_of_le hk1 hb.size) (fun ho => by
        rcases hb.ow k ho with h4 | h4
        · exact hk2 h4
        · omega), hb.low k hk1 hk2]
    bnd := fun l b hl => by
      have := h.bnd l b hl
      refine ⟨this.1, ?_⟩
      rw [e1]
      rcases this.2 with h4 | h4
      · exact hb.ow b h4
      · exact .inr (Nat.le_trans hb.size h4)
    zow := fun b hb' => hz b (by rw [e1] at hb'; exact hb')
    inj := h.inj
    gone := h.gone
    slots := fun n => key (h.slots n)
    comps := fun n k i h1 h2 => key (h.comps n k i h1 h2)
    boxes := h.boxes
    cells := fun b o hne => by
      obtain ⟨e, n, gb, cur, h1, h2, h3, h4⟩ := h.cells b o hne
      refine ⟨e, n, gb, cur, h1, h2, h3, ?_⟩
      have hk' := key (l := .cell b o) (val := cur.getD o undef)
      generalize g (.cell b o) = v at h4 hk'
      cases v with
      | dead => trivial
      | dat t x => exact ⟨h4.1, h4.2.keep (fun b hb => (hk b hb).2) (fun b hb => (hk b hb).1)⟩
      | _ => exact ⟨h4.1, hk' h4.2⟩
    apart := h.apart
    boxAV := h.boxAV
    stamps := h.stamps
    ctx := h.ctx
    dbool := h.dbool
    globs := fun k d hk1 => by
      obtain ⟨cs, h1, h2, h3⟩ := h.globs k d hk1
      exact ⟨cs, h1.keep (fun b hb => (hk b hb).2) (fun b hb => (hk b hb).1), fun hne => (hk k (h2 hne)).1, h3⟩
    pins := fun b gb hp hne => h.pins b gb (by rw [hb.pin, ← h2]; exact hp) hne
    pinR := fun b gb hp => h.pinR b gb (by rw [hb.pin, ← h2]; exact hp) }

/-- Other deferred calls, where nobody looks. -/
theorem Rel.defers' (h : Rel Z E N w0 Ow S D g G a w) (ds : List Deferred) : Rel Z E N w0 ⟨Ow.ow, Ow.pin, ds⟩ S D g G { tmps := a.tmps, defers := ds } w :=
  have hr : ∀ l, rootVal G { tmps := a.tmps, defers := ds } w l = rootVal G a w l := fun l => by cases l <;> rfl
  have key : ∀ {l : Loc} {val : Value}, AVR Z g G a w (g l) l val → AVR Z g G { tmps := a.tmps, defers := ds } w (g l) l val := fun {l val} hv => by
    refine AVR.keep S D rfl (fun b hb => ⟨hb, rfl⟩) (fun l st _ _ => ⟨fun e t xs hx => ⟨xs, hx, rfl, hr l, rfl⟩, fun b o n t xs _ hx _ => ⟨xs, hx⟩⟩) (fun b e n hb => ⟨hb, rfl⟩) (fun _ _ => rfl) (fun _ _ _ _ _ => ⟨rfl, fun _ _ => rfl⟩) (fun _ _ _ _ e => e ▸ rfl) (h.stamps l)
      (fun c u e => ⟨(h.ctx l c u e).1, (h.ctx l c u e).2.1, (h.ctx l c u e).2.2.1, (h.ctx l c u e).2.2.2.2⟩) hv
  { h with
    defers := rfl
    tmps := h.tmps
    bnd := h.bnd
    zow := h.zow
    low := h.low
    slots := fun n => key (h.slots n)
    comps := fun n k i h1 h2 => key (h.comps n k i h1 h2)
    cells := fun b o hne => by
      obtain ⟨e, n, gb, cur, h1, h2, h3, h4⟩ := h.cells b o hne
      refine ⟨e, n, gb, cur, h1, h2, h3, ?_⟩
      have hk' := key (l := .cell b o) (val := cur.getD o undef)
      generalize g (.cell b o) = v at h4 hk'
      cases v with
      | dead => trivial
      | dat t x => exact h4
      | _ => exact ⟨h4.1, hk' h4.2⟩
    pins := h.pins
    pinR := h.pinR }

/-- The relation, whatever later start it is told from. -/
def RelX (Z : ZS) (E : Env) (N : Nat) (w0 : World) (Ow : OwS) (st : St) (a : Act) (w : World) : Prop :=
  ∃ Z1 w1 Ow1 G, Base Z w0 Ow Z1 w1 Ow1 ∧ RelC Z1 E N w1 Ow1 st G a w
theorem RelC.x {st : St} (h : RelC Z E N w0 Ow st G a w) (hd : Ow.dl = []) : RelX Z E N w0 Ow st a w := ⟨Z, w0, Ow, G, Base.refl _ _ hd, h⟩

/-- Told from where it stands now. -/
theorem Base.fresh {Z1 : ZS} {w1 : World} {Ow1 : OwS} (hb : Base Z w0 Ow Z1 w1 Ow1) (hz : ∀ b, (Ow b ∨ w0.heap.size ≤ b) → Z b) (h : Rel Z1 E N w1 Ow1 S D g G a w) :
    Base Z w0 Ow ⟨fun b => (b < w.heap.size ∧ Z1 b) ∨ w.heap.size ≤ b, Z1.yl⟩ w ⟨fun b => ∃ l, G l = some b, Ow1.pin, Ow1.dl⟩ ∧ Rel ⟨fun b => (b < w.heap.size ∧ Z1 b) ∨ w.heap.size ≤ b, Z1.yl⟩ E N w ⟨fun b => ∃ l, G l = some b, Ow1.pin, Ow1.dl⟩ S D g G a w := by
  have hGz : ∀ {l b}, G l = some b → b < w.heap.size ∧ Z1 b := fun {l b} e => ⟨(h.bnd l b e).1, h.zow b (h.bnd l b e).2⟩
  refine ⟨⟨hb.yl, h.os.trans hb.os, h.tape.trans hb.tape, h.output.trans hb.output, Nat.le_trans hb.size h.size, fun k h1 h2 => ?_, fun b ⟨l, hl⟩ => ?_, fun b hb' => ?_, hb.pin, hb.nd, fun d hd => ?_⟩, h.rebase rfl (Nat.le_refl _) (fun _ _ _ => rfl) (fun b h1 h2 => .inl ⟨h1, h2⟩) (fun b h1 => .inr h1) (fun l b hl => ⟨l, hl⟩) (fun b ⟨l, hl⟩ => .inl (hGz hl)) rfl rfl⟩
  · rw [h.low k (Nat.lt_of_lt_of_le h1 hb.size) (fun ho => (hb.ow k ho).elim h2 (by omega)), hb.low k h1 h2]
  · rcases (h.bnd l b hl).2 with h1 | h1
    · exact hb.ow b h1
    · exact .inr (Nat.le_trans hb.size h1)
  · rcases hb' with ⟨_, h1⟩ | h1
    · exact hb.z b h1
    · exact hz b (.inr (Nat.le_trans (Nat.le_trans hb.size h.size) h1))
  · obtain ⟨k, h1, h2, h3, h4, h5, h6⟩ := hb.dl d hd
    have := h.size
    refine ⟨k, h1, h2, by omega, fun ⟨l, hl⟩ => h5 (hGz hl).2, fun hz' => ?_, (h.low k h3 h4).trans h6⟩
    rcases hz' with ⟨_, h7⟩ | h7
    · exact h5 h7
    · omega

/-- **The blocks of deferred calls are taken, one after the other**, where nobody looks. -/
theorem take_all {fn : Func} {tmps : Array Value} {R : Ending → World → Prop} {F : Fence} {n : Nat} {st : St} (hz : ∀ b, (Ow b ∨ w0.heap.size ≤ b) → Z b)
    (K : ∀ w' G, RelC Z E N w0 ⟨Ow.ow, Ow.pin, []⟩ st G { tmps := tmps, defers := [] } w' → ∃ v, (results fn tmps).run P w' = .ok v w' ∧ R (.returned v) w') :
    ∀ (ds : List Deferred) (w : World) (Z1 : ZS) (Ow1 : OwS) (G : Ghost), Ow1.dl = [] → Base Z w0 Ow Z1 w Ow1 → RelC Z1 E N w Ow1 st G { tmps := tmps, defers := [] } w → ds.Nodup →
      (∀ d ∈ ds, ∃ k, d = { target := .collected k, args := #[] } ∧ w0.heap.size ≤ k ∧ k < w.heap.size ∧ ¬ Ow1 k ∧ ¬ Z1 k ∧ w.heap[k]? = some (.deferred (some []))) → LeavesInM F n P fn tmps R ds .returning w
  | [], w, Z1, Ow1, G, hdl, hb, h, _, _ => by
    have h1 := Rel.unbase hb hz h ⟨Ow.ow, Ow.pin, []⟩ rfl rfl hdl.symm
    exact K w G h1
  | d :: ds, w, Z1, Ow1, G, hdl, hb, h, hnd, hds => by
    obtain ⟨k, rfl, h2, h3, h4, h5, h6⟩ := hds d (by simp)
    refine ⟨by simp, .inl ⟨k, w.putObj k (.deferred none), rfl, run_takeDeferred h6, ?_⟩⟩
    have hsz : (w.putObj k (.deferred none)).heap.size = w.heap.size := by simp [World.putObj]
    have hoth : ∀ b, b ≠ k → (w.putObj k (.deferred none)).heap[b]? = w.heap[b]? := fun b hb => World.putObj_heap_other hb
    have hr := Rel.rebase (w' := w.putObj k (.deferred none)) (Z' := Z1) (Ow' := Ow1) h rfl (by omega) (fun b _ hb => hoth b (fun e => h5 (e ▸ hb))) (fun _ _ hb => hb) (fun b hb' => h.zow b (.inr (by omega))) (fun l b hl => ((h.bnd l b hl).2).elim id (fun h7 => absurd (h.bnd l b hl).1 (by omega))) (fun b hb' => h.zow b (.inl hb')) rfl rfl
    refine take_all hz K ds _ Z1 Ow1 G hdl ⟨hb.yl, hb.os, hb.tape, hb.output, by rw [hsz]; exact hb.size, fun j j1 j2 => (hoth j (by omega)).trans (hb.low j j1 j2), hb.ow, hb.z, hb.pin, hb.nd, by rw [hdl]; simp⟩ hr (List.nodup_cons.1 hnd).2 (fun d' hd' => ?_)
    obtain ⟨k', e1, q2, q3, q4, q5, q6⟩ := hds d' (by simp [hd'])
    have hne : k' ≠ k := fun e => by subst e; exact (List.nodup_cons.1 hnd).1 (by rw [← e1]; exact hd')
    exact ⟨k', e1, q2, by omega, q4, q5, (hoth k' hne).trans q6⟩

/-- **The function is left.** -/
theorem leaveX {fn : Func} {R : Ending → World → Prop} {F : Fence} {n : Nat} {st : St} (hz : ∀ b, (Ow b ∨ w0.heap.size ≤ b) → Z b) (hdl : Ow.dl = []) (h : RelX Z E N w0 Ow st a w)
    (K : ∀ w' G, RelC Z E N w0 Ow st G { tmps := a.tmps, defers := [] } w' → ∃ v, (results fn a.tmps).run P w' = .ok v w' ∧ R (.returned v) w') : LeavesInM F n P fn a.tmps R a.defers .returning w := by
  obtain ⟨Z1, w1, Ow1, G, hb, h1⟩ := h
  have hf := hb.fresh hz h1
  have hd : a.defers = Ow1.dl := h1.defers
  rw [hd]
  have hO : (⟨Ow.ow, Ow.pin, []⟩ : OwS) = Ow := by rw [← hdl]
  refine take_all hz (by rw [hO]; exact K) Ow1.dl w _ ⟨fun b => ∃ l, G l = some b, Ow1.pin, []⟩ G rfl ⟨hf.1.yl, hf.1.os, hf.1.tape, hf.1.output, hf.1.size, hf.1.low, hf.1.ow, hf.1.z, hf.1.pin, List.nodup_nil, by simp⟩ (hf.2.defers' []) hb.nd hf.1.dl
end
end Go.Ev

/- Functions: what 'ev' answers of a body is its contract. -/
namespace Go.Ev
open Go.RowKit

/-- The results, read at the end. -/
def resQ : List (Nat × RK) → Q (List Dat × List (Loc × AV))
  | [] => .pure ([], [])
  | (t, .dat ty) :: r => .ask (.slot t) fun v => (toDat (.tmp t) v).bind fun y => if y.1.1 = ty then (resQ r).bind fun z => .pure (y.1 :: z.1, y.2 ++ z.2) else .fail
  | (t, .own e ty) :: r => .ask (.slot t) fun v => match v with
    | .own e' t' xs _ => if e' = e ∧ t' = ty then (resQ r).bind fun z => .pure (⟨.list t', xs⟩ :: z.1, z.2) else .fail
    | _ => .fail
def ownsOk : List (Nat × RK) → List (Loc × AV) → Bool
  | [], _ => true
  | (t, .own _ _) :: r, ws => (ws.all fun p => !p.1.eq (.slot t)) && (r.all fun q => match q.2 with | .own _ _ => !Nat.beq q.1 t | .dat _ => true) && ownsOk r ws
  | (_, .dat _) :: r, ws => ownsOk r ws
def retK (rs : List (Nat × RK)) : Cont (List Dat) := fun e st => match e with
  | .ret | .normal => (match (resQ rs).run (St.get st) with
    | some z => bif ownsOk rs z.2 then some z.1 else none
    | none => none)
  | _ => none
def initSt : Nat → List Dat → St
  | _, [] => []
  | i, d :: ds => (.slot i, .dat d.1 d.2) :: initSt (i + 1) ds

section
variable {Z : ZS} {E : Env} {N : Nat} {w0 : World} {Ow : OwS} {S D : Nat → Prop} {P : Program} {F : Fence} {n : Nat} {g : Mem} {G : Ghost} {a : Act} {w : World}

theorem slot_told (h : Rel Z E N w0 Ow S D g G a w) {t : Nat} (hno : ∀ c u, g (.slot t) ≠ .opt c u) : Told Z E S g G a w (.tmp t) (g (.slot t)) := by
  refine ⟨fun l hl => ?_, h.stamps _, hno, fun e t' xs s e' => ⟨t, rfl, rfl⟩, fun n e' => ⟨t, rfl, rfl⟩⟩
  have hs := h.slots t
  by_cases hown : ∃ e t' xs s, g (.slot t) = .own e t' xs s
  · obtain ⟨e, t', xs, s, hv⟩ := hown
    obtain ⟨s', rfl, hx⟩ := hl e t' xs s hv
    cases hx
    exact hs
  · exact hs.here (fun e t' xs s e' => hown ⟨e, t', xs, s, e'⟩) hno

theorem toDat_noOpt {x : Operand} {v : AV} {r : Dat × List (Loc × AV)} (h : (toDat x v).run g = some r) : ∀ c u, v ≠ .opt c u := by
  rintro c u rfl
  simp [toDat, Q.run] at h

theorem res_ws (h : Rel Z E N w0 Ow S D g G a w) : ∀ {rs : List (Nat × RK)} {z : List Dat × List (Loc × AV)}, (resQ rs).run g = some z → ∀ p ∈ z.2, isFrz g p
  | [], z, hz => by simp [resQ, Q.run] at hz; subst hz; simp
  | (t, .dat ty) :: r, z, hz => by
    simp only [resQ, Q.run, Q.run_bind, Option.bind_eq_some_iff] at hz
    obtain ⟨y, hy, hz⟩ := hz
    split at hz
    · simp only [Q.run_bind, Option.bind_eq_some_iff] at hz
      obtain ⟨z', hz', hz⟩ := hz
      simp only [Q.run, Option.some.injEq] at hz
      subst hz
      intro p hp
      rcases List.mem_append.1 hp with hp | hp
      · exact toDat_ws h (slot_told h (toDat_noOpt hy)) hy p hp
      · exact res_ws h hz' p hp
    · simp [Q.run] at hz
  | (t, .own e ty) :: r, z, hz => by
    simp only [resQ, Q.run] at hz
    split at hz
    · split at hz
      · simp only [Q.run_bind, Option.bind_eq_some_iff] at hz
        obtain ⟨z', hz', hz⟩ := hz
        simp only [Q.run, Option.some.injEq] at hz
        subst hz
        exact fun p hp => res_ws h hz' p hp
      · simp [Q.run] at hz
    · simp [Q.run] at hz

/-- One result. -/
theorem res_told (h : Rel Z E N w0 Ow S D g G a w) : ∀ {rs : List (Nat × RK)} {z : List Dat × List (Loc × AV)}, (resQ rs).run g = some z → ∀ (i : Nat) (t : Nat) (k : RK), rs[i]? = some (t, k) →
    (∃ ty y, k = .dat ty ∧ (toDat (.tmp t) (g (.slot t))).run g = some y ∧ y.1.1 = ty ∧ z.1.getD i ⟨.unit, ()⟩ = y.1 ∧ ∀ p ∈ y.2, p ∈ z.2) ∨
    (∃ e ty xs s, k = .own e ty ∧ g (.slot t) = .own e ty xs s ∧ z.1.getD i ⟨.unit, ()⟩ = ⟨.list ty, xs⟩)
  | [], z, hz, i, t, k, hi => by simp at hi
  | (t0, .dat ty) :: r, z, hz, i, t, k, hi => by
    simp only [resQ, Q.run, Q.run_bind, Option.bind_eq_some_iff] at hz
    obtain ⟨y, hy, hz⟩ := hz
    split at hz
    · rename_i hyt
      simp only [Q.run_bind, Option.bind_eq_some_iff] at hz
      obtain ⟨z', hz', hz⟩ := hz
      simp only [Q.run, Option.some.injEq] at hz
      subst hz
      cases i with
      | zero =>
        simp only [List.getElem?_cons_zero, Option.some.injEq, Prod.mk.injEq] at hi
        obtain ⟨rfl, rfl⟩ := hi
        exact .inl ⟨ty, y, rfl, hy, hyt, rfl, fun p hp => by simp [hp]⟩
      | succ i =>
        simp only [List.getElem?_cons_succ] at hi
        rcases res_told h hz' i t k hi with ⟨ty', y', h1, h2, h3, h4, h5⟩ | ⟨e, ty', xs, s, h1, h2, h3⟩
        · exact .inl ⟨ty', y', h1, h2, h3, by simpa using h4, fun p hp => by simp [h5 p hp]⟩
        · exact .inr ⟨e, ty', xs, s, h1, h2, by simpa using h3⟩
    · simp [Q.run] at hz
  | (t0, .own e0 ty) :: r, z, hz, i, t, k, hi => by
    simp only [resQ, Q.run] at hz
    split at hz
    · rename_i e' t' xs s hg
      split at hz
      · rename_i he
        obtain ⟨rfl, rfl⟩ := he
        simp only [Q.run_bind, Option.bind_eq_some_iff] at hz
        obtain ⟨z', hz', hz⟩ := hz
        simp only [Q.run, Option.some.injEq] at hz
        subst hz
        cases i with
        | zero =>
          simp only [List.getElem?_cons_zero, Option.some.injEq, Prod.mk.injEq] at hi
          obtain ⟨rfl, rfl⟩ := hi
          exact .inr ⟨e', t', xs, s, rfl, hg, rfl⟩
        | succ i =>
          simp only [List.getElem?_cons_succ] at hi
          rcases res_told h hz' i t k hi with ⟨ty', y', h1, h2, h3, h4, h5⟩ | ⟨e, ty', xs, s, h1, h2, h3⟩
          · exact .inl ⟨ty', y', h1, h2, h3, by simpa using h4, h5⟩
          · exact .inr ⟨e, ty', xs, s, h1, h2, by simpa using h3⟩
      · simp [Q.run] at hz
    · simp [Q.run] at hz

theorem ownsOk_ws : ∀ {rs : List (Nat × RK)} {ws : List (Loc × AV)}, ownsOk rs ws = true → ∀ (i t : Nat) (e : Nat) (ty : Ty), rs[i]? = some (t, .own e ty) →
    (∀ p ∈ ws, p.1 ≠ .slot t) ∧ ∀ (j : Nat) (e' : Nat) (ty' : Ty), rs[j]? = some (t, .own e' ty') → i = j
  | [], _, _, i, t, e, ty, hi => by simp at hi
  | (t0, .dat ty0) :: r, ws, h, i, t, e, ty, hi => by
    simp only [ownsOk] at h
    cases i with
    | zero => simp at hi
    | succ i =>
      simp only [List.getElem?_cons_succ] at hi
      obtain ⟨h1, h2⟩ := ownsOk_ws h i t e ty hi
      refine ⟨h1, fun j e' ty' hj => ?_⟩
      cases j with
      | zero => simp at hj
      | succ j => rw [h2 j e' ty' (by simpa using hj)]
  | (t0, .own e0 ty0) :: r, ws, h, i, t, e, ty, hi => by
    simp only [ownsOk, Bool.and_eq_true] at h
    obtain ⟨⟨k1, k2⟩, k3⟩ := h
    have hne : ∀ (j : Nat) (e' : Nat) (ty' : Ty), r[j]? = some (t0, .own e' ty') → False := fun j e' ty' hj => by
      have := List.all_eq_true.1 k2 _ (List.mem_of_getElem? hj)
      simp at this
    cases i with
    | zero =>
      simp only [List.getElem?_cons_zero, Option.some.injEq, Prod.mk.injEq] at hi
      obtain ⟨rfl, _⟩ := hi
      refine ⟨fun p hp e' => ?_, fun j e' ty' hj => ?_⟩
      · have := List.all_eq_true.1 k1 p hp
        rw [Loc.eq_iff.2 e'] at this; cases this
      · cases j with
        | zero => rfl
        | succ j => exact (hne j e' ty' (by simpa using hj)).elim
    | succ i =>
      simp only [List.getElem?_cons_succ] at hi
      obtain ⟨h1, h2⟩ := ownsOk_ws k3 i t e ty hi
      refine ⟨h1, fun j e' ty' hj => ?_⟩
      cases j with
      | zero =>
        simp only [List.getElem?_cons_zero, Option.some.injEq, Prod.mk.injEq] at hj
        obtain ⟨rfl, _⟩ := hj
        exact (hne i e ty hi).elim
      | succ j => rw [h2 j e' ty' (by simpa using hj)]

theorem initSt_get : ∀ (ds : List Dat) (i : Nat) (l : Loc), St.get (initSt i ds) l = match l with
    | .slot m => if i ≤ m then (match ds[m - i]? with | some d => .dat d.1 d.2 | none => .dead) else .dead
    | _ => .dead
  | [], i, l => by cases l <;> simp [initSt, St.get]
  | d :: ds, i, l => by
    simp only [initSt, St.get, initSt_get ds (i + 1) l]
    cases l with
    | slot m =>
      simp only [Loc.eq]
      by_cases hm : i = m
      · subst hm; simp
      · have hb : Nat.beq i m = false := by cases h : Nat.beq i m with
          | false => rfl
          | true => exact absurd (Nat.eq_of_beq_eq_true h) hm
        rw [hb]
        by_cases h1 : i + 1 ≤ m
        · rw [cond_false, if_pos h1, if_pos (by omega), show m - i = (m - (i + 1)) + 1 by omega]
          simp
        · rw [cond_false, if_neg h1, if_neg (by omega)]
    | _ => rfl

theorem argsR_get {Pr : Nat → Prop} : ∀ {ds : List Dat} {vs : List Value}, ArgsR Pr w ds vs → vs.length = ds.length ∧ ∀ (i : Nat) (d : Dat), ds[i]? = some d → ∃ cs, RV Pr w d.t d.x cs ∧ vs.getD i undef = valOf d.t cs
  | [], [], _ => ⟨rfl, by simp⟩
  | [], _ :: _, h => h.elim
  | _ :: _, [], h => h.elim
  | d :: ds, v :: vs, h => by
    obtain ⟨h1, h2⟩ := argsR_get h.2
    refine ⟨by simp [h1], fun i d' hd => ?_⟩
    cases i with
    | zero =>
      simp only [List.getElem?_cons_zero, Option.some.injEq] at hd
      subst hd
      exact h.1
    | succ i => simpa using h2 i d' (by simpa using hd)
end
end Go.Ev

/- Functions: the contract. -/
namespace Go.Ev
open Go.RowKit
section
variable {E : Env} {P : Program}

theorem mapM_tmps (tmps : Array Value) (w : World) (f : ResultVar → Sem Value) (hf : ∀ t, f (.tmp t) = pure (tmps.getD t undef)) : ∀ (slots : List Nat), ((slots.map ResultVar.tmp).mapM f).run P w = .ok (slots.map fun t => tmps.getD t undef) w
  | [] => rfl
  | t :: ts => by
    rw [List.map_cons, List.mapM_cons, hf]
    simp only [Sem.run_bind, Sem.run_pure, Result.andThen_ok, mapM_tmps tmps w f hf ts, List.map_cons]

theorem results_run {fn : Func} {slots : List Nat} (hres : fn.results = (slots.map ResultVar.tmp).toArray) (tmps : Array Value) (w : World) :
    (results fn tmps).run P w = .ok (retVal (slots.map fun t => tmps.getD t undef)) w := by
  unfold results
  rw [hres]
  simp only [Sem.run_bind, Array.mapM_eq_mapM_toList, List.toList_toArray]
  rw [Sem.run_map, mapM_tmps (P := P) tmps w _ (fun t => rfl) slots]
  simp only [Result.andThen_ok, Sem.run_pure]
  congr 1
  generalize (slots.map fun t => tmps.getD t undef) = vs
  match vs with
  | [] => rfl
  | [v] => rfl
  | _ :: _ :: _ => simp [retVal]

/-- **A function meets what 'ev' answers of its body.** -/
theorem meets_core {f : Nat} {fn : Func} {c : Code} (hf : P.funcs[f]? = some fn) (hname : ∀ args w, (callFunc f args).run P w = .ok (.enter f args) w) (hb : fn.body = some c)
    {Sp : Spec} {slots : List Nat} (hres : fn.results = (slots.map ResultVar.tmp).toArray) (hlen : slots.length = Sp.results.length) (hpar : Sp.params.length ≤ fn.ntmps)
    (hev : ∀ ds, ds.map (·.t) = Sp.params → Sp.pre ds = true → ∀ (Z : ZS) (Qp : Exit → Act → World → Prop) (G : Ghost) (a : Act) (w : World),
      (∀ e a w' st, retK (slots.zip Sp.results) e st = some (Sp.val ds) → RelX Z E fn.ntmps w OwS.none st a w' → Qp e a w') → RelC Z E fn.ntmps w OwS.none (initSt 0 ds) G a w → c.wpIn Fence.wide 0 P Qp a w) : Meets P E.glob f Sp := by
  refine ⟨hname, fun w Pr ds args hPr hG hds hA hpre => ?_⟩
  obtain ⟨hal, haget⟩ := argsR_get hA
  have hdl : ds.length = Sp.params.length := by rw [← hds]; simp
  let Z : ZS := ⟨fun b => Pr b ∨ w.heap.size ≤ b, 0⟩
  let G : Ghost := fun _ => none
  have hPf : ∀ b, Pr b → free Z G w b := fun b hb => ⟨hPr b hb, fun l e => (by cases e), .inl hb⟩
  let a0 : Act := { tmps := args.toArray ++ Array.replicate (fn.ntmps - args.toArray.size) undef, defers := [] }
  have hget : ∀ n, n < args.length → a0.tmps.getD n undef = args.getD n undef := fun n hn => by
    simp [a0, Array.getD_eq_getD_getElem?, Array.getElem?_append, hn]
  have hinit : RelC Z E fn.ntmps w OwS.none (initSt 0 ds) G a0 w := by
    have hslot : ∀ n, St.get (initSt 0 ds) (.slot n) = (match ds[n]? with | some d => .dat d.1 d.2 | none => .dead) := fun n => by
      rw [initSt_get]; simp <;> rfl
    have hoth : ∀ l, (∀ n, l ≠ .slot n) → St.get (initSt 0 ds) l = .dead := fun l hl => by
      rw [initSt_get]
      cases l with
      | slot n => exact absurd rfl (hl n)
      | _ => rfl
    have hplain : ∀ l, St.get (initSt 0 ds) l = .dead ∨ ∃ t x, St.get (initSt 0 ds) l = .dat t x := fun l => by
      cases l with
      | slot n =>
        rw [hslot]
        cases ds[n]? with
        | none => exact .inl rfl
        | some d => exact .inr ⟨_, _, rfl⟩
      | _ => exact .inl (hoth _ (by simp))
    refine ⟨rfl, ?_, rfl, rfl, rfl, Nat.le_refl _, fun _ _ _ => rfl, fun l b e => (by cases e), fun b hb => .inr (hb.resolve_left id), fun l l' b e => (by cases e), fun l b e => (by cases e), fun n => ?_, fun n k i hn => ?_, fun b e n hb => ?_, fun b o hne => ?_, fun b o o' hne => ?_, fun b => .inl (hoth _ (by simp)), fun l => ?_, fun l c v hl => ?_, fun k hk => hk.elim, fun k d hk => ?_, fun b gb hp => (by cases hp), fun b gb hp => (by cases hp)⟩
    · simp [a0, hal, hdl]; omega
    · rw [hslot]
      cases hd : ds[n]? with
      | none => trivial
      | some d =>
        obtain ⟨cs, h1, h2⟩ := haget n d hd
        have hn : n < args.length := by rw [hal]; exact (List.getElem?_eq_some_iff.1 hd).1
        exact ⟨cs, h1.keep (fun _ _ => rfl) hPf, by rw [hget n hn]; exact h2⟩
    · rcases hplain (.slot n) with h | ⟨t, x, h⟩ <;> rw [h] at hn <;> cases hn
    · rw [hoth _ (by simp)] at hb; cases hb
    · exact absurd (hoth _ (by simp)) hne
    · exact absurd (hoth _ (by simp)) hne
    · rcases hplain l with h | ⟨t, x, h⟩ <;> rw [h] <;> trivial
    · rcases hplain l with h | ⟨t, x, h⟩ <;> rw [h] at hl <;> cases hl
    · obtain ⟨cs, h1, h2, h3⟩ := hG k d hk
      exact ⟨cs, h1.keep (fun _ _ => rfl) hPf, fun hne => hPf _ (h2 hne), h3⟩
  rw [← callsIn_wide (n := 0)]
  -- what is handed back
  have hfin : ∀ (a : Act) (w' : World) (st : St) (G' : Ghost), RelC Z E fn.ntmps w OwS.none st G' a w' → ∀ z, (resQ (slots.zip Sp.results)).run (St.get st) = some z → ownsOk (slots.zip Sp.results) z.2 = true → z.1 = Sp.val ds → ∃ v, (results fn a.tmps).run P w' = .ok v w' ∧
      ∃ vs, Ending.returned v = .returned (retVal vs) ∧ w.grownBy w' none ∧ ResOK Pr w.heap.size w' Sp.results (Sp.val ds) vs := by
    intro a w' st G' hR z hz hown hzv
    refine ⟨_, results_run hres a.tmps w', _, rfl, ⟨hR.os, hR.tape, hR.output, hR.size, fun k hk _ => hR.low k hk (fun h => h)⟩, ?_⟩
    obtain ⟨G1, r1, r2, r3, r4, r5, r6⟩ := freezeAll hR (res_ws hR hz)
    have hzip : ∀ (i : Nat) k, Sp.results[i]? = some k → ∃ t, slots[i]? = some t ∧ (slots.zip Sp.results)[i]? = some (t, k) := fun i k hk => by
      have hi : i < slots.length := by rw [hlen]; exact (List.getElem?_eq_some_iff.1 hk).1
      exact ⟨slots[i], List.getElem?_eq_getElem hi, by rw [List.getElem?_zip_eq_some]; exact ⟨List.getElem?_eq_getElem hi, hk⟩⟩
    have hvs : ∀ (i : Nat) t, slots[i]? = some t → (slots.map fun t => a.tmps.getD t undef).getD i undef = a.tmps.getD t undef := fun i t ht => by
      simp [List.getD_eq_getElem?_getD, ht]
    -- what is owned at the end
    have howned : ∀ (i : Nat) e ty, Sp.results[i]? = some (.own e ty) → ∃ t xs s, slots[i]? = some t ∧ (slots.zip Sp.results)[i]? = some (t, .own e ty) ∧ St.get st (.slot t) = .own e ty xs s ∧ (Mem.sets (St.get st) z.2) (.slot t) = .own e ty xs s ∧ z.1.getD i ⟨.unit, ()⟩ = ⟨.list ty, xs⟩ ∧ (a.tmps.getD t undef).ownBlock = G1 (.slot t) := by
      intro i e ty hk
      obtain ⟨t, ht, hzi⟩ := hzip i _ hk
      rcases res_told hR hz i t _ hzi with ⟨ty', y, h1, _⟩ | ⟨e', ty', xs, s, h1, h2, h3⟩
      · cases h1
      · cases h1
        have hg1 : (Mem.sets (St.get st) z.2) (.slot t) = .own e ty xs s := by
          rw [sets_other (ownsOk_ws hown i t e ty hzi).1]; exact h2
        refine ⟨t, xs, s, ht, hzi, h2, hg1, h3, ?_⟩
        have := r1.slots t
        rw [hg1] at this
        obtain ⟨_, _, _, _, hb⟩ := this
        exact hb
    have hfr : ∀ b, free Z G1 w' b → resFree Pr w.heap.size w' (slots.map fun t => a.tmps.getD t undef) Sp.results b := by
      intro b hb
      refine ⟨?_, fun i e ty hk e' => ?_⟩
      · rcases hb.3 with h | h
        · exact .inl h
        · exact .inr ⟨h, hb.1⟩
      · obtain ⟨t, xs, s, ht, _, _, _, _, hob⟩ := howned i e ty hk
        rw [hvs i t ht, hob] at e'
        exact hb.2 _ e'
    refine ⟨by simp [hlen], fun i k hk => ?_, fun i j e ty e' ty' b hi hj hbi hbj => ?_⟩
    · obtain ⟨t, ht, hzi⟩ := hzip i k hk
      rw [hvs i t ht, ← hzv]
      rcases res_told hR hz i t k hzi with ⟨ty, y, rfl, h2, h3, h4, h5⟩ | ⟨e, ty, xs, s, rfl, h2, h3⟩
      · rw [h4]
        subst h3
        obtain ⟨cs, h6, h7⟩ := toDat_val hR (slot_told hR (toDat_noOpt h2)) h2 (Pr := resFree Pr w.heap.size w' (slots.map fun t => a.tmps.getD t undef) Sp.results) (fun b hb => hfr b (r2 b hb)) (fun p hp b hb => hfr b (r3 p (h5 p hp) b hb))
        exact ⟨cs, by simpa [Dat.as] using h6, h7⟩
      · obtain ⟨t', xs', s', ht', _, k2, k3, k4, k5⟩ := howned i e ty hk
        rw [ht] at ht'; cases ht'
        rw [h3]
        have hs := r1.slots t
        rw [k3] at hs
        have hxs : xs' = xs := by rw [k2] at h2; cases h2; rfl
        subst hxs
        refine ⟨?_, fun b hb => ?_⟩
        · have : (⟨Ty.list ty, xs'⟩ : Dat).as (.list ty) = xs' := by simp [Dat.as]
          rw [this, k5]
          exact OwnR.mono hs hfr
        · rw [k5] at hb
          have := r1.bnd _ b hb
          exact ⟨this.2.resolve_left id, this.1⟩
    · obtain ⟨t, xs, s, ht, hzi, k2, k3, _, k5⟩ := howned i e ty hi
      obtain ⟨t', xs', s', ht', hzj, k2', k3', _, k5'⟩ := howned j e' ty' hj
      rw [hvs i t ht, k5] at hbi
      rw [hvs j t' ht', k5'] at hbj
      have := r1.inj _ _ b hbi hbj
      cases this
      exact (ownsOk_ws hown i t e ty hzi).2 j e' ty' hzj
  refine callsIn_of_wp_marks hf hb trivial (hev ds hds hpre Z (bodyPostM Fence.wide 0 P fn _) G a0 w (fun e a w' st hK hX => ?_) hinit)
  have hz : ∀ b, (OwS.none b ∨ w.heap.size ≤ b) → Z b := fun b hb => .inr (hb.resolve_left id)
  have hfin2 : (e = .normal ∨ e = .ret) → LeavesInM Fence.wide 0 P fn a.tmps (fun e w' => ∃ vs, e = .returned (retVal vs) ∧ w.grownBy w' none ∧ ResOK Pr w.heap.size w' Sp.results (Sp.val ds) vs) a.defers .returning w' := by
    intro he
    refine leaveX hz rfl hX (fun w'' G' hR => ?_)
    rcases he with rfl | rfl <;> simp only [retK] at hK <;> split at hK <;> try cases hK
    all_goals
      rename_i z hz
      cases hown : ownsOk (slots.zip Sp.results) z.2 with
      | false => rw [hown] at hK; cases hK
      | true =>
        rw [hown] at hK
        simp only [cond_true, Option.some.injEq] at hK
        exact hfin { tmps := a.tmps, defers := [] } w'' st G' hR z hz hown hK
  cases e with
  | normal => exact hfin2 (.inl rfl)
  | ret => exact hfin2 (.inr rfl)
  | _ => simp [retK] at hK

theorem meets_of_ev (hE : EnvOk P E) (hm : P.follows .mixedOrders = true) {f : Nat} {fn : Func} {c : Code} (hf : P.funcs[f]? = some fn) (hname : ∀ args w, (callFunc f args).run P w = .ok (.enter f args) w) (hb : fn.body = some c)
    {O : Orc} (hN : O.n = fn.ntmps) {Sp : Spec} {slots : List Nat} (hres : fn.results = (slots.map ResultVar.tmp).toArray) (hlen : slots.length = Sp.results.length) (hpar : Sp.params.length ≤ fn.ntmps)
    (hev : ∀ ds, ds.map (·.t) = Sp.params → Sp.pre ds = true → ∃ fuel, ev E O fuel c (initSt 0 ds) (retK (slots.zip Sp.results)) = some (Sp.val ds)) : Meets P E.glob f Sp :=
  meets_core hf hname hb hres hlen hpar fun ds hds hpre Z Qp G a w hQ h => by
    obtain ⟨fuel, hev⟩ := hev ds hds hpre
    exact ev_sound hE (plain_wide P) hm hN c (initSt 0 ds) (retK (slots.zip Sp.results)) Qp G a w (fun e a w st G hk hr => hQ e a w st hk (hr.x rfl)) hev h
end
end Go.Ev

/- Loops by summaries. -/
namespace Go.Ev
open Go.RowKit

/-- What is said of a loop: where it goes, with what. -/
abbrev Sum := ∀ R : Type, St → Cont R → Option R
/-- A loop's name: its first region. -/
def keyOf : Code → Option Nat
  | .region id _ _ => some id
  | .seq a b => match keyOf a with
    | some k => some k
    | none => keyOf b
  | .cond _ a b => match keyOf a with
    | some k => some k
    | none => keyOf b
  | .block _ c => keyOf c
  | .loop c => keyOf c
  | .rangeFunc _ _ a c => match keyOf a with
    | some k => some k
    | none => keyOf c
  | _ => none
def lookL (L : Nat → Option Sum) : Option Nat → Option Sum
  | some k => L k
  | none => none
def ev2 {R : Type} (E : Env) (O : Orc) (L : Nat → Option Sum) : Code → St → Cont R → Option R
  | .skip, st, K => K .normal st
  | .region id ops draw, st, K =>
    bif regionOk O.n ops.toList && (!draw || drawOk E ops.toList (normO (O.i id) st)) then evOps E ops.toList ops.toList 0 (normO (O.i id) st) fun st' => K .normal (norm (O.o id) st') else none
  | .seq a b, st, K => ev2 E O L a st fun e st' => match e with
    | .normal => ev2 E O L b st' K
    | e => K e st'
  | .cond c x y, st, K => match condQ st c with
    | some b => bif b then ev2 E O L x (dropO O.c true st c) K else ev2 E O L y (dropO O.c false st c) K
    | none => none
  | .block id c, st, K => ev2 E O L c st fun e st' => match e with
    | .exit id' => if id' = id then K .normal st' else K (.exit id') st'
    | e => K e st'
  | .loop c, st, K => match lookL L (keyOf c) with
    | some f => f R st K
    | none => none
  | .rangeFunc g ps a c, st, K => match lookL L (keyOf (.rangeFunc g ps a c)) with
    | some f => f R st K
    | none => none
  | .exit id, st, K => K (.exit id) st
  | .ret, st, K => K .ret st
  | .label _, st, K => K .normal st
  | _, _, _ => none
/-- The summary is true of the loop. -/
def SumOk (E : Env) (O : Orc) (L : Nat → Option Sum) (c : Code) (f : Sum) : Prop :=
  ∀ (R : Type) (st : St) (K : Cont R) (r : R), f R st K = some r → ∃ fuel, loopN (fun st K => ev2 E O L c st K) fuel st K = some r
/-- The loops of a code. -/
def loopsOf : Code → List Code
  | .seq a b => loopsOf a ++ loopsOf b
  | .cond _ a b => loopsOf a ++ loopsOf b
  | .block _ c => loopsOf c
  | .loop c => c :: loopsOf c
  | .rangeFunc _ _ a c => loopsOf a ++ loopsOf c
  | _ => []
/-- The ranges over functions of a code. -/
def rangesOf : Code → List Code
  | .seq a b => rangesOf a ++ rangesOf b
  | .cond _ a b => rangesOf a ++ rangesOf b
  | .block _ c => rangesOf c
  | .loop c => rangesOf c
  | .rangeFunc g ps a c => .rangeFunc g ps a c :: (rangesOf a ++ rangesOf c)
  | _ => []
def LoopsOk (E : Env) (O : Orc) (L : Nat → Option Sum) (body : Code) : Prop := ∀ c ∈ loopsOf body, ∀ f, lookL L (keyOf c) = some f → SumOk E O L c f

/-- The summary is true of a range over a function. -/
def RangeOk (P : Program) (E : Env) (N : Nat) (rc : Code) (f : Sum) : Prop :=
  ∀ (R : Type) (st : St) (K : Cont R) (r : R), f R st K = some r → ∀ (Z : ZS) (w0 : World) (Ow : OwS), Ow.dl = [] → (∀ b, (Ow b ∨ w0.heap.size ≤ b) → Z b) → ∀ (F : Fence) (n : Nat) (Qp : Exit → Act → World → Prop) (a : Act) (w : World), Plain P F → F.round = none →
    (∀ e a w st, K e st = some r → RelX Z E N w0 Ow st a w → Qp e a w) → RelX Z E N w0 Ow st a w → rc.wpIn F n P Qp a w
def RangesOk (P : Program) (E : Env) (N : Nat) (L : Nat → Option Sum) (body : Code) : Prop := ∀ rc ∈ rangesOf body, ∀ f, lookL L (keyOf rc) = some f → RangeOk P E N rc f
theorem rangesOk_nil {P : Program} {E : Env} {N : Nat} {L : Nat → Option Sum} {body : Code} (h : rangesOf body = []) : RangesOk P E N L body := fun rc hc => by rw [h] at hc; cases hc

section
variable {Z : ZS} {E : Env} {N : Nat} {w0 : World} {Ow : OwS} {P : Program} {F : Fence} {n : Nat}
theorem ev2_soundX (hE : EnvOk P E) (hFP : Plain P F) (hm : P.follows .mixedOrders = true) {O : Orc} (hN : O.n = N) {L : Nat → Option Sum} {R : Type} {r : R} (hdl : Ow.dl = []) (hz : ∀ b, (Ow b ∨ w0.heap.size ≤ b) → Z b) :
    ∀ (c : Code), LoopsOk E O L c → (RangesOk P E N L c ∧ F.round = none ∨ rangesOf c = []) → ∀ (st : St) (K : Cont R) (Qp : Exit → Act → World → Prop) (a : Act) (w : World),
      (∀ e a w st, K e st = some r → RelX Z E N w0 Ow st a w → Qp e a w) → ev2 E O L c st K = some r → RelX Z E N w0 Ow st a w → c.wpIn F n P Qp a w := by
  intro c
  induction c with
  | skip => intro _ _ st K Qp a w hQ hev h; exact wpIn_skip (hQ _ _ _ _ hev h)
  | label l => intro _ _ st K Qp a w hQ hev h; exact wpIn_label (hQ _ _ _ _ hev h)
  | exit id => intro _ _ st K Qp a w hQ hev h; exact wpIn_exit (hQ _ _ _ _ hev h)
  | ret => intro _ _ st K Qp a w hQ hev h; exact wpIn_ret (hQ _ _ _ _ hev h)
  | region id ops draw =>
    intro _ _ st K Qp a w hQ hev ⟨Z1, w1, Ow1, G, hb, h⟩
    exact ev_sound hE hFP hm hN (fuel := 0) (.region id ops draw) st K Qp G a w (fun e a w st G hk hr => hQ e a w st hk ⟨Z1, w1, Ow1, G, hb, hr⟩) hev h
  | seq x y ihx ihy =>
    intro hL hR st K Qp a w hQ hev h
    simp only [ev2] at hev
    have hRx : RangesOk P E N L x ∧ F.round = none ∨ rangesOf x = [] := hR.imp (fun q => ⟨fun rc hc => q.1 rc (by simp [rangesOf, hc]), q.2⟩) (fun q => by simp [rangesOf] at q; exact q.1)
    have hRy : RangesOk P E N L y ∧ F.round = none ∨ rangesOf y = [] := hR.imp (fun q => ⟨fun rc hc => q.1 rc (by simp [rangesOf, hc]), q.2⟩) (fun q => by simp [rangesOf] at q; exact q.2)
    refine wpIn_seq (ihx (fun c hc => hL c (by simp [loopsOf, hc])) hRx st _ _ a w (fun e a w st hk hr => ?_) hev h)
    cases e <;> first | exact ihy (fun c hc => hL c (by simp [loopsOf, hc])) hRy st K Qp a w hQ hk hr | exact hQ _ _ _ _ hk hr
  | cond c x y ihx ihy =>
    intro hL hR st K Qp a w hQ hev ⟨Z1, w1, Ow1, G, hb, h⟩
    simp only [ev2] at hev
    have hRx : RangesOk P E N L x ∧ F.round = none ∨ rangesOf x = [] := hR.imp (fun q => ⟨fun rc hc => q.1 rc (by simp [rangesOf, hc]), q.2⟩) (fun q => by simp [rangesOf] at q; exact q.1)
    have hRy : RangesOk P E N L y ∧ F.round = none ∨ rangesOf y = [] := hR.imp (fun q => ⟨fun rc hc => q.1 rc (by simp [rangesOf, hc]), q.2⟩) (fun q => by simp [rangesOf] at q; exact q.2)
    split at hev
    · rename_i b hc
      obtain ⟨G1, h1⟩ := relC_drop h hc O.c
      refine wpIn_cond (cond_told h hc) ?_
      cases b with
      | true => exact ihx (fun c hc => hL c (by simp [loopsOf, hc])) hRx _ K Qp a w hQ hev ⟨Z1, w1, Ow1, G1, hb, h1⟩
      | false => exact ihy (fun c hc => hL c (by simp [loopsOf, hc])) hRy _ K Qp a w hQ hev ⟨Z1, w1, Ow1, G1, hb, h1⟩
    · cases hev
  | block id c ih =>
    intro hL hR st K Qp a w hQ hev h
    simp only [ev2] at hev
    refine wpIn_block (ih (fun c hc => hL c (by simp [loopsOf, hc])) (hR.imp (fun q => ⟨fun rc hc => q.1 rc (by simp [rangesOf, hc]), q.2⟩) (fun q => by simpa [rangesOf] using q)) st _ _ a w (fun e a w st hk hr => ?_) hev h)
    cases e with
    | exit id' =>
      simp only [] at hk
      simp only [Exit.inBlock]
      split at hk
      · rename_i hid; rw [if_pos hid]; exact hQ _ _ _ _ hk hr
      · rename_i hid; rw [if_neg hid]; exact hQ _ _ _ _ hk hr
    | _ => exact hQ _ _ _ _ hk hr
  | loop c ih =>
    intro hL hR st K Qp a w hQ hev h
    simp only [ev2] at hev
    split at hev
    · rename_i f hf
      obtain ⟨fuel, hfu⟩ := hL c (by simp [loopsOf]) f hf R st K r hev
      have key : ∀ (m : Nat) (st : St) (a : Act) (w : World), loopN (fun st K => ev2 E O L c st K) m st K = some r → RelX Z E N w0 Ow st a w → Code.roundsIn F n P c Qp m a w := by
        intro m
        induction m with
        | zero => intro st a w hl; simp [loopN] at hl
        | succ m ihm =>
          intro st a w hl hr
          simp only [loopN] at hl
          refine ih (fun c hc => hL c (by simp [loopsOf, hc])) (hR.imp (fun q => ⟨fun rc hc => q.1 rc (by simp [rangesOf, hc]), q.2⟩) (fun q => by simpa [rangesOf] using q)) st _ _ a w (fun e a w st hk hr => ?_) hl hr
          cases e <;> first | exact ihm st a w hk hr | exact hQ _ _ _ _ hk hr
      exact wpIn_loop_rounds fuel (key fuel st a w hfu h)
    · cases hev
  | rangeFunc g ps asg body _ _ =>
    intro hL hR st K Qp a w hQ hev h
    simp only [ev2] at hev
    split at hev
    · rename_i f hf
      rcases hR with ⟨hR, hro⟩ | hR
      · exact hR _ (by simp [rangesOf]) f hf R st K r hev Z w0 Ow hdl hz F n Qp a w hFP hro hQ h
      · simp [rangesOf] at hR
    · cases hev
  | _ => intro _ _ st K Qp a w hQ hev h; simp [ev2] at hev
theorem ev2_sound (hE : EnvOk P E) (hFP : Plain P F) (hm : P.follows .mixedOrders = true) {O : Orc} (hN : O.n = N) {L : Nat → Option Sum} {R : Type} {r : R} (hdl : Ow.dl = []) (hz : ∀ b, (Ow b ∨ w0.heap.size ≤ b) → Z b)
    (c : Code) (hL : LoopsOk E O L c) (hR : RangesOk P E N L c ∧ F.round = none ∨ rangesOf c = []) (st : St) (K : Cont R) (Qp : Exit → Act → World → Prop) (G : Ghost) (a : Act) (w : World)
    (hQ : ∀ e a w st, K e st = some r → RelX Z E N w0 Ow st a w → Qp e a w) (hev : ev2 E O L c st K = some r) (h : RelC Z E N w0 Ow st G a w) : c.wpIn F n P Qp a w :=
  ev2_soundX hE hFP hm hN hdl hz c hL hR st K Qp a w hQ hev (h.x hdl)

/-- **A function meets what 'ev2' answers of its body**, its loops by summaries. -/
theorem meets_of_ev2 (hE : EnvOk P E) (hm : P.follows .mixedOrders = true) {f : Nat} {fn : Func} {c : Code} (hf : P.funcs[f]? = some fn) (hname : ∀ args w, (callFunc f args).run P w = .ok (.enter f args) w) (hb : fn.body = some c)
    {O : Orc} (hN : O.n = fn.ntmps) {L : Nat → Option Sum} (hL : LoopsOk E O L c) (hR : RangesOk P E O.n L c) {Sp : Spec} {slots : List Nat} (hres : fn.results = (slots.map ResultVar.tmp).toArray) (hlen : slots.length = Sp.results.length) (hpar : Sp.params.length ≤ fn.ntmps)
    (hev : ∀ ds, ds.map (·.t) = Sp.params → Sp.pre ds = true → ev2 E O L c (initSt 0 ds) (retK (slots.zip Sp.results)) = some (Sp.val ds)) : Meets P E.glob f Sp :=
  meets_core hf hname hb hres hlen hpar fun ds hds hpre Z Qp G a w hQ h =>
    ev2_sound hE (plain_wide P) hm hN rfl (fun b hb => h.zow b hb) c hL (.inl ⟨hN ▸ hR, rfl⟩) (initSt 0 ds) (retK (slots.zip Sp.results)) Qp G a w hQ (hev ds hds hpre) h
end
end Go.Ev

/- Helpers for a program's types. -/
namespace Go.Ev
variable {P : Program}
theorem eqOk_bool {id : Nat} (h : P.underlying id = some .bool) : EqOk P id .bool := by
  intro w Pr x y cs ds p q h1 h2
  simp only [RV] at h1 h2
  subst h1; subst h2
  have hv : ∀ b : Bool, valOf .bool [.bool b] = .bool b := fun _ => rfl
  rw [hv, hv]
  have hg : ∀ op, (eqGuard op id p q (.bool x) (.bool y)).run P w = .ok () w := fun op => guard_run ⟨by simp, by simp⟩
  have he : (Op.equal id (.bool x) (.bool y)).run P w = .ok (x == y) w := run_equal_bool w id x y h
  constructor
  · rw [Sem.run_bind, hg, Result.andThen_ok]
    simp only [binOp, Sem.run_bind, he, Result.andThen_ok, Sem.run_pure, eqv]
  · rw [Sem.run_bind, hg, Result.andThen_ok]
    simp only [binOp, Sem.run_bind, he, Result.andThen_ok, Sem.run_pure, eqv]
end Go.Ev
