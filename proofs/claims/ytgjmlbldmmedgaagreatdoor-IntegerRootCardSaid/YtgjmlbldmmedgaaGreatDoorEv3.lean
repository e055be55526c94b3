/- A library for the proofs of this seat: an evaluator of the code over abstract states, and its soundness. It states nothing of the program. -/
import Derived.Test.YtgjmlbldmmedgaaGreatDoorEv2
import Derived.Laws.CopyRow
import Derived.OrdersIn
import Derived.LoopNIn
import Derived.RangeFuncLeaves
import Derived.RangeFuncSeq
import Derived.Conc.MuLone
import Derived.Laws.Small
import Derived.RangeFuncIn
set_option linter.unusedSimpArgs false
set_option linter.unusedVariables false
set_option linter.deprecated false
namespace Go.Ev
open Go.RowKit
section
variable {Z : ZS} {E : Env} {N : Nat} {w0 : World} {Ow : OwS} {S D : Nat → Prop} {g : Mem} {G : Ghost} {a a' : Act} {w w' : World} {P : Program} {F : Fence} {n : Nat}

theorem outBoxes_get : ∀ {sh : Shape} {s : Tup sh} {b : Nat}, St.get (mkSt sh s) (.box b) ≠ .dead → b ∈ outBoxes sh
  | [], _, _, h => absurd rfl h
  | (l, k) :: r, s, b, h => by
    have ih := fun h' => outBoxes_get (sh := r) (s := s.2) (b := b) h'
    simp only [mkSt, St.get] at h
    cases he : l.eq (.box b) with
    | true =>
      have := Loc.eq_iff.1 he
      subst this
      simp [outBoxes]
    | false =>
      rw [he] at h
      have := ih h
      cases l <;> simp [outBoxes, this]
theorem outOffs_get : ∀ {sh : Shape} {s : Tup sh} {b o : Nat}, St.get (mkSt sh s) (.cell b o) ≠ .dead → o ∈ outOffs b sh
  | [], _, _, _, h => absurd rfl h
  | (l, k) :: r, s, b, o, h => by
    have ih := fun h' => outOffs_get (sh := r) (s := s.2) (b := b) (o := o) h'
    simp only [mkSt, St.get] at h
    cases he : l.eq (.cell b o) with
    | true =>
      have := Loc.eq_iff.1 he
      subst this
      simp [outOffs]
    | false =>
      rw [he] at h
      have := ih h
      cases l with
      | cell c o' =>
        simp only [outOffs]
        cases Nat.beq c b <;> simp [this]
      | _ => simpa [outOffs] using this
theorem inQ_boxes {ctx : Ctx} {xs : List Arg} : ∀ {sh : Shape} {m : Names} {q : Tup sh × Names × List (Loc × AV)}, (inQ E ctx xs sh m).run g = some q → ∀ b ∈ outBoxes sh, St.get (mkSt sh q.1) (.box b) ≠ .dead
  | [], _, _, _, b, hb => by simp [outBoxes] at hb
  | (.slot n, k) :: r, m, q, hq, b, hb => by
    simp only [inQ] at hq
    split at hq
    · simp only [Q.run_bind, Option.bind_eq_some_iff, Q.run, Option.some.injEq] at hq
      obtain ⟨v, hv, p, hp, q', hq', rfl⟩ := hq
      exact inQ_boxes hq' b (by simpa [outBoxes] using hb)
    · simp [Q.run] at hq
  | (.comp n i, k) :: r, m, q, hq, b, hb => by simp [inQ, Q.run] at hq
  | (.box c, k) :: r, m, q, hq, b, hb => by
    cases k with
    | bx e n =>
      simp only [inQ] at hq
      split at hq
      · simp only [Q.run] at hq
        split at hq
        · split at hq
          · simp only [Q.run_bind, Option.bind_eq_some_iff, Q.run, Option.some.injEq] at hq
            obtain ⟨q', hq', rfl⟩ := hq
            show St.get ((.box c, .bx e n) :: mkSt r q'.1) (.box b) ≠ .dead
            simp only [St.get]
            cases he : (Loc.box c).eq (.box b) with
            | true => simp
            | false =>
              refine inQ_boxes hq' b ?_
              have : c ≠ b := fun e => by subst e; rw [Loc.eq_iff.2 rfl] at he; cases he
              simpa [outBoxes, Ne.symm this] using hb
          · simp [Q.run] at hq
        · simp [Q.run] at hq
      · simp [Q.run] at hq
    | _ => simp [inQ, Q.run] at hq
  | (.cell c o, k) :: r, m, q, hq, b, hb => by
    simp only [inQ] at hq
    split at hq
    · simp only [Q.run_bind, Option.bind_eq_some_iff, Q.run, Option.some.injEq] at hq
      obtain ⟨p, hp, q', hq', rfl⟩ := hq
      exact inQ_boxes hq' b (by simpa [outBoxes] using hb)
    · simp [Q.run] at hq
theorem ownKept_spec {m : Names} {ws : List (Loc × AV)} : ∀ {sh : Shape}, ownKept sh m ws = true → ∀ {b o e c : Nat} {t : Ty}, (Loc.cell b o, Kd.own e t) ∈ sh → look m b = some c → ∀ p ∈ ws, p.1 ≠ .cell c o
  | [], _, _, _, _, _, _, h, _ => by simp at h
  | (l, k) :: r, hk, b, o, e, c, t, h, hl => by
    have hr : ownKept r m ws = true := by
      cases l <;> cases k <;> simp only [ownKept, Bool.and_eq_true] at hk <;> first | exact hk.2 | exact hk
    rcases List.mem_cons.1 h with h | h
    · cases h
      simp only [ownKept, hl, Bool.and_eq_true] at hk
      intro p hp he
      have := List.all_eq_true.1 hk.1 p hp
      rw [Loc.eq_iff.2 he] at this
      cases this
    · exact ownKept_spec hr h hl

theorem offsQ_spec (h : Rel Z E N w0 Ow S D g G a w) {b n : Nat} : ∀ {k o : Nat} {os : List Nat}, (offsQ b n k o).run g = some os → n + 1 ≤ o + k → ∀ j, o ≤ j → j ≤ n → g (.cell b j) ≠ .dead → j ∈ os
  | 0, o, os, _, hk, j, h1, h2, _ => by omega
  | k + 1, o, os, hr, hk, j, h1, h2, hj => by
    simp only [offsQ] at hr
    split at hr
    · simp only [Q.run] at hr
      split at hr
      · rename_i hd
        have : o ≠ j := fun e => by
          subst e
          generalize g (.cell b o) = v at hd hj
          cases v <;> simp [isDead] at hd
          exact hj rfl
        exact offsQ_spec h hr (by omega) j (by omega) h2 hj
      · rename_i hd
        simp only [Q.run_bind, Option.bind_eq_some_iff, Q.run, Option.some.injEq] at hr
        obtain ⟨os', hr', rfl⟩ := hr
        by_cases he : o = j
        · subst he; simp
        · have hne : g (.cell b o) ≠ .dead := fun e => by rw [e] at hd; simp [isDead] at hd
          have hap := h.apart b o j hne hj he
          refine List.mem_cons_of_mem _ (offsQ_spec h hr' (by omega) j ?_ h2 hj)
          omega
    · omega

/-- What is read of a box that comes back. -/
theorem outBox_some {m : Names} {d st : Nat} {so : St} {pout : Shape} {b : Nat} {ws : List (Loc × AV)} (hr : (outBox m d st so pout b).run g = some ws) :
    (∃ c e n os, look m b = some c ∧ g (.box c) = .bx e n ∧ so.get (.box b) = .bx e n ∧ (offsQ c n (n + 1) 0).run g = some os ∧ (outBox.arrsQ so b c (outOffs b pout)).run g = some () ∧
      ws = (os ++ outOffs b pout).map fun o => (.cell c o, outAV m d st (so.get (.cell b o)))) ∨
    (∃ e n, look m b = none ∧ g (.box (backN m d b)) = .dead ∧ so.get (.box b) = .bx e n ∧ ws = (.box (backN m d b), .bx e n) :: (outOffs b pout).map fun o => (.cell (backN m d b) o, outAV m d st (so.get (.cell b o)))) := by
  simp only [outBox, Q.run] at hr
  split at hr
  · rename_i c e n e' n' hl hg hs
    split at hr
    · rename_i he
      simp only [Bool.and_eq_true] at he
      have h1 := Nat.eq_of_beq_eq_true he.1
      have h2 := Nat.eq_of_beq_eq_true he.2
      subst h1; subst h2
      simp only [Q.run_bind, Option.bind_eq_some_iff, Q.run, Option.some.injEq] at hr
      obtain ⟨os, h3, u, h4, rfl⟩ := hr
      left
      refine ⟨c, e', n', os, hl, ?_, hs, h3, h4, rfl⟩
      simpa [backN, hl] using hg
    · simp [Q.run] at hr
  · rename_i e n hl hg hs
    simp only [Q.run, Option.some.injEq] at hr
    exact .inr ⟨e, n, hl, hg, hs, hr.symm⟩
  · simp [Q.run] at hr
theorem arrsQ_some {so : St} {b c : Nat} : ∀ {os : List Nat}, (outBox.arrsQ so b c os).run g = some () → ∀ o ∈ os, ∀ n t x, so.get (.cell b o) = .dat (.arr n t) x → ∃ x', g (.cell c o) = .dat (.arr n t) x'
  | [], _, o, ho, _, _, _, _ => by simp at ho
  | o :: r, hr, o', ho, n, t, x, hs => by
    simp only [outBox.arrsQ] at hr
    split at hr
    · rename_i n1 t1 ha
      simp only [Q.run] at hr
      split at hr
      · rename_i n2 t2 x2 hg
        split at hr
        · rename_i he
          simp only [Bool.and_eq_true, beq_iff_eq] at he
          have h1 := Nat.eq_of_beq_eq_true he.1
          rcases List.mem_cons.1 ho with rfl | ho
          · simp only [arrAt, hs, Option.some.injEq, Prod.mk.injEq] at ha
            obtain ⟨rfl, rfl⟩ := ha
            obtain ⟨_, rfl⟩ := he
            subst h1
            exact ⟨x2, hg⟩
          · exact arrsQ_some hr o' ho n t x hs
        · simp [Q.run] at hr
      · simp [Q.run] at hr
    · rename_i ha
      rcases List.mem_cons.1 ho with rfl | ho
      · simp [arrAt, hs] at ha
      · exact arrsQ_some hr o' ho n t x hs
theorem outBoxesQ_some {m : Names} {d st : Nat} {so : St} {pout : Shape} : ∀ {bs : List Nat} {W : List (Loc × AV)}, (outBoxesQ m d st so pout bs).run g = some W →
    (∀ b ∈ bs, ∃ ws, (outBox m d st so pout b).run g = some ws ∧ ∀ p ∈ ws, p ∈ W) ∧ ∀ p ∈ W, ∃ b ∈ bs, ∃ ws, (outBox m d st so pout b).run g = some ws ∧ p ∈ ws
  | [], W, hr => by simp [outBoxesQ, Q.run] at hr; subst hr; simp
  | b :: r, W, hr => by
    simp only [outBoxesQ, Q.run_bind, Option.bind_eq_some_iff, Q.run, Option.some.injEq] at hr
    obtain ⟨ws, h1, us, h2, rfl⟩ := hr
    obtain ⟨k1, k2⟩ := outBoxesQ_some h2
    refine ⟨fun b' hb' => ?_, fun p hp => ?_⟩
    · rcases List.mem_cons.1 hb' with rfl | hb'
      · exact ⟨ws, h1, fun p hp => List.mem_append.2 (.inl hp)⟩
      · obtain ⟨ws', q1, q2⟩ := k1 b' hb'
        exact ⟨ws', q1, fun p hp => List.mem_append.2 (.inr (q2 p hp))⟩
    · rcases List.mem_append.1 hp with hp | hp
      · exact ⟨b, by simp, ws, h1, hp⟩
      · obtain ⟨b', q1, q2⟩ := k2 p hp
        exact ⟨b', by simp [q1], q2⟩
theorem outRes_sets {m : Names} {d st : Nat} {so : St} : ∀ {k j0 : Nat} (g0 : Mem) (l : Loc), g0.sets (outRes m d st so j0 k) l = match l with
    | .comp n j => if n = d ∧ j0 ≤ j ∧ j < j0 + k then outAV m d st (so.get (.slot j)) else g0 (.comp n j)
    | l => g0 l
  | 0, j0, g0, l => by
    cases l with
    | comp n j => rw [outRes]; simp only [Mem.sets]; rw [if_neg (by omega)]
    | _ => rfl
  | k + 1, j0, g0, l => by
    rw [outRes, Mem.sets_cons, outRes_sets]
    cases l with
    | comp n j =>
      simp only [Mem.upd_apply, Loc.comp.injEq]
      by_cases h1 : n = d
      · subst h1
        by_cases h2 : j = j0
        · subst h2
          rw [if_neg (by omega), if_pos ⟨rfl, rfl⟩, if_pos ⟨rfl, by omega, by omega⟩]
        · by_cases h3 : j0 + 1 ≤ j ∧ j < j0 + 1 + k
          · rw [if_pos ⟨rfl, h3⟩, if_pos ⟨rfl, by omega, by omega⟩]
          · rw [if_neg (fun e => h3 e.2), if_neg (fun e => h2 e.2), if_neg (by omega)]
      · rw [if_neg (fun e => h1 e.1), if_neg (fun e => h1 e.1), if_neg (fun e => h1 e.1)]
    | _ => simp [Mem.upd_apply]
theorem distinct_inj {f : Nat → Nat} : ∀ {bs : List Nat}, distinct (bs.map f) = true → ∀ b ∈ bs, ∀ b' ∈ bs, f b = f b' → b = b'
  | [], _, b, hb, _, _, _ => by simp at hb
  | x :: r, hd, b, hb, b', hb', he => by
    simp only [List.map_cons, distinct, Bool.and_eq_true, Bool.not_eq_true'] at hd
    have hno : ∀ y ∈ r, f y ≠ f x := fun y hy e => by
      have := List.any_eq_false.1 hd.1 (f y) (List.mem_map.2 ⟨y, hy, rfl⟩)
      rw [e] at this; simp at this
    rcases List.mem_cons.1 hb with h1 | h1 <;> rcases List.mem_cons.1 hb' with h2 | h2
    · rw [h1, h2]
    · subst h1; exact absurd he.symm (hno b' h2)
    · subst h2; exact absurd he (hno b h1)
    · exact distinct_inj hd.2 b h1 b' h2 he

theorem Rel.env {E' : Env} (h : Rel Z E N w0 Ow S D g G a w) (he : E'.glob = E.glob) (hh : ∀ b, E.held b = true → E'.held b = true) : Rel Z E' N w0 Ow S D g G a w :=
  { h with globs := fun k d hk => h.globs k d (by rw [← he]; exact hk), pinR := fun b gb hp => (h.pinR b gb hp).imp id (hh b) }

theorem newOk_none {held : Nat → Bool} {m : Names} {d b : Nat} (hl : look m b = none) (h : newOk held m d b = true) : held (backN m d b) = false := by
  unfold newOk at h
  rw [hl] at h
  revert h
  generalize backN m d b = k
  intro h
  cases hk : held k with
  | false => rfl
  | true => rw [hk] at h; cases h
/-- **A call that hands boxes in.** -/
theorem sound_call2 (hE : EnvOk P E) {ctx : Ctx} {i : Nat} {o : Oper} {f0 : Nat} {l0 : List Nat} {Sp : Spec2} (hsp : E.spec2 f0 l0 = some Sp) {xs : List Arg} {f : Eff} {next : Act → World → Prop} {Qp : Exit → Act → World → Prop}
    (h : Rel Z E N w0 Ow S D g G a w) (hg : (gcond ctx).run g = some true) (hp : (call2Q E ctx i o.dst Sp xs).run g = some f) (ht : f.test = true) (hfr : ¬ S (i + 1)) (hdst : ∀ d, o.dst = some d → d < N ∧ ¬ D d) (hF : ∀ f, F.fn f) (hFP : Plain P F)
    {args : List Value} (hal : args.length = xs.length) (hargs : ∀ (j : Nat) x, xs[j]? = some x → ArgOk g G a x (args.getD j undef)) (hrun : (o.semAt F.round a.eval).run P w = .ok (.enter f0 args.toArray) w)
    (hn : ∀ a' w' g' G', (∀ l, g' l = g.sets f.writes l) → Rel Z E N w0 Ow (fun n => S n ∨ n = i + 1) D g' G' a' w' → next a' w') : o.wpIn F n P a w next Qp := by
  have hM := hE.spec2 f0 l0 Sp hsp
  simp only [call2Q, Q.run_bind, Option.bind_eq_some_iff] at hp
  obtain ⟨q, hq, hp⟩ := hp
  obtain ⟨s, m, ws⟩ := q
  dsimp only at hp
  split at hp
  · rename_i hok
    simp only [Bool.and_eq_true] at hok
    obtain ⟨⟨⟨⟨⟨hdis, hnames⟩, hown⟩, hres⟩, hnp⟩, hheld⟩ := hok
    have hnp := Nat.eq_of_beq_eq_true hnp
    simp only [namesOk, Bool.and_eq_true] at hnames
    obtain ⟨hlen5, hnames⟩ := hnames
    have hlen5 := Nat.le_of_ble_eq_true hlen5
    have hnm : ∀ b c, look m b = some c → (∃ b' ∈ outBoxes Sp.pin, b' = b) ∧ (∃ b' ∈ outBoxes Sp.pout, b' = b) ∧ 50000 ≤ b ∧ b < 100000 := fun b c hl => by
      have := List.all_eq_true.1 hnames _ (look_mem hl)
      simp only [Bool.and_eq_true, List.any_eq_true] at this
      obtain ⟨⟨⟨⟨b1, h1, e1⟩, ⟨b2, h2, e2⟩⟩, h3⟩, h4⟩ := this
      exact ⟨⟨b1, h1, Nat.eq_of_beq_eq_true e1⟩, ⟨b2, h2, Nat.eq_of_beq_eq_true e2⟩, Nat.le_of_ble_eq_true h3, by rw [Nat.blt_eq] at h4; exact h4⟩
    simp only [Q.run_bind, Option.bind_eq_some_iff] at hp
    obtain ⟨W, hW, hp⟩ := hp
    obtain ⟨d, hd⟩ : ∃ d, d = o.dst.getD 0 := ⟨_, rfl⟩
    obtain ⟨ov, hov⟩ : ∃ ov, ov = (Sp.f s).getD (Tup.zero Sp.pout) := ⟨_, rfl⟩
    rw [← hd] at hW hdis hheld
    rw [← hov] at hp hW hres
    obtain ⟨hmi, _, hfz, hent⟩ := inQ_spec h hg hq (fun b b' c hb => by simp [look] at hb)
    have hbxs := inQ_boxes hq
    obtain ⟨G1, r1, r2, r3, r4, r5, r6⟩ := freezeAll h hfz
    have hFz : Frozen Z w g G ws G1 := ⟨r2, r3, r4, r5, r6⟩
    -- the callee's relation
    have hcal := r1.callee 0 (m := m) hmi (fun b c hl => (hnm b c hl).2.2) (gc := St.get (mkSt Sp.pin s)) (args := args) (by omega)
      (fun j => by
        rcases hent (.slot j) with h1 | ⟨x, v, m1, k, r, h1, h2, h3, h4, h5, h6, h7⟩
        · rw [h1]; trivial
        · rw [h7]; exact inArg_val h hg hFz (hargs j x h1) h2 h3 h4 h5 h6)
      (fun j q => hent (.comp j q))
      (fun b => by
        rcases hent (.box b) with h1 | ⟨c, e, k, h1, h2, h3⟩
        · exact .inl h1
        · exact .inr ⟨c, e, k, h1, hFz.bx h2, h3⟩)
      (fun b c hl => by
        obtain ⟨b', h1, rfl⟩ := (hnm b c hl).1
        exact hbxs b' h1)
      (fun b j => by
        rcases hent (.cell b j) with h1 | ⟨c, m1, k, r, h1, h2, h3, h4, h5, h6, h7⟩
        · exact .inl h1
        · refine .inr ⟨c, h1, ?_⟩
          rw [h6]
          exact inCell_conv hfz hFz rfl h2 h3 h4 h5 (fun e t hk => by subst hk; exact ownKept_spec hown h7 h1))
    obtain ⟨gc, hgc⟩ : ∃ gc, gc = St.get (mkSt Sp.pin s) := ⟨_, rfl⟩
    rw [← hgc] at hcal
    -- the call, and what comes back
    have hgo : ∀ (hso : Sp.f s = some ov) {rl : Loc → Option Nat} {R : List (Loc × AV)},
        f.writes = ws ++ W ++ R →
        (∀ l j, rl l = some j → j < nres Sp.pout ∧ ∃ n, o.dst = some n ∧ (l = .slot n ∨ ∃ i, l = .comp n i)) →
        (∀ l l' j, rl l = some j → rl l' = some j → l = l') →
        (∀ (g0 : Mem) l j, rl l = some j → g0.sets R l = outAV m d (i + 1) (St.get (mkSt Sp.pout ov) (.slot j))) →
        (∀ (g0 : Mem) l, (∀ n, o.dst = some n → l ≠ .slot n) → rl l = none → g0.sets R l = g0 l) →
        (∀ vs : List Value, vs.length = nres Sp.pout → ∀ n, o.dst = some n → (rl (.slot n) = some 0 ∧ retVal vs = vs.getD 0 undef) ∨ (rl (.slot n) = none ∧ ((∀ g0 : Mem, g0.sets R (.slot n) = .dead) ∨ ((∀ g0 : Mem, g0.sets R (.slot n) = .tup (nres Sp.pout)) ∧ retVal vs = .tuple vs.toArray ∧ ∀ i, i < nres Sp.pout → rl (.comp n i) = some i)))) →
        o.wpIn F n P a w next Qp := by
      intro hso rl R hfw hrl1 hrl2 hRr hRo hRd
      refine ⟨fun f _ => hF f, ?_⟩
      rw [hrun]
      have hc := hM.calls (calleeZ Z m gc G1 w) w (calleeOw m gc G1) (calleeG m gc G1) args s ov hso rfl (fun b gb hb => by
        simp only [calleeOw, Option.bind_eq_some_iff] at hb
        obtain ⟨c, h1, _⟩ := hb
        exact (hnm b c h1).2.2.1) (by omega) (by rw [← hgc]; exact hcal)
      refine ⟨fun hh => (by rw [hFP.depth] at hh; cases hh), hFP.calls (hc.mono ?_)⟩
      rintro e w' ⟨vs, Gp, rfl, hvl, hpost⟩
      obtain ⟨gp, hgp⟩ : ∃ gp, gp = St.get (mkSt Sp.pout ov) := ⟨_, rfl⟩
      rw [← hgp] at hpost
      obtain ⟨hB1, hB2⟩ := outBoxesQ_some hW
      have hmem : ∀ {b}, gp (.box b) ≠ .dead → b ∈ outBoxes Sp.pout := fun hb => by rw [hgp] at hb; exact outBoxes_get hb
      have hshape : ∀ b ∈ outBoxes Sp.pout, ∃ wsb, (outBox m d (i + 1) (mkSt Sp.pout ov) Sp.pout b).run g = some wsb ∧ ∀ p ∈ wsb, p ∈ W := hB1
      have hWp : ∀ p ∈ W, ∃ b ∈ outBoxes Sp.pout, (p.1 = .box (backN m d b) ∧ p.2 = gp (.box b)) ∨ ∃ j, p.1 = .cell (backN m d b) j ∧ p.2 = outAV m d (i + 1) (gp (.cell b j)) := fun p hp => by
        obtain ⟨b, hb, wsb, h1, h2⟩ := hB2 p hp
        refine ⟨b, hb, ?_⟩
        rcases outBox_some h1 with ⟨c, e, k, os, k1, k2, k3, k4, k5, rfl⟩ | ⟨e, k, k1, k2, k3, rfl⟩
        · obtain ⟨j, _, rfl⟩ := List.mem_map.1 h2
          exact .inr ⟨j, by simp [backN, k1], by rw [hgp]⟩
        · rcases List.mem_cons.1 h2 with rfl | h2
          · exact .inl ⟨rfl, by rw [hgp, k3]⟩
          · obtain ⟨j, _, rfl⟩ := List.mem_map.1 h2
            exact .inr ⟨j, rfl, by rw [hgp]⟩
      have hsets : ∀ l, g.sets f.writes l = ((g.sets ws).sets W).sets R l := fun l => by rw [hfw, Mem.sets_append, Mem.sets_append]
      have hRbc : ∀ (g0 : Mem) l, (∀ n, l ≠ .slot n) → (∀ n i, l ≠ .comp n i) → g0.sets R l = g0 l := fun g0 l h1 h2 => hRo g0 l (fun n _ => h1 n) (by
        cases hr : rl l with
        | none => rfl
        | some j =>
          obtain ⟨_, n, _, e | ⟨i, e⟩⟩ := hrl1 l j hr
          · exact absurd e (h1 n)
          · exact absurd e (h2 n i))
      have hinj := distinct_inj hdis
      have hdead1 : ∀ l, g l = .dead → g.sets ws l = .dead := fun l hl => by rw [r4 l (by rw [hl]; simp)]; exact hl
      obtain ⟨G2, hrel⟩ := r1.merge (m := m) hmi (gc := gc) (gp := gp) (Gp := Gp) (vs := vs) (d := d) (st' := i + 1) (bs := outBoxes Sp.pout) (dst := o.dst) (rl := rl) (g2 := g.sets f.writes) (a' := a.put o.dst (retVal vs)) hpost (fun b c hl => (hnm b c hl).2.2) hfr hinj (fun b hb => hmem hb)
        (fun b c hl => by
          obtain ⟨b', h1, rfl⟩ := (hnm b c hl).2.1
          refine ⟨h1, ?_⟩
          obtain ⟨wsb, h2, _⟩ := hshape b' h1
          rcases outBox_some h2 with ⟨c', e, k, os, k1, k2, k3, _⟩ | ⟨e, k, k1, _⟩
          · rw [hl] at k1; cases k1
            exact ⟨e, k, hFz.bx k2, by rw [hgp]; exact k3⟩
          · rw [hl] at k1; cases k1)
        (fun b hb hl => by
          obtain ⟨wsb, h2, _⟩ := hshape b hb
          rcases outBox_some h2 with ⟨c', e, k, os, k1, _⟩ | ⟨e, k, k1, k2, _⟩
          · rw [hl] at k1; cases k1
          · exact hdead1 _ k2)
        (fun b hb hl => by
          exact newOk_none hl (List.all_eq_true.1 hheld b hb))
        (fun b c j k t x hl hx => by
          obtain ⟨b', h1, rfl⟩ := (hnm b c hl).2.1
          obtain ⟨wsb, h2, _⟩ := hshape b' h1
          rcases outBox_some h2 with ⟨c', e, k', os, k1, k2, k3, k4, k5, _⟩ | ⟨e, k', k1, _⟩
          · rw [hl] at k1; cases k1
            have hj : j ∈ outOffs b' Sp.pout := outOffs_get (s := ov) (by rw [← hgp, hx]; simp)
            obtain ⟨x', h3⟩ := arrsQ_some k5 j hj k t x (by rw [← hgp]; exact hx)
            exact ⟨x', by rw [r4 _ (by rw [h3]; simp)]; exact h3⟩
          · rw [hl] at k1; cases k1)
        (fun b hb => by
          rw [hsets, hRbc _ _ (by simp) (by simp)]
          rcases sets_get (ws := W) (g := g.sets ws) (l := .box (backN m d b)) with ⟨h1, h2⟩ | ⟨p, h1, h2, h3⟩
          · obtain ⟨wsb, h4, h5⟩ := hshape b hb
            rcases outBox_some h4 with ⟨c', e, k, os, k1, k2, k3, _⟩ | ⟨e, k, k1, k2, k3, rfl⟩
            · rw [h1, show backN m d b = c' by simp only [backN, k1], hFz.bx k2, hgp, k3]
            · exact absurd rfl (h2 _ (h5 _ (List.mem_cons_self ..)))
          · obtain ⟨b', hb', ⟨k1, k2⟩ | ⟨j, k1, _⟩⟩ := hWp p h1
            · rw [h2] at k1
              injection k1 with k3
              have := hinj b' hb' b hb k3.symm
              subst this
              rw [h3, k2]
            · rw [h2] at k1; cases k1)
        (fun b hb j => by
          rw [hsets, hRbc _ _ (by simp) (by simp)]
          rcases sets_get (ws := W) (g := g.sets ws) (l := .cell (backN m d b) j) with ⟨h1, h2⟩ | ⟨p, h1, h2, h3⟩
          · obtain ⟨wsb, h4, h5⟩ := hshape b hb
            have hout : gp (.cell b j) = .dead := Classical.byContradiction fun hne => by
              have hj : j ∈ outOffs b Sp.pout := outOffs_get (s := ov) (by rw [← hgp]; exact hne)
              rcases outBox_some h4 with ⟨c', e, k, os, k1, k2, k3, k4, k5, rfl⟩ | ⟨e, k, k1, k2, k3, rfl⟩
              · exact h2 _ (h5 _ (List.mem_map.2 ⟨j, List.mem_append.2 (.inr hj), rfl⟩)) (by simp [backN, k1])
              · exact h2 _ (h5 _ (List.mem_cons_of_mem _ (List.mem_map.2 ⟨j, hj, rfl⟩))) rfl
            rw [h1, hout]
            refine Classical.byContradiction fun hne => ?_
            have hgne : g (.cell (backN m d b) j) ≠ .dead := fun e => hne (hdead1 _ e)
            rcases outBox_some h4 with ⟨c', e, k, os, k1, k2, k3, k4, k5, rfl⟩ | ⟨e, k, k1, k2, k3, rfl⟩
            · have hcb : backN m d b = c' := by simp only [backN, k1]
              rw [hcb] at hgne
              obtain ⟨e', n', gb, cur, q1, q2, q3, q4⟩ := h.cells c' j hgne
              rw [k2] at q1; cases q1
              obtain ⟨gb', cur', z1, z2, z3⟩ := h.boxes c' e k k2
              rw [q2] at z1; cases z1
              rw [q3] at z2; cases z2
              have hjn : j ≤ k := by
                generalize g (.cell c' j) = v at q4 hgne
                cases v <;> first | exact absurd rfl hgne | (have := q4.1; omega)
              have := offsQ_spec h k4 (by omega) j (Nat.zero_le _) hjn hgne
              exact h2 _ (h5 _ (List.mem_map.2 ⟨j, List.mem_append.2 (.inl this), rfl⟩)) (by simp [backN, k1])
            · obtain ⟨e', n', gb, cur, q1, _⟩ := h.cells _ j hgne
              rw [k2] at q1; cases q1
          · obtain ⟨b', hb', ⟨k1, _⟩ | ⟨j', k1, k2⟩⟩ := hWp p h1
            · rw [h2] at k1; cases k1
            · rw [h2] at k1
              injection k1 with k3 k4
              subst k4
              have := hinj b' hb' b hb k3.symm
              subst this
              rw [h3, k2])
        (fun l j hr => by rw [hsets, hRr _ l j hr, ← hgp])
        (fun l h1 h2 h3 => by
          rw [hsets, hRo _ l h1 h2]
          refine sets_other (fun p hp he => ?_)
          obtain ⟨b', hb', ⟨k1, _⟩ | ⟨j', k1, _⟩⟩ := hWp p hp
          · exact (h3 b' hb').1 (by rw [← he]; exact k1)
          · exact (h3 b' hb').2 j' (by rw [← he]; exact k1))
        (fun l j hr => by rw [hvl]; exact hrl1 l j hr) hrl2 (put_defers _ _ _) (put_size _ _ _)
        (fun j hj => by
          cases hdd : o.dst with
          | none => rfl
          | some d' => exact put_tmps_ne a _ (fun e => hj (by rw [hdd, e])))
        hdst
        (fun j hj => by
          have hv : (a.put o.dst (retVal vs)).tmps.getD j undef = retVal vs := by rw [hj]; exact put_tmps a j _ (by rw [h.tmps]; exact (hdst j hj).1)
          rcases hRd vs hvl j hj with ⟨k1, k2⟩ | ⟨k1, k2 | ⟨k2, k3, k4⟩⟩
          · exact .inl ⟨k1, by rw [hv]; exact k2⟩
          · exact .inr ⟨k1, .inl (by rw [hsets]; exact k2 _)⟩
          · exact .inr ⟨k1, .inr ⟨by rw [hsets, hvl]; exact k2 _, by rw [hv]; exact k3, fun i hi => k4 i (by omega)⟩⟩)
      exact hn _ _ _ _ (fun _ => rfl) hrel
    have hsome : ∀ {b : Bool}, b = (Sp.f s).isSome → b = true → Sp.f s = some ov := fun {b} e hb => by
      rw [e] at hb
      obtain ⟨o', ho'⟩ := Option.isSome_iff_exists.1 hb
      rw [hov, ho']; rfl
    split at hp
    · -- one result
      rename_i d' hd' hk
      simp only [Q.run, Option.some.injEq] at hp
      subst hp
      have hdd : d = d' := by rw [hd, hd']; rfl
      subst hdd
      refine hgo (hsome rfl ht) (rl := fun l => if l = .slot d then some 0 else none) (R := [(.slot d, outAV m d (i + 1) (St.get (mkSt Sp.pout ov) (.slot 0)))]) rfl ?_ ?_ ?_ ?_ ?_
      · intro l j hr
        split at hr
        · rename_i e; cases hr; exact ⟨by omega, d, hd', .inl e⟩
        · cases hr
      · intro l l' j hr hr'
        split at hr
        · split at hr'
          · rename_i e e'; rw [e, e']
          · cases hr'
        · cases hr
      · intro g0 l j hr
        split at hr
        · rename_i e; cases hr; subst e; simp [Mem.sets, Mem.upd_apply]
        · cases hr
      · intro g0 l h1 h2
        simp only [Mem.sets, Mem.upd_apply]
        rw [if_neg (h1 d hd')]
      · intro vs hvl j hj
        rw [hd'] at hj; cases hj
        left
        refine ⟨by simp, ?_⟩
        match vs, hvl with
        | [v], _ => rfl
        | [], hvl => simp at hvl; omega
        | _ :: _ :: _, hvl => simp at hvl; omega
    · -- no result
      rename_i d' hd' hk
      simp only [Q.run, Option.some.injEq] at hp
      subst hp
      have hdd : d = d' := by rw [hd, hd']; rfl
      subst hdd
      refine hgo (hsome rfl ht) (rl := fun _ => none) (R := [(.slot d, .dead)]) rfl ?_ ?_ ?_ ?_ ?_
      · intro l j hr; cases hr
      · intro l l' j hr; cases hr
      · intro g0 l j hr; cases hr
      · intro g0 l h1 h2
        simp only [Mem.sets, Mem.upd_apply]
        rw [if_neg (h1 d hd')]
      · intro vs hvl j hj
        rw [hd'] at hj; cases hj
        exact .inr ⟨rfl, .inl (fun g0 => by simp [Mem.sets, Mem.upd_apply])⟩
    · -- several results
      rename_i k d' hd' hn1 hn0
      simp only [Q.run, Option.some.injEq] at hp
      subst hp
      have hdd : d = d' := by rw [hd, hd']; rfl
      subst hdd
      refine hgo (hsome rfl ht) (rl := fun l => match l with | .comp n j => if n = d ∧ j < nres Sp.pout then some j else none | _ => none) (R := outRes m d (i + 1) (mkSt Sp.pout ov) 0 (nres Sp.pout) ++ [(.slot d, .tup (nres Sp.pout))]) (by simp [List.append_assoc]) ?_ ?_ ?_ ?_ ?_
      · intro l j hr
        cases l with
        | comp n i =>
          simp only [] at hr
          split at hr
          · rename_i e; cases hr; exact ⟨e.2, d, hd', .inr ⟨_, congrArg (Loc.comp · _) e.1⟩⟩
          · cases hr
        | _ => cases hr
      · intro l l' j hr hr'
        cases l with
        | comp n i =>
          cases l' with
          | comp n' i' =>
            simp only [] at hr hr'
            split at hr
            · split at hr'
              · rename_i e e'; cases hr; cases hr'; rw [e.1, e'.1]
              · cases hr'
            · cases hr
          | _ => cases hr'
        | _ => cases hr
      · intro g0 l j hr
        cases l with
        | comp n i =>
          simp only [] at hr
          split at hr
          · rename_i e; cases hr
            rw [Mem.sets_append]
            simp only [Mem.sets, Mem.upd_apply]
            rw [if_neg (by simp), outRes_sets, e.1]
            simp only []
            rw [if_pos ⟨trivial, Nat.zero_le _, by omega⟩]
          · cases hr
        | _ => cases hr
      · intro g0 l h1 h2
        rw [Mem.sets_append]
        simp only [Mem.sets, Mem.upd_apply]
        rw [if_neg (h1 d hd'), outRes_sets]
        cases l with
        | comp n i =>
          simp only [] at h2 ⊢
          rw [if_neg (fun e => by rw [if_pos ⟨e.1, by omega⟩] at h2; cases h2)]
        | _ => rfl
      · intro vs hvl j hj
        rw [hd'] at hj; cases hj
        refine .inr ⟨rfl, .inr ⟨fun g0 => by rw [Mem.sets_append]; simp [Mem.sets, Mem.upd_apply], ?_, fun i hi => by simp [hi]⟩⟩
        match vs, hvl with
        | [], hvl => exact absurd hvl.symm hn0
        | [_], hvl => exact absurd hvl.symm hn1
        | _ :: _ :: _, _ => rfl
    · have hd' : o.dst = none := by assumption
      simp only [Q.run, Option.some.injEq] at hp
      subst hp
      refine hgo (hsome rfl ht) (rl := fun _ => none) (R := []) (by simp) ?_ ?_ ?_ ?_ ?_
      · intro l j hr; cases hr
      · intro l l' j hr; cases hr
      · intro g0 l j hr; cases hr
      · intro g0 l h1 h2; rfl
      · intro vs hvl j hj; rw [hd'] at hj; cases hj
  · simp [Q.run] at hp
end
end Go.Ev

namespace Go.Ev
open Go.RowKit
section
variable {Z : ZS} {E : Env} {N : Nat} {w0 : World} {Ow : OwS} {S D : Nat → Prop} {g : Mem} {G : Ghost} {a a' : Act} {w w' : World} {P : Program} {F : Fence} {n : Nat}

theorem sound_callTwo {ctx : Ctx} {i : Nat} {o : Oper} {f0 : Nat} {xs : Array Operand} {Ts : Array Nat} (hE : EnvOk P E) (hsp : E.spec f0 = none) (hin : E.inpl f0 = none) (hbl : E.bld f0 = none) (ho : o.op = .call { callee := .value (.func f0), args := xs, argTypes := Ts }) : Sound E P ctx i o := by
  intro Z N w0 Ow S D g G a w F n f next Qp h hg hp ht hfr hdst hF hS0 hn
  obtain ⟨hFP, _⟩ := hS0
  simp only [plan, ho, hsp, hin, hbl, Q.run_bind, Option.bind_eq_some_iff] at hp
  obtain ⟨l, _, Sp, hSp, hp⟩ := hp
  replace hSp := ofO_some hSp
  refine sound_call2 hE hSp h hg hp ht hfr hdst hF hFP (args := xs.toList.map a.eval) (by simp) (fun j x hx => ?_) ?_ hn
  · simp only [List.getElem?_map, Option.map_eq_some_iff] at hx
    obtain ⟨y, hy, rfl⟩ := hx
    simp [ArgOk, List.getD_eq_getElem?_getD, hy]
  · have hM := hE.spec2 f0 l Sp hSp
    have : (execOp a.eval o).run P w = .ok (.enter f0 (xs.map a.eval)) w := by
      simp only [execOp, ho, resolve, Act.eval, Deferred.ofValue, invoke, Sem.run_bind, Sem.run_pure, Result.andThen_ok, Array.append_empty, Array.empty_append, hM.enter]
    rw [show (xs.toList.map a.eval).toArray = xs.map a.eval from by rw [← Array.toList_map, Array.toArray_toList]]
    cases hr : F.round with
    | none => rw [Oper.semAt_none]; exact this
    | some l => rw [Oper.semAt_some l a.eval o (by rw [ho]; simp)]; exact this

theorem sound_callB {ctx : Ctx} {i : Nat} {o : Oper} {t0 f0 : Nat} {u0 : Ty} {x0 : Option u0.den} {xs : Array Operand} {Ts : Array Nat} (hE : EnvOk P E) (ho : o.op = .call { callee := .value (.tmp t0), args := xs, argTypes := Ts })
    {f : Eff} {next : Act → World → Prop} {Qp : Exit → Act → World → Prop} (h : Rel Z E N w0 Ow S D g G a w) (hg : (gcond ctx).run g = some true) (hT : ∃ cs, RV (free Z G w) w (.bnd f0 u0) x0 cs ∧ a.eval (.tmp t0) = valOf (.bnd f0 u0) cs)
    (hp : (callBQ E ctx i o.dst f0 u0 x0 xs.toList Ts.toList).run g = some f) (ht : f.test = true) (hfr : ¬ S (i + 1)) (hdst : ∀ d, o.dst = some d → d < N ∧ ¬ D d) (hF : ∀ f, F.fn f) (hFP : Plain P F)
    (hn : ∀ a' w' g' G', (∀ l, g' l = g.sets f.writes l) → Rel Z E N w0 Ow (fun n => S n ∨ n = i + 1) D g' G' a' w' → next a' w') : o.wpIn F n P a w next Qp := by
  simp only [callBQ, Q.run_bind, Option.bind_eq_some_iff] at hp
  obtain ⟨Sp, hSp, hp⟩ := hp
  replace hSp := ofO_some hSp
  have hM := hE.spec f0 Sp hSp
  split at hp
  case h_2 => simp [Q.run] at hp
  rename_i t1 ts hps
  split at hp
  case isFalse => simp [Q.run] at hp
  rename_i htt
  subst htt
  simp only [Q.run_bind, Option.bind_eq_some_iff] at hp
  obtain ⟨r, hr, hp⟩ := hp
  obtain ⟨ds, ws⟩ := r
  have hws := args_ws h hg hr
  obtain ⟨G1, r1, r2, r3, r4, r5, r6⟩ := freezeAll h hws
  obtain ⟨frz, hfrz⟩ : ∃ b, b = !Sp.results.all RK.flat := ⟨_, rfl⟩
  rw [← hfrz] at hr
  let Pr : Nat → Prop := fun b => if frz then free Z G1 w b else b < w.heap.size
  have hPr : ∀ b, free Z G w b → Pr b := fun b hb => by
    simp only [Pr]; cases frz
    · exact hb.1
    · exact r2 b hb
  have hPl : ∀ b, Pr b → b < w.heap.size := fun b hb => by
    simp only [Pr] at hb; cases frz
    · exact hb
    · exact hb.1
  obtain ⟨ha1, ha2⟩ := args_val h hg hPr (fun hz l b hb => by subst hz; exact (h.bnd l b hb).1) hr (fun p hp' b hb => by
    simp only [Pr]; cases frz
    · exact (h.bnd _ b hb).1
    · exact r3 p hp' b hb)
  -- the call
  have hop : ∀ (pre : (x0.isSome && Sp.pre (⟨t1, x0.getD t1.zero⟩ :: ds)) = true) (K : ∀ w' vs, w.grownBy w' none → vs.length = Sp.results.length →
      (∀ (j : Nat) k, Sp.results[j]? = some k → ResR (fun b => (free Z G1 w b ∨ (w.heap.size ≤ b ∧ b < w'.heap.size)) ∧ ∀ (q : Nat) e t, Sp.results[q]? = some (.own e t) → (vs.getD q undef).ownBlock ≠ some b) w.heap.size w' ((Sp.val (⟨t1, x0.getD t1.zero⟩ :: ds)).getD j ⟨.unit, ()⟩) (vs.getD j undef) k) →
      (∀ (p q : Nat) e t e' t' b, Sp.results[p]? = some (.own e t) → Sp.results[q]? = some (.own e' t') → (vs.getD p undef).ownBlock = some b → (vs.getD q undef).ownBlock = some b → p = q) →
      next (a.put o.dst (retVal vs)) w'), o.wpIn F n P a w next Qp := by
    intro pre K
    refine ⟨fun f _ => hF f, ?_⟩
    simp only [Bool.and_eq_true] at pre
    obtain ⟨hsome, pre⟩ := pre
    obtain ⟨y, rfl⟩ := Option.isSome_iff_exists.1 hsome
    obtain ⟨cs, ⟨c, hc1, rfl⟩, hev⟩ := hT
    have hev : a.eval (.tmp t0) = .func (.func f0) #[valOf t1 c] #[] := hev
    have hrun : (o.semAt F.round a.eval).run P w = .ok (.enter f0 (#[valOf t1 c] ++ xs.map a.eval)) w := by
      have : (execOp a.eval o).run P w = .ok (.enter f0 (#[valOf t1 c] ++ xs.map a.eval)) w := by
        simp only [execOp, ho, resolve, hev, Deferred.ofValue, invoke, Sem.run_bind, Sem.run_pure, Result.andThen_ok, Array.append_empty, hM.enter]
      cases hr : F.round with
      | none => rw [Oper.semAt_none]; exact this
      | some l => rw [Oper.semAt_some l a.eval o (by rw [ho]; simp)]; exact this
    rw [hrun]
    have hc := hM.calls w Pr (⟨t1, y⟩ :: ds) (valOf t1 c :: xs.toList.map a.eval) hPl (h.globs' hPr) (by rw [hps, List.map_cons, ha2]) ⟨⟨c, hc1.keep (fun _ _ => rfl) hPr, rfl⟩, ha1⟩ pre
    rw [show (valOf t1 c :: xs.toList.map a.eval).toArray = #[valOf t1 c] ++ xs.map a.eval from by apply Array.ext'; simp] at hc
    refine ⟨fun hh => (by rw [hFP.depth] at hh; cases hh), hFP.calls (hc.mono ?_)⟩
    rintro e w' ⟨vs, rfl, hgr, hres⟩
    refine K w' vs hgr hres.len (fun j k hk => (hres.r j k hk).mono ?_) hres.apart
    cases hfz : frz with
    | true =>
      refine .inl (fun b hb => ⟨?_, hb.2⟩)
      have := hb.1
      simp only [Pr, hfz, if_true] at this
      exact this
    | false =>
      right
      rw [hfz] at hfrz
      have hall : Sp.results.all RK.flat = true := by simpa using hfrz
      exact List.all_eq_true.1 hall k (List.mem_of_getElem? hk)
  -- one result, told
  have hfree : ∀ {w' : World} {vs : List Value}, w.grownBy w' none → ∀ b, ((free Z G1 w b ∨ (w.heap.size ≤ b ∧ b < w'.heap.size)) ∧ ∀ (q : Nat) e t, Sp.results[q]? = some (.own e t) → (vs.getD q undef).ownBlock ≠ some b) → free Z G1 w' b := by
    intro w' vs hgr b hb
    rcases hb.1 with h1 | h1
    · exact ⟨Nat.lt_of_lt_of_le h1.1 hgr.size, h1.2, h1.3⟩
    · exact ⟨h1.2, fun l e => by have := (r1.bnd l b e).1; omega, h.zow b (.inr (Nat.le_trans h.size h1.1))⟩
  split at hp
  · rename_i d k hd hks
    simp only [Q.run, Option.some.injEq] at hp
    subst hp
    refine hop ht (fun w' vs hgr hlen hres hap => ?_)
    rw [hks] at hlen
    match vs, hlen with
    | [v], _ =>
      have h0 := hres 0 k (by rw [hks]; rfl)
      have e0 : (Sp.val (⟨t1, x0.getD t1.zero⟩ :: ds)).getD 0 ⟨.unit, ()⟩ = (Sp.val (⟨t1, x0.getD t1.zero⟩ :: ds)).headD ⟨.unit, ()⟩ := by cases Sp.val (⟨t1, x0.getD t1.zero⟩ :: ds) <;> rfl
      rw [e0, show ([v] : List Value).getD 0 undef = v from rfl] at h0
      have hg1 := r1.grow hgr
      cases k with
      | dat t =>
        obtain ⟨cs, h1, h2⟩ := h0
        exact fillAfter (v := .dat t _) hg1 hdst hd rfl trivial (by simp) ⟨cs, h1.keep (fun _ _ => rfl) (hfree hgr), h2⟩ hn
      | own e t =>
        obtain ⟨h1, h2⟩ := h0
        cases hgd : (!ctx.isEmpty) with
        | true =>
          simp only [RK.av, hgd, if_true] at hn
          exact fillAfter (v := .dat (.list t) _) hg1 hdst hd rfl trivial (by simp) ⟨[v], h1.frozen (hfree hgr) (fun b hb => ⟨(h2 b hb).2, fun l e => by have := (r1.bnd l b e).1; have := (h2 b hb).1; omega, h.zow b (.inr (Nat.le_trans h.size (h2 b hb).1))⟩), by simp [valOf, Ty.isAgg, retVal]⟩ hn
        | false =>
          simp only [RK.av, hgd, Bool.false_eq_true, if_false] at hn
          obtain ⟨hdN, hdD⟩ := hdst d hd
          obtain ⟨hz, cells, k1, k2, k3⟩ := h1
          obtain ⟨g2, G2, k4, k5⟩ := r1.putOwn' (a' := a.put (some d) v) hdN none (i + 1) hfr hdD (by simp) hgr (fun b hb => .inr (h2 b hb)) hz (k1.imp fun _ _ hc => hc.keep (fun _ _ => rfl) (fun b hb => ⟨hb.1, hb.2 0 e t (by rw [hks]; rfl)⟩)) k2
            (by rw [put_defers]; exact h.defers) (by rw [put_size]; exact h.tmps) (put_tmps a d v (by rw [h.tmps]; exact hdN)) (fun _ hn => put_tmps_ne a v hn)
          rw [show o.dst = some d from hd]
          refine hn _ _ _ _ (fun l => ?_) k5
          rw [k4, Mem.sets_append]
          simp only [Mem.sets, Mem.upd_apply]
          simp
  · simp [Q.run] at hp

theorem sound_callValue {ctx : Ctx} {i : Nat} {o : Oper} {t : Nat} {xs : Array Operand} {Ts : Array Nat} (hE : EnvOk P E) (ho : o.op = .call { callee := .value (.tmp t), args := xs, argTypes := Ts }) : Sound E P ctx i o := by
  intro Z N w0 Ow S D g G a w F n f next Qp h hg hp ht hfr hdst hF hS0 hn
  obtain ⟨hFP, _⟩ := hS0
  simp only [plan, ho, Q.run_bind, Option.bind_eq_some_iff] at hp
  obtain ⟨v, hv, hp⟩ := hp
  have hT := rd_told h hg hv
  split at hp
  · rename_i f0 cs
    simp only [Q.run_bind, Option.bind_eq_some_iff] at hp
    obtain ⟨l, _, Sp, hSp, hp⟩ := hp
    replace hSp := ofO_some hSp
    obtain ⟨vs, hv1, hv2, hv3⟩ := hT.r (.slot 0) (by simp)
    refine sound_call2 hE hSp h hg hp ht hfr hdst hF hFP (args := xs.toList.map a.eval ++ vs.toList) (by simp [hv2]) (fun j x hx => ?_) ?_ hn
    · by_cases hj : j < xs.size
      · rw [List.getElem?_append_left (by simpa using hj)] at hx
        simp only [List.getElem?_map, Option.map_eq_some_iff] at hx
        obtain ⟨y, hy, rfl⟩ := hx
        show (xs.toList.map a.eval ++ vs.toList).getD j undef = a.eval y
        rw [List.getD_eq_getElem?_getD, List.getElem?_append_left (by simpa using hj), List.getElem?_map, hy]
        rfl
      · rw [List.getElem?_append_right (by simpa using hj)] at hx
        simp only [List.getElem?_map, Option.map_eq_some_iff, List.length_map, Array.length_toList] at hx
        obtain ⟨c, hc, rfl⟩ := hx
        obtain ⟨e, n, gb, h1, h2, h3⟩ := hv3 _ c hc
        refine ⟨e, n, gb, h1, h2, ?_⟩
        rw [List.getD_eq_getElem?_getD, List.getElem?_append_right (by simpa using hj)]
        simpa [Array.getD_eq_getD_getElem?] using h3
    · have hM := hE.spec2 f0 l Sp hSp
      have : (execOp a.eval o).run P w = .ok (.enter f0 (xs.map a.eval ++ vs)) w := by
        simp only [execOp, ho, resolve, hv1, Deferred.ofValue, invoke, Sem.run_bind, Sem.run_pure, Result.andThen_ok, Array.empty_append, hM.enter]
      rw [show (xs.toList.map a.eval ++ vs.toList).toArray = xs.map a.eval ++ vs from by apply Array.ext'; simp]
      cases hr : F.round with
      | none => rw [Oper.semAt_none]; exact this
      | some l => rw [Oper.semAt_some l a.eval o (by rw [ho]; simp)]; exact this
  · exact sound_callB hE ho h hg (hT.r (.slot 0) (by simp)) hp ht hfr hdst hF hFP hn
  · simp [Q.run] at hp

theorem capsQ_some (h : Rel Z E N w0 Ow S D g G a w) {ctx : Ctx} (hg : (gcond ctx).run g = some true) : ∀ {xs : List Operand} {l : List Nat}, (capsQ E ctx xs).run g = some l →
    xs.length = l.length ∧ ∀ (i b : Nat), l[i]? = some b → ∃ e n gb, g (.box b) = .bx e n ∧ G (.box b) = some gb ∧ (xs.map a.eval).getD i undef = .pointer (some ⟨gb, 0, none⟩)
  | [], l, hl => by simp [capsQ, Q.run] at hl; subst hl; simp
  | x :: r, l, hl => by
    simp only [capsQ, Q.run_bind, Option.bind_eq_some_iff] at hl
    obtain ⟨v, hv, hl⟩ := hl
    have hT := rd_told h hg hv
    split at hl
    · rename_i b
      simp only [Q.run_bind, Option.bind_eq_some_iff, Q.run, Option.some.injEq] at hl
      obtain ⟨l', hl', rfl⟩ := hl
      obtain ⟨k1, k2⟩ := capsQ_some h hg hl'
      refine ⟨by simp [k1], fun i b' hb' => ?_⟩
      cases i with
      | zero =>
        simp at hb'; subst hb'
        obtain ⟨e, n, gb, h1, h2, h3⟩ := hT.r (.slot 0) (by simp)
        exact ⟨e, n, gb, h1, h2, by simpa using h3⟩
      | succ i => simpa using k2 i b' (by simpa using hb')
    · simp [Q.run] at hl

theorem sound_makeFunc {ctx : Ctx} {i : Nat} {o : Oper} {f0 : Nat} {first caps : Array Operand} (ho : o.op = .makeFunc (.func f0) first caps) : Sound E P ctx i o := by
  intro Z N w0 Ow S D g G a w F n f next Qp h hg hp ht hfr hdst hF _ hn
  simp only [plan, ho] at hp
  split at hp
  · rename_i hfirst
    have hfirst : first = #[] := by simpa using hfirst
    subst hfirst
    simp only [Q.run_bind, Option.bind_eq_some_iff, Q.run, Option.some.injEq] at hp
    obtain ⟨d, hd, l, hl, rfl⟩ := hp
    replace hd := sureD_some hd
    obtain ⟨k1, k2⟩ := capsQ_some h hg hl
    refine wpIn_value hF (by rw [ho]; simp) (v := .func (.func f0) #[] (caps.map a.eval)) (w' := w) ?_ (fill1 (v := .fn f0 l) h hdst hd rfl trivial (by simp) ?_ hn)
    · simp [execOp, ho, Instr.makeFunc]
    · refine ⟨caps.map a.eval, rfl, by simpa using k1, fun j b hb => ?_⟩
      obtain ⟨e, n, gb, h1, h2, h3⟩ := k2 j b hb
      exact ⟨e, n, gb, h1, h2, by simpa [Array.getD_eq_getD_getElem?, List.getD_eq_getElem?_getD] using h3⟩
  · split at hp
    case isFalse => simp [Q.run] at hp
    rename_i hcaps
    have hcaps : caps = #[] := by simpa using hcaps
    subst hcaps
    split at hp
    case h_2 => simp [Q.run] at hp
    rename_i x hx
    simp only [Q.run_bind, Option.bind_eq_some_iff] at hp
    obtain ⟨d, hd, v, hv, hp⟩ := hp
    replace hd := sureD_some hd
    have hT := rd_told h hg hv
    split at hp
    case h_2 => simp [Q.run] at hp
    rename_i t y
    simp only [Q.run, Option.some.injEq] at hp
    subst hp
    obtain ⟨cs, h1, h2⟩ := hT.r (.slot 0) (by simp)
    refine wpIn_value hF (by rw [ho]; simp) (v := .func (.func f0) #[valOf t cs] #[]) (w' := w) ?_ (fill1 (v := .dat (.bnd f0 t) (some y)) h hdst hd rfl trivial (by simp) ⟨_, ⟨cs, h1, rfl⟩, rfl⟩ hn)
    have hf : first = #[x] := by apply Array.ext'; simpa using hx
    simp [execOp, ho, Instr.makeFunc, hf, h2]
end
end Go.Ev

namespace Go.Ev
open Go.RowKit
section
variable {Z : ZS} {E : Env} {N : Nat} {w0 : World} {Ow : OwS} {S S' D D' : Nat → Prop} {g g' : Mem} {G G' : Ghost} {a a' : Act} {w w' : World} {P : Program} {F : Fence} {n : Nat}

theorem sound_copy {ctx : Ctx} {i : Nat} {o : Oper} {xs : Array Operand} {Ts : Array Nat} (hE : TabOk P E.tab) (ho : o.op = .call { callee := .builtin .copy, args := xs, argTypes := Ts }) : Sound E P ctx i o := by
  intro Z N w0 Ow S D g G a w F n f next Qp h hg hp ht hfr hdst hF hS0 hn
  simp only [plan, ho, builtinQ] at hp
  split at hp
  · rename_i x y T U hx hTs
    obtain ⟨xs⟩ := xs
    obtain ⟨Ts⟩ := Ts
    simp only at hx hTs
    subst hx; subst hTs
    split at hp
    · rename_i hTU
      have := Nat.eq_of_beq_eq_true hTU
      subst this
      simp only [Q.run_bind, Option.bind_eq_some_iff, copyQ] at hp
      obtain ⟨d, hd, hp⟩ := hp
      replace hd := sureD_some hd
      split at hp
      · simp only [Q.run_bind, Option.bind_eq_some_iff] at hp
        obtain ⟨tt, htt, va, hva, vb, hvb, hp⟩ := hp
        replace htt := ofO_some htt
        have hTa := rd_told h hg hva
        have hTb := rd_told h hg hvb
        split at hp
        · rename_i c p k m1 c' p' k' m2
          simp only [Q.run] at hp
          split at hp
          · rename_i m t ys m' t' zs hcell hcell'
            split at hp
            · rename_i htt'
              subst htt'
              split at hp
              · rename_i hcnd
                obtain ⟨htl, hsz1, _⟩ := hcnd
                simp only [Q.run, Option.some.injEq] at hp
                subst hp
                simp only [Bool.and_eq_true, decide_eq_true_eq] at ht
                obtain ⟨ht1, ht2⟩ := ht
                obtain ⟨q, hq⟩ : ∃ q, q = min m2 m1 := ⟨_, rfl⟩
                rw [← hq] at ht1 ht2 hn
                obtain ⟨e1, n1, gb, cc, q1, q2, q3⟩ := hTa.r (.box 0) (by simp)
                obtain ⟨e2, n2, gb', cc', q1', q2', q3'⟩ := hTb.r (.box 0) (by simp)
                obtain ⟨e3, n3, gb3, cur, k1, k2, k3, k4⟩ := h.cells c p (by rw [hcell]; simp)
                rw [q1] at k1; cases k1
                rw [q2] at k2; cases k2
                rw [hcell] at k4
                obtain ⟨k5, k6, k7⟩ := k4
                obtain ⟨e4, n4, gb4, cur', l1, l2, l3, l4⟩ := h.cells c' p' (by rw [hcell']; simp)
                rw [q1'] at l1; cases l1
                rw [q2'] at l2; cases l2
                rw [hcell'] at l4
                obtain ⟨l5, l6, l7⟩ := l4
                have hA : (Ty.arr m t').sz = m := by simp [Ty.sz, hsz1]
                have hA' : (Ty.arr m' t').sz = m' := by simp [Ty.sz, hsz1]
                rw [hA] at k5 k7
                rw [hA'] at l5 l7
                have hR : ∀ x c, RV (free Z G w) w t' x c → c.length = 1 := fun x c hc => by rw [hc.len, hsz1]
                obtain ⟨Dy, hDy⟩ : ∃ Dy, Dy = (cur.toList.drop p).take m := ⟨_, rfl⟩
                obtain ⟨Dz, hDz⟩ : ∃ Dz, Dz = (cur'.toList.drop p').take m' := ⟨_, rfl⟩
                rw [← hDy] at k7
                rw [← hDz] at l7
                have hDyl : Dy.length = m := by rw [hDy]; simp; omega
                have hDzl : Dz.length = m' := by rw [hDz]; simp; omega
                obtain ⟨cs, hcs⟩ : ∃ cs, cs = (Dz.drop k').take q := ⟨_, rfl⟩
                have hcl : cs.length = q := by rw [hcs]; simp; omega
                have hrc : Rows (RV (free Z G w) w t') (List.take q (List.drop k' zs)) cs := by
                  have := (l7.drop hR k').take hR q
                  simpa [hcs] using this
                have hnew : Rows (RV (free Z G w) w t') (List.take k ys ++ List.take q (List.drop k' zs) ++ List.drop (k + q) ys) (Dy.take k ++ cs ++ Dy.drop (k + q)) := by
                  have h1 := k7.take hR k
                  have h2 := k7.drop hR (k + q)
                  simp only [Nat.mul_one] at h1 h2
                  exact (h1.append hrc).append h2
                have hone : ∀ v ∈ cs, v.oneCell' = true := fun v hv => by
                  have hm : v ∈ Dz := List.mem_of_mem_drop (List.mem_of_mem_take (hcs ▸ hv))
                  have hrv : RV (free Z G w) w (.arr m' t') zs Dz := ⟨l6, l7⟩
                  exact RV.one hrv v hm
                have hs := (hE.ty _ _ htt).shape
                obtain ⟨el, u1, _, _, _, _, _, u4⟩ := (htl ▸ hs : ShapeOk P E.tab T (.list t'))
                have hsize := elem_size u4
                rw [hsz1] at hsize
                have hrun := run_copy_row (P := P) w T T o.type el gb (p + k) m1 cc ⟨gb', p' + k', none⟩ m2 cc' cur e1 cs u1 hsize k3 (by rw [hcl, hq]) (fun j v hj => by
                  rw [add_plain, cell_of_row w gb' (p' + k' + j) cur' e2 (0, 0) l3]
                  rw [hcs, List.getElem?_take] at hj
                  split at hj
                  · rw [List.getElem?_drop, hDz, List.getElem?_take] at hj
                    split at hj
                    · rw [List.getElem?_drop, Array.getElem?_toList] at hj
                      rw [← hj]; congr 1; omega
                    · cases hj
                  · cases hj) (by rw [hcl]; omega) hone
                obtain ⟨cur2, hcur2⟩ : ∃ cur2, cur2 = (cur.toList.take (p + k) ++ cs ++ cur.toList.drop (p + k + cs.length)).toArray := ⟨_, rfl⟩
                rw [← hcur2] at hrun
                have hc2l : cur2.toList = cur.toList.take (p + k) ++ cs ++ cur.toList.drop (p + k + cs.length) := by rw [hcur2]
                have hsz2 : cur2.size = cur.size := by
                  have : cur2.toList.length = cur.toList.length := by rw [hc2l]; simp; omega
                  simpa using this
                have hwin := win_of_store cur.toList cs (c := p) (o := k) (m := m) (by rw [hcl]; omega) (by simp; omega)
                rw [← hc2l, ← hDy] at hwin
                rw [hcl] at hwin
                have hgrow : w.grownBy (w.setRow gb cur2) (some gb) := ⟨rfl, rfl, rfl, by simp, fun k hk hne => setRow_other w gb k _ (fun e => hne (by rw [e]))⟩
                obtain ⟨G2, s1, _⟩ := h.storeBox (cur' := cur2) q1 q2 k3 hgrow (setRow_heap w gb cur _ e1 _ k3) hsz2 (fun o' => o' = p) (g2 := g.upd (.cell c p) (.dat (.arr m t') (List.take k ys ++ List.take q (List.drop k' zs) ++ List.drop (k + q) ys))) (fun l hl => Mem.upd_ne _ _ (Ne.symm (hl p rfl))) (fun o' ho' => by
                  subst ho'
                  refine ⟨by rw [hcell]; simp, .inr ⟨.arr m t', _, Mem.upd_same _ _ _, by rw [hcell]; simp [leafLike], by rw [hsz2, hA]; exact k5, ?_⟩⟩
                  refine ⟨?_, ?_⟩
                  · have h9 : (List.drop k' zs).length = m' - k' := by rw [List.length_drop, l6]
                    have h8 : (List.take q (List.drop k' zs)).length = q := by rw [List.length_take, h9]; omega
                    have h7' : (List.take k ys).length = k := by rw [List.length_take, k6]; omega
                    have h6' : (List.drop (k + q) ys).length = m - (k + q) := by rw [List.length_drop, k6]
                    rw [List.length_append, List.length_append, h8, h7', h6']; omega
                  · rw [hA, hwin]; exact hnew) (fun j hj => by
                  have hj' := hj p rfl
                  rw [hcell] at hj'
                  simp only [AV.size, hA] at hj'
                  have := same_of_store cur.toList cs (o := p + k) (j := j) (by simp; omega) (by omega)
                  rw [← hc2l] at this
                  simpa using this)
                refine wpIn_value hF (by rw [ho]; simp) (v := goInt cs.length) ?_ (fill1 (v := .dat (.int .i64) ((q : Nat) : Int)) s1 hdst hd rfl trivial (by simp) ⟨[.int .i64 (q : Nat)], rfl, by rw [hcl]; rfl⟩ (fun a' w' g' G' hg' hR => hn a' w' g' G' (fun l => by rw [hg']; rfl) hR))
                simp only [execOp, ho, resolve, invoke, builtin, Sem.run_bind, Sem.run_pure, Result.andThen_ok, List.map_toArray, List.map_cons, List.map_nil, q3, q3', hrun]
              · simp [Q.run] at hp
            · simp [Q.run] at hp
          · simp [Q.run] at hp
        · simp [Q.run] at hp
      · simp [Q.run] at hp
    · simp [Q.run] at hp
  · simp [Q.run] at hp

theorem fnArgs_eval (h : Rel Z E N w0 Ow S D g G a w) {ctx : Ctx} (hg : (gcond ctx).run g = some true) : ∀ {xs : List Operand} {l : List Nat}, (fnArgsQ E ctx xs).run g = some l → xs.map a.eval = l.map fun f => Value.func (.func f) #[] #[]
  | [], l, hl => by simp [fnArgsQ, Q.run] at hl; subst hl; rfl
  | x :: r, l, hl => by
    simp only [fnArgsQ, Q.run_bind, Option.bind_eq_some_iff] at hl
    obtain ⟨v, hv, hl⟩ := hl
    have hT := rd_told h hg hv
    split at hl
    · rename_i f
      simp only [Q.run_bind, Option.bind_eq_some_iff, Q.run, Option.some.injEq] at hl
      obtain ⟨l', h1, rfl⟩ := hl
      obtain ⟨vs, h2, h3, _⟩ := hT.r (.slot 0) (by simp)
      have h4 : vs = #[] := by
        have : vs.size = 0 := by simpa using h3
        exact Array.eq_empty_of_size_eq_zero this
      subst h4
      rw [List.map_cons, List.map_cons, h2, fnArgs_eval h hg h1]
    · simp [Q.run] at hl

theorem sound_inpl {ctx : Ctx} {i : Nat} {o : Oper} {f0 : Nat} {xs : Array Operand} {Ts : Array Nat} {fs : List Nat} {I : InSpec} (hE : EnvOk P E) (hsp : E.spec f0 = none) (hin : E.inpl f0 = some (fs, I)) (ho : o.op = .call { callee := .value (.func f0), args := xs, argTypes := Ts }) : Sound E P ctx i o := by
  intro Z N w0 Ow S D g G a w F n f next Qp h hg hp ht hfr hdst hF hS0 hn
  obtain ⟨hFP, _⟩ := hS0
  simp only [plan, ho, hsp, hin] at hp
  obtain ⟨xs⟩ := xs
  cases xs with
  | nil => simp [inplQ, Q.run] at hp
  | cons x r =>
    simp only [inplQ] at hp
    split at hp
    · simp only [Q.run_bind, Option.bind_eq_some_iff] at hp
      obtain ⟨d, hd, l, hl, hp⟩ := hp
      replace hd := sureD_some hd
      split at hp
      · rename_i hlf
        subst hlf
        simp only [Q.run_bind, Option.bind_eq_some_iff] at hp
        obtain ⟨v, hv, q, hq, hp⟩ := hp
        have hT := rd_told h hg hv
        obtain ⟨h1, h2, h3, h4, A, cap, h5, h6, h7⟩ := root_told h hT hq
        split at hp
        · rename_i htt
          split at hp
          · rename_i hcond
            simp only [Bool.and_eq_true, Bool.not_eq_true'] at hcond
            obtain ⟨he, hld⟩ := hcond
            have he := Nat.eq_of_beq_eq_true he
            simp only [Q.run, Option.some.injEq] at hp
            subst hp
            obtain ⟨ql, qe, qt, qxs, qn⟩ := q
            dsimp only at htt he hld h1 h2 h3 h4 h5 h6 h7 ht hn
            subst he
            subst htt
            dsimp only at ht hn
            simp only [Bool.and_eq_true, decide_eq_true_eq] at ht
            obtain ⟨htn, hts⟩ := ht
            subst htn
            obtain ⟨ys, hys⟩ := Option.isSome_iff_exists.1 hts
            rw [hys] at hn
            have hn' := hn
            simp only [Option.getD_some] at hn'
            have hM := hE.inpl f0 l I hin
            have hroot := h.root h1 h3
            have hval : rootVal G a w ql = a.eval x := by
              rw [h5, h7]
            rw [hval] at hroot
            have hob : (a.eval x).ownBlock = G ql := by obtain ⟨_, _, _, _, hb⟩ := hroot; exact hb
            have hcall := hM.calls w (free Z G w) (a.eval x) qxs ys (fun b hb => ⟨hb.1, fun e => hb.2 ql (hob.symm.trans e)⟩) (by rw [hob]; exact hroot) hys
            have hargs : (x :: r).map a.eval = a.eval x :: l.map fun f => Value.func (.func f) #[] #[] := by rw [List.map_cons, fnArgs_eval h hg hl]
            have hent : (execOp a.eval o).run P w = .ok (.enter f0 (a.eval x :: l.map fun f => Value.func (.func f) #[] #[]).toArray) w := by
              have h0 : (execOp a.eval o).run P w = .ok (.enter f0 ((⟨x :: r⟩ : Array Operand).map a.eval)) w := by
                simp only [execOp, ho, resolve, Act.eval, Deferred.ofValue, invoke, Sem.run_bind, Sem.run_pure, Result.andThen_ok, Array.append_empty, Array.empty_append, hM.enter]
              rw [h0, ← hargs]
              simp
            have hrun : (o.semAt F.round a.eval).run P w = .ok (.enter f0 (a.eval x :: l.map fun f => Value.func (.func f) #[] #[]).toArray) w := by
              cases hr : F.round with
              | none => rw [Oper.semAt_none]; exact hent
              | some l => rw [Oper.semAt_some l a.eval o (by rw [ho]; simp)]; exact hent
            refine ⟨fun f _ => hF f, ?_⟩
            rw [hrun]
            refine ⟨fun hh => (by rw [hFP.depth] at hh; cases hh), hFP.calls (hcall.mono ?_)⟩
            rintro e w' ⟨rfl, hgr, hown⟩
            have hlen := hM.len qxs ys hys
            -- the slice, as it is now
            have hrel : ∃ G2, Rel Z E N w0 Ow S D (g.upd ql (.own I.e I.t ys (stampOf v))) G2 a w' := by
              cases hgb : G ql with
              | none =>
                rw [hob, hgb] at hown hgr
                have hx0 : qxs = [] := by
                  obtain ⟨_, cells, _, ⟨hcl, hc⟩, hb⟩ := hroot
                  rcases hc with ⟨_, h0⟩ | ⟨g1, cap1, cur1, hsl, _⟩
                  · exact List.eq_nil_of_length_eq_zero h0
                  · rw [hsl, hgb] at hb; simp [Value.ownBlock] at hb
                subst hx0
                have hy0 : ys = [] := List.eq_nil_of_length_eq_zero hlen
                subst hy0
                refine ⟨G, ?_⟩
                have hsame : g.upd ql (.own I.e I.t [] (stampOf v)) = g := by
                  funext k
                  by_cases hk : ql = k
                  · subst hk; rw [Mem.upd_same, h3]
                  · rw [Mem.upd_ne _ _ hk]
                rw [hsame]
                exact h.grow hgr
              | some gb =>
                rw [hob, hgb] at hown hgr
                exact h.storeElem h1 h3 hgb hlen hgr (by rw [hval]; exact hown)
            obtain ⟨G2, hrel⟩ := hrel
            obtain ⟨hdN, hdD⟩ := hdst d hd
            have hput := hrel.put (v := .dead) (val := .tuple #[]) hdN rfl trivial hdD (fun c u e => by cases e) trivial
            rw [hd]
            refine hn' _ _ _ _ (fun k => ?_) (hput.more (fun _ hs => .inl hs) (fun _ hd => hd) hput.dbool)
            rfl
          · simp [Q.run] at hp
        · simp [Q.run] at hp
      · simp [Q.run] at hp
    · simp [Q.run] at hp
end
/-! ### A scope that is gone through without a jump -/
def Exit.plainJump (Q : Exit → Act → World → Prop) : Exit → Act → World → Prop
  | .goto _, _, _ => False
  | e, a, w => Q e a w
section
variable {F : Fence} {n : Nat} {P : Program} {b : Frame} {a : Act} {k : List Item} {cs : List Frame} {w : World} {Q : Exit → Act → World → Prop}
theorem stepR_scope {c : Code} : step P (lone (b.atR a (.code (.scope c) :: k)) cs w) = .next (lone (b.atR a (.code c :: .inScope c :: k)) cs w) :=
  step_lone_go (by simp [stepG, stepG.exec, Frame.atR])
theorem stepR_inScope {c : Code} : step P (lone (b.atR a (.inScope c :: k)) cs w) = .next (lone (b.atR a k) cs w) :=
  step_lone_go (by simp [stepG, stepG.exec, Frame.atR])
theorem wpIn_scope_straight {c : Code} (h : c.wpIn F n P (Exit.plainJump Q) a w) : (Code.scope c).wpIn F n P Q a w := by
  intro b k cs hro hb hr
  have h0 : (lone (b.atR a (.code (.scope c) :: k)) cs w).fenced P F := fenced_calm hb hr rfl
  obtain ⟨e, a₁, w₁, hq, harr⟩ := h b (.inScope c :: k) cs hro hb hr
  cases e with
  | normal => exact ⟨.normal, a₁, w₁, hq, .head h0 stepR_scope (StepsIn.trans harr (.one (fenced_calm hb hr rfl) stepR_inScope))⟩
  | exit id =>
    have hx : exitTo id (.inScope c :: k) = exitTo id k := by simp [exitTo]
    exact ⟨.exit id, a₁, w₁, hq, fun k' hk => .head h0 stepR_scope (harr.1 k' (by rw [hx]; exact hk)), fun hr' hk => let ⟨k₁, h1, h2⟩ := harr.2 hr' (by rw [hx]; exact hk); ⟨k₁, h1, .head h0 stepR_scope h2⟩⟩
  | goto l => exact hq.elim
  | ret => exact ⟨_, a₁, w₁, hq, .of_steps (.one h0 stepR_scope) harr⟩
  | panic ch => exact ⟨_, a₁, w₁, hq, .of_steps (.one h0 stepR_scope) harr⟩
  | outgrown => exact ⟨_, a₁, w₁, hq, .of_steps (.one h0 stepR_scope) harr⟩
end
end Go.Ev

namespace Go.Ev
open Go.RowKit
section
variable {Z : ZS} {E : Env} {N : Nat} {w0 : World} {Ow : OwS} {S S' D D' : Nat → Prop} {g g' : Mem} {G G' : Ghost} {a a' : Act} {w w' : World} {P : Program} {F : Fence} {n : Nat}
theorem sound_allocBld {ctx : Ctx} {i : Nat} {o : Oper} {T e : Nat} (hE : EnvOk P E) (hnr : E.tab.ref T = none) (hb : E.bldT T = some e) (ho : o.op = .alloc T) : Sound E P ctx i o := by
  intro Z N w0 Ow S D g G a w F n f next Qp h hg hp ht hfr hdst hF hS0 hn
  simp only [plan, ho, hnr, hb, allocBldQ, Q.run_bind, Option.bind_eq_some_iff] at hp
  obtain ⟨d, hd, hp⟩ := hp
  replace hd := sureD_some hd
  split at hp
  case isFalse => simp [Q.run] at hp
  rename_i hc
  simp only [Bool.and_eq_true, Bool.not_eq_true'] at hc
  simp only [Q.run] at hp
  split at hp
  case h_2 => simp [Q.run] at hp
  rename_i hdead
  simp only [Q.run, Option.some.injEq] at hp
  subst hp
  have hi := hE.bld.ty T e hb
  cases hinf : P.info? T with
  | none => rw [hinf] at hi; cases hi
  | some inf =>
  rw [hinf] at hi
  simp only [Option.map_some, Option.some.injEq] at hi
  obtain ⟨z, hz, hzc⟩ := Option.map_eq_some_iff.1 hi
  obtain ⟨k1, k2⟩ := hdst d hd
  obtain ⟨G2, k3, k4⟩ := h.newBox0 k1 k2 hc.2 (T := T) (cs := [.pointer none, .slice none 0 0]) hdead
  have hnew : (w.alloc (.cells [.pointer none, .slice none 0 0].toArray T)).heap[w.heap.size]? = some (.cells [Value.pointer none, .slice none 0 0].toArray T (0, 0)) := heap_alloc_new w _
  have hcd : ∀ o, g.sets [(.box d, .bx T 2), (.slot d, .ptr d 0)] (.cell d o) = .dead := fun o => by
    have : g (.cell d o) = .dead := by
      apply Classical.byContradiction; intro hne
      obtain ⟨e, n, _, _, h1, _⟩ := h.cells d o hne
      rw [hdead] at h1; cases h1
    simp [Mem.sets, Mem.upd_apply, this]
  have hbx : g.sets [(.box d, .bx T 2), (.slot d, .ptr d 0)] (.box d) = .bx T 2 := by simp [Mem.sets, Mem.upd_apply]
  obtain ⟨G3, k5⟩ := k4.setBuf (b := d) (T := T) (gb := w.heap.size) (e := e) (st := i + 1) (cur' := [Value.pointer none, .slice none 0 0].toArray) (a1 := .own e (.int .u8) [] (i + 1)) (ob := none) (p := false) (w' := w.alloc (.cells [.pointer none, .slice none 0 0].toArray T))
    hbx k3.1 hnew rfl (.inr (hcd 0)) (fun o _ => hcd o) rfl rfl rfl (Nat.le_refl _) (fun _ _ _ _ => rfl) (fun hp => by cases hp) (fun _ => rfl) (.inl ⟨[], rfl, hfr, ownsQ_nil _ _ _, rfl⟩) (fun k hk => by cases hk)
  refine wpIn_value hF (by rw [ho]; simp) (v := .pointer (some ⟨w.heap.size, 0, none⟩)) (w' := w.alloc (.cells [.pointer none, .slice none 0 0].toArray T)) ?_ ?_
  · simp [execOp, ho, Instr.alloc, zeroValue, typeInfo, hinf, hz, newVar, newRow, hzc]
  · rw [hd]
    exact hn _ _ _ _ (fun l => by simp only [Mem.sets]; rfl) k5
theorem sound_alloc2 {ctx : Ctx} {i : Nat} {o : Oper} {T : Nat} (hE : EnvOk P E) (ho : o.op = .alloc T) : Sound E P ctx i o := by
  cases hr : E.tab.ref T with
  | some b => exact sound_allocRef hE.tab hr ho
  | none =>
    cases hb : E.bldT T with
    | none => exact sound_alloc hE.tab hr hb ho
    | some e => exact sound_allocBld hE hr hb ho
theorem bytes_ints {ys : List Int} (h : (ys.all fun n => decide (0 ≤ n) && decide (n < 256)) = true) : Lib.byteCells (ys.map fun n => UInt8.ofNat n.toNat) = ys.map (Value.int .u8) := by
  unfold Lib.byteCells
  rw [List.map_map]
  refine List.map_congr_left fun n hn => ?_
  have := List.all_eq_true.1 h n hn
  simp only [Bool.and_eq_true, decide_eq_true_eq] at this
  simp only [Function.comp]
  congr 1
  rw [UInt8.toNat_ofNat']
  omega
theorem sound_bld {ctx : Ctx} {i : Nat} {o : Oper} {f0 : Nat} {xs : Array Operand} {Ts : Array Nat} {q : Bool × Nat × Nat} (hE : EnvOk P E) (hsp : E.spec f0 = none) (hin : E.inpl f0 = none) (hbl : E.bld f0 = some q) (ho : o.op = .call { callee := .value (.func f0), args := xs, argTypes := Ts }) : Sound E P ctx i o := by
  intro Z N w0 Ow S D g G a w F n f next Qp h hg hp ht hfr hdst hF hS0 hn
  obtain ⟨hFP, _⟩ := hS0
  simp only [plan, ho, hsp, hin, hbl] at hp
  obtain ⟨xs⟩ := xs
  obtain ⟨wr, T, e⟩ := q
  cases xs with
  | nil => simp [bldQ, Q.run] at hp
  | cons x r =>
    simp only [bldQ, Q.run_bind, Option.bind_eq_some_iff] at hp
    obtain ⟨d, hd, hp⟩ := hp
    replace hd := sureD_some hd
    split at hp
    case isFalse => simp [Q.run] at hp
    rename_i hc
    simp only [Bool.and_eq_true] at hc
    have hrl := Nat.eq_of_beq_eq_true hc.2
    simp only [Q.run_bind, Option.bind_eq_some_iff] at hp
    obtain ⟨v, hv, hp⟩ := hp
    split at hp
    case h_2 => simp [Q.run] at hp
    rename_i b
    have hT := rd_told h hg hv
    simp only [Q.run_bind, Option.bind_eq_some_iff] at hp
    obtain ⟨s, hs, hp⟩ := hp
    simp only [Q.run] at hp
    split at hp
    case h_2 => simp [Q.run] at hp
    rename_i T' hbx
    split at hp
    case isFalse => simp [Q.run] at hp
    rename_i hTT
    have hTT := Nat.eq_of_beq_eq_true hTT
    subst hTT
    simp only [Q.run] at hp
    split at hp
    case h_2 => simp [Q.run] at hp
    rename_i hd2
    simp only [Q.run] at hp
    split at hp
    case h_2 => simp [Q.run] at hp
    rename_i c p hm
    split at hp
    case isFalse => simp [Q.run] at hp
    rename_i hcb
    have hcb := Nat.eq_of_beq_eq_true hcb
    subst hcb
    simp only [Q.run] at hp
    split at hp
    case h_2 => simp [Q.run] at hp
    rename_i e' ys st0 hown
    split at hp
    case isFalse => simp [Q.run] at hp
    rename_i hee
    have hee := Nat.eq_of_beq_eq_true hee
    subst hee
    simp only [Q.run, Option.some.injEq] at hp
    subst hp
    obtain ⟨cur, gb0, cur0, hbx', hgb, hcur, hcells⟩ : ∃ (_ : Unit) (gb0 : Nat) (cur0 : Array Value), g (.box c) = .bx T' 2 ∧ G (.box c) = some gb0 ∧ w.heap[gb0]? = some (.cells cur0 T' (0, 0)) ∧ cur0.size = 2 := by
      obtain ⟨gb, cur, h1, h2, h3⟩ := h.boxes c T' 2 hbx
      exact ⟨(), gb, cur, hbx, h1, h2, h3⟩
    clear cur
    -- the two cells
    obtain ⟨p0, v1, rfl⟩ : ∃ p0 v1, cur0 = #[p0, v1] := by
      obtain ⟨l⟩ := cur0
      match l, hcells with
      | [p0, v1], _ => exact ⟨p0, v1, rfl⟩
    have hc0 : AVR Z g G a w (.mptr c 0 p) (.cell c 0) p0 := by
      obtain ⟨e2, n2, gb2, cur2, h3, h4, h5, h6⟩ := h.cells c 0 (by rw [hm]; simp)
      rw [hgb] at h4; cases h4
      rw [hcur] at h5; cases h5
      rw [hm] at h6
      exact h6.2
    have hc1 : OwnR (free Z G w) w (G (.cell c 1)) e' (.int .u8) ys v1 := by
      obtain ⟨e2, n2, gb2, cur2, h3, h4, h5, h6⟩ := h.cells c 1 (by rw [hown]; simp)
      rw [hgb] at h4; cases h4
      rw [hcur] at h5; cases h5
      rw [hown] at h6
      exact h6.2
    have hp0 : (p = true → p0 = .pointer (some ⟨gb0, 0, none⟩)) ∧ (p = false → p0 = .pointer none) := by
      refine ⟨fun hp => ?_, hc0.2⟩
      obtain ⟨e3, n3, gb3, _, q2, q3⟩ := hc0.1 hp
      rw [hgb] at q2; cases q2
      exact q3
    have hpp : p0 = .pointer none ∨ p0 = .pointer (some ⟨gb0, 0, none⟩) := by
      cases p with
      | true => exact .inr (hp0.1 rfl)
      | false => exact .inl (hp0.2 rfl)
    obtain ⟨_, cells, hrows, hq, hob⟩ := hc1
    have hcl := rows_bytes hrows
    subst hcl
    simp only [Ty.sz] at hq
    have hvne : v1.ownBlock ≠ some gb0 := by
      rw [hob]
      intro hk
      have := h.inj (.cell c 1) (.box c) gb0 hk hgb
      cases this
    have hev : a.eval x = .pointer (some ⟨gb0, 0, none⟩) := by
      obtain ⟨e3, n3, gb3, _, q2, q3⟩ := hT.r (.slot 0) (fun _ _ _ _ h => by cases h)
      rw [hgb] at q2; cases q2
      exact q3
    have hoth : ∀ o, 2 ≤ o → g (.cell c o) = .dead := fun o ho2 => by
      apply Classical.byContradiction; intro hne
      obtain ⟨e2, n2, gb2, cur2, h3, h4, h5, h6⟩ := h.cells c o hne
      rw [hgb] at h4; cases h4
      rw [hcur] at h5; cases h5
      by_cases ho2' : o = 2
      · rw [ho2', hd2] at hne; exact hne rfl
      · cases hgo : g (.cell c o) with
        | dead => exact hne hgo
        | dat t y => rw [hgo] at h6; have := h6.1; simp at this; omega
        | _ => rw [hgo] at h6; have := h6.1; simp at this; omega
    obtain ⟨hdN, hdD⟩ := hdst d hd
    cases wr with
    | true =>
      have hM := hE.bld.wr f0 T' e' hbl
      match r, hrl, hs, ho with
      | [y], _, hs, ho =>
        simp only [Q.run_bind, Option.bind_eq_some_iff] at hs
        obtain ⟨vy, hvy, hs⟩ := hs
        split at hs
        case h_2 => simp [Q.run] at hs
        simp only [Q.run, Option.some.injEq] at hs
        subst hs
        rename_i s0
        have hTy := rd_told h hg hvy
        have hey : a.eval y = .string (strOf s0) := by
          obtain ⟨cs, q1, q2⟩ := hTy.r (.slot 0) (fun _ _ _ _ h => by cases h)
          have q3 : cs = [.string (strOf s0)] := q1
          rw [q2, q3]; rfl
        simp only [bldEff, cond_true, decide_eq_true_eq] at ht hn
        have hcall := hM.calls w gb0 p0 v1 ys s0 hcur hpp (by simpa using hq) hvne ht
        have hent : (execOp a.eval o).run P w = .ok (.enter f0 #[.pointer (some ⟨gb0, 0, none⟩), .string (strOf s0)]) w := by
          have h0 : (execOp a.eval o).run P w = .ok (.enter f0 ((⟨[x, y]⟩ : Array Operand).map a.eval)) w := by
            simp only [execOp, ho, resolve, Act.eval, Deferred.ofValue, invoke, Sem.run_bind, Sem.run_pure, Result.andThen_ok, Array.append_empty, Array.empty_append, hM.enter]
          rw [h0]
          simp [hev, hey]
        have hrun : (o.semAt F.round a.eval).run P w = .ok (.enter f0 #[.pointer (some ⟨gb0, 0, none⟩), .string (strOf s0)]) w := by
          cases hr : F.round with
          | none => rw [Oper.semAt_none]; exact hent
          | some l => rw [Oper.semAt_some l a.eval o (by rw [ho]; simp)]; exact hent
        refine ⟨fun f _ => hF f, ?_⟩
        rw [hrun]
        refine ⟨fun hh => (by rw [hFP.depth] at hh; cases hh), hFP.calls (hcall.mono ?_)⟩
        rintro en w' ⟨⟨rv, rfl⟩, v', k1, k2, k3, k4, k5, k6, k7, k8⟩
        obtain ⟨G2, hrel⟩ := h.setBuf (e := e') (st := i + 1) (cur' := #[.pointer (some ⟨gb0, 0, none⟩), v']) (a1 := .own e' (.int .u8) (ys ++ s0.map fun b => (b.toNat : Int)) (i + 1)) (ob := v'.ownBlock) (p := true)
          hbx hgb k1 rfl (.inl (by rw [hm]; rfl)) hoth k4 k5 k6 k7 (fun k q1 q2 q3 => k8 k q1 q2 (by rw [hob]; exact q3)) (fun _ => rfl) (fun h => by cases h) (.inl ⟨_, rfl, hfr, k2, rfl⟩) (fun k q1 => by
            obtain ⟨q2, q3, q4⟩ := k3 k q1
            exact ⟨by rw [← hob]; exact q2, q3, q4⟩)
        have hput := hrel.put (v := .dead) (val := rv) hdN rfl trivial hdD (fun c u e => by cases e) trivial
        rw [hd]
        exact hn _ _ _ _ (fun k => by simp only [Mem.sets]) hput
    | false =>
      have hM := hE.bld.st f0 T' e' hbl
      match r, hrl, ho with
      | [], _, ho =>
        simp only [bldEff, cond_false] at ht hn
        have hcall := hM.calls w gb0 p0 v1 (ys.map fun n => UInt8.ofNat n.toNat) hcur hpp (by rw [bytes_ints ht]; simpa using hq) hvne
        have hent : (execOp a.eval o).run P w = .ok (.enter f0 #[.pointer (some ⟨gb0, 0, none⟩)]) w := by
          have h0 : (execOp a.eval o).run P w = .ok (.enter f0 ((⟨[x]⟩ : Array Operand).map a.eval)) w := by
            simp only [execOp, ho, resolve, Act.eval, Deferred.ofValue, invoke, Sem.run_bind, Sem.run_pure, Result.andThen_ok, Array.append_empty, Array.empty_append, hM.enter]
          rw [h0]
          simp [hev]
        have hrun : (o.semAt F.round a.eval).run P w = .ok (.enter f0 #[.pointer (some ⟨gb0, 0, none⟩)]) w := by
          cases hr : F.round with
          | none => rw [Oper.semAt_none]; exact hent
          | some l => rw [Oper.semAt_some l a.eval o (by rw [ho]; simp)]; exact hent
        refine ⟨fun f _ => hF f, ?_⟩
        rw [hrun]
        refine ⟨fun hh => (by rw [hFP.depth] at hh; cases hh), hFP.calls (hcall.mono ?_)⟩
        rintro en w' ⟨rfl, hgr⟩
        have hlt : gb0 < w.heap.size := (Array.getElem?_eq_some_iff.1 hcur).1
        obtain ⟨G2, hrel⟩ := h.setBuf (e := e') (st := i + 1) (cur' := #[p0, v1]) (a1 := .junk) (ob := none) (p := p)
          hbx hgb ((hgr.block gb0 hlt (fun e => hvne e.symm)).trans hcur) rfl (.inl (by rw [hm]; rfl)) hoth hgr.os hgr.tape hgr.output hgr.size (fun k q1 q2 q3 => hgr.block k q1 (fun e => q3 (by rw [← hob, ← e]))) hp0.1 hp0.2 (.inr ⟨rfl, rfl⟩) (fun k q1 => by cases q1)
        have hput := hrel.put (v := .dat .str (ys.map fun n => UInt8.ofNat n.toNat)) (val := .string (strOf (ys.map fun n => UInt8.ofNat n.toNat))) hdN rfl trivial hdD (fun c u e => by cases e) ⟨_, rfl, rfl⟩
        rw [hd]
        exact hn _ _ _ _ (fun k => by simp only [Mem.sets]) hput
end
end Go.Ev

namespace Go.Ev
open Go.RowKit
section
variable {Z : ZS} {E : Env} {N : Nat} {w0 : World} {Ow : OwS} {S S' D D' : Nat → Prop} {g g' : Mem} {G G' : Ghost} {a a' : Act} {w w' : World} {P : Program} {F : Fence} {n : Nat}

theorem sound_none {ctx : Ctx} {i : Nat} {o : Oper} (h : plan E ctx i o = .fail) : Sound E P ctx i o := by
  intro Z N w0 Ow S D g G a w F n f next Qp _ _ hp
  rw [h] at hp; simp [Q.run] at hp

theorem sound_all (hE : EnvOk P E) (ctx : Ctx) (i : Nat) (o : Oper) : Sound E P ctx i o := by
  cases ho : o.op with
  | move x => exact sound_move ho
  | assign x => exact sound_assign hE.tab ho
  | pick c x y =>
    cases c with
    | tmp s => exact sound_pick ho
    | _ => exact sound_none (by simp only [plan, ho])
  | alloc T => exact sound_alloc2 hE ho
  | box T x => exact sound_box' hE.tab ho
  | build T ps => exact sound_build hE.tab ho
  | buildSlice T m ps => exact sound_buildSlice hE.tab ho
  | load T x => exact sound_load' hE.tab ho
  | store T p x => exact sound_store' hE.tab ho
  | nilCheck x => exact sound_nilCheck ho
  | binOp op T x y T' => exact sound_binOp hE.tab ho
  | unOp op T x => exact sound_unOp ho
  | convert s d x => exact sound_convert hE.tab ho
  | makeSlice T x y => exact sound_makeSlice hE.tab ho
  | slice T x lo hi mx =>
    cases mx with
    | none => exact sound_slice hE.tab ho
    | some m => exact sound_slice3 hE.tab ho
  | fieldAddr T x k => exact sound_fieldAddr hE.tab ho
  | field T x k => exact sound_field hE.tab ho
  | indexAddr T x k => exact sound_indexAddr hE.tab ho
  | index T x k => exact sound_index hE.tab ho
  | extract x k =>
    cases x with
    | tmp s => exact sound_extract ho
    | _ => exact sound_none (by simp only [plan, ho])
  | makeFunc fn first caps =>
    cases fn with
    | func f => exact sound_makeFunc ho
    | _ => exact sound_none (by simp only [plan, ho])
  | call c =>
    obtain ⟨cal, args, Ts⟩ := c
    cases cal with
    | builtin b =>
      cases b with
      | len => exact sound_len hE.tab ho
      | min => exact sound_minmax (.inl rfl) ho
      | max => exact sound_minmax (.inr rfl) ho
      | append => exact sound_append hE.tab ho
      | copy => exact sound_copy hE.tab ho
      | _ => exact sound_none (by simp only [plan, ho, builtinQ])
    | invoke r m => exact sound_none (by simp only [plan, ho])
    | value x =>
      cases x with
      | func f =>
        cases hsp : E.spec f with
        | none =>
          cases hin : E.inpl f with
          | none => (cases hbl : E.bld f with
            | none => exact sound_callTwo hE hsp hin hbl ho
            | some q => exact sound_bld hE hsp hin hbl ho)
          | some p => exact sound_inpl (fs := p.1) (I := p.2) hE hsp hin ho
        | some Sp => exact sound_call hE (by rw [hsp]; simp) ho
      | tmp t => exact sound_callValue hE ho
      | _ => exact sound_none (by simp only [plan, ho])
  | _ => exact sound_none (by simp only [plan, ho])
end
end Go.Ev

namespace Go.Ev
open Go.RowKit

def tmpsPut (a a' : Act) (d : Option Nat) : Prop := ∃ v, a'.tmps = (a.put d v).tmps
section
variable {Z : ZS} {E : Env} {N : Nat} {w0 : World} {Ow : OwS} {P : Program} {F : Fence} {n : Nat}

theorem wpIn_put {o : Oper} {a : Act} {w : World} {next : Act → World → Prop} {Qp : Exit → Act → World → Prop} (h : o.wpIn F n P a w (fun a' w' => tmpsPut a a' o.dst → next a' w') Qp) : o.wpIn F n P a w next Qp := by
  refine ⟨h.1, ?_⟩
  have h := h.2
  generalize (o.semAt F.round a.eval).run P w = r at *
  cases r with
  | ok x w' =>
    cases x <;> simp only [Oper.uponIn] at h ⊢
    case value v => exact h ⟨v, rfl⟩
    case skip => exact h ⟨undef, rfl⟩
    case defer d => exact h ⟨undef, by cases o.dst <;> rfl⟩
    case enter f args => exact ⟨h.1, CallsIn.mono h.2 (fun e w'' he => by cases e <;> first | exact he ⟨_, rfl⟩ | exact he)⟩
    case row => exact ⟨h.1, RowsIn.mono h.2 (fun v w'' he => he ⟨v, rfl⟩)⟩
    case round => exact ⟨h.1, RoundIn.mono h.2 (fun e w'' he => by cases e <;> first | exact he ⟨_, rfl⟩ | exact he)⟩
    all_goals exact h
  | halt x w' => cases x <;> simp only [Oper.uponIn] at h ⊢ <;> exact h

/-- Is k the guard of an operation? -/
def isG (ops : List Oper) (k : Nat) : Prop := ∃ (i : Nat) (o : Oper) (want : Bool), ops[i]? = some o ∧ o.guard = some (k, want)
def isB (v : AV) : Prop := ∃ x, v = .dat .bool x ∨ ∃ c, v = .opt c (.dat .bool x)
def dstOf (ops : List Oper) (k : Nat) : Option Nat := (ops[k]?).bind (·.dst)
def Dof (ops : List Oper) (X : Nat → Prop) (g : Mem) (d : Nat) : Prop := ∃ k, X k ∧ isG ops k ∧ dstOf ops k = some d ∧ isB (g (.slot d))
def Sof (X : Nat → Prop) (m : Nat) : Prop := m = 0 ∨ ∃ j, X j ∧ m = j + 1
/-- What is known of an executed guard. -/
def GuardR (g : Mem) (a : Act) (d : Nat) (c : Ctx) : Prop :=
  (c = [] → ∃ x, g (.slot d) = .dat .bool x) ∧ (c ≠ [] → ∃ x, g (.slot d) = .opt c (.dat .bool x) ∧ ((gcond c).run g = some false → ∀ b, a.tmps.getD d undef ≠ .bool b))
structure Inv (Z : ZS) (E : Env) (N : Nat) (w0 : World) (Ow : OwS) (ops : List Oper) (X : Nat → Prop) (g : Mem) (G : Ghost) (a : Act) (w : World) : Prop where
  rel : Rel Z E N w0 Ow (Sof X) (Dof ops X g) g G a w
  guards : ∀ k d p c m, X k → isG ops k → ops[k]? = some p → p.dst = some d → isB (g (.slot d)) → ctxOf ops m p.guard = some c → GuardR g a d c
  closed : ∀ k p j want, X k → ops[k]? = some p → p.guard = some (j, want) → X j
  bound : ∀ k, X k → k < ops.length

theorem ctxOf_none (ops : List Oper) (m : Nat) : ctxOf ops m none = some [] := by cases m <;> rfl
theorem ctxOf_some {ops : List Oper} {m k : Nat} {want : Bool} {c : Ctx} (h : ctxOf ops m (some (k, want)) = some c) :
    ∃ m' p d c', m = m' + 1 ∧ ops[k]? = some p ∧ p.dst = some d ∧ ctxOf ops m' p.guard = some c' ∧ c = (d, want) :: c' := by
  cases m with
  | zero => simp [ctxOf] at h
  | succ m' =>
    simp only [ctxOf] at h
    split at h
    · rename_i p hp
      split at h
      · rename_i d c' hd hc
        cases h
        exact ⟨m', p, d, c', rfl, hp, hd, hc, rfl⟩
      · cases h
    · cases h
theorem ctxOf_det {ops : List Oper} : ∀ {m m' : Nat} {x : Option (Nat × Bool)} {c c' : Ctx}, ctxOf ops m x = some c → ctxOf ops m' x = some c' → c = c'
  | m, m', none, c, c', h, h' => by rw [ctxOf_none] at h h'; cases h; cases h'; rfl
  | 0, _, some _, c, c', h, _ => by simp [ctxOf] at h
  | m + 1, m', some (k, want), c, c', h, h' => by
    obtain ⟨m1, p, d, c1, e1, hp, hd, hc, rfl⟩ := ctxOf_some h
    obtain ⟨m2, p2, d2, c2, e2, hp2, hd2, hc2, rfl⟩ := ctxOf_some h'
    rw [hp] at hp2; cases hp2
    rw [hd] at hd2; cases hd2
    cases e1
    rw [ctxOf_det hc hc2]

theorem zipIdx_all {α : Type} {l : List α} {f : α → Nat → Bool} (h : (l.zipIdx.all fun p => f p.1 p.2) = true) {i : Nat} {x : α} (hx : l[i]? = some x) : f x i = true := by
  rw [List.all_eq_true] at h
  refine h (x, i) ?_
  rw [List.mem_iff_getElem?]
  exact ⟨i, by simp [List.getElem?_zipIdx, hx]⟩

/-- What the region's check says. -/
structure RegOk (N : Nat) (ops : List Oper) : Prop where
  dst : ∀ (i : Nat) (o : Oper) (d : Nat), ops[i]? = some o → o.dst = some d → d < N
  back : ∀ (i : Nat) (o : Oper), ops[i]? = some o → ∀ e ∈ o.after, Region.binds .any e = true → e.on < i
  guard : ∀ (i : Nat) (o : Oper) (k : Nat) (want : Bool), ops[i]? = some o → o.guard = some (k, want) → k < i ∧ (∃ e ∈ o.after, e.on = k ∧ Region.binds .any e = true) ∧ ∃ (p : Oper) (d : Nat), ops[k]? = some p ∧ p.dst = some d ∧ ∀ (j : Nat) (q : Oper), ops[j]? = some q → q.dst = some d → j = k

theorem blt_lt {a b : Nat} (h : Nat.blt a b = true) : a < b := by rw [Nat.blt_eq] at h; exact h
theorem regOk_of {N : Nat} {ops : List Oper} (h : regionOk N ops = true) : RegOk N ops := by
  have key : ∀ i o, ops[i]? = some o → regionOk1 N ops i o = true := fun i o ho => zipIdx_all (f := fun o i => regionOk1 N ops i o) h ho
  have key2 : ∀ i o, ops[i]? = some o → _ := fun i o ho => by
    have := key i o ho
    unfold regionOk1 at this
    rw [Bool.and_eq_true, Bool.and_eq_true] at this
    exact this
  refine ⟨fun i o d ho hd => ?_, fun i o ho e he hb => ?_, fun i o k want ho hg => ?_⟩
  · have := (key2 i o ho).1.1
    rw [hd] at this
    exact blt_lt this
  · have := List.all_eq_true.1 (key2 i o ho).1.2 e (by simpa using he)
    rw [hb] at this
    exact blt_lt (by simpa using this)
  · have := (key2 i o ho).2
    rw [hg] at this
    simp only [Bool.and_eq_true] at this
    obtain ⟨⟨h1, h2⟩, h3⟩ := this
    refine ⟨blt_lt h1, ?_, ?_⟩
    · obtain ⟨e, he, h4⟩ := List.any_eq_true.1 h2
      simp only [Bool.and_eq_true] at h4
      exact ⟨e, by simpa using he, Nat.eq_of_beq_eq_true h4.1, h4.2⟩
    · split at h3
      · rename_i p hp
        split at h3
        · rename_i d hd
          refine ⟨p, d, hp, hd, fun j q hq hqd => ?_⟩
          have := zipIdx_all (f := fun q j => Nat.beq j k || (match q.dst with | some d' => !Nat.beq d' d | none => true)) h3 hq
          rw [hqd] at this
          simp only [Bool.or_eq_true, Bool.not_eq_true'] at this
          rcases this with h5 | h5
          · exact Nat.eq_of_beq_eq_true h5
          · rw [Nat.beq_refl] at h5; cases h5
        · cases h3
      · cases h3

theorem isGuardSlot_of {ops : List Oper} {k d : Nat} {p : Oper} (hg : isG ops k) (hp : ops[k]? = some p) (hd : p.dst = some d) : isGuardSlot ops d = true := by
  obtain ⟨i, o, want, ho, hog⟩ := hg
  rw [isGuardSlot, List.any_eq_true]
  refine ⟨o, List.mem_of_getElem? ho, ?_⟩
  simp only [hog, hp, hd, Nat.beq_refl]

theorem okW_slot {ops : List Oper} {dst : Option Nat} {ws : List (Loc × AV)} (h : okW ops dst ws = true) {d : Nat} (hd : isGuardSlot ops d = true) (hne : dst ≠ some d) (g : Mem) : g.sets ws (.slot d) = g (.slot d) := by
  refine sets_other (fun p hp e => ?_)
  have := List.all_eq_true.1 h p hp
  rw [e] at this
  simp only [hd, Bool.not_true, Bool.or_false] at this
  cases hdst : dst with
  | none => rw [hdst] at this; cases this
  | some d' =>
    rw [hdst] at this
    exact hne (by rw [hdst, Nat.eq_of_beq_eq_true this])

theorem single_writer {ops : List Oper} (hok : RegOk N ops) {k d : Nat} (hg : isG ops k) (hd : dstOf ops k = some d) {j : Nat} {q : Oper} (hq : ops[j]? = some q) (hqd : q.dst = some d) : j = k := by
  obtain ⟨i, o, want, ho, hog⟩ := hg
  obtain ⟨_, _, p, d', hp, hd', h⟩ := hok.guard i o k want ho hog
  simp only [dstOf, hp, Option.bind_some, hd'] at hd
  cases hd
  exact h j q hq hqd
theorem guardSlot_of {ops : List Oper} {k d : Nat} (hg : isG ops k) (hd : dstOf ops k = some d) : isGuardSlot ops d = true := by
  simp only [dstOf, Option.bind_eq_some_iff] at hd
  obtain ⟨p, hp, hpd⟩ := hd
  exact isGuardSlot_of hg hp hpd

/-- The slot of an executed guard stays. -/
theorem dof_same {ops : List Oper} (hok : RegOk N ops) {X : Nat → Prop} {g g' : Mem} {i : Nat} {o : Oper} (ho : ops[i]? = some o) (hX : ¬ X i) {ws : List (Loc × AV)} (hg' : ∀ l, g' l = g.sets ws l) (hw : okW ops o.dst ws = true)
    {k d : Nat} (hk : X k) (hg : isG ops k) (hd : dstOf ops k = some d) : g' (.slot d) = g (.slot d) ∧ o.dst ≠ some d := by
  have hne : o.dst ≠ some d := fun e => by
    have := single_writer hok hg hd ho e
    exact hX (this ▸ hk)
  exact ⟨by rw [hg', okW_slot hw (guardSlot_of hg hd) hne], hne⟩

theorem tmps_other {a a' : Act} {dst : Option Nat} (h : tmpsPut a a' dst) {d : Nat} (hne : dst ≠ some d) : a'.tmps.getD d undef = a.tmps.getD d undef := by
  obtain ⟨v, hv⟩ := h
  rw [hv]
  cases dst with
  | none => rfl
  | some e => exact put_tmps_ne a v (fun e' => hne (by rw [e']))

theorem inv_next {ops : List Oper} (hok : RegOk N ops) {X : Nat → Prop} {g : Mem} {G : Ghost} {a : Act} {w : World} (h : Inv Z E N w0 Ow ops X g G a w) {i : Nat} {o : Oper} (ho : ops[i]? = some o) (hX : ¬ X i) (hgX : ∀ k want, o.guard = some (k, want) → X k)
    {ws : List (Loc × AV)} (hw : okW ops o.dst ws = true) {g' : Mem} {G' : Ghost} {a' : Act} {w' : World} {Z' : ZS} {w0' : World} {Ow' : OwS} (hg' : ∀ l, g' l = g.sets ws l) (hr : Rel Z' E N w0' Ow' (fun m => Sof X m ∨ m = i + 1) (Dof ops X g) g' G' a' w') (hp : tmpsPut a a' o.dst)
    (hown : isG ops i → ∀ d, o.dst = some d → isB (g' (.slot d)) → ∀ c m, ctxOf ops m o.guard = some c → GuardR g' a' d c) :
    Inv Z' E N w0' Ow' ops (fun j => X j ∨ j = i) g' G' a' w' := by
  have hDs : ∀ {k d}, X k → isG ops k → dstOf ops k = some d → g' (.slot d) = g (.slot d) ∧ o.dst ≠ some d := fun hk hg hd => dof_same hok ho hX hg' hw hk hg hd
  refine ⟨hr.more (fun m hm => ?_) (fun d hd => ?_) (fun d hd => ?_), fun k d p c m hk hg hkp hpd hb hc => ?_, fun k p j want hk hkp hpg => ?_, fun k hk => ?_⟩
  · rcases hm with (hm | ⟨j, hj, hm⟩) | hm
    · exact .inl hm
    · exact .inr ⟨j, .inl hj, hm⟩
    · exact .inr ⟨i, .inr rfl, hm⟩
  · obtain ⟨k, hk, hg, hkd, hb⟩ := hd
    exact ⟨k, .inl hk, hg, hkd, by rw [(hDs hk hg hkd).1]; exact hb⟩
  · obtain ⟨k, hk, hg, hkd, hb⟩ := hd
    exact hb
  · rcases hk with hk | rfl
    · have hkd : dstOf ops k = some d := by simp only [dstOf, hkp, Option.bind_some, hpd]
      obtain ⟨h1, h2⟩ := hDs hk hg hkd
      rw [h1] at hb
      obtain ⟨k1, k2⟩ := h.guards k d p c m hk hg hkp hpd hb hc
      refine ⟨fun e => by rw [h1]; exact k1 e, fun e => ?_⟩
      obtain ⟨x, k3, k4⟩ := k2 e
      refine ⟨x, by rw [h1]; exact k3, fun hgc => ?_⟩
      rw [tmps_other hp h2]
      refine k4 ?_
      rw [← hgc]
      refine (gcond_congr (fun p hp' => ?_)).symm
      obtain ⟨k5, hk5, hg5, hd5, _⟩ := (h.rel.ctx (.slot d) c _ k3).1 p hp'
      exact (hDs hk5 hg5 hd5).1
    · rw [ho] at hkp; cases hkp
      exact hown hg d hpd hb c m hc
  · rcases hk with hk | rfl
    · exact .inl (h.closed k p j want hk hkp hpg)
    · rw [ho] at hkp; cases hkp
      exact .inl (hgX j want hpg)
  · rcases hk with hk | rfl
    · exact h.bound k hk
    · exact (List.getElem?_eq_some_iff.1 ho).1

/-- A guard's slots are told. -/
theorem gcond_isB {g : Mem} : ∀ {c : Ctx} {b : Bool}, (gcond c).run g = some b → ∀ p ∈ c, isB (g (.slot p.1))
  | [], _, _, p, hp => by simp at hp
  | (s, want) :: c, b, h, p, hp => by
    simp only [gcond, Q.run, Q.run_bind, Option.bind_eq_some_iff] at h
    obtain ⟨v, hv, x, hx, r, hr, _⟩ := h
    rcases List.mem_cons.1 hp with rfl | hp
    · have hvb : v = .dat .bool x := by
        unfold boolOf at hx; split at hx <;> simp [Q.run] at hx; subst hx; rfl
      subst hvb
      rcases strip_some hv with ⟨h1, _⟩ | ⟨c', h1, _⟩
      · exact ⟨x, .inl h1⟩
      · exact ⟨x, .inr ⟨c', h1⟩⟩
    · exact gcond_isB hr p hp

theorem ctx_dof {ops : List Oper} {X : Nat → Prop} {g : Mem} (hcl : ∀ k p j want, X k → ops[k]? = some p → p.guard = some (j, want) → X j) :
    ∀ {m : Nat} {i : Nat} {o : Oper} {c : Ctx}, ops[i]? = some o → (∀ k want, o.guard = some (k, want) → X k) → ctxOf ops m o.guard = some c → (∀ p ∈ c, isB (g (.slot p.1))) → ∀ p ∈ c, Dof ops X g p.1
  | m, i, o, c, ho, hgX, hc, hb, p, hp => by
    cases hog : o.guard with
    | none => rw [hog, ctxOf_none] at hc; cases hc; simp at hp
    | some kw =>
      obtain ⟨k, want⟩ := kw
      rw [hog] at hc
      obtain ⟨m', q, d, c', rfl, hq, hqd, hc', rfl⟩ := ctxOf_some hc
      have hXk := hgX k want hog
      rcases List.mem_cons.1 hp with rfl | hp
      · exact ⟨k, hXk, ⟨i, o, want, ho, hog⟩, by simp only [dstOf, hq, Option.bind_some, hqd], hb _ (by simp)⟩
      · exact ctx_dof hcl hq (fun k' want' hg' => hcl k q k' want' hXk hq hg') hc' (fun p hp => hb p (by simp [hp])) p hp

/-- Is the operation wanted? -/
theorem guard_wanted {ops : Array Oper} {X : Nat → Prop} {g : Mem} {G : Ghost} {a : Act} {w : World} (h : Inv Z E N w0 Ow ops.toList X g G a w) {i : Nat} {o : Oper} (ho : ops.toList[i]? = some o) {k : Nat} {want : Bool} (hog : o.guard = some (k, want)) (hk : X k)
    {m : Nat} {c : Ctx} (hc : ctxOf ops.toList m o.guard = some c) {b : Bool} (hb : (gcond c).run g = some b) : Region.wanted o (yielded ops a.tmps) = b := by
  rw [hog] at hc
  obtain ⟨m', p, d, c', rfl, hp, hpd, hc', rfl⟩ := ctxOf_some hc
  have hG : isG ops.toList k := ⟨i, o, want, ho, hog⟩
  have hisB := gcond_isB hb (d, want) (by simp)
  have hgr := h.guards k d p c' m' hk hG hp hpd hisB hc'
  simp only [gcond, Q.run, Q.run_bind, Option.bind_eq_some_iff] at hb
  obtain ⟨v, hv, x, hx, r, hr, hb⟩ := hb
  have hvb : v = .dat .bool x := by
    unfold boolOf at hx; split at hx <;> simp [Q.run] at hx; subst hx; rfl
  subst hvb
  simp only [Q.run, Option.some.injEq] at hb
  have hp' : ops[k]? = some p := by simpa using hp
  have hslot := h.rel.slots d
  have hy : yielded ops a.tmps k = (match a.tmps[d]? with | some (.bool b) => some b | _ => none) := by
    unfold yielded
    rw [hp', Option.bind_some, hpd, Option.bind_some]
    rfl
  have hval : ∀ y, a.tmps.getD d undef = .bool y → yielded ops a.tmps k = some y := fun y hd => by
    rw [hy]
    rw [Array.getD_eq_getD_getElem?] at hd
    cases ht : a.tmps[d]? with
    | none => rw [ht] at hd; simp [undef] at hd
    | some z => rw [ht] at hd; simp at hd; subst hd; rfl
  have hno : (∀ y, a.tmps.getD d undef ≠ .bool y) → yielded ops a.tmps k = none := fun hd => by
    rw [hy]
    cases ht : a.tmps[d]? with
    | none => rfl
    | some z =>
      cases z <;> try rfl
      rename_i y
      exact absurd (by rw [Array.getD_eq_getD_getElem?, ht]; rfl) (hd y)
  have hwant : Region.wanted o (yielded ops a.tmps) = (yielded ops a.tmps k == some want) := by simp [Region.wanted, hog]
  rw [hwant]
  by_cases hce : c' = []
  · subst hce
    obtain ⟨y, hy1⟩ := hgr.1 rfl
    simp [gcond, Q.run] at hr
    subst hr
    rw [hy1] at hv hslot
    simp [strip, Q.run] at hv
    subst hv
    obtain ⟨cs, h1, h2⟩ := hslot
    simp only [RV] at h1
    subst h1
    rw [hval y h2, ← hb]
    cases y <;> cases want <;> rfl
  · obtain ⟨y, hy1, hy2⟩ := hgr.2 hce
    rw [hy1] at hv hslot
    simp only [strip] at hv
    split at hv
    · simp [Q.run] at hv
      subst hv
      cases r with
      | true =>
        obtain ⟨cs, h1, h2⟩ := hslot hr
        simp only [RV] at h1
        subst h1
        rw [hval y h2, ← hb]
        cases y <;> cases want <;> rfl
      | false =>
        rw [hno (hy2 hr), ← hb]
        cases y <;> cases want <;> rfl
    · simp [Q.run] at hv
end
end Go.Ev

namespace Go.Ev
open Go.RowKit
section
variable {Z : ZS} {E : Env} {N : Nat} {w0 : World} {Ow : OwS} {S D : Nat → Prop} {g g' : Mem} {G : Ghost} {a : Act} {w : World}

theorem natsEq_iff : ∀ {a b : List Nat}, natsEq a b = true → a = b
  | [], [], _ => rfl
  | x :: a, y :: b, h => by
    simp only [natsEq, Bool.and_eq_true] at h
    rw [Nat.eq_of_beq_eq_true h.1, natsEq_iff h.2]
  | [], _ :: _, h => by cases h
  | _ :: _, [], h => by cases h
theorem merge_true {st : Nat} {v old u : AV} (h : mergeAV true st v old = some u) : u = v := by
  unfold mergeAV at h
  split at h
  · split at h
    · cases h; rfl
    · cases h
  · split at h
    · split at h
      · split at h
        · cases h; rfl
        · split at h
          · rename_i hs; cases h; rw [Nat.eq_of_beq_eq_true hs]; rfl
          · cases h
      · cases h
    · cases h
  all_goals first
    | (cases h; rfl)
    | (split at h <;> cases h; rfl)
    | cases h
theorem merge_false {st : Nat} {v old u : AV} (h : mergeAV false st v old = some u) : u = old ∨ ∃ e t xs s, old = .own e t xs s ∧ u = .own e t xs st := by
  unfold mergeAV at h
  split at h
  · split at h
    · rename_i ht; subst ht; cases h; exact .inl rfl
    · cases h
  · split at h
    · rename_i ht
      subst ht
      split at h
      · rename_i he
        have := Nat.eq_of_beq_eq_true he
        subst this
        split at h
        · rename_i hs
          have := Nat.eq_of_beq_eq_true hs
          subst this
          cases h; exact .inl rfl
        · split at h
          · cases h; exact .inr ⟨_, _, _, _, rfl, rfl⟩
          · cases h
      · cases h
    · cases h
  all_goals first
    | (cases h; exact .inl rfl)
    | (split at h
       · rename_i hq
         simp only [Bool.and_eq_true] at hq
         cases h
         first
           | (rw [Nat.eq_of_beq_eq_true hq.1, Nat.eq_of_beq_eq_true hq.2]; exact .inl rfl)
           | (rw [Nat.eq_of_beq_eq_true hq.1, natsEq_iff hq.2]; exact .inl rfl)
       · cases h)
    | cases h
theorem sets_lastW (l : Loc) : ∀ (ws : List (Loc × AV)) (g : Mem), g.sets ws l = (lastW l ws).getD (g l)
  | [], _ => rfl
  | p :: r, g => by
    rw [Mem.sets, sets_lastW l r]
    simp only [lastW]
    cases hl : lastW l r with
    | some v => rfl
    | none =>
      simp only [Option.getD_none, Mem.upd]
      cases hq : p.1.eq l with
      | true => rfl
      | false => rfl
theorem lastW_none {l : Loc} : ∀ {ws : List (Loc × AV)}, lastW l ws = none → ∀ p ∈ ws, p.1.eq l = false
  | [], _, p, hp => by simp at hp
  | q :: r, h, p, hp => by
    simp only [lastW] at h
    cases hl : lastW l r with
    | some v => rw [hl] at h; cases h
    | none =>
      rw [hl] at h
      rcases List.mem_cons.1 hp with rfl | hp
      · cases hq : p.1.eq l with
        | true => rw [hq] at h; cases h
        | false => rfl
      · exact lastW_none hl p hp
theorem effQ_run {c : Bool} {st : Nat} {d : Option Nat} : ∀ {ws us : List (Loc × AV)}, (effQ c st d ws).run g = some us →
    (∀ p ∈ us, isSlotD d p.1 = false) ∧ (∀ p ∈ us, ∃ v, lastW p.1 ws = some v ∧ mergeAV c st v (g p.1) = some p.2) ∧ ∀ l, isSlotD d l = false → lastW l ws ≠ none → ∃ p ∈ us, p.1 = l
  | [], us, h => by
    simp only [effQ, Q.run, Option.some.injEq] at h
    subst h
    exact ⟨by simp, by simp, fun l _ h => absurd rfl h⟩
  | p :: r, us, h => by
    simp only [effQ] at h
    cases hb : (isSlotD d p.1 || r.any fun q => q.1.eq p.1) with
    | true =>
      rw [hb] at h
      obtain ⟨h1, h2, h3⟩ := effQ_run (ws := r) h
      refine ⟨h1, fun q hq => ?_, fun l hl hn => ?_⟩
      · obtain ⟨v, hv, hm⟩ := h2 q hq
        exact ⟨v, by simp only [lastW, hv], hm⟩
      · simp only [lastW] at hn
        cases hlr : lastW l r with
        | some v => exact h3 l hl (by rw [hlr]; simp)
        | none =>
          rw [hlr] at hn
          cases hq : p.1.eq l with
          | false => rw [hq] at hn; exact absurd rfl hn
          | true =>
            have := Loc.eq_iff.1 hq
            subst this
            rw [hl] at hb
            simp only [Bool.false_or, List.any_eq_true] at hb
            obtain ⟨q, hqm, hqe⟩ := hb
            rw [lastW_none hlr q hqm] at hqe
            cases hqe
    | false =>
      rw [hb] at h
      simp only [cond_false, Q.run, Q.run_bind, Option.bind_eq_some_iff] at h
      obtain ⟨u, hu, us', hus, h⟩ := h
      replace hu := ofO_some hu
      simp only [Option.some.injEq] at h
      subst h
      simp only [Bool.or_eq_false_iff] at hb
      obtain ⟨h1, h2, h3⟩ := effQ_run (ws := r) hus
      have hlr : lastW p.1 r = none := by
        cases hl : lastW p.1 r with
        | none => rfl
        | some v =>
          exfalso
          have : ∀ {ws : List (Loc × AV)} {v : AV}, lastW p.1 ws = some v → (ws.any fun q => q.1.eq p.1) = true := by
            intro ws
            induction ws with
            | nil => intro v h; cases h
            | cons q r ih =>
              intro v h
              simp only [lastW] at h
              rw [List.any_cons, Bool.or_eq_true]
              cases hl : lastW p.1 r with
              | some v' => exact .inr (ih hl)
              | none =>
                rw [hl] at h
                cases hq : q.1.eq p.1 with
                | true => exact .inl rfl
                | false => rw [hq] at h; cases h
          rw [this hl] at hb
          cases hb.2
      refine ⟨fun q hq => ?_, fun q hq => ?_, fun l hl hn => ?_⟩
      · rcases List.mem_cons.1 hq with rfl | hq
        · exact hb.1
        · exact h1 q hq
      · rcases List.mem_cons.1 hq with rfl | hq
        · exact ⟨p.2, by simp only [lastW, hlr]; rw [Loc.eq_iff.2 rfl]; rfl, hu⟩
        · obtain ⟨v, hv, hm⟩ := h2 q hq
          exact ⟨v, by simp only [lastW, hv], hm⟩
      · simp only [lastW] at hn
        cases hlr' : lastW l r with
        | some v =>
          obtain ⟨q, hq, hqe⟩ := h3 l hl (by rw [hlr']; simp)
          exact ⟨q, by simp [hq], hqe⟩
        | none =>
          rw [hlr'] at hn
          cases hq : p.1.eq l with
          | false => rw [hq] at hn; exact absurd rfl hn
          | true => exact ⟨(p.1, u), by simp, Loc.eq_iff.1 hq⟩
/-- Behind a guarded operation, at a place that is not its own slot. -/
theorem effQ_get {c : Bool} {st : Nat} {d : Option Nat} {ws us : List (Loc × AV)} (h : (effQ c st d ws).run g = some us) {l : Loc} (hl : isSlotD d l = false) :
    (lastW l ws = none ∧ g.sets us l = g l) ∨ ∃ v, lastW l ws = some v ∧ mergeAV c st v (g l) = some (g.sets us l) := by
  obtain ⟨h1, h2, h3⟩ := effQ_run h
  rcases sets_get (ws := us) (g := g) (l := l) with ⟨k1, k2⟩ | ⟨q, k1, k2, k3⟩
  · left
    refine ⟨?_, k1⟩
    cases hn : lastW l ws with
    | none => rfl
    | some v =>
      obtain ⟨p, hp, hpe⟩ := h3 l hl (by rw [hn]; simp)
      exact absurd hpe (k2 p hp)
  · right
    subst k2
    obtain ⟨v, hv, hm⟩ := h2 q k1
    exact ⟨v, hv, by rw [k3]; exact hm⟩
theorem slotW_some {ctx : Ctx} {d : Option Nat} {ws vs : List (Loc × AV)} (h : slotW ctx d ws = some vs) :
    (d = none ∧ vs = []) ∨ ∃ e v u, d = some e ∧ lastW (.slot e) ws = some v ∧ vs = [(.slot e, .opt ctx u)] ∧ (u = v ∨ ∃ e t xs s, v = .own e t xs s ∧ u = .dat (.list t) xs) ∧ (∀ a b c d, u ≠ .own a b c d) ∧ (∀ a b, u ≠ .opt a b) ∧ (∀ n, u ≠ .tup n) ∧ ∀ a b, u ≠ .bx a b := by
  unfold slotW at h
  split at h
  · cases h; exact .inl ⟨rfl, rfl⟩
  · rename_i e
    split at h
    · rename_i v hv
      split at h
      · rename_i e0 t xs s
        cases h
        exact .inr ⟨e, _, _, rfl, hv, rfl, .inr ⟨e0, t, xs, s, rfl, rfl⟩, by simp, by simp, by simp, by simp⟩
      · cases h
      · cases h
      · cases h
      · rename_i h1 h2 h3 h4
        cases h
        exact .inr ⟨e, _, _, rfl, hv, rfl, .inl rfl, h1, h2, h3, h4⟩
    · cases h
/-- What a slot owns is frozen, where the guard stands. -/
theorem Rel.tellSlot (h : Rel Z E N w0 Ow S D g G a w) {d : Nat} {v u : AV} (hv : g (.slot d) = v) (hu : u = v ∨ ∃ e t xs s, v = .own e t xs s ∧ u = .dat (.list t) xs) : ∃ G2, Rel Z E N w0 Ow S D (g.upd (.slot d) u) G2 a w := by
  rcases hu with rfl | ⟨e, t, xs, s, rfl, rfl⟩
  · refine ⟨G, ?_⟩
    have : g.upd (.slot d) u = g := by
      funext l
      rw [Mem.upd_apply]
      split
      · rename_i hl; rw [hl, hv]
      · rfl
    rw [this]; exact h
  · exact ⟨_, h.freeze (l := .slot d) trivial hv⟩
/-- Owned slices are told with a new stamp. -/
theorem Rel.restamp (h : Rel Z E N w0 Ow S D g G a w) {st : Nat} (hst : ¬ S st) (hg : ∀ l, g' l = g l ∨ ∃ e t xs s, g l = .own e t xs s ∧ g' l = .own e t xs st) : Rel Z E N w0 Ow (fun n => S n ∨ n = st) D g' G a w := by
  have hsame : ∀ l, (∀ e t xs s, g l ≠ .own e t xs s) → g' l = g l := fun l hl => by
    rcases hg l with e | ⟨e, t, xs, s, h1, _⟩
    · exact e
    · exact absurd h1 (hl e t xs s)
  have hroot : ∀ l s, S s → isRoot l → RootKept g G a w g' G a w l s := fun l s hs _ => by
    refine ⟨fun e t xs' hx => ?_, fun b o n t xs' _ hx _ => ?_⟩
    · rcases hg l with e1 | ⟨e1, t1, xs1, s1, _, h2⟩
      · exact ⟨xs', by rw [← e1]; exact hx, rfl, rfl, rfl⟩
      · rw [h2] at hx; cases hx; exact absurd hs hst
    · rcases hg l with e1 | ⟨e1, t1, xs1, s1, _, h2⟩
      · exact ⟨xs', by rw [← e1]; exact hx⟩
      · rw [h2] at hx; cases hx
  have hdead : ∀ l, g' l = .dead → g l = .dead := fun l hl => by
    rcases hg l with e | ⟨e, t, xs, s, _, h2⟩
    · rw [← e]; exact hl
    · rw [h2] at hl; cases hl
  have hnd : ∀ l, g' l ≠ .dead → g l ≠ .dead := fun l hl e => hl (by rw [hsame l (by rw [e]; simp)]; exact e)
  have hbxs : ∀ b, g' (.box b) = g (.box b) := fun b => hsame _ (fun e t xs s hq => by
    rcases h.boxAV b with e1 | ⟨e1, n1, e1⟩
    · rw [e1] at hq; cases hq
    · rw [e1] at hq; cases hq)
  have hctx : ∀ d, D d → g' (.slot d) = g (.slot d) := fun d hd => hsame _ (fun e t xs s hq => by
    obtain ⟨x, hx | ⟨c, hx⟩⟩ := h.dbool d hd
    · rw [hx] at hq; cases hq
    · rw [hx] at hq; cases hq)
  have keep : ∀ {l : Loc} {v : AV} {val : Value}, v = g l → AVR Z g G a w v l val → AVR Z g' G a w v l val := fun {l v val} hv hr =>
    AVR.keep S D rfl (fun b hb => ⟨hb, rfl⟩) hroot (fun b e n hb => ⟨by rw [hbxs]; exact hb, rfl⟩) hctx (fun _ _ _ _ _ => ⟨rfl, fun _ _ => rfl⟩) (fun _ _ _ _ _ => hv.symm) (by rw [hv]; exact h.stamps l)
      (fun c u e => by rw [hv] at e; exact ⟨(h.ctx l c u e).1, (h.ctx l c u e).2.1, (h.ctx l c u e).2.2.1, (h.ctx l c u e).2.2.2.2⟩) hr
  have told : ∀ {l : Loc} {val : Value}, AVR Z g G a w (g l) l val → AVR Z g' G a w (g' l) l val := fun {l val} hr => by
    rcases hg l with e | ⟨e, t, xs, s, h1, h2⟩
    · rw [e]; exact keep rfl hr
    · rw [h2]
      have := keep rfl hr
      rw [h1] at this
      exact this
  have hsz : ∀ l, (g' l).size = (g l).size := fun l => by
    rcases hg l with e | ⟨e, t, xs, s, h1, h2⟩
    · rw [e]
    · rw [h1, h2]; rfl
  refine ⟨h.defers, h.tmps, h.os, h.tape, h.output, h.size, h.low, h.bnd, h.zow, h.inj, fun l b hl => ?_, fun n => told (h.slots n), fun n k i hk hi => ?_, fun b e n hb => h.boxes b e n (by rw [← hbxs]; exact hb), fun b o hne => ?_, fun b o o' h1 h2 hoo => ?_, fun b => by rw [hbxs]; exact h.boxAV b, fun l => ?_, fun l c v hv => ?_, fun k hk => ?_, h.globs, fun b gb hp hne => h.pins b gb hp (by rw [← hbxs]; exact hne), h.pinR⟩
  · rcases h.gone l b hl with ⟨e, t, xs, s, hq⟩ | ⟨e, n, hq⟩
    · rcases hg l with e1 | ⟨e1, t1, xs1, s1, _, h2⟩
      · exact .inl ⟨e, t, xs, s, by rw [e1]; exact hq⟩
      · exact .inl ⟨e1, t1, xs1, st, h2⟩
    · exact .inr ⟨e, n, by rw [hsame l (by rw [hq]; simp)]; exact hq⟩
  · have hk' : g (.slot n) = .tup k := by
      rcases hg (.slot n) with e1 | ⟨e1, t1, xs1, s1, _, h2⟩
      · rw [← e1]; exact hk
      · rw [h2] at hk; cases hk
    exact told (h.comps n k i hk' hi)
  · obtain ⟨e, n, gb, cur, h1, h2, h3, h4⟩ := h.cells b o (hnd _ hne)
    refine ⟨e, n, gb, cur, by rw [hbxs]; exact h1, h2, h3, ?_⟩
    rcases hg (.cell b o) with e1 | ⟨e1, t1, xs1, s1, k1, k2⟩
    · rw [e1]
      generalize hv : g (.cell b o) = v at h4
      have hv' := hv.symm
      cases v with
      | dead => trivial
      | dat t x => exact h4
      | _ => exact ⟨h4.1, keep hv' h4.2⟩
    · rw [k2]
      rw [k1] at h4
      have := keep k1.symm h4.2
      exact ⟨h4.1, this⟩
  · have := h.apart b o o' (hnd _ h1) (hnd _ h2) hoo
    rw [hsz, hsz]
    exact this
  · rcases hg l with e | ⟨e, t, xs, s, h1, h2⟩
    · rw [e]
      have := h.stamps l
      generalize g l = v at this
      cases v with
      | own => exact .inl this
      | view => exact ⟨.inl this.1, this.2⟩
      | eptr => exact ⟨.inl this.1, this.2⟩
      | _ => trivial
    · rw [h2]; exact .inr rfl
  · have hv' : g l = .opt c v := by
      rcases hg l with e1 | ⟨e1, t1, xs1, s1, _, h2⟩
      · rw [← e1]; exact hv
      · rw [h2] at hv; cases hv
    obtain ⟨k1, k2, k3, k4, k5⟩ := h.ctx l c v hv'
    refine ⟨k1, k2, k3, k4, fun hq => ?_⟩
    have := k5 (by rw [← gcond_congr (fun p hp => hctx p.1 (k1 p hp))]; exact hq)
    cases v with
    | own => exact .inl this
    | view => exact ⟨.inl this.1, this.2⟩
    | eptr => exact ⟨.inl this.1, this.2⟩
    | _ => trivial
  · obtain ⟨x, hx⟩ := h.dbool k hk
    refine ⟨x, ?_⟩
    rw [hctx k hk]
    exact hx
end
end Go.Ev

namespace Go.Ev
open Go.RowKit
section
variable {Z : ZS} {E : Env} {N : Nat} {w0 : World} {Ow : OwS} {P : Program} {F : Fence} {n : Nat}

theorem opt_plain {v : AV} {c : Ctx} (h1 : ∀ a b c d, v ≠ .own a b c d) (h2 : ∀ a b, v ≠ .opt a b) (h3 : ∀ n, v ≠ .tup n) (h4 : ∀ a b, v ≠ .bx a b) : plainAV v = true ∧ plainAV (.opt c v) = true := by
  cases v <;> first | exact ⟨rfl, rfl⟩ | exact absurd rfl (h1 _ _ _ _) | exact absurd rfl (h2 _ _) | exact absurd rfl (h3 _) | exact absurd rfl (h4 _ _)

theorem region_step (hE : EnvOk P E) (hFP : Plain P F) {ops : Array Oper} (hok : RegOk N ops.toList) {X : Nat → Prop} {g : Mem} {G : Ghost} {a : Act} {w : World} (h : Inv Z E N w0 Ow ops.toList X g G a w) {i : Nat} {o : Oper} (ho : ops.toList[i]? = some o) (hX : ¬ X i) (hgX : ∀ k want, o.guard = some (k, want) → X k)
    {f : Eff} (hf : (opQ E ops.toList i o).run g = some f) (ht : f.test = true) {K : Act → World → Prop} {Qp : Exit → Act → World → Prop}
    (hK : ∀ a' w' g' G', (∀ l, g' l = g.sets f.writes l) → Inv Z E N w0 Ow ops.toList (fun j => X j ∨ j = i) g' G' a' w' → K a' w') :
    wpOpIn F n P ops Qp i K a w := by
  have ho' : ops[i]? = some o := by simpa using ho
  have hfr : ¬ Sof X (i + 1) := fun hs => by
    rcases hs with hs | ⟨j, hj, hs⟩
    · omega
    · exact hX (by rw [show i = j by omega]; exact hj)
  have hdst : ∀ d, o.dst = some d → d < N ∧ ¬ Dof ops.toList X g d := fun d hd => ⟨hok.dst i o d ho hd, fun ⟨k, hk, hg, hkd, _⟩ => by
    have := single_writer hok hg hkd ho hd
    exact hX (this ▸ hk)⟩
  have hS0 : Sof X 0 := .inl rfl
  simp only [opQ, Q.run_bind, Option.bind_eq_some_iff] at hf
  obtain ⟨ctx, hctx, hf⟩ := hf
  replace hctx := ofO_some hctx
  unfold wpOpIn
  rw [ho']
  dsimp only
  split at hf
  · -- no guard
    simp only [Q.run_bind, Option.bind_eq_some_iff] at hf
    obtain ⟨f', hp, hf⟩ := hf
    split at hf
    · rename_i hw
      simp only [Bool.and_eq_true] at hw
      obtain ⟨hw, hpw⟩ := hw
      simp only [Q.run, Option.some.injEq] at hf
      subst hf
      have hog : o.guard = none := by
        cases hog : o.guard with
        | none => rfl
        | some kw =>
          obtain ⟨k, want⟩ := kw
          rw [hog] at hctx
          obtain ⟨_, _, _, _, _, _, _, _, hc⟩ := ctxOf_some hctx
          cases hc
      have hwant : Region.wanted o (yielded ops a.tmps) = true := by simp [Region.wanted, hog]
      rw [if_pos hwant]
      refine wpIn_put (sound_all hE [] i o h.rel rfl hp ht hfr hdst hFP.fn ⟨hFP, hS0⟩ (fun a' w' g' G' hg' hr htp => hK a' w' g' G' hg' ?_))
      refine inv_next hok h ho hX hgX hw hg' hr htp (fun hG d hd hb c m hc => ?_)
      have : c = [] := by rw [hog, ctxOf_none] at hc; cases hc; rfl
      subst this
      refine ⟨fun _ => ?_, fun hne => absurd rfl hne⟩
      obtain ⟨x, hx | ⟨c, hx⟩⟩ := hb
      · exact ⟨x, hx⟩
      · exfalso
        simp only [plainW, hd, Bool.and_eq_true] at hpw
        obtain ⟨h1, h2⟩ := hpw
        rw [hg'] at hx
        rcases sets_get (ws := f'.writes) (g := g) (l := .slot d) with ⟨_, h3⟩ | ⟨q, h3, h4, h5⟩
        · obtain ⟨q, hq, hqe⟩ := List.any_eq_true.1 h2
          exact h3 q hq (Loc.eq_iff.1 hqe)
        · rw [h5] at hx
          have := List.all_eq_true.1 h1 q h3
          rw [hx] at this
          cases this
    · simp [Q.run] at hf
  · rename_i p c
    simp only [guardQ, Q.run_bind, Option.bind_eq_some_iff] at hf
    obtain ⟨g0, hg0, f', hp, ws, ⟨us, hus, vs, hvs, hws⟩, hf⟩ := hf
    replace hvs := ofO_some hvs
    simp only [Q.run, Option.some.injEq] at hws
    subst hws
    split at hf
    · rename_i hw
      simp only [Q.run, Option.some.injEq] at hf
      subst hf
      obtain ⟨k, want, hog⟩ : ∃ k want, o.guard = some (k, want) := by
        cases hog : o.guard with
        | none => rw [hog, ctxOf_none] at hctx; cases hctx
        | some kw => exact ⟨kw.1, kw.2, rfl⟩
      have hkX := hgX k want hog
      have hwant := guard_wanted h ho hog hkX hctx hg0
      rw [hwant]
      have hD := ctx_dof h.closed ho hgX hctx (gcond_isB hg0)
      have hcong : ∀ {g2 : Mem}, (∀ l, g2 l = g.sets (us ++ vs) l) → (gcond (p :: c)).run g2 = (gcond (p :: c)).run g := fun {g2} hg2 => gcond_congr (fun q hq => by
        obtain ⟨k5, hk5, hg5, hd5, _⟩ := hD q hq
        exact (dof_same hok ho hX hg2 hw hk5 hg5 hd5).1)
      cases g0 with
      | true =>
        rw [if_pos rfl]
        have ht' : f'.test = true := by simpa using ht
        refine wpIn_put (sound_all hE (p :: c) i o h.rel hg0 hp ht' hfr hdst hFP.fn ⟨hFP, hS0⟩ (fun a' w' g1 G1 hg1 hr htp => ?_))
        have hoth : ∀ l, isSlotD o.dst l = false → g.sets us l = g1 l := fun l hl => by
          rw [hg1 l, sets_lastW l f'.writes g]
          rcases effQ_get hus hl with ⟨k1, k2⟩ | ⟨v, k1, k2⟩
          · rw [k1, k2]; rfl
          · rw [k1, merge_true k2]; rfl
        rcases slotW_some hvs with ⟨e3, e2⟩ | ⟨d, v, u, hd, e1, e2, hvu, n1, n2, n3, n4⟩
        · have hg2 : ∀ l, g1 l = g.sets (us ++ vs) l := fun l => by rw [e2, List.append_nil, hoth l (by rw [e3]; rfl)]
          refine hK a' w' g1 G1 hg2 (inv_next hok h ho hX hgX hw hg2 hr htp (fun hG d hd hb c' m hc => ?_))
          rw [e3] at hd; cases hd
        · obtain ⟨hdN, hdD⟩ := hdst d hd
          obtain ⟨p1, p2⟩ := opt_plain (c := p :: c) n1 n2 n3 n4
          have hgd : g1 (.slot d) = v := by rw [hg1, sets_lastW, e1]; rfl
          obtain ⟨G1', hr⟩ := hr.tellSlot hgd hvu
          obtain ⟨g1', hg1'⟩ : ∃ g1', g1' = g1.upd (.slot d) u := ⟨_, rfl⟩
          rw [← hg1'] at hr
          have hslot := hr.slots d
          have hstp := hr.stamps (.slot d)
          have hgd' : g1' (.slot d) = u := by rw [hg1']; exact Mem.upd_same _ _ _
          rw [hgd'] at hslot hstp
          have hr2 := hr.retell hdN (v := .opt (p :: c) u) p2 trivial hdD (fun c' u e => by cases e; exact ⟨hD, fun _ => hstp⟩) (fun _ => hslot)
          have hg2 : ∀ l, g1'.upd (.slot d) (.opt (p :: c) u) l = g.sets (us ++ vs) l := fun l => by
            rw [e2, Mem.sets_append, hg1']
            simp only [Mem.sets, Mem.upd]
            cases hl : (Loc.slot d).eq l with
            | true => rfl
            | false =>
              refine (hoth l ?_).symm
              rw [hd]
              cases hl2 : isSlotD (some d) l with
              | false => rfl
              | true =>
                have := Loc.eq_iff.1 (show l.eq (.slot d) = true from hl2)
                rw [this, Loc.eq_iff.2 rfl] at hl
                cases hl
          refine hK a' w' _ _ hg2 (inv_next hok h ho hX hgX hw hg2 hr2 htp (fun hG d' hd' hb c' m hc => ?_))
          have := ctxOf_det hc hctx
          subst this
          rw [hd] at hd'; cases hd'
          refine ⟨fun e => (by cases e), fun _ => ?_⟩
          obtain ⟨x, hx | ⟨c2, hx⟩⟩ := hb
          · rw [Mem.upd_same] at hx; cases hx
          · rw [Mem.upd_same] at hx
            cases hx
            refine ⟨x, Mem.upd_same _ _ _, fun hgc => ?_⟩
            exfalso
            rw [hcong hg2, hg0] at hgc
            cases hgc
      | false =>
        rw [if_neg (by simp)]
        refine ⟨fun f _ => hFP.fn f, ?_⟩
        obtain ⟨g3, hg3'⟩ : ∃ g3 : Mem, g3 = fun l => bif isSlotD o.dst l then g l else g.sets us l := ⟨_, rfl⟩
        have hg3 : ∀ l, g3 l = bif isSlotD o.dst l then g l else g.sets us l := fun l => by rw [hg3']
        have hr3 := h.rel.restamp (st := i + 1) (g' := g3) hfr (fun l => by
          rw [hg3 l]
          cases hl : isSlotD o.dst l with
          | true => exact .inl rfl
          | false =>
            rcases effQ_get hus hl with ⟨_, k2⟩ | ⟨v, _, k2⟩
            · exact .inl k2
            · rcases merge_false k2 with e | ⟨e, t, xs, s, e1, e2⟩
              · exact .inl e
              · exact .inr ⟨e, t, xs, s, e1, e2⟩)
        rcases slotW_some hvs with ⟨e3, e2⟩ | ⟨d, v, u, hd, e1, e2, hvu, n1, n2, n3, n4⟩
        · have hg2 : ∀ l, g3 l = g.sets (us ++ vs) l := fun l => by rw [hg3 l, e3, e2, List.append_nil]; rfl
          rw [e3]
          refine hK a w g3 G hg2 (inv_next hok h ho hX hgX hw hg2 hr3 ⟨undef, by rw [e3]; rfl⟩ (fun hG d hd hb c' m hc => ?_))
          rw [e3] at hd; cases hd
        · obtain ⟨hdN, hdD⟩ := hdst d hd
          obtain ⟨p1, p2⟩ := opt_plain (c := p :: c) n1 n2 n3 n4
          have hc3 : (gcond (p :: c)).run g3 = some false := by
            rw [← hg0]
            refine gcond_congr (fun q hq => ?_)
            obtain ⟨k5, hk5, hg5, hd5, _⟩ := hD q hq
            have h6 := dof_same (g' := g.sets (us ++ vs)) hok ho hX (fun _ => rfl) hw hk5 hg5 hd5
            have hne : isSlotD o.dst (.slot q.1) = false := by
              rw [hd]
              cases hl2 : isSlotD (some d) (.slot q.1) with
              | false => rfl
              | true =>
                have := Loc.eq_iff.1 (show (Loc.slot q.1).eq (.slot d) = true from hl2)
                cases this
                exact absurd hd h6.2
            have h7 := h6.1
            rw [Mem.sets_append, e2] at h7
            rw [hg3 _]
            simp only [hne, cond_false]
            rw [← h7]
            simp only [Mem.sets, Mem.upd]
            rw [hd] at hne
            have : (Loc.slot d).eq (.slot q.1) = false := by
              cases hl : (Loc.slot d).eq (.slot q.1) with
              | false => rfl
              | true =>
                have := Loc.eq_iff.1 hl
                cases this
                simp only [isSlotD] at hne
                rw [Loc.eq_iff.2 rfl] at hne
                cases hne
            rw [this]; rfl
          have hr2 := hr3.put hdN (v := .opt (p :: c) u) (val := undef) p2 trivial hdD (fun c' u e => by cases e; exact ⟨hD, fun hgc => by rw [hc3] at hgc; cases hgc⟩) (fun hgc => by rw [hc3] at hgc; cases hgc)
          have hg2 : ∀ l, g3.upd (.slot d) (.opt (p :: c) u) l = g.sets (us ++ vs) l := fun l => by
            rw [e2, Mem.sets_append]
            simp only [Mem.sets, Mem.upd]
            cases hl : (Loc.slot d).eq l with
            | true => rfl
            | false =>
              rw [hg3 l, hd]
              cases hl2 : isSlotD (some d) l with
              | false => rfl
              | true =>
                have := Loc.eq_iff.1 (show l.eq (.slot d) = true from hl2)
                rw [this, Loc.eq_iff.2 rfl] at hl
                cases hl
          have htp : tmpsPut a (a.put o.dst undef) o.dst := ⟨undef, rfl⟩
          rw [hd]
          rw [hd] at htp
          refine hK _ w _ _ hg2 (inv_next hok h ho hX hgX hw hg2 hr2 (by rw [hd]; exact htp) (fun hG d' hd' hb c' m hc => ?_))
          have := ctxOf_det hc hctx
          subst this
          rw [hd] at hd'; cases hd'
          refine ⟨fun e => (by cases e), fun _ => ?_⟩
          obtain ⟨x, hx | ⟨c2, hx⟩⟩ := hb
          · rw [Mem.upd_same] at hx; cases hx
          · rw [Mem.upd_same] at hx
            cases hx
            refine ⟨x, Mem.upd_same _ _ _, fun _ b hb => ?_⟩
            rw [put_tmps a d undef (by rw [h.rel.tmps]; exact hdN)] at hb
            simp [undef] at hb
    · simp [Q.run] at hf
end
end Go.Ev

namespace Go.Ev
open Go.RowKit
section
variable {Z : ZS} {E : Env} {N : Nat} {w0 : World} {Ow : OwS} {P : Program} {F : Fence} {n : Nat}

theorem get_sets (st : St) (ws : List (Loc × AV)) : St.get (st.sets ws) = Mem.sets (St.get st) ws := by
  induction ws generalizing st with
  | nil => rfl
  | cons p r ih =>
    show St.get (St.sets (p :: st) r) = _
    rw [ih, Mem.sets_cons]
    congr 1
theorem evOps_cons {R : Type} {ops : List Oper} {o : Oper} {rest : List Oper} {i : Nat} {st : St} {K : St → Option R} {r : R} (h : evOps E ops (o :: rest) i st K = some r) :
    ∃ f, (opQ E ops i o).run st.get = some f ∧ f.test = true ∧ evOps E ops rest (i + 1) (st.sets f.writes) K = some r := by
  simp only [evOps] at h
  split at h
  · rename_i f hf
    cases ht : f.test with
    | true => rw [ht] at h; exact ⟨f, hf, ht, h⟩
    | false => rw [ht] at h; cases h
  · cases h

theorem region_seq (hE : EnvOk P E) (hFP : Plain P F) {ops : Array Oper} (hok : RegOk N ops.toList) {R : Type} {K : St → Option R} {r : R} {Qp : Exit → Act → World → Prop}
    (hQ : ∀ a w G st, K st = some r → Inv Z E N w0 Ow ops.toList (fun j => j < ops.size) (St.get st) G a w → Qp .normal a w) :
    ∀ (m i : Nat) (st : St) (G : Ghost) (a : Act) (w : World), i + m = ops.size → evOps E ops.toList (ops.toList.drop i) i st K = some r → Inv Z E N w0 Ow ops.toList (fun j => j < i) (St.get st) G a w →
      wpOpsIn F n P ops Qp (List.range' i m) a w
  | 0, i, st, G, a, w, him, hev, hinv => by
    have : ops.toList.drop i = [] := List.drop_eq_nil_of_le (by simp; omega)
    rw [this] at hev
    have hi : i = ops.size := by omega
    subst hi
    exact hQ a w G st hev hinv
  | m + 1, i, st, G, a, w, him, hev, hinv => by
    have hlt : i < ops.toList.length := by simp; omega
    rw [List.drop_eq_getElem_cons hlt] at hev
    obtain ⟨f, hf, ht, hrest⟩ := evOps_cons hev
    rw [List.range'_succ, wpOpsIn_cons]
    refine region_step hE hFP hok hinv (List.getElem?_eq_getElem hlt) (Nat.lt_irrefl i) (fun k want hg => (hok.guard i _ k want (List.getElem?_eq_getElem hlt) hg).1) hf ht (fun a' w' g' G' hg' hi => ?_)
    refine region_seq hE hFP hok hQ m (i + 1) (st.sets f.writes) G' a' w' (by omega) hrest ?_
    have e1 : g' = St.get (st.sets f.writes) := by rw [get_sets]; exact funext hg'
    have e2 : (fun j => j < i ∨ j = i) = (fun j => j < i + 1) := by funext j; exact propext ⟨by omega, by omega⟩
    rw [← e1, ← e2]
    exact hi

/-! ### Whatever order -/
theorem sets_congr {g g' : Mem} {l : Loc} (h : g l = g' l) : ∀ (ws : List (Loc × AV)), g.sets ws l = g'.sets ws l := by
  intro ws
  induction ws generalizing g g' with
  | nil => exact h
  | cons p r ih =>
    rw [Mem.sets_cons, Mem.sets_cons]
    refine ih ?_
    simp only [Mem.upd_apply]
    split
    · rfl
    · exact h
theorem sets_mem {l : Loc} : ∀ {ws : List (Loc × AV)}, (∃ p ∈ ws, p.1 = l) → ∀ (g g' : Mem), g.sets ws l = g'.sets ws l := by
  intro ws
  induction ws with
  | nil => rintro ⟨p, hp, _⟩; simp at hp
  | cons p r ih =>
    intro h g g'
    rw [Mem.sets_cons, Mem.sets_cons]
    by_cases hr : ∃ q ∈ r, q.1 = l
    · exact ih hr _ _
    · refine sets_congr ?_ r
      obtain ⟨q, hq, hql⟩ := h
      rcases List.mem_cons.1 hq with rfl | hq
      · rw [← hql, Mem.upd_same, Mem.upd_same]
      · exact absurd ⟨q, hq, hql⟩ hr
theorem sets_comm {g : Mem} {a b : List (Loc × AV)} (h : ∀ p ∈ a, ∀ q ∈ b, p.1 ≠ q.1) (l : Loc) : (g.sets a).sets b l = (g.sets b).sets a l := by
  by_cases ha : ∃ p ∈ a, p.1 = l
  · have hb : ∀ q ∈ b, q.1 ≠ l := fun q hq e => by obtain ⟨p, hp, hpl⟩ := ha; exact h p hp q hq (hpl.trans e.symm)
    rw [sets_other hb, sets_mem ha g (g.sets b)]
  · have ha' : ∀ p ∈ a, p.1 ≠ l := fun p hp e => ha ⟨p, hp, e⟩
    rw [sets_other (ws := a) (g := g.sets b) ha']
    exact sets_congr (sets_other ha') b

def memOf (g0 : Mem) (ef : Nat → Eff) (X : Nat → Bool) : Nat → Mem
  | 0 => g0
  | m + 1 => if X m then (memOf g0 ef X m).sets (ef m).writes else memOf g0 ef X m
theorem memOf_agree {g0 : Mem} {ef : Nat → Eff} {X Y : Nat → Bool} {l : Loc} : ∀ {m : Nat}, (∀ j, j < m → (∃ p ∈ (ef j).writes, p.1 = l) → X j = Y j) → memOf g0 ef X m l = memOf g0 ef Y m l := by
  intro m
  induction m with
  | zero => intro _; rfl
  | succ m ih =>
    intro h
    have ih := ih (fun j hj => h j (by omega))
    simp only [memOf]
    by_cases hw : ∃ p ∈ (ef m).writes, p.1 = l
    · rw [h m (by omega) hw]
      split
      · exact sets_congr ih _
      · exact ih
    · have hw' : ∀ p ∈ (ef m).writes, p.1 ≠ l := fun p hp e => hw ⟨p, hp, e⟩
      split <;> split <;> simp only [sets_other hw', ih]
theorem memOf_upto {g0 : Mem} {ef : Nat → Eff} {sts : Nat → Mem} (h0 : sts 0 = g0) {n : Nat} (hs : ∀ i, i < n → sts (i + 1) = (sts i).sets (ef i).writes) {i : Nat} : ∀ {m : Nat}, m ≤ n → memOf g0 ef (fun j => decide (j < i)) m = sts (min i m) := by
  intro m
  induction m with
  | zero => intro _; simp [memOf, h0]
  | succ m ih =>
    intro hm
    have ih := ih (by omega)
    simp only [memOf, ih, decide_eq_true_eq]
    split
    · rw [show min i (m + 1) = m + 1 by omega, show min i m = m by omega, hs m (by omega)]
    · rw [show min i (m + 1) = min i m by omega]
theorem memOf_next {g0 : Mem} {ef : Nat → Eff} {X X' : Nat → Bool} {i : Nat} (hi : X i = false) (hX : ∀ j, X' j = (X j || decide (j = i))) {n : Nat} (hin : i < n)
    (hd : ∀ j, i < j → j < n → X j = true → ∀ p ∈ (ef i).writes, ∀ q ∈ (ef j).writes, p.1 ≠ q.1) (l : Loc) : memOf g0 ef X' n l = (memOf g0 ef X n).sets (ef i).writes l := by
  have low : ∀ m, m ≤ i → memOf g0 ef X' m = memOf g0 ef X m := by
    intro m
    induction m with
    | zero => intro _; rfl
    | succ m ih =>
      intro hm
      simp only [memOf, ih (by omega), hX, show (decide (m = i)) = false from by simp; omega, Bool.or_false]
  have key : ∀ m, i < m → m ≤ n → ∀ l, memOf g0 ef X' m l = (memOf g0 ef X m).sets (ef i).writes l := by
    intro m
    induction m with
    | zero => intro h; omega
    | succ m ih =>
      intro h1 h2 l
      by_cases hm : m = i
      · subst hm
        simp only [memOf, hX, hi, low m (Nat.le_refl _)]
        simp
      · have ih := ih (by omega) (by omega)
        simp only [memOf, hX, show (decide (m = i)) = false from by simp [hm], Bool.or_false]
        split
        · rename_i hXm
          exact (sets_congr (ih l) _).trans (sets_comm (hd m (by omega) (by omega) hXm) l)
        · exact ih l
  exact key n hin (Nat.le_refl _) l

/-- The run in the text's order, as states. -/
theorem evOps_states {ops : List Oper} {R : Type} {K : St → Option R} {r : R} : ∀ {rest : List Oper} {i : Nat} {st : St}, evOps E ops rest i st K = some r →
    ∃ (sts : Nat → Mem) (ef : Nat → Eff) (st' : St), sts 0 = St.get st ∧ K st' = some r ∧ St.get st' = sts rest.length ∧
      (∀ (j : Nat) (o : Oper), rest[j]? = some o → (opQ E ops (i + j) o).run (sts j) = some (ef j) ∧ (ef j).test = true ∧ sts (j + 1) = (sts j).sets (ef j).writes) ∧
      (∀ (j : Nat) (o : Oper), rest[j]? = some o → (logOps E ops rest i st)[j]? = some ⟨(opQ E ops (i + j) o).reads (sts j), (ef j).writes.map (·.1)⟩)
  | [], i, st, h => ⟨fun _ => St.get st, fun _ => ⟨true, []⟩, st, rfl, h, rfl, by simp, by simp⟩
  | o :: rest, i, st, h => by
    obtain ⟨f, hf, ht, hr⟩ := evOps_cons h
    obtain ⟨sts, ef, st', h0, h1, h2, h3, h4⟩ := evOps_states hr
    refine ⟨fun j => match j with | 0 => St.get st | j + 1 => sts j, fun j => match j with | 0 => f | j + 1 => ef j, st', rfl, h1, h2, fun j q hq => ?_, fun j q hq => ?_⟩
    · cases j with
      | zero =>
        simp only [List.getElem?_cons_zero, Option.some.injEq] at hq
        subst hq
        exact ⟨hf, ht, by show sts 0 = Mem.sets (St.get st) f.writes; rw [h0, get_sets]⟩
      | succ j =>
        simp only [List.getElem?_cons_succ] at hq
        have := h3 j q hq
        rw [show i + 1 + j = i + (j + 1) by omega] at this
        exact this
    · have e : logOps E ops (o :: rest) i st = ⟨(opQ E ops i o).reads st.get, f.writes.map (·.1)⟩ :: logOps E ops rest (i + 1) (st.sets f.writes) := by
        simp only [logOps, hf]
      rw [e]
      cases j with
      | zero =>
        simp only [List.getElem?_cons_zero, Option.some.injEq] at hq
        subst hq
        rfl
      | succ j =>
        simp only [List.getElem?_cons_succ] at hq ⊢
        rw [h4 j q hq, show i + 1 + j = i + (j + 1) by omega]

/-- A set of operations that holds whom they wait for. -/
def ClosedY (ops : List Oper) (Y : Nat → Prop) : Prop := ∀ (k : Nat) (o : Oper), ops[k]? = some o → Y k → ∀ e ∈ o.after, Region.binds .any e = true → Y e.on
theorem maskOf_bit {ms : List Nat} {o : Oper} {i : Nat} (h : Nat.testBit (maskOf ms o) i = true) : ∃ e ∈ o.after, Region.binds .any e = true ∧ (e.on = i ∨ Nat.testBit (ms.getD e.on 0) i = true) := by
  have key : ∀ (l : List Edge) (acc : Nat), Nat.testBit (l.foldl (fun m e => bif Region.binds .any e then m ||| (ms.getD e.on 0 ||| 2 ^ e.on) else m) acc) i = true → Nat.testBit acc i = true ∨ ∃ e ∈ l, Region.binds .any e = true ∧ (e.on = i ∨ Nat.testBit (ms.getD e.on 0) i = true) := by
    intro l
    induction l with
    | nil => intro acc h; exact .inl h
    | cons x l ih =>
      intro acc h
      rw [List.foldl_cons] at h
      rcases ih _ h with h1 | ⟨e, he, h1⟩
      · cases hb : Region.binds .any x with
        | false => rw [hb] at h1; exact .inl h1
        | true =>
          rw [hb] at h1
          simp only [cond_true, Nat.testBit_or, Bool.or_eq_true] at h1
          rcases h1 with h1 | h1 | h1
          · exact .inl h1
          · exact .inr ⟨x, by simp, hb, .inr h1⟩
          · rw [Nat.testBit_two_pow] at h1
            exact .inr ⟨x, by simp, hb, .inl (of_decide_eq_true h1)⟩
      · exact .inr ⟨e, by simp [he], h1⟩
  rcases key _ _ h with h1 | ⟨e, he, h1⟩
  · simp at h1
  · exact ⟨e, by simpa using he, h1⟩
def GoodM (ops : List Oper) (ms : List Nat) : Prop := ∀ k i, Nat.testBit (ms.getD k 0) i = true → ∀ Y, ClosedY ops Y → Y k → Y i
theorem ordered1_some {m : Nat} {b : Log} : ∀ {as : List Log} {j : Nat}, ordered1 m b j as = true → ∀ (i : Nat) (a : Log), as[i]? = some a → clash a b = true → Nat.testBit m (j + i) = true
  | [], _, _, i, a, ha, _ => by simp at ha
  | x :: as, j, h, i, a, ha, hc => by
    simp only [ordered1, Bool.and_eq_true] at h
    cases i with
    | zero =>
      simp only [List.getElem?_cons_zero, Option.some.injEq] at ha
      subst ha
      rw [hc] at h
      simpa using h.1
    | succ i =>
      simp only [List.getElem?_cons_succ] at ha
      have := ordered1_some h.2 i a ha hc
      rw [show j + (i + 1) = j + 1 + i by omega]; exact this
theorem goodM_next {ops : List Oper} {ms : List Nat} (h : GoodM ops ms) {o : Oper} (ho : ops[ms.length]? = some o) : GoodM ops (ms ++ [maskOf ms o]) := by
  intro k i hk Y hY hYk
  rcases Nat.lt_trichotomy k ms.length with hl | hl | hl
  · refine h k i ?_ Y hY hYk
    rw [List.getD_eq_getElem?_getD, List.getElem?_append_left hl, ← List.getD_eq_getElem?_getD] at hk
    exact hk
  · subst hl
    rw [List.getD_eq_getElem?_getD, List.getElem?_append_right (Nat.le_refl _), Nat.sub_self] at hk
    obtain ⟨e, he, h1, h2⟩ := maskOf_bit (by simpa using hk)
    have hYe := hY _ _ ho hYk e he h1
    rcases h2 with rfl | h2
    · exact hYe
    · exact h _ _ h2 Y hY hYe
  · rw [List.getD_eq_getElem?_getD, List.getElem?_eq_none (by simp; omega)] at hk
    simp at hk
theorem orderedAll_some {ops : List Oper} : ∀ {os : List Oper} {done logs : List Log} {ms : List Nat}, orderedAll os done ms logs = true → (∀ j, os[j]? = ops[ms.length + j]?) → GoodM ops ms → ∀ (j : Nat) (o : Oper) (b : Log), os[j]? = some o → logs[j]? = some b → ∀ (i : Nat) (a : Log), (done ++ logs.take j)[i]? = some a → clash a b = true →
    ∃ e ∈ o.after, Region.binds .any e = true ∧ ∀ Y, ClosedY ops Y → Y e.on → Y i
  | [], _, _, _, _, _, _, j, o, b, ho, _, _, _, _, _ => by simp at ho
  | _ :: _, _, [], _, h, _, _, _, _, _, _, _, _, _, _, _ => by simp [orderedAll] at h
  | o0 :: os, done, l :: ls, ms, h, hos, hg, j, o, b, ho, hb, i, a, ha, hc => by
    simp only [orderedAll, Bool.and_eq_true] at h
    cases j with
    | zero =>
      simp only [List.getElem?_cons_zero, Option.some.injEq] at ho hb
      subst ho; subst hb
      simp only [List.take_zero, List.append_nil] at ha
      have h1 := ordered1_some h.1 i a ha hc
      rw [Nat.zero_add] at h1
      obtain ⟨e, he, h2, h3⟩ := maskOf_bit h1
      refine ⟨e, he, h2, fun Y hY hYe => ?_⟩
      rcases h3 with rfl | h3
      · exact hYe
      · exact hg _ _ h3 Y hY hYe
    | succ j =>
      simp only [List.getElem?_cons_succ] at ho hb
      have h0 : ops[ms.length]? = some o0 := by
        have := hos 0
        rw [Nat.add_zero] at this
        rw [← this]; rfl
      exact orderedAll_some h.2 (fun j => by
        have := hos (j + 1)
        rw [List.getElem?_cons_succ] at this
        rw [this, List.length_append, List.length_singleton]
        congr 1; omega) (goodM_next hg h0) j o b ho hb i a (by simpa using ha) hc

theorem meets_of {a b : List Loc} {l : Loc} (ha : l ∈ a) (hb : l ∈ b) : meets a b = true := by
  rw [meets, List.any_eq_true]
  exact ⟨l, ha, List.any_eq_true.2 ⟨l, hb, Loc.eq_iff.2 rfl⟩⟩

def countT (l : Array Bool) (n : Nat) : Nat := (List.range n).countP fun j => l.getD j false
theorem countT_set {l : Array Bool} {i n : Nat} (hi : i < n) (hs : n ≤ l.size) (h0 : l.getD i false = false) : countT (l.setIfInBounds i true) n = countT l n + 1 := by
  unfold countT
  have : ∀ m, m ≤ n → (List.range m).countP (fun j => (l.setIfInBounds i true).getD j false) = (List.range m).countP (fun j => l.getD j false) + (if i < m then 1 else 0) := by
    intro m
    induction m with
    | zero => intro _; simp
    | succ m ih =>
      intro hm
      rw [List.range_succ, List.countP_append, List.countP_append, ih (by omega)]
      by_cases hmi : m = i
      · subst hmi
        have h1 : (l.setIfInBounds m true).getD m false = true := by simp [Array.getD_eq_getD_getElem?, show m < l.size by omega]
        simp only [List.countP_singleton, h1, h0]
        simp
      · have h1 : (l.setIfInBounds i true).getD m false = l.getD m false := by simp [Array.getD_eq_getD_getElem?, Array.getElem?_setIfInBounds_ne (Ne.symm hmi)]
        simp only [List.countP_singleton, h1]
        by_cases him : i < m
        · simp [him, show i < m + 1 by omega]; omega
        · simp [him, show ¬ i < m + 1 by omega]
  rw [this n (Nat.le_refl _), if_pos hi]
theorem countT_all {l : Array Bool} {n : Nat} (h : countT l n = n) : ∀ j, j < n → l.getD j false = true := by
  unfold countT at h
  have : (List.range n).countP (fun j => l.getD j false) = (List.range n).length := by simpa using h
  rw [List.countP_eq_length] at this
  intro j hj
  exact this j (List.mem_range.2 hj)

theorem region_draw (hE : EnvOk P E) (hFP : Plain P F) {ops : Array Oper} (hok : RegOk N ops.toList) {R : Type} {K : St → Option R} {r : R} {Qp : Exit → Act → World → Prop}
    (hQ : ∀ a w G st, K st = some r → Inv Z E N w0 Ow ops.toList (fun j => j < ops.size) (St.get st) G a w → Qp .normal a w)
    {st : St} (hev : evOps E ops.toList ops.toList 0 st K = some r) (hd : drawOk E ops.toList st = true) {G : Ghost} {a : Act} {w : World} (hinv : Inv Z E N w0 Ow ops.toList (fun _ => False) (St.get st) G a w) :
    wpAnyIn F n P .any ops Qp ops.size (Array.replicate ops.size false) a w := by
  obtain ⟨sts, ef, st', h0, h1, h2, h3, h4⟩ := evOps_states hev
  have hlen : ops.toList.length = ops.size := by simp
  have edge : ∀ (i j : Nat) (oi oj : Oper), i < j → ops.toList[i]? = some oi → ops.toList[j]? = some oj →
      clash ⟨(opQ E ops.toList i oi).reads (sts i), (ef i).writes.map (·.1)⟩ ⟨(opQ E ops.toList j oj).reads (sts j), (ef j).writes.map (·.1)⟩ = true → ∃ e ∈ oj.after, Region.binds .any e = true ∧ ∀ Y, ClosedY ops.toList Y → Y e.on → Y i := by
    intro i j oi oj hij hi hj hc
    have li := h4 i oi hi
    have lj := h4 j oj hj
    rw [Nat.zero_add] at li lj
    refine orderedAll_some (ops := ops.toList) (os := ops.toList) (done := []) (ms := []) (logs := logOps E ops.toList ops.toList 0 st) hd (fun j => by simp) (fun k i hk => by simp at hk) j oj _ hj lj i _ ?_ hc
    rw [List.nil_append, List.getElem?_take, if_pos hij]
    exact li
  have main : ∀ (fuel : Nat) (listed : Array Bool) (G : Ghost) (a : Act) (w : World), listed.size = ops.size → countT listed ops.size + fuel = ops.size →
      (∀ j o, ops.toList[j]? = some o → listed.getD j false = true → ∀ e ∈ o.after, Region.binds .any e = true → listed.getD e.on false = true) →
      Inv Z E N w0 Ow ops.toList (fun j => listed.getD j false = true) (memOf (St.get st) ef (fun j => listed.getD j false) ops.size) G a w →
      wpAnyIn F n P .any ops Qp fuel listed a w := by
    intro fuel
    have done : ∀ (listed : Array Bool) (G : Ghost) (a : Act) (w : World), listed.size = ops.size → (∀ j, j < ops.size → listed.getD j false = true) →
        Inv Z E N w0 Ow ops.toList (fun j => listed.getD j false = true) (memOf (St.get st) ef (fun j => listed.getD j false) ops.size) G a w → Qp .normal a w := by
      intro listed G a w hs hall hi
      have e1 : memOf (St.get st) ef (fun j => listed.getD j false) ops.size = St.get st' := by
        funext l
        rw [h2, hlen, memOf_agree (Y := fun j => decide (j < ops.size)) (fun j hj _ => by rw [hall j hj]; simp [hj])]
        rw [memOf_upto h0 (n := ops.size) (fun i hi => (h3 i _ (List.getElem?_eq_getElem (by rw [hlen]; exact hi))).2.2) (Nat.le_refl _), Nat.min_self]
      have e2 : (fun j => listed.getD j false = true) = (fun j => j < ops.size) := by
        funext j
        refine propext ⟨fun hj => ?_, hall j⟩
        have := hi.bound j hj
        rw [hlen] at this; exact this
      rw [e1, e2] at hi
      exact hQ a w G st' h1 hi
    induction fuel with
    | zero =>
      intro listed G a w hs hc hcl hi
      have hall := countT_all (l := listed) (n := ops.size) (by omega)
      refine ⟨?_, done listed G a w hs hall hi⟩
      rw [List.eq_nil_iff_forall_not_mem]
      intro j hj
      obtain ⟨k1, o, k2, _⟩ := mem_ready.1 hj
      have hlt : j < ops.size := (Array.getElem?_eq_some_iff.1 k2).1
      have := hall j hlt
      simp only [Array.getD_eq_getD_getElem?] at k1 this
      cases hx : listed[j]? with
      | none => rw [hx] at this; simp at this
      | some b => rw [hx] at k1 this; simp at k1 this; rw [k1] at this; cases this
    | succ fuel ih =>
      intro listed G a w hs hc hcl hi
      refine ⟨fun hr => ?_, fun i hir => ?_⟩
      · refine done listed G a w hs ?_ hi
        intro j
        induction j using Nat.strongRecOn with
        | _ j ihj =>
          intro hj
          apply Classical.byContradiction
          intro hne
          have hj' : j < ops.toList.length := by rw [hlen]; exact hj
          have : j ∈ Region.ready .any ops listed := mem_ready.2 ⟨by
            have hf : listed.getD j false = false := by simpa using hne
            simp only [Array.getD_eq_getD_getElem?] at hf ⊢
            cases hx : listed[j]? with
            | none => rw [Array.getElem?_eq_none_iff] at hx; omega
            | some b => rw [hx] at hf; simpa using hf, ops.toList[j], by simp [hj], fun e he hb => ihj e.on (hok.back j _ (List.getElem?_eq_getElem hj') e he hb) (by
              have := hok.back j _ (List.getElem?_eq_getElem hj') e he hb; omega)⟩
          rw [hr] at this
          simp at this
      · obtain ⟨k1, o, k2, k3⟩ := mem_ready.1 hir
        have hlt : i < ops.size := (Array.getElem?_eq_some_iff.1 k2).1
        have ho : ops.toList[i]? = some o := by simpa using k2
        have hXi : listed.getD i false = false := by
          simp only [Array.getD_eq_getD_getElem?] at k1 ⊢
          cases hx : listed[i]? with
          | none => rfl
          | some b => rw [hx] at k1; simpa using k1
        have hget : ∀ (j : Nat) (hj : j < ops.size), ops.toList[j]? = some (ops.toList[j]'(by rw [hlen]; exact hj)) := fun j hj => List.getElem?_eq_getElem _
        have step := h3 i o ho
        rw [Nat.zero_add] at step
        -- what it reads is as in the text's order
        have hreads : ∀ l ∈ (opQ E ops.toList i o).reads (sts i), memOf (St.get st) ef (fun j => listed.getD j false) ops.size l = sts i l := by
          intro l hl
          have hup := memOf_upto h0 (n := ops.size) (fun i hi => (h3 i _ (List.getElem?_eq_getElem (by rw [hlen]; exact hi))).2.2) (i := i) (Nat.le_refl _)
          rw [Nat.min_eq_left (by omega)] at hup
          rw [← hup]
          refine memOf_agree (fun j hj hw => ?_)
          obtain ⟨p, hp, hpl⟩ := hw
          have hwl : l ∈ (ef j).writes.map (·.1) := List.mem_map.2 ⟨p, hp, hpl⟩
          rcases Nat.lt_trichotomy j i with hji | hji | hji
          · have hcl' : clash ⟨(opQ E ops.toList j (ops.toList[j]'(by rw [hlen]; exact hj))).reads (sts j), (ef j).writes.map (·.1)⟩ ⟨(opQ E ops.toList i o).reads (sts i), (ef i).writes.map (·.1)⟩ = true := by
              simp only [clash, meets_of hwl hl, Bool.or_true, Bool.true_or]
            obtain ⟨e, he, h5, h6⟩ := edge j i _ o hji (hget j hj) ho hcl'
            have := h6 (fun j => listed.getD j false = true) hcl (k3 e he h5)
            simp only [this, hji, decide_true]
          · subst hji
            simp only [hXi, Nat.lt_irrefl, decide_false]
          · have hcl' : clash ⟨(opQ E ops.toList i o).reads (sts i), (ef i).writes.map (·.1)⟩ ⟨(opQ E ops.toList j (ops.toList[j]'(by rw [hlen]; exact hj))).reads (sts j), (ef j).writes.map (·.1)⟩ = true := by
              simp only [clash, meets_of hl hwl, Bool.or_true]
            obtain ⟨e, he, h5, h6⟩ := edge i j o _ hji ho (hget j hj) hcl'
            have hn : listed.getD j false = false := by
              cases hlj : listed.getD j false with
              | false => rfl
              | true =>
                have := h6 (fun j => listed.getD j false = true) hcl (hcl j _ (hget j hj) hlj e he h5)
                rw [hXi] at this; cases this
            simp only [hn, show ¬ j < i by omega, decide_false]
        have hrun : (opQ E ops.toList i o).run (memOf (St.get st) ef (fun j => listed.getD j false) ops.size) = some (ef i) := by
          rw [(Q.congr _ hreads).1]; exact step.1
        refine region_step hE hFP hok hi ho (by rw [hXi]; simp) (fun k want hg => ?_) hrun step.2.1 (fun a' w' g' G' hg' hi' => ?_)
        · obtain ⟨_, ⟨e, he, h5, h6⟩, _⟩ := hok.guard i o k want ho hg
          have := k3 e he h6
          rw [h5] at this
          exact this
        · have hX' : ∀ j, (listed.setIfInBounds i true).getD j false = (listed.getD j false || decide (j = i)) := fun j => by
            by_cases hji : j = i
            · subst hji
              simp [Array.getD_eq_getD_getElem?, hs, hlt]
            · simp [Array.getD_eq_getD_getElem?, Array.getElem?_setIfInBounds_ne (Ne.symm hji), hji]
          refine ih (listed.setIfInBounds i true) G' a' w' (by simpa using hs) (by rw [countT_set hlt (by omega) hXi]; omega) (fun j oj hoj hlj e he hb => ?_) ?_
          · rw [hX'] at hlj ⊢
            simp only [Bool.or_eq_true, decide_eq_true_eq] at hlj ⊢
            rcases hlj with hlj | rfl
            · exact .inl (hcl j oj hoj hlj e he hb)
            · rw [ho] at hoj; cases hoj
              exact .inl (k3 e he hb)
          · have e1 : g' = memOf (St.get st) ef (fun j => (listed.setIfInBounds i true).getD j false) ops.size := by
              funext l
              rw [hg' l]
              refine (memOf_next (X := fun j => listed.getD j false) hXi hX' hlt (fun j hij hj hXj p hp q hq e' => ?_) l).symm
              have hcl' : clash ⟨(opQ E ops.toList i o).reads (sts i), (ef i).writes.map (·.1)⟩ ⟨(opQ E ops.toList j (ops.toList[j]'(by rw [hlen]; exact hj))).reads (sts j), (ef j).writes.map (·.1)⟩ = true := by
                simp only [clash, meets_of (l := p.1) (List.mem_map.2 ⟨p, hp, rfl⟩) (List.mem_map.2 ⟨q, hq, e'.symm⟩), Bool.true_or]
              obtain ⟨e, he, h5, h6⟩ := edge i j o _ hij ho (hget j hj) hcl'
              have := h6 (fun j => listed.getD j false = true) hcl (hcl j _ (hget j hj) hXj e he h5)
              rw [hXi] at this; cases this
            have e2 : (fun j => listed.getD j false = true ∨ j = i) = (fun j => (listed.setIfInBounds i true).getD j false = true) := by
              funext j
              rw [hX']
              simp
            rw [← e1, ← e2]
            exact hi'
  refine main ops.size (Array.replicate ops.size false) G a w (by simp) ?_ (fun j o _ hl => ?_) ?_
  · have : countT (Array.replicate ops.size false) ops.size = 0 := by
      unfold countT
      rw [List.countP_eq_zero]
      intro j hj
      simp at hj
      simp [Array.getD_eq_getD_getElem?, hj]
    omega
  · exfalso
    simp only [Array.getD_eq_getD_getElem?, Array.getElem?_replicate] at hl
    split at hl <;> simp at hl
  · have hz : ∀ j, (Array.replicate ops.size false).getD j false = false := fun j => by
      simp only [Array.getD_eq_getD_getElem?, Array.getElem?_replicate]
      split <;> rfl
    have e1 : memOf (St.get st) ef (fun j => (Array.replicate ops.size false).getD j false) ops.size = St.get st := by
      have hzf : (fun j => (Array.replicate ops.size false).getD j false) = fun _ => false := funext hz
      rw [hzf]
      have : ∀ m, memOf (St.get st) ef (fun _ => false) m = St.get st := by
        intro m
        induction m with
        | zero => rfl
        | succ m ih => simp [memOf, ih]
      exact this _
    have e2 : (fun j => (Array.replicate ops.size false).getD j false = true) = (fun _ => False) := by
      funext j; rw [hz]; simp
    rw [e1, e2]
    exact hinv
end
end Go.Ev

namespace Go.Ev
open Go.RowKit
section
variable {Z : ZS} {E : Env} {N : Nat} {w0 : World} {Ow : OwS} {P : Program} {F : Fence} {n : Nat}

/-- Between regions. -/
def RelC (Z : ZS) (E : Env) (N : Nat) (w0 : World) (Ow : OwS) (st : St) (G : Ghost) (a : Act) (w : World) : Prop :=
  Rel Z E N w0 Ow (fun n => n = 0) (fun _ => False) (St.get st) G a w

theorem relC_inv {ops : List Oper} {st : St} {G : Ghost} {a : Act} {w : World} (h : RelC Z E N w0 Ow st G a w) : Inv Z E N w0 Ow ops (fun _ => False) (St.get st) G a w := by
  refine ⟨?_, fun _ _ _ _ _ hk => hk.elim, fun _ _ _ _ hk => hk.elim, fun _ hk => hk.elim⟩
  refine Rel.more h (fun m hm => .inl hm) (fun _ hd => hd.elim) (fun d ⟨_, hk, _⟩ => hk.elim)

theorem relC_norm {st : St} {S D : Nat → Prop} {G : Ghost} {a : Act} {w : World} (h : Rel Z E N w0 Ow S D (St.get st) G a w) (k : Keep) : ∃ G', RelC Z E N w0 Ow (norm k st) G' a w := h.norm k st (fun _ => rfl)

theorem get_filter (st : St) (t : Nat) (l : Loc) : St.get (st.filter fun p => !p.1.eq (.slot t)) l = if l = .slot t then .dead else St.get st l := by
  induction st with
  | nil => simp [St.get]
  | cons p st ih =>
    rw [List.filter_cons]
    cases hp : p.1.eq (.slot t) with
    | true =>
      have := Loc.eq_iff.1 hp
      simp only [Bool.not_true, Bool.false_eq_true, if_false, ih, St.get]
      split
      · rfl
      · rename_i hne
        have : p.1.eq l = false := by
          cases hq : p.1.eq l with
          | false => rfl
          | true => exact absurd ((Loc.eq_iff.1 hq).symm.trans this) hne
        rw [this]; rfl
    | false =>
      simp only [Bool.not_false, if_true, St.get, ih]
      cases hq : p.1.eq l with
      | false => rfl
      | true =>
        have e := Loc.eq_iff.1 hq
        have : l ≠ .slot t := fun e' => by
          rw [e, e'] at hp
          rw [Loc.eq_iff.2 rfl] at hp
          cases hp
        simp [this]

theorem cond_told {st : St} {G : Ghost} {a : Act} {w : World} (h : RelC Z E N w0 Ow st G a w) {c : Operand} {b : Bool} (hc : condQ st c = some b) : a.eval c = .bool b := by
  unfold condQ at hc
  split at hc
  · rename_i t
    split at hc
    · rename_i x hx
      cases hc
      have := h.slots t
      rw [hx] at this
      obtain ⟨cs, h1, h2⟩ := this
      simp only [RV] at h1
      subst h1
      exact h2
    · cases hc
  · cases hc; rfl
  · cases hc
theorem relC_drop {st : St} {G : Ghost} {a : Act} {w : World} (h : RelC Z E N w0 Ow st G a w) {c : Operand} {b : Bool} (hc : condQ st c = some b) (kp : Nat → Bool) : ∃ G', RelC Z E N w0 Ow (dropO kp b st c) G' a w := by
  have hb := cond_told h hc
  unfold dropO
  split
  · rename_i t
    cases hk : kp t with
    | false =>
      have h2 := Rel.put' (a' := a) (d := t) (v := .dead) (val := a.tmps.getD t undef) h rfl trivial (fun hd => hd) (fun c u e => by cases e) trivial h.defers h.tmps rfl (fun _ _ => rfl)
      have : St.get (st.filter fun p => !p.1.eq (.slot t)) = Mem.upd (St.get st) (.slot t) .dead := by
        funext l
        rw [get_filter, Mem.upd_apply]
      refine ⟨G.upd (.slot t) none, ?_⟩
      unfold RelC
      simp only [cond_false]
      rw [this]
      exact h2
    | true =>
      have h2 := Rel.put' (a' := a) (d := t) (v := .dat .bool b) (val := a.tmps.getD t undef) h rfl trivial (fun hd => hd) (fun c u e => by cases e) ⟨[.bool b], rfl, hb⟩ h.defers h.tmps rfl (fun _ _ => rfl)
      have : St.get ((.slot t, .dat .bool b) :: st.filter fun p => !p.1.eq (.slot t)) = Mem.upd (St.get st) (.slot t) (.dat .bool b) := by
        funext l
        rw [Mem.upd_apply, St.get, get_filter]
        cases hl : (Loc.slot t).eq l with
        | true =>
          have e := Loc.eq_iff.1 hl
          subst e
          simp
        | false =>
          have : ¬ l = .slot t := fun e => by rw [e, Loc.eq_iff.2 rfl] at hl; cases hl
          rw [if_neg this, if_neg this]; rfl
      refine ⟨G.upd (.slot t) none, ?_⟩
      unfold RelC
      simp only [cond_true]
      rw [this]
      exact h2
  · exact ⟨G, h⟩

/-- **What 'ev' answers is what the code does.** -/
theorem ev_sound (hE : EnvOk P E) (hFP : Plain P F) (hm : P.follows .mixedOrders = true) {O : Orc} (hN : O.n = N) {R : Type} {fuel : Nat} {r : R} :
    ∀ (c : Code) (st : St) (K : Cont R) (Qp : Exit → Act → World → Prop) (G : Ghost) (a : Act) (w : World),
      (∀ e a w st G, K e st = some r → RelC Z E N w0 Ow st G a w → Qp e a w) → ev E O fuel c st K = some r → RelC Z E N w0 Ow st G a w → c.wpIn F n P Qp a w := by
  intro c
  induction c with
  | skip => intro st K Qp G a w hQ hev h; exact wpIn_skip (hQ _ _ _ _ _ hev h)
  | label l => intro st K Qp G a w hQ hev h; exact wpIn_label (hQ _ _ _ _ _ hev h)
  | exit id => intro st K Qp G a w hQ hev h; exact wpIn_exit (hQ _ _ _ _ _ hev h)
  | ret => intro st K Qp G a w hQ hev h; exact wpIn_ret (hQ _ _ _ _ _ hev h)
  | region id ops draw =>
    intro st K Qp G a w hQ hev h
    simp only [ev] at hev
    cases hg : (regionOk O.n ops.toList && (!draw || drawOk E ops.toList (normO (O.i id) st))) with
    | false => rw [hg] at hev; cases hev
    | true =>
      rw [hg] at hev
      simp only [cond_true] at hev
      simp only [Bool.and_eq_true] at hg
      rw [hN] at hg
      have hok := regOk_of hg.1
      have h1 : ∃ G1, RelC Z E N w0 Ow (normO (O.i id) st) G1 a w := by
        unfold normO
        split
        · exact relC_norm h _
        · exact ⟨G, h⟩
      obtain ⟨G1, h1⟩ := h1
      have hfin : ∀ a w G st', K .normal (norm (O.o id) st') = some r → Inv Z E N w0 Ow ops.toList (fun j => j < ops.size) (St.get st') G a w → Qp .normal a w := by
        intro a w G st' hk hi
        obtain ⟨G2, h2⟩ := relC_norm hi.rel (O.o id)
        exact hQ _ _ _ _ _ hk h2
      cases draw with
      | false =>
        refine wpIn_region ?_
        rw [List.range_eq_range']
        refine region_seq hE hFP hok (K := fun st' => K .normal (norm (O.o id) st')) hfin ops.size 0 (normO (O.i id) st) G1 a w (by omega) hev ?_
        have e : (fun j => j < 0) = (fun _ : Nat => False) := by funext j; simp
        rw [e]
        exact relC_inv h1
      | true =>
        refine wpIn_region_any hm ?_
        have hd : drawOk E ops.toList (normO (O.i id) st) = true := by simpa using hg.2
        refine region_draw hE hFP hok (K := fun st' => K .normal (norm (O.o id) st')) hfin hev hd (relC_inv ?_) (G := G1)
        exact Rel.world h1 rfl rfl rfl rfl
  | seq x y ihx ihy =>
    intro st K Qp G a w hQ hev h
    simp only [ev] at hev
    refine wpIn_seq (ihx st _ _ G a w (fun e a w st G hk hr => ?_) hev h)
    cases e <;> first | exact ihy st K Qp G a w hQ hk hr | exact hQ _ _ _ _ _ hk hr
  | cond c x y ihx ihy =>
    intro st K Qp G a w hQ hev h
    simp only [ev] at hev
    split at hev
    · rename_i b hc
      obtain ⟨G1, h1⟩ := relC_drop h hc O.c
      refine wpIn_cond (cond_told h hc) ?_
      cases b with
      | true => exact ihx _ K Qp G1 a w hQ hev h1
      | false => exact ihy _ K Qp G1 a w hQ hev h1
    · cases hev
  | block id c ih =>
    intro st K Qp G a w hQ hev h
    simp only [ev] at hev
    refine wpIn_block (ih st _ _ G a w (fun e a w st G hk hr => ?_) hev h)
    cases e with
    | exit id' =>
      simp only [] at hk
      simp only [Exit.inBlock]
      split at hk
      · rename_i hid; rw [if_pos hid]; exact hQ _ _ _ _ _ hk hr
      · rename_i hid; rw [if_neg hid]; exact hQ _ _ _ _ _ hk hr
    | _ => exact hQ _ _ _ _ _ hk hr
  | scope c ih =>
    intro st K Qp G a w hQ hev h
    simp only [ev] at hev
    refine wpIn_scope_straight (ih st _ _ G a w (fun e a w st G hk hr => ?_) hev h)
    cases e with
    | goto l => cases hk
    | _ => exact hQ _ _ _ _ _ hk hr
  | loop c ih =>
    intro st K Qp G a w hQ hev h
    simp only [ev] at hev
    have key : ∀ (m : Nat) (st : St) (G : Ghost) (a : Act) (w : World), loopN (fun st K => ev E O fuel c st K) m st K = some r → RelC Z E N w0 Ow st G a w → Code.roundsIn F n P c Qp m a w := by
      intro m
      induction m with
      | zero => intro st G a w hl; simp [loopN] at hl
      | succ m ihm =>
        intro st G a w hl hr
        simp only [loopN] at hl
        refine ih st _ _ G a w (fun e a w st G hk hr => ?_) hl hr
        cases e <;> first | exact ihm st G a w hk hr | exact hQ _ _ _ _ _ hk hr
    exact wpIn_loop_rounds fuel (key fuel st G a w hev h)
  | _ => intro st K Qp G a w hQ hev h; simp [ev] at hev
end
end Go.Ev

namespace Go.Ev
open Go.RowKit
section
variable {Z Z' : ZS} {E : Env} {N : Nat} {w0 : World} {Ow Ow' : OwS} {S D : Nat → Prop} {g : Mem} {G : Ghost} {a a' : Act} {w w' : World} {P : Program}

/-- **The relation, told from a later world**, in which what the state speaks of is as it was. -/
theorem Rel.rebase (h : Rel Z E N w0 Ow S D g G a w) (hyl : Z'.yl = Z.yl) (hs : w.heap.size ≤ w'.heap.size) (hz : ∀ b, b < w.heap.size → Z b → w'.heap[b]? = w.heap[b]?)
    (hZ1 : ∀ b, b < w.heap.size → Z b → Z' b) (hZ2 : ∀ b, w'.heap.size ≤ b → Z' b) (hO : ∀ l b, G l = some b → Ow' b) (hO2 : ∀ b, Ow' b → Z' b) (hpin : Ow'.pin = Ow.pin) (hdl : Ow'.dl = Ow.dl) : Rel Z' E N w' Ow' S D g G a w' := by
  have hGz : ∀ {l b}, G l = some b → b < w.heap.size ∧ Z b := fun {l b} e => ⟨(h.bnd l b e).1, h.zow b (h.bnd l b e).2⟩
  have hGh : ∀ {l b}, G l = some b → w'.heap[b]? = w.heap[b]? := fun {l b} e => hz b (hGz e).1 (hGz e).2
  have hk : ∀ b, free Z G w b → free Z' G w' b ∧ w'.heap[b]? = w.heap[b]? := fun b hb => ⟨⟨by have := hb.1; omega, hb.2, hZ1 b hb.1 hb.3⟩, hz b hb.1 hb.3⟩
  have hroot : ∀ l, rootVal G a w' l = rootVal G a w l := fun l => by
    cases l with
    | cell b o =>
      simp only [rootVal]
      cases hgb : G (.box b) with
      | none => rfl
      | some gb => simp only [World.cell?_of_block (w := w) (w' := w') (a := ⟨gb, o, none⟩) (hGh hgb)]
    | _ => rfl
  have key : ∀ {l : Loc} {val : Value}, AVR Z g G a w (g l) l val → AVR Z' g G a w' (g l) l val := fun {l val} hv => by
    refine AVR.keep S D hyl hk (fun l st _ _ => ⟨fun e t xs hx => ⟨xs, hx, rfl, hroot l, rfl⟩, fun b o n t xs _ hx _ => ⟨xs, hx⟩⟩) (fun b e n hb => ⟨hb, rfl⟩) (fun _ _ => rfl) (fun _ _ _ _ _ => ⟨rfl, fun b hb => hGh hb⟩) (fun _ _ _ _ e => e ▸ rfl) (h.stamps l)
      (fun c u e => ⟨(h.ctx l c u e).1, (h.ctx l c u e).2.1, (h.ctx l c u e).2.2.1, (h.ctx l c u e).2.2.2.2⟩) hv
  exact {
    defers := by rw [hdl]; exact h.defers
    tmps := h.tmps
    os := rfl
    tape := rfl
    output := rfl
    size := Nat.le_refl _
    low := fun _ _ _ => rfl
    bnd := fun l b hb => ⟨by have := (hGz hb).1; omega, .inl (hO l b hb)⟩
    zow := fun b hb => hb.elim (hO2 b) (hZ2 b)
    inj := h.inj
    gone := h.gone
    slots := fun n => key (h.slots n)
    comps := fun n k i h1 h2 => key (h.comps n k i h1 h2)
    boxes := fun b e n hb => by
      obtain ⟨gb, cur, h1, h2, h3⟩ := h.boxes b e n hb
      exact ⟨gb, cur, h1, (hGh h1).trans h2, h3⟩
    cells := fun b o hne => by
      obtain ⟨e, n, gb, cur, h1, h2, h3, h4⟩ := h.cells b o hne
      refine ⟨e, n, gb, cur, h1, h2, (hGh h2).trans h3, ?_⟩
      have hk' := key (l := .cell b o) (val := cur.getD o undef)
      generalize g (.cell b o) = v at h4 hk'
      cases v with
      | dead => trivial
      | dat t x => exact ⟨h4.1, h4.2.keep (fun b hb => (hk b hb).2) (fun b hb => (hk b hb).1)⟩
      | _ => exact ⟨h4.1, hk' h4.2⟩
    apart := h.apart
    boxAV := h.boxAV
    stamps := h.stamps
    ctx := h.ctx
    dbool := h.dbool
    globs := fun k d hk1 => by
      obtain ⟨cs, h1, h2, h3⟩ := h.globs k d hk1
      exact ⟨cs, h1.keep (fun b hb => (hk b hb).2) (fun b hb => (hk b hb).1), fun hne => (hk k (h2 hne)).1, h3.keep fun hne => (hk k (h2 hne)).2⟩
    pins := fun b gb hp hne => h.pins b gb (by rw [← hpin]; exact hp) hne
    pinR := fun b gb hp => h.pinR b gb (by rw [← hpin]; exact hp) }

/-- A later start: what it may count on. -/
structure Base (Z : ZS) (w0 : World) (Ow : OwS) (Z1 : ZS) (w1 : World) (Ow1 : OwS) : Prop where
  yl : Z1.yl = Z.yl
  os : w1.os = w0.os
  tape : w1.tape = w0.tape
  output : w1.output = w0.output
  size : w0.heap.size ≤ w1.heap.size
  low : ∀ k, k < w0.heap.size → ¬ Ow k → w1.heap[k]? = w0.heap[k]?
  ow : ∀ b, Ow1 b → Ow b ∨ w0.heap.size ≤ b
  z : ∀ b, Z1 b → Z b
  pin : Ow1.pin = Ow.pin
  nd : Ow1.dl.Nodup
  dl : ∀ d ∈ Ow1.dl, ∃ k, d = { target := .collected k, args := #[] } ∧ w0.heap.size ≤ k ∧ k < w1.heap.size ∧ ¬ Ow1 k ∧ ¬ Z1 k ∧ w1.heap[k]? = some (.deferred (some []))
theorem Base.refl (Z : ZS) (w : World) {Ow : OwS} (h : Ow.dl = []) : Base Z w Ow Z w Ow := ⟨rfl, rfl, rfl, rfl, Nat.le_refl _, fun _ _ _ => rfl, fun _ h => .inl h, fun _ h => h, rfl, by rw [h]; exact List.nodup_nil, by rw [h]; simp⟩

/-- **The relation, told from the function's start.** -/
theorem Rel.unbase {Z1 : ZS} {w1 : World} {Ow1 : OwS} (hb : Base Z w0 Ow Z1 w1 Ow1) (hz : ∀ b, (Ow b ∨ w0.heap.size ≤ b) → Z b) (h : Rel Z1 E N w1 Ow1 S D g G a w) (Ow2 : OwS) (h1 : Ow2.ow = Ow.ow) (h2 : Ow2.pin = Ow.pin) (h3 : Ow2.dl = Ow1.dl) : Rel Z E N w0 Ow2 S D g G a w := by
  have e1 : ∀ b, Ow2 b ↔ Ow b := fun b => by show Ow2.ow b ↔ Ow.ow b; rw [h1]
  have hk : ∀ b, free Z1 G w b → free Z G w b ∧ w.heap[b]? = w.heap[b]? := fun b hf => ⟨⟨hf.1, hf.2, hb.z b hf.3⟩, rfl⟩
  have key : ∀ {l : Loc} {val : Value}, AVR Z1 g G a w (g l) l val → AVR Z g G a w (g l) l val := fun {l val} hv => by
    refine AVR.keep S D hb.yl.symm hk (fun l st _ _ => ⟨fun e t xs hx => ⟨xs, hx, rfl, rfl, rfl⟩, fun b o n t xs _ hx _ => ⟨xs, hx⟩⟩) (fun b e n hb => ⟨hb, rfl⟩) (fun _ _ => rfl) (fun _ _ _ _ _ => ⟨rfl, fun _ _ => rfl⟩) (fun _ _ _ _ e => e ▸ rfl) (h.stamps l)
      (fun c u e => ⟨(h.ctx l c u e).1, (h.ctx l c u e).2.1, (h.ctx l c u e).2.2.1, (h.ctx l c u e).2.2.2.2⟩) hv
  exact {
    defers := by rw [h3]; exact h.defers
    tmps := h.tmps
    os := h.os.trans hb.os
    tape := h.tape.trans hb.tape
    output := h.output.trans hb.output
    size := Nat.le_trans hb.size h.size
    low := fun k hk1 hk2 => by
      rw [e1] at hk2
      rw [h.low k (Nat.lt_of_lt_of_le hk1 hb.size) (fun ho => by
        rcases hb.ow k ho with h4 | h4
        · exact hk2 h4
        · omega), hb.low k hk1 hk2]
    bnd := fun l b hl => by
      have := h.bnd l b hl
      refine ⟨this.1, ?_⟩
      rw [e1]
      rcases this.2 with h4 | h4
      · exact hb.ow b h4
      · exact .inr (Nat.le_trans hb.size h4)
    zow := fun b hb' => hz b (by rw [e1] at hb'; exact hb')
    inj := h.inj
    gone := h.gone
    slots := fun n => key (h.slots n)
    comps := fun n k i h1 h2 => key (h.comps n k i h1 h2)
    boxes := h.boxes
    cells := fun b o hne => by
      obtain ⟨e, n, gb, cur, h1, h2, h3, h4⟩ := h.cells b o hne
      refine ⟨e, n, gb, cur, h1, h2, h3, ?_⟩
      have hk' := key (l := .cell b o) (val := cur.getD o undef)
      generalize g (.cell b o) = v at h4 hk'
      cases v with
      | dead => trivial
      | dat t x => exact ⟨h4.1, h4.2.keep (fun b hb => (hk b hb).2) (fun b hb => (hk b hb).1)⟩
      | _ => exact ⟨h4.1, hk' h4.2⟩
    apart := h.apart
    boxAV := h.boxAV
    stamps := h.stamps
    ctx := h.ctx
    dbool := h.dbool
    globs := fun k d hk1 => by
      obtain ⟨cs, h1, h2, h3⟩ := h.globs k d hk1
      exact ⟨cs, h1.keep (fun b hb => (hk b hb).2) (fun b hb => (hk b hb).1), fun hne => (hk k (h2 hne)).1, h3⟩
    pins := fun b gb hp hne => h.pins b gb (by rw [hb.pin, ← h2]; exact hp) hne
    pinR := fun b gb hp => h.pinR b gb (by rw [hb.pin, ← h2]; exact hp) }

/-- Other deferred calls, where nobody looks. -/
theorem Rel.defers' (h : Rel Z E N w0 Ow S D g G a w) (ds : List Deferred) : Rel Z E N w0 ⟨Ow.ow, Ow.pin, ds⟩ S D g G { tmps := a.tmps, defers := ds } w :=
  have hr : ∀ l, rootVal G { tmps := a.tmps, defers := ds } w l = rootVal G a w l := fun l => by cases l <;> rfl
  have key : ∀ {l : Loc} {val : Value}, AVR Z g G a w (g l) l val → AVR Z g G { tmps := a.tmps, defers := ds } w (g l) l val := fun {l val} hv => by
    refine AVR.keep S D rfl (fun b hb => ⟨hb, rfl⟩) (fun l st _ _ => ⟨fun e t xs hx => ⟨xs, hx, rfl, hr l, rfl⟩, fun b o n t xs _ hx _ => ⟨xs, hx⟩⟩) (fun b e n hb => ⟨hb, rfl⟩) (fun _ _ => rfl) (fun _ _ _ _ _ => ⟨rfl, fun _ _ => rfl⟩) (fun _ _ _ _ e => e ▸ rfl) (h.stamps l)
      (fun c u e => ⟨(h.ctx l c u e).1, (h.ctx l c u e).2.1, (h.ctx l c u e).2.2.1, (h.ctx l c u e).2.2.2.2⟩) hv
  { h with
    defers := rfl
    tmps := h.tmps
    bnd := h.bnd
    zow := h.zow
    low := h.low
    slots := fun n => key (h.slots n)
    comps := fun n k i h1 h2 => key (h.comps n k i h1 h2)
    cells := fun b o hne => by
      obtain ⟨e, n, gb, cur, h1, h2, h3, h4⟩ := h.cells b o hne
      refine ⟨e, n, gb, cur, h1, h2, h3, ?_⟩
      have hk' := key (l := .cell b o) (val := cur.getD o undef)
      generalize g (.cell b o) = v at h4 hk'
      cases v with
      | dead => trivial
      | dat t x => exact h4
      | _ => exact ⟨h4.1, hk' h4.2⟩
    pins := h.pins
    pinR := h.pinR }

/-- The relation, whatever later start it is told from. -/
def RelX (Z : ZS) (E : Env) (N : Nat) (w0 : World) (Ow : OwS) (st : St) (a : Act) (w : World) : Prop :=
  ∃ Z1 w1 Ow1 G, Base Z w0 Ow Z1 w1 Ow1 ∧ RelC Z1 E N w1 Ow1 st G a w
theorem RelC.x {st : St} (h : RelC Z E N w0 Ow st G a w) (hd : Ow.dl = []) : RelX Z E N w0 Ow st a w := ⟨Z, w0, Ow, G, Base.refl _ _ hd, h⟩

/-- Told from where it stands now. -/
theorem Base.fresh {Z1 : ZS} {w1 : World} {Ow1 : OwS} (hb : Base Z w0 Ow Z1 w1 Ow1) (hz : ∀ b, (Ow b ∨ w0.heap.size ≤ b) → Z b) (h : Rel Z1 E N w1 Ow1 S D g G a w) :
    Base Z w0 Ow ⟨fun b => (b < w.heap.size ∧ Z1 b) ∨ w.heap.size ≤ b, Z1.yl⟩ w ⟨fun b => ∃ l, G l = some b, Ow1.pin, Ow1.dl⟩ ∧ Rel ⟨fun b => (b < w.heap.size ∧ Z1 b) ∨ w.heap.size ≤ b, Z1.yl⟩ E N w ⟨fun b => ∃ l, G l = some b, Ow1.pin, Ow1.dl⟩ S D g G a w := by
  have hGz : ∀ {l b}, G l = some b → b < w.heap.size ∧ Z1 b := fun {l b} e => ⟨(h.bnd l b e).1, h.zow b (h.bnd l b e).2⟩
  refine ⟨⟨hb.yl, h.os.trans hb.os, h.tape.trans hb.tape, h.output.trans hb.output, Nat.le_trans hb.size h.size, fun k h1 h2 => ?_, fun b ⟨l, hl⟩ => ?_, fun b hb' => ?_, hb.pin, hb.nd, fun d hd => ?_⟩, h.rebase rfl (Nat.le_refl _) (fun _ _ _ => rfl) (fun b h1 h2 => .inl ⟨h1, h2⟩) (fun b h1 => .inr h1) (fun l b hl => ⟨l, hl⟩) (fun b ⟨l, hl⟩ => .inl (hGz hl)) rfl rfl⟩
  · rw [h.low k (Nat.lt_of_lt_of_le h1 hb.size) (fun ho => (hb.ow k ho).elim h2 (by omega)), hb.low k h1 h2]
  · rcases (h.bnd l b hl).2 with h1 | h1
    · exact hb.ow b h1
    · exact .inr (Nat.le_trans hb.size h1)
  · rcases hb' with ⟨_, h1⟩ | h1
    · exact hb.z b h1
    · exact hz b (.inr (Nat.le_trans (Nat.le_trans hb.size h.size) h1))
  · obtain ⟨k, h1, h2, h3, h4, h5, h6⟩ := hb.dl d hd
    have := h.size
    refine ⟨k, h1, h2, by omega, fun ⟨l, hl⟩ => h5 (hGz hl).2, fun hz' => ?_, (h.low k h3 h4).trans h6⟩
    rcases hz' with ⟨_, h7⟩ | h7
    · exact h5 h7
    · omega

/-- **The blocks of deferred calls are taken, one after the other**, where nobody looks. -/
theorem take_all {fn : Func} {tmps : Array Value} {R : Ending → World → Prop} {F : Fence} {n : Nat} {st : St} (hz : ∀ b, (Ow b ∨ w0.heap.size ≤ b) → Z b)
    (K : ∀ w' G, RelC Z E N w0 ⟨Ow.ow, Ow.pin, []⟩ st G { tmps := tmps, defers := [] } w' → ∃ v, (results fn tmps).run P w' = .ok v w' ∧ R (.returned v) w') :
    ∀ (ds : List Deferred) (w : World) (Z1 : ZS) (Ow1 : OwS) (G : Ghost), Ow1.dl = [] → Base Z w0 Ow Z1 w Ow1 → RelC Z1 E N w Ow1 st G { tmps := tmps, defers := [] } w → ds.Nodup →
      (∀ d ∈ ds, ∃ k, d = { target := .collected k, args := #[] } ∧ w0.heap.size ≤ k ∧ k < w.heap.size ∧ ¬ Ow1 k ∧ ¬ Z1 k ∧ w.heap[k]? = some (.deferred (some []))) → LeavesInM F n P fn tmps R ds .returning w
  | [], w, Z1, Ow1, G, hdl, hb, h, _, _ => by
    have h1 := Rel.unbase hb hz h ⟨Ow.ow, Ow.pin, []⟩ rfl rfl hdl.symm
    exact K w G h1
  | d :: ds, w, Z1, Ow1, G, hdl, hb, h, hnd, hds => by
    obtain ⟨k, rfl, h2, h3, h4, h5, h6⟩ := hds d (by simp)
    refine ⟨by simp, .inl ⟨k, w.putObj k (.deferred none), rfl, run_takeDeferred h6, ?_⟩⟩
    have hsz : (w.putObj k (.deferred none)).heap.size = w.heap.size := by simp [World.putObj]
    have hoth : ∀ b, b ≠ k → (w.putObj k (.deferred none)).heap[b]? = w.heap[b]? := fun b hb => World.putObj_heap_other hb
    have hr := Rel.rebase (w' := w.putObj k (.deferred none)) (Z' := Z1) (Ow' := Ow1) h rfl (by omega) (fun b _ hb => hoth b (fun e => h5 (e ▸ hb))) (fun _ _ hb => hb) (fun b hb' => h.zow b (.inr (by omega))) (fun l b hl => ((h.bnd l b hl).2).elim id (fun h7 => absurd (h.bnd l b hl).1 (by omega))) (fun b hb' => h.zow b (.inl hb')) rfl rfl
    refine take_all hz K ds _ Z1 Ow1 G hdl ⟨hb.yl, hb.os, hb.tape, hb.output, by rw [hsz]; exact hb.size, fun j j1 j2 => (hoth j (by omega)).trans (hb.low j j1 j2), hb.ow, hb.z, hb.pin, hb.nd, by rw [hdl]; simp⟩ hr (List.nodup_cons.1 hnd).2 (fun d' hd' => ?_)
    obtain ⟨k', e1, q2, q3, q4, q5, q6⟩ := hds d' (by simp [hd'])
    have hne : k' ≠ k := fun e => by subst e; exact (List.nodup_cons.1 hnd).1 (by rw [← e1]; exact hd')
    exact ⟨k', e1, q2, by omega, q4, q5, (hoth k' hne).trans q6⟩

/-- **The function is left.** -/
theorem leaveX {fn : Func} {R : Ending → World → Prop} {F : Fence} {n : Nat} {st : St} (hz : ∀ b, (Ow b ∨ w0.heap.size ≤ b) → Z b) (hdl : Ow.dl = []) (h : RelX Z E N w0 Ow st a w)
    (K : ∀ w' G, RelC Z E N w0 Ow st G { tmps := a.tmps, defers := [] } w' → ∃ v, (results fn a.tmps).run P w' = .ok v w' ∧ R (.returned v) w') : LeavesInM F n P fn a.tmps R a.defers .returning w := by
  obtain ⟨Z1, w1, Ow1, G, hb, h1⟩ := h
  have hf := hb.fresh hz h1
  have hd : a.defers = Ow1.dl := h1.defers
  rw [hd]
  have hO : (⟨Ow.ow, Ow.pin, []⟩ : OwS) = Ow := by rw [← hdl]
  refine take_all hz (by rw [hO]; exact K) Ow1.dl w _ ⟨fun b => ∃ l, G l = some b, Ow1.pin, []⟩ G rfl ⟨hf.1.yl, hf.1.os, hf.1.tape, hf.1.output, hf.1.size, hf.1.low, hf.1.ow, hf.1.z, hf.1.pin, List.nodup_nil, by simp⟩ (hf.2.defers' []) hb.nd hf.1.dl
end
end Go.Ev

namespace Go.Ev
open Go.RowKit

/-- The results, read at the end. -/
def resQ : List (Nat × RK) → Q (List Dat × List (Loc × AV))
  | [] => .pure ([], [])
  | (t, .dat ty) :: r => .ask (.slot t) fun v => (toDat (.tmp t) v).bind fun y => if y.1.1 = ty then (resQ r).bind fun z => .pure (y.1 :: z.1, y.2 ++ z.2) else .fail
  | (t, .own e ty) :: r => .ask (.slot t) fun v => match v with
    | .own e' t' xs _ => if e' = e ∧ t' = ty then (resQ r).bind fun z => .pure (⟨.list t', xs⟩ :: z.1, z.2) else .fail
    | _ => .fail
def ownsOk : List (Nat × RK) → List (Loc × AV) → Bool
  | [], _ => true
  | (t, .own _ _) :: r, ws => (ws.all fun p => !p.1.eq (.slot t)) && (r.all fun q => match q.2 with | .own _ _ => !Nat.beq q.1 t | .dat _ => true) && ownsOk r ws
  | (_, .dat _) :: r, ws => ownsOk r ws
def retK (rs : List (Nat × RK)) : Cont (List Dat) := fun e st => match e with
  | .ret | .normal => (match (resQ rs).run (St.get st) with
    | some z => bif ownsOk rs z.2 then some z.1 else none
    | none => none)
  | _ => none
def initSt : Nat → List Dat → St
  | _, [] => []
  | i, d :: ds => (.slot i, .dat d.1 d.2) :: initSt (i + 1) ds

section
variable {Z : ZS} {E : Env} {N : Nat} {w0 : World} {Ow : OwS} {S D : Nat → Prop} {P : Program} {F : Fence} {n : Nat} {g : Mem} {G : Ghost} {a : Act} {w : World}

theorem slot_told (h : Rel Z E N w0 Ow S D g G a w) {t : Nat} (hno : ∀ c u, g (.slot t) ≠ .opt c u) : Told Z E S g G a w (.tmp t) (g (.slot t)) := by
  refine ⟨fun l hl => ?_, h.stamps _, hno, fun e t' xs s e' => ⟨t, rfl, rfl⟩, fun n e' => ⟨t, rfl, rfl⟩⟩
  have hs := h.slots t
  by_cases hown : ∃ e t' xs s, g (.slot t) = .own e t' xs s
  · obtain ⟨e, t', xs, s, hv⟩ := hown
    obtain ⟨s', rfl, hx⟩ := hl e t' xs s hv
    cases hx
    exact hs
  · exact hs.here (fun e t' xs s e' => hown ⟨e, t', xs, s, e'⟩) hno

theorem toDat_noOpt {x : Operand} {v : AV} {r : Dat × List (Loc × AV)} (h : (toDat x v).run g = some r) : ∀ c u, v ≠ .opt c u := by
  rintro c u rfl
  simp [toDat, Q.run] at h

theorem res_ws (h : Rel Z E N w0 Ow S D g G a w) : ∀ {rs : List (Nat × RK)} {z : List Dat × List (Loc × AV)}, (resQ rs).run g = some z → ∀ p ∈ z.2, isFrz g p
  | [], z, hz => by simp [resQ, Q.run] at hz; subst hz; simp
  | (t, .dat ty) :: r, z, hz => by
    simp only [resQ, Q.run, Q.run_bind, Option.bind_eq_some_iff] at hz
    obtain ⟨y, hy, hz⟩ := hz
    split at hz
    · simp only [Q.run_bind, Option.bind_eq_some_iff] at hz
      obtain ⟨z', hz', hz⟩ := hz
      simp only [Q.run, Option.some.injEq] at hz
      subst hz
      intro p hp
      rcases List.mem_append.1 hp with hp | hp
      · exact toDat_ws h (slot_told h (toDat_noOpt hy)) hy p hp
      · exact res_ws h hz' p hp
    · simp [Q.run] at hz
  | (t, .own e ty) :: r, z, hz => by
    simp only [resQ, Q.run] at hz
    split at hz
    · split at hz
      · simp only [Q.run_bind, Option.bind_eq_some_iff] at hz
        obtain ⟨z', hz', hz⟩ := hz
        simp only [Q.run, Option.some.injEq] at hz
        subst hz
        exact fun p hp => res_ws h hz' p hp
      · simp [Q.run] at hz
    · simp [Q.run] at hz

/-- One result. -/
theorem res_told (h : Rel Z E N w0 Ow S D g G a w) : ∀ {rs : List (Nat × RK)} {z : List Dat × List (Loc × AV)}, (resQ rs).run g = some z → ∀ (i : Nat) (t : Nat) (k : RK), rs[i]? = some (t, k) →
    (∃ ty y, k = .dat ty ∧ (toDat (.tmp t) (g (.slot t))).run g = some y ∧ y.1.1 = ty ∧ z.1.getD i ⟨.unit, ()⟩ = y.1 ∧ ∀ p ∈ y.2, p ∈ z.2) ∨
    (∃ e ty xs s, k = .own e ty ∧ g (.slot t) = .own e ty xs s ∧ z.1.getD i ⟨.unit, ()⟩ = ⟨.list ty, xs⟩)
  | [], z, hz, i, t, k, hi => by simp at hi
  | (t0, .dat ty) :: r, z, hz, i, t, k, hi => by
    simp only [resQ, Q.run, Q.run_bind, Option.bind_eq_some_iff] at hz
    obtain ⟨y, hy, hz⟩ := hz
    split at hz
    · rename_i hyt
      simp only [Q.run_bind, Option.bind_eq_some_iff] at hz
      obtain ⟨z', hz', hz⟩ := hz
      simp only [Q.run, Option.some.injEq] at hz
      subst hz
      cases i with
      | zero =>
        simp only [List.getElem?_cons_zero, Option.some.injEq, Prod.mk.injEq] at hi
        obtain ⟨rfl, rfl⟩ := hi
        exact .inl ⟨ty, y, rfl, hy, hyt, rfl, fun p hp => by simp [hp]⟩
      | succ i =>
        simp only [List.getElem?_cons_succ] at hi
        rcases res_told h hz' i t k hi with ⟨ty', y', h1, h2, h3, h4, h5⟩ | ⟨e, ty', xs, s, h1, h2, h3⟩
        · exact .inl ⟨ty', y', h1, h2, h3, by simpa using h4, fun p hp => by simp [h5 p hp]⟩
        · exact .inr ⟨e, ty', xs, s, h1, h2, by simpa using h3⟩
    · simp [Q.run] at hz
  | (t0, .own e0 ty) :: r, z, hz, i, t, k, hi => by
    simp only [resQ, Q.run] at hz
    split at hz
    · rename_i e' t' xs s hg
      split at hz
      · rename_i he
        obtain ⟨rfl, rfl⟩ := he
        simp only [Q.run_bind, Option.bind_eq_some_iff] at hz
        obtain ⟨z', hz', hz⟩ := hz
        simp only [Q.run, Option.some.injEq] at hz
        subst hz
        cases i with
        | zero =>
          simp only [List.getElem?_cons_zero, Option.some.injEq, Prod.mk.injEq] at hi
          obtain ⟨rfl, rfl⟩ := hi
          exact .inr ⟨e', t', xs, s, rfl, hg, rfl⟩
        | succ i =>
          simp only [List.getElem?_cons_succ] at hi
          rcases res_told h hz' i t k hi with ⟨ty', y', h1, h2, h3, h4, h5⟩ | ⟨e, ty', xs, s, h1, h2, h3⟩
          · exact .inl ⟨ty', y', h1, h2, h3, by simpa using h4, h5⟩
          · exact .inr ⟨e, ty', xs, s, h1, h2, by simpa using h3⟩
      · simp [Q.run] at hz
    · simp [Q.run] at hz

theorem ownsOk_ws : ∀ {rs : List (Nat × RK)} {ws : List (Loc × AV)}, ownsOk rs ws = true → ∀ (i t : Nat) (e : Nat) (ty : Ty), rs[i]? = some (t, .own e ty) →
    (∀ p ∈ ws, p.1 ≠ .slot t) ∧ ∀ (j : Nat) (e' : Nat) (ty' : Ty), rs[j]? = some (t, .own e' ty') → i = j
  | [], _, _, i, t, e, ty, hi => by simp at hi
  | (t0, .dat ty0) :: r, ws, h, i, t, e, ty, hi => by
    simp only [ownsOk] at h
    cases i with
    | zero => simp at hi
    | succ i =>
      simp only [List.getElem?_cons_succ] at hi
      obtain ⟨h1, h2⟩ := ownsOk_ws h i t e ty hi
      refine ⟨h1, fun j e' ty' hj => ?_⟩
      cases j with
      | zero => simp at hj
      | succ j => rw [h2 j e' ty' (by simpa using hj)]
  | (t0, .own e0 ty0) :: r, ws, h, i, t, e, ty, hi => by
    simp only [ownsOk, Bool.and_eq_true] at h
    obtain ⟨⟨k1, k2⟩, k3⟩ := h
    have hne : ∀ (j : Nat) (e' : Nat) (ty' : Ty), r[j]? = some (t0, .own e' ty') → False := fun j e' ty' hj => by
      have := List.all_eq_true.1 k2 _ (List.mem_of_getElem? hj)
      simp at this
    cases i with
    | zero =>
      simp only [List.getElem?_cons_zero, Option.some.injEq, Prod.mk.injEq] at hi
      obtain ⟨rfl, _⟩ := hi
      refine ⟨fun p hp e' => ?_, fun j e' ty' hj => ?_⟩
      · have := List.all_eq_true.1 k1 p hp
        rw [Loc.eq_iff.2 e'] at this; cases this
      · cases j with
        | zero => rfl
        | succ j => exact (hne j e' ty' (by simpa using hj)).elim
    | succ i =>
      simp only [List.getElem?_cons_succ] at hi
      obtain ⟨h1, h2⟩ := ownsOk_ws k3 i t e ty hi
      refine ⟨h1, fun j e' ty' hj => ?_⟩
      cases j with
      | zero =>
        simp only [List.getElem?_cons_zero, Option.some.injEq, Prod.mk.injEq] at hj
        obtain ⟨rfl, _⟩ := hj
        exact (hne i e ty hi).elim
      | succ j => rw [h2 j e' ty' (by simpa using hj)]

theorem initSt_get : ∀ (ds : List Dat) (i : Nat) (l : Loc), St.get (initSt i ds) l = match l with
    | .slot m => if i ≤ m then (match ds[m - i]? with | some d => .dat d.1 d.2 | none => .dead) else .dead
    | _ => .dead
  | [], i, l => by cases l <;> simp [initSt, St.get]
  | d :: ds, i, l => by
    simp only [initSt, St.get, initSt_get ds (i + 1) l]
    cases l with
    | slot m =>
      simp only [Loc.eq]
      by_cases hm : i = m
      · subst hm; simp
      · have hb : Nat.beq i m = false := by cases h : Nat.beq i m with
          | false => rfl
          | true => exact absurd (Nat.eq_of_beq_eq_true h) hm
        rw [hb]
        by_cases h1 : i + 1 ≤ m
        · rw [cond_false, if_pos h1, if_pos (by omega), show m - i = (m - (i + 1)) + 1 by omega]
          simp
        · rw [cond_false, if_neg h1, if_neg (by omega)]
    | _ => rfl

theorem argsR_get {Pr : Nat → Prop} : ∀ {ds : List Dat} {vs : List Value}, ArgsR Pr w ds vs → vs.length = ds.length ∧ ∀ (i : Nat) (d : Dat), ds[i]? = some d → ∃ cs, RV Pr w d.t d.x cs ∧ vs.getD i undef = valOf d.t cs
  | [], [], _ => ⟨rfl, by simp⟩
  | [], _ :: _, h => h.elim
  | _ :: _, [], h => h.elim
  | d :: ds, v :: vs, h => by
    obtain ⟨h1, h2⟩ := argsR_get h.2
    refine ⟨by simp [h1], fun i d' hd => ?_⟩
    cases i with
    | zero =>
      simp only [List.getElem?_cons_zero, Option.some.injEq] at hd
      subst hd
      exact h.1
    | succ i => simpa using h2 i d' (by simpa using hd)
end
end Go.Ev

namespace Go.Ev
open Go.RowKit
section
variable {E : Env} {P : Program}

theorem mapM_tmps (tmps : Array Value) (w : World) (f : ResultVar → Sem Value) (hf : ∀ t, f (.tmp t) = pure (tmps.getD t undef)) : ∀ (slots : List Nat), ((slots.map ResultVar.tmp).mapM f).run P w = .ok (slots.map fun t => tmps.getD t undef) w
  | [] => rfl
  | t :: ts => by
    rw [List.map_cons, List.mapM_cons, hf]
    simp only [Sem.run_bind, Sem.run_pure, Result.andThen_ok, mapM_tmps tmps w f hf ts, List.map_cons]

theorem results_run {fn : Func} {slots : List Nat} (hres : fn.results = (slots.map ResultVar.tmp).toArray) (tmps : Array Value) (w : World) :
    (results fn tmps).run P w = .ok (retVal (slots.map fun t => tmps.getD t undef)) w := by
  unfold results
  rw [hres]
  simp only [Sem.run_bind, Array.mapM_eq_mapM_toList, List.toList_toArray]
  rw [Sem.run_map, mapM_tmps (P := P) tmps w _ (fun t => rfl) slots]
  simp only [Result.andThen_ok, Sem.run_pure]
  congr 1
  generalize (slots.map fun t => tmps.getD t undef) = vs
  match vs with
  | [] => rfl
  | [v] => rfl
  | _ :: _ :: _ => simp [retVal]

/-- **A function meets what 'ev' answers of its body.** -/
theorem meets_core {f : Nat} {fn : Func} {c : Code} (hf : P.funcs[f]? = some fn) (hname : ∀ args w, (callFunc f args).run P w = .ok (.enter f args) w) (hb : fn.body = some c)
    {Sp : Spec} {slots : List Nat} (hres : fn.results = (slots.map ResultVar.tmp).toArray) (hlen : slots.length = Sp.results.length) (hpar : Sp.params.length ≤ fn.ntmps)
    (hev : ∀ ds, ds.map (·.t) = Sp.params → Sp.pre ds = true → ∀ (Z : ZS) (Qp : Exit → Act → World → Prop) (G : Ghost) (a : Act) (w : World),
      (∀ e a w' st, retK (slots.zip Sp.results) e st = some (Sp.val ds) → RelX Z E fn.ntmps w OwS.none st a w' → Qp e a w') → RelC Z E fn.ntmps w OwS.none (initSt 0 ds) G a w → c.wpIn Fence.wide 0 P Qp a w) : Meets P E.glob f Sp := by
  refine ⟨hname, fun w Pr ds args hPr hG hds hA hpre => ?_⟩
  obtain ⟨hal, haget⟩ := argsR_get hA
  have hdl : ds.length = Sp.params.length := by rw [← hds]; simp
  let Z : ZS := ⟨fun b => Pr b ∨ w.heap.size ≤ b, 0⟩
  let G : Ghost := fun _ => none
  have hPf : ∀ b, Pr b → free Z G w b := fun b hb => ⟨hPr b hb, fun l e => (by cases e), .inl hb⟩
  let a0 : Act := { tmps := args.toArray ++ Array.replicate (fn.ntmps - args.toArray.size) undef, defers := [] }
  have hget : ∀ n, n < args.length → a0.tmps.getD n undef = args.getD n undef := fun n hn => by
    simp [a0, Array.getD_eq_getD_getElem?, Array.getElem?_append, hn]
  have hinit : RelC Z E fn.ntmps w OwS.none (initSt 0 ds) G a0 w := by
    have hslot : ∀ n, St.get (initSt 0 ds) (.slot n) = (match ds[n]? with | some d => .dat d.1 d.2 | none => .dead) := fun n => by
      rw [initSt_get]; simp <;> rfl
    have hoth : ∀ l, (∀ n, l ≠ .slot n) → St.get (initSt 0 ds) l = .dead := fun l hl => by
      rw [initSt_get]
      cases l with
      | slot n => exact absurd rfl (hl n)
      | _ => rfl
    have hplain : ∀ l, St.get (initSt 0 ds) l = .dead ∨ ∃ t x, St.get (initSt 0 ds) l = .dat t x := fun l => by
      cases l with
      | slot n =>
        rw [hslot]
        cases ds[n]? with
        | none => exact .inl rfl
        | some d => exact .inr ⟨_, _, rfl⟩
      | _ => exact .inl (hoth _ (by simp))
    refine ⟨rfl, ?_, rfl, rfl, rfl, Nat.le_refl _, fun _ _ _ => rfl, fun l b e => (by cases e), fun b hb => .inr (hb.resolve_left id), fun l l' b e => (by cases e), fun l b e => (by cases e), fun n => ?_, fun n k i hn => ?_, fun b e n hb => ?_, fun b o hne => ?_, fun b o o' hne => ?_, fun b => .inl (hoth _ (by simp)), fun l => ?_, fun l c v hl => ?_, fun k hk => hk.elim, fun k d hk => ?_, fun b gb hp => (by cases hp), fun b gb hp => (by cases hp)⟩
    · simp [a0, hal, hdl]; omega
    · rw [hslot]
      cases hd : ds[n]? with
      | none => trivial
      | some d =>
        obtain ⟨cs, h1, h2⟩ := haget n d hd
        have hn : n < args.length := by rw [hal]; exact (List.getElem?_eq_some_iff.1 hd).1
        exact ⟨cs, h1.keep (fun _ _ => rfl) hPf, by rw [hget n hn]; exact h2⟩
    · rcases hplain (.slot n) with h | ⟨t, x, h⟩ <;> rw [h] at hn <;> cases hn
    · rw [hoth _ (by simp)] at hb; cases hb
    · exact absurd (hoth _ (by simp)) hne
    · exact absurd (hoth _ (by simp)) hne
    · rcases hplain l with h | ⟨t, x, h⟩ <;> rw [h] <;> trivial
    · rcases hplain l with h | ⟨t, x, h⟩ <;> rw [h] at hl <;> cases hl
    · obtain ⟨cs, h1, h2, h3⟩ := hG k d hk
      exact ⟨cs, h1.keep (fun _ _ => rfl) hPf, fun hne => hPf _ (h2 hne), h3⟩
  rw [← callsIn_wide (n := 0)]
  -- what is handed back
  have hfin : ∀ (a : Act) (w' : World) (st : St) (G' : Ghost), RelC Z E fn.ntmps w OwS.none st G' a w' → ∀ z, (resQ (slots.zip Sp.results)).run (St.get st) = some z → ownsOk (slots.zip Sp.results) z.2 = true → z.1 = Sp.val ds → ∃ v, (results fn a.tmps).run P w' = .ok v w' ∧
      ∃ vs, Ending.returned v = .returned (retVal vs) ∧ w.grownBy w' none ∧ ResOK Pr w.heap.size w' Sp.results (Sp.val ds) vs := by
    intro a w' st G' hR z hz hown hzv
    refine ⟨_, results_run hres a.tmps w', _, rfl, ⟨hR.os, hR.tape, hR.output, hR.size, fun k hk _ => hR.low k hk (fun h => h)⟩, ?_⟩
    obtain ⟨G1, r1, r2, r3, r4, r5, r6⟩ := freezeAll hR (res_ws hR hz)
    have hzip : ∀ (i : Nat) k, Sp.results[i]? = some k → ∃ t, slots[i]? = some t ∧ (slots.zip Sp.results)[i]? = some (t, k) := fun i k hk => by
      have hi : i < slots.length := by rw [hlen]; exact (List.getElem?_eq_some_iff.1 hk).1
      exact ⟨slots[i], List.getElem?_eq_getElem hi, by rw [List.getElem?_zip_eq_some]; exact ⟨List.getElem?_eq_getElem hi, hk⟩⟩
    have hvs : ∀ (i : Nat) t, slots[i]? = some t → (slots.map fun t => a.tmps.getD t undef).getD i undef = a.tmps.getD t undef := fun i t ht => by
      simp [List.getD_eq_getElem?_getD, ht]
    -- what is owned at the end
    have howned : ∀ (i : Nat) e ty, Sp.results[i]? = some (.own e ty) → ∃ t xs s, slots[i]? = some t ∧ (slots.zip Sp.results)[i]? = some (t, .own e ty) ∧ St.get st (.slot t) = .own e ty xs s ∧ (Mem.sets (St.get st) z.2) (.slot t) = .own e ty xs s ∧ z.1.getD i ⟨.unit, ()⟩ = ⟨.list ty, xs⟩ ∧ (a.tmps.getD t undef).ownBlock = G1 (.slot t) := by
      intro i e ty hk
      obtain ⟨t, ht, hzi⟩ := hzip i _ hk
      rcases res_told hR hz i t _ hzi with ⟨ty', y, h1, _⟩ | ⟨e', ty', xs, s, h1, h2, h3⟩
      · cases h1
      · cases h1
        have hg1 : (Mem.sets (St.get st) z.2) (.slot t) = .own e ty xs s := by
          rw [sets_other (ownsOk_ws hown i t e ty hzi).1]; exact h2
        refine ⟨t, xs, s, ht, hzi, h2, hg1, h3, ?_⟩
        have := r1.slots t
        rw [hg1] at this
        obtain ⟨_, _, _, _, hb⟩ := this
        exact hb
    have hfr : ∀ b, free Z G1 w' b → resFree Pr w.heap.size w' (slots.map fun t => a.tmps.getD t undef) Sp.results b := by
      intro b hb
      refine ⟨?_, fun i e ty hk e' => ?_⟩
      · rcases hb.3 with h | h
        · exact .inl h
        · exact .inr ⟨h, hb.1⟩
      · obtain ⟨t, xs, s, ht, _, _, _, _, hob⟩ := howned i e ty hk
        rw [hvs i t ht, hob] at e'
        exact hb.2 _ e'
    refine ⟨by simp [hlen], fun i k hk => ?_, fun i j e ty e' ty' b hi hj hbi hbj => ?_⟩
    · obtain ⟨t, ht, hzi⟩ := hzip i k hk
      rw [hvs i t ht, ← hzv]
      rcases res_told hR hz i t k hzi with ⟨ty, y, rfl, h2, h3, h4, h5⟩ | ⟨e, ty, xs, s, rfl, h2, h3⟩
      · rw [h4]
        subst h3
        obtain ⟨cs, h6, h7⟩ := toDat_val hR (slot_told hR (toDat_noOpt h2)) h2 (Pr := resFree Pr w.heap.size w' (slots.map fun t => a.tmps.getD t undef) Sp.results) (fun b hb => hfr b (r2 b hb)) (fun p hp b hb => hfr b (r3 p (h5 p hp) b hb))
        exact ⟨cs, by simpa [Dat.as] using h6, h7⟩
      · obtain ⟨t', xs', s', ht', _, k2, k3, k4, k5⟩ := howned i e ty hk
        rw [ht] at ht'; cases ht'
        rw [h3]
        have hs := r1.slots t
        rw [k3] at hs
        have hxs : xs' = xs := by rw [k2] at h2; cases h2; rfl
        subst hxs
        refine ⟨?_, fun b hb => ?_⟩
        · have : (⟨Ty.list ty, xs'⟩ : Dat).as (.list ty) = xs' := by simp [Dat.as]
          rw [this, k5]
          exact OwnR.mono hs hfr
        · rw [k5] at hb
          have := r1.bnd _ b hb
          exact ⟨this.2.resolve_left id, this.1⟩
    · obtain ⟨t, xs, s, ht, hzi, k2, k3, _, k5⟩ := howned i e ty hi
      obtain ⟨t', xs', s', ht', hzj, k2', k3', _, k5'⟩ := howned j e' ty' hj
      rw [hvs i t ht, k5] at hbi
      rw [hvs j t' ht', k5'] at hbj
      have := r1.inj _ _ b hbi hbj
      cases this
      exact (ownsOk_ws hown i t e ty hzi).2 j e' ty' hzj
  refine callsIn_of_wp_marks hf hb trivial (hev ds hds hpre Z (bodyPostM Fence.wide 0 P fn _) G a0 w (fun e a w' st hK hX => ?_) hinit)
  have hz : ∀ b, (OwS.none b ∨ w.heap.size ≤ b) → Z b := fun b hb => .inr (hb.resolve_left id)
  have hfin2 : (e = .normal ∨ e = .ret) → LeavesInM Fence.wide 0 P fn a.tmps (fun e w' => ∃ vs, e = .returned (retVal vs) ∧ w.grownBy w' none ∧ ResOK Pr w.heap.size w' Sp.results (Sp.val ds) vs) a.defers .returning w' := by
    intro he
    refine leaveX hz rfl hX (fun w'' G' hR => ?_)
    rcases he with rfl | rfl <;> simp only [retK] at hK <;> split at hK <;> try cases hK
    all_goals
      rename_i z hz
      cases hown : ownsOk (slots.zip Sp.results) z.2 with
      | false => rw [hown] at hK; cases hK
      | true =>
        rw [hown] at hK
        simp only [cond_true, Option.some.injEq] at hK
        exact hfin { tmps := a.tmps, defers := [] } w'' st G' hR z hz hown hK
  cases e with
  | normal => exact hfin2 (.inl rfl)
  | ret => exact hfin2 (.inr rfl)
  | _ => simp [retK] at hK

end
end Go.Ev

namespace Go.Ev
open Go.RowKit

/-- What is said of a loop: where it goes, with what. -/
abbrev Sum := ∀ R : Type, St → Cont R → Option R
/-- A loop's name: its first region. -/
def keyOf : Code → Option Nat
  | .region id _ _ => some id
  | .seq a b => match keyOf a with
    | some k => some k
    | none => keyOf b
  | .cond _ a b => match keyOf a with
    | some k => some k
    | none => keyOf b
  | .block _ c => keyOf c
  | .scope c => keyOf c
  | .loop c => keyOf c
  | .rangeFunc _ _ a c => match keyOf a with
    | some k => some k
    | none => keyOf c
  | _ => none
def lookL (L : Nat → Option Sum) : Option Nat → Option Sum
  | some k => L k
  | none => none
def ev2 {R : Type} (E : Env) (O : Orc) (L : Nat → Option Sum) : Code → St → Cont R → Option R
  | .skip, st, K => K .normal st
  | .region id ops draw, st, K =>
    bif regionOk O.n ops.toList && (!draw || drawOk E ops.toList (normO (O.i id) st)) then evOps E ops.toList ops.toList 0 (normO (O.i id) st) fun st' => K .normal (norm (O.o id) st') else none
  | .seq a b, st, K => ev2 E O L a st fun e st' => match e with
    | .normal => ev2 E O L b st' K
    | e => K e st'
  | .cond c x y, st, K => match condQ st c with
    | some b => bif b then ev2 E O L x (dropO O.c true st c) K else ev2 E O L y (dropO O.c false st c) K
    | none => none
  | .block id c, st, K => ev2 E O L c st fun e st' => match e with
    | .exit id' => if id' = id then K .normal st' else K (.exit id') st'
    | e => K e st'
  | .scope c, st, K => ev2 E O L c st fun e st' => match e with
    | .goto _ => none
    | e => K e st'
  | .loop c, st, K => match lookL L (keyOf c) with
    | some f => f R st K
    | none => none
  | .rangeFunc g ps a c, st, K => match lookL L (keyOf (.rangeFunc g ps a c)) with
    | some f => f R st K
    | none => none
  | .exit id, st, K => K (.exit id) st
  | .ret, st, K => K .ret st
  | .label _, st, K => K .normal st
  | _, _, _ => none
/-- The summary is true of the loop. -/
def SumOk (E : Env) (O : Orc) (L : Nat → Option Sum) (c : Code) (f : Sum) : Prop :=
  ∀ (R : Type) (st : St) (K : Cont R) (r : R), f R st K = some r → ∃ fuel, loopN (fun st K => ev2 E O L c st K) fuel st K = some r
/-- The loops of a code. -/
def loopsOf : Code → List Code
  | .seq a b => loopsOf a ++ loopsOf b
  | .cond _ a b => loopsOf a ++ loopsOf b
  | .block _ c => loopsOf c
  | .scope c => loopsOf c
  | .loop c => c :: loopsOf c
  | .rangeFunc _ _ a c => loopsOf a ++ loopsOf c
  | _ => []
/-- The ranges over functions of a code. -/
def rangesOf : Code → List Code
  | .seq a b => rangesOf a ++ rangesOf b
  | .cond _ a b => rangesOf a ++ rangesOf b
  | .block _ c => rangesOf c
  | .scope c => rangesOf c
  | .loop c => rangesOf c
  | .rangeFunc g ps a c => .rangeFunc g ps a c :: (rangesOf a ++ rangesOf c)
  | _ => []
def LoopsOk (E : Env) (O : Orc) (L : Nat → Option Sum) (body : Code) : Prop := ∀ c ∈ loopsOf body, ∀ f, lookL L (keyOf c) = some f → SumOk E O L c f

/-- The summary is true of a range over a function. -/
def RangeOk (P : Program) (E : Env) (N : Nat) (rc : Code) (f : Sum) : Prop :=
  ∀ (R : Type) (st : St) (K : Cont R) (r : R), f R st K = some r → ∀ (Z : ZS) (w0 : World) (Ow : OwS), Ow.dl = [] → (∀ b, (Ow b ∨ w0.heap.size ≤ b) → Z b) → ∀ (F : Fence) (n : Nat) (Qp : Exit → Act → World → Prop) (a : Act) (w : World), Plain P F → F.round = none →
    (∀ e a w st, K e st = some r → RelX Z E N w0 Ow st a w → Qp e a w) → RelX Z E N w0 Ow st a w → rc.wpIn F n P Qp a w
def RangesOk (P : Program) (E : Env) (N : Nat) (L : Nat → Option Sum) (body : Code) : Prop := ∀ rc ∈ rangesOf body, ∀ f, lookL L (keyOf rc) = some f → RangeOk P E N rc f
theorem rangesOk_nil {P : Program} {E : Env} {N : Nat} {L : Nat → Option Sum} {body : Code} (h : rangesOf body = []) : RangesOk P E N L body := fun rc hc => by rw [h] at hc; cases hc

section
variable {Z : ZS} {E : Env} {N : Nat} {w0 : World} {Ow : OwS} {P : Program} {F : Fence} {n : Nat}
theorem ev2_soundX (hE : EnvOk P E) (hFP : Plain P F) (hm : P.follows .mixedOrders = true) {O : Orc} (hN : O.n = N) {L : Nat → Option Sum} {R : Type} {r : R} (hdl : Ow.dl = []) (hz : ∀ b, (Ow b ∨ w0.heap.size ≤ b) → Z b) :
    ∀ (c : Code), LoopsOk E O L c → (RangesOk P E N L c ∧ F.round = none ∨ rangesOf c = []) → ∀ (st : St) (K : Cont R) (Qp : Exit → Act → World → Prop) (a : Act) (w : World),
      (∀ e a w st, K e st = some r → RelX Z E N w0 Ow st a w → Qp e a w) → ev2 E O L c st K = some r → RelX Z E N w0 Ow st a w → c.wpIn F n P Qp a w := by
  intro c
  induction c with
  | skip => intro _ _ st K Qp a w hQ hev h; exact wpIn_skip (hQ _ _ _ _ hev h)
  | label l => intro _ _ st K Qp a w hQ hev h; exact wpIn_label (hQ _ _ _ _ hev h)
  | exit id => intro _ _ st K Qp a w hQ hev h; exact wpIn_exit (hQ _ _ _ _ hev h)
  | ret => intro _ _ st K Qp a w hQ hev h; exact wpIn_ret (hQ _ _ _ _ hev h)
  | region id ops draw =>
    intro _ _ st K Qp a w hQ hev ⟨Z1, w1, Ow1, G, hb, h⟩
    exact ev_sound hE hFP hm hN (fuel := 0) (.region id ops draw) st K Qp G a w (fun e a w st G hk hr => hQ e a w st hk ⟨Z1, w1, Ow1, G, hb, hr⟩) hev h
  | seq x y ihx ihy =>
    intro hL hR st K Qp a w hQ hev h
    simp only [ev2] at hev
    have hRx : RangesOk P E N L x ∧ F.round = none ∨ rangesOf x = [] := hR.imp (fun q => ⟨fun rc hc => q.1 rc (by simp [rangesOf, hc]), q.2⟩) (fun q => by simp [rangesOf] at q; exact q.1)
    have hRy : RangesOk P E N L y ∧ F.round = none ∨ rangesOf y = [] := hR.imp (fun q => ⟨fun rc hc => q.1 rc (by simp [rangesOf, hc]), q.2⟩) (fun q => by simp [rangesOf] at q; exact q.2)
    refine wpIn_seq (ihx (fun c hc => hL c (by simp [loopsOf, hc])) hRx st _ _ a w (fun e a w st hk hr => ?_) hev h)
    cases e <;> first | exact ihy (fun c hc => hL c (by simp [loopsOf, hc])) hRy st K Qp a w hQ hk hr | exact hQ _ _ _ _ hk hr
  | cond c x y ihx ihy =>
    intro hL hR st K Qp a w hQ hev ⟨Z1, w1, Ow1, G, hb, h⟩
    simp only [ev2] at hev
    have hRx : RangesOk P E N L x ∧ F.round = none ∨ rangesOf x = [] := hR.imp (fun q => ⟨fun rc hc => q.1 rc (by simp [rangesOf, hc]), q.2⟩) (fun q => by simp [rangesOf] at q; exact q.1)
    have hRy : RangesOk P E N L y ∧ F.round = none ∨ rangesOf y = [] := hR.imp (fun q => ⟨fun rc hc => q.1 rc (by simp [rangesOf, hc]), q.2⟩) (fun q => by simp [rangesOf] at q; exact q.2)
    split at hev
    · rename_i b hc
      obtain ⟨G1, h1⟩ := relC_drop h hc O.c
      refine wpIn_cond (cond_told h hc) ?_
      cases b with
      | true => exact ihx (fun c hc => hL c (by simp [loopsOf, hc])) hRx _ K Qp a w hQ hev ⟨Z1, w1, Ow1, G1, hb, h1⟩
      | false => exact ihy (fun c hc => hL c (by simp [loopsOf, hc])) hRy _ K Qp a w hQ hev ⟨Z1, w1, Ow1, G1, hb, h1⟩
    · cases hev
  | block id c ih =>
    intro hL hR st K Qp a w hQ hev h
    simp only [ev2] at hev
    refine wpIn_block (ih (fun c hc => hL c (by simp [loopsOf, hc])) (hR.imp (fun q => ⟨fun rc hc => q.1 rc (by simp [rangesOf, hc]), q.2⟩) (fun q => by simpa [rangesOf] using q)) st _ _ a w (fun e a w st hk hr => ?_) hev h)
    cases e with
    | exit id' =>
      simp only [] at hk
      simp only [Exit.inBlock]
      split at hk
      · rename_i hid; rw [if_pos hid]; exact hQ _ _ _ _ hk hr
      · rename_i hid; rw [if_neg hid]; exact hQ _ _ _ _ hk hr
    | _ => exact hQ _ _ _ _ hk hr
  | scope c ih =>
    intro hL hR st K Qp a w hQ hev h
    simp only [ev2] at hev
    refine wpIn_scope_straight (ih (fun c hc => hL c (by simp [loopsOf, hc])) (hR.imp (fun q => ⟨fun rc hc => q.1 rc (by simp [rangesOf, hc]), q.2⟩) (fun q => by simpa [rangesOf] using q)) st _ _ a w (fun e a w st hk hr => ?_) hev h)
    cases e with
    | goto l => cases hk
    | _ => exact hQ _ _ _ _ hk hr
  | loop c ih =>
    intro hL hR st K Qp a w hQ hev h
    simp only [ev2] at hev
    split at hev
    · rename_i f hf
      obtain ⟨fuel, hfu⟩ := hL c (by simp [loopsOf]) f hf R st K r hev
      have key : ∀ (m : Nat) (st : St) (a : Act) (w : World), loopN (fun st K => ev2 E O L c st K) m st K = some r → RelX Z E N w0 Ow st a w → Code.roundsIn F n P c Qp m a w := by
        intro m
        induction m with
        | zero => intro st a w hl; simp [loopN] at hl
        | succ m ihm =>
          intro st a w hl hr
          simp only [loopN] at hl
          refine ih (fun c hc => hL c (by simp [loopsOf, hc])) (hR.imp (fun q => ⟨fun rc hc => q.1 rc (by simp [rangesOf, hc]), q.2⟩) (fun q => by simpa [rangesOf] using q)) st _ _ a w (fun e a w st hk hr => ?_) hl hr
          cases e <;> first | exact ihm st a w hk hr | exact hQ _ _ _ _ hk hr
      exact wpIn_loop_rounds fuel (key fuel st a w hfu h)
    · cases hev
  | rangeFunc g ps asg body _ _ =>
    intro hL hR st K Qp a w hQ hev h
    simp only [ev2] at hev
    split at hev
    · rename_i f hf
      rcases hR with ⟨hR, hro⟩ | hR
      · exact hR _ (by simp [rangesOf]) f hf R st K r hev Z w0 Ow hdl hz F n Qp a w hFP hro hQ h
      · simp [rangesOf] at hR
    · cases hev
  | _ => intro _ _ st K Qp a w hQ hev h; simp [ev2] at hev
theorem ev2_sound (hE : EnvOk P E) (hFP : Plain P F) (hm : P.follows .mixedOrders = true) {O : Orc} (hN : O.n = N) {L : Nat → Option Sum} {R : Type} {r : R} (hdl : Ow.dl = []) (hz : ∀ b, (Ow b ∨ w0.heap.size ≤ b) → Z b)
    (c : Code) (hL : LoopsOk E O L c) (hR : RangesOk P E N L c ∧ F.round = none ∨ rangesOf c = []) (st : St) (K : Cont R) (Qp : Exit → Act → World → Prop) (G : Ghost) (a : Act) (w : World)
    (hQ : ∀ e a w st, K e st = some r → RelX Z E N w0 Ow st a w → Qp e a w) (hev : ev2 E O L c st K = some r) (h : RelC Z E N w0 Ow st G a w) : c.wpIn F n P Qp a w :=
  ev2_soundX hE hFP hm hN hdl hz c hL hR st K Qp a w hQ hev (h.x hdl)

/-- **A function meets what 'ev2' answers of its body**, its loops by summaries. -/
theorem meets_of_ev2 (hE : EnvOk P E) (hm : P.follows .mixedOrders = true) {f : Nat} {fn : Func} {c : Code} (hf : P.funcs[f]? = some fn) (hname : ∀ args w, (callFunc f args).run P w = .ok (.enter f args) w) (hb : fn.body = some c)
    {O : Orc} (hN : O.n = fn.ntmps) {L : Nat → Option Sum} (hL : LoopsOk E O L c) (hR : RangesOk P E O.n L c) {Sp : Spec} {slots : List Nat} (hres : fn.results = (slots.map ResultVar.tmp).toArray) (hlen : slots.length = Sp.results.length) (hpar : Sp.params.length ≤ fn.ntmps)
    (hev : ∀ ds, ds.map (·.t) = Sp.params → Sp.pre ds = true → ev2 E O L c (initSt 0 ds) (retK (slots.zip Sp.results)) = some (Sp.val ds)) : Meets P E.glob f Sp :=
  meets_core hf hname hb hres hlen hpar fun ds hds hpre Z Qp G a w hQ h =>
    ev2_sound hE (plain_wide P) hm hN rfl (fun b hb => h.zow b hb) c hL (.inl ⟨hN ▸ hR, rfl⟩) (initSt 0 ds) (retK (slots.zip Sp.results)) Qp G a w hQ (hev ds hds hpre) h
end
end Go.Ev

namespace Go.Ev
variable {P : Program}
theorem eqOk_bool {id : Nat} (h : P.underlying id = some .bool) : EqOk P id .bool := by
  intro w Pr x y cs ds p q h1 h2
  simp only [RV] at h1 h2
  subst h1; subst h2
  have hv : ∀ b : Bool, valOf .bool [.bool b] = .bool b := fun _ => rfl
  rw [hv, hv]
  have hg : ∀ op, (eqGuard op id p q (.bool x) (.bool y)).run P w = .ok () w := fun op => guard_run ⟨by simp, by simp⟩
  have he : (Op.equal id (.bool x) (.bool y)).run P w = .ok (x == y) w := run_equal_bool w id x y h
  constructor
  · rw [Sem.run_bind, hg, Result.andThen_ok]
    simp only [binOp, Sem.run_bind, he, Result.andThen_ok, Sem.run_pure, eqv]
  · rw [Sem.run_bind, hg, Result.andThen_ok]
    simp only [binOp, Sem.run_bind, he, Result.andThen_ok, Sem.run_pure, eqv]
end Go.Ev

namespace Go.Ev

theorem natsEq_eq : ∀ {a b : List Nat}, natsEq a b = true → a = b
  | [], [], _ => rfl
  | [], _ :: _, h => by simp [natsEq] at h
  | _ :: _, [], h => by simp [natsEq] at h
  | x :: a, y :: b, h => by
    simp only [natsEq, Bool.and_eq_true] at h
    rw [Nat.eq_of_beq_eq_true h.1, natsEq_eq h.2]
theorem Kd.un_some : ∀ {k : Kd} {v : AV} {x : k.den}, k.un v = some x → v = k.mk x := by
  intro k v x h
  cases k <;> cases v <;> simp only [Kd.un, reduceCtorEq] at h
  case yld.yld => rfl
  case dat.dat =>
    split at h
    · rename_i he; subst he; cases h; rfl
    · cases h
  case own.own =>
    split at h
    · rename_i he
      subst he
      split at h
      · rename_i hb
        simp only [Bool.and_eq_true] at hb
        have h1 := Nat.eq_of_beq_eq_true hb.1
        have h2 := Nat.eq_of_beq_eq_true hb.2
        subst h1; subst h2
        cases h; rfl
      · cases h
    · cases h
  case ptr.ptr =>
    split at h
    · rename_i hb
      simp only [Bool.and_eq_true] at hb
      have h1 := Nat.eq_of_beq_eq_true hb.1
      have h2 := Nat.eq_of_beq_eq_true hb.2
      subst h1; subst h2; rfl
    · cases h
  case bx.bx =>
    split at h
    · rename_i hb
      simp only [Bool.and_eq_true] at hb
      have h1 := Nat.eq_of_beq_eq_true hb.1
      have h2 := Nat.eq_of_beq_eq_true hb.2
      subst h1; subst h2; rfl
    · cases h
  case dptr.dptr =>
    split at h
    · rename_i he
      subst he
      split at h
      · rename_i hb
        have h1 := Nat.eq_of_beq_eq_true hb
        subst h1; cases h; rfl
      · cases h
    · cases h
  case dead.dead => rfl
  case nil.nil => rfl
  case nilp.nilp => rfl
  case fn.fn =>
    split at h
    · rename_i hb
      simp only [Bool.and_eq_true] at hb
      have h1 := Nat.eq_of_beq_eq_true hb.1
      have h2 := natsEq_eq hb.2
      subst h1; subst h2; rfl
    · cases h
  case mptr.mptr =>
    split at h
    · rename_i hb
      simp only [Bool.and_eq_true] at hb
      have h1 := Nat.eq_of_beq_eq_true hb.1
      have h2 := Nat.eq_of_beq_eq_true hb.2
      subst h1; subst h2; cases h; rfl
    · cases h
theorem unSt_some : ∀ {sh : Shape} {st : St} {s : Tup sh}, unSt sh st = some s → st = mkSt sh s
  | [], [], _, _ => rfl
  | [], _ :: _, _, h => by simp [unSt] at h
  | _ :: _, [], _, h => by simp [unSt] at h
  | p :: r, q :: st, s, h => by
    simp only [unSt] at h
    cases hl : p.1.eq q.1 with
    | false => rw [hl] at h; cases h
    | true =>
      rw [hl] at h
      simp only [cond_true] at h
      split at h
      · rename_i x hx
        split at h
        · rename_i s' hs
          cases h
          have h1 := Loc.eq_iff.1 hl
          have h2 := Kd.un_some hx
          have h3 := unSt_some hs
          rw [h3]
          show q :: mkSt r s' = (p.1, p.2.mk x) :: mkSt r s'
          rw [h1, ← h2]
        · cases h
      · cases h

/-- A summary over a shape. -/
def sumOf (sh : Shape) (f : Tup sh → ∀ R : Type, Cont R → Option R) : Sum := fun R st K => match unSt sh st with
  | some s => f s R K
  | none => none
theorem sumOk_of {E : Env} {O : Orc} {L : Nat → Option Sum} {c : Code} {sh : Shape} {f : Tup sh → ∀ R : Type, Cont R → Option R}
    (h : ∀ (s : Tup sh) (R : Type) (K : Cont R) (r : R), f s R K = some r → ∃ fuel, loopN (fun st K => ev2 E O L c st K) fuel (mkSt sh s) K = some r) : SumOk E O L c (sumOf sh f) := by
  intro R st K r hr
  unfold sumOf at hr
  split at hr
  · rename_i s hs
    rw [unSt_some hs]
    exact h s R K r hr
  · cases hr
theorem loopN_succ {R : Type} (step : St → Cont R → Option R) (n : Nat) (st : St) (K : Cont R) : loopN step (n + 1) st K = step st fun e st' => match e with
    | .normal => loopN step n st' K
    | e => K e st' := rfl
end Go.Ev

namespace Go.Ev
theorem dats0 {ds : List Dat} (h : ds.map (·.t) = []) : ds = [] := by simpa using h
theorem datsS {ds : List Dat} {t : Ty} {ts : List Ty} (h : ds.map (·.t) = t :: ts) : ∃ (x : t.den) (r : List Dat), ds = ⟨t, x⟩ :: r ∧ r.map (·.t) = ts := by
  cases ds with
  | nil => simp at h
  | cons d r =>
    simp only [List.map_cons, List.cons.injEq] at h
    obtain ⟨rfl, h2⟩ := h
    exact ⟨d.x, r, rfl, h2⟩
theorem loopsOk_nil {E : Env} {O : Orc} {L : Nat → Option Sum} {body : Code} (h : loopsOf body = []) : LoopsOk E O L body := fun c hc => by rw [h] at hc; cases hc

end Go.Ev

namespace Go.Ev

def iterN {S X : Type} (r : S → Option (S ⊕ X)) : Nat → S → Option X
  | 0, _ => none
  | n + 1, s => match r s with
    | some (.inl s') => iterN r n s'
    | some (.inr x) => some x
    | none => none
theorem iterN_mono {S X : Type} {r : S → Option (S ⊕ X)} {x : X} : ∀ {n m : Nat} {s : S}, iterN r n s = some x → n ≤ m → iterN r m s = some x
  | 0, _, _, h, _ => by simp [iterN] at h
  | n + 1, 0, _, _, hm => by omega
  | n + 1, m + 1, s, h, hm => by
    simp only [iterN] at h ⊢
    cases hr : r s with
    | none => rw [hr] at h; cases h
    | some y =>
      rw [hr] at h
      cases y with
      | inl s' => exact iterN_mono h (by omega)
      | inr x' => exact h
/-- What the rounds come to, if they come to an end. -/
noncomputable def Lim {S X : Type} (r : S → Option (S ⊕ X)) (s : S) : Option X := by
  classical
  exact if h : ∃ x n, iterN r n s = some x then some h.choose else none
theorem lim_of {S X : Type} {r : S → Option (S ⊕ X)} {n : Nat} {s : S} {x : X} (h : iterN r n s = some x) : Lim r s = some x := by
  classical
  have he : ∃ x n, iterN r n s = some x := ⟨x, n, h⟩
  unfold Lim
  rw [dif_pos he]
  obtain ⟨m, hm⟩ := he.choose_spec
  have h1 := iterN_mono h (Nat.le_max_left n m)
  have h2 := iterN_mono hm (Nat.le_max_right n m)
  rw [h1] at h2
  exact h2.symm
theorem lim_some {S X : Type} {r : S → Option (S ⊕ X)} {s : S} {x : X} (h : Lim r s = some x) : ∃ n, iterN r n s = some x := by
  classical
  unfold Lim at h
  split at h
  · rename_i he
    cases h
    exact he.choose_spec
  · cases h
/-- The limit, one round unrolled. -/
theorem lim_step {S X : Type} (r : S → Option (S ⊕ X)) (s : S) : Lim r s = match r s with
    | some (.inl s') => Lim r s'
    | some (.inr x) => some x
    | none => none := by
  cases hr : r s with
  | none =>
    cases hl : Lim r s with
    | none => rfl
    | some x =>
      obtain ⟨n, hn⟩ := lim_some hl
      cases n with
      | zero => simp [iterN] at hn
      | succ n => simp [iterN, hr] at hn
  | some y =>
    cases y with
    | inr x => exact lim_of (n := 1) (by simp [iterN, hr])
    | inl s' =>
      show Lim r s = Lim r s'
      cases hl : Lim r s' with
      | some x =>
        obtain ⟨n, hn⟩ := lim_some hl
        exact lim_of (n := n + 1) (by simpa [iterN, hr] using hn)
      | none =>
        cases hl2 : Lim r s with
        | none => rfl
        | some x =>
          obtain ⟨n, hn⟩ := lim_some hl2
          cases n with
          | zero => simp [iterN] at hn
          | succ n =>
            have := lim_of (r := r) (n := n) (s := s') (x := x) (by simpa [iterN, hr] using hn)
            rw [hl] at this; cases this

/-! ### The evaluator is natural -/
abbrev pairK : Cont (Exit × St) := fun e st => some (e, st)
def Natural (f : Sum) : Prop := ∀ (R : Type) (st : St) (K : Cont R), f R st K = (f (Exit × St) st pairK).bind fun p => K p.1 p.2
theorem evOps_nat {R : Type} {E : Env} {ops : List Oper} : ∀ {l : List Oper} {i : Nat} {st : St} {K : St → Option R}, evOps E ops l i st K = (evOps E ops l i st some).bind K
  | [], _, _, _ => rfl
  | o :: r, i, st, K => by
    simp only [evOps]
    split
    · rename_i f _
      cases f.test
      · rfl
      · exact evOps_nat
    · rfl
theorem ev2_nat {E : Env} {O : Orc} {L : Nat → Option Sum} (hL : ∀ k f, L k = some f → Natural f) : ∀ {c : Code} {R : Type} {st : St} {K : Cont R}, ev2 E O L c st K = (ev2 E O L c st pairK).bind fun p => K p.1 p.2 := by
  intro c
  induction c with
  | region id ops draw =>
    intro R st K
    simp only [ev2]
    cases (regionOk O.n ops.toList && (!draw || drawOk E ops.toList (normO (O.i id) st))) with
    | false => rfl
    | true =>
      simp only [cond_true]
      rw [evOps_nat, evOps_nat (R := Exit × St), Option.bind_assoc]
      rfl
  | seq a b iha ihb =>
    intro R st K
    simp only [ev2]
    rw [iha]
    refine Eq.trans ?_ (congrArg (fun o : Option (Exit × St) => o.bind fun p => K p.1 p.2) (iha (st := st)).symm)
    simp only [Option.bind_assoc]
    refine congrArg (Option.bind _) ?_
    funext p
    obtain ⟨e, st'⟩ := p
    cases e <;> first | exact ihb | rfl
  | cond o a b iha ihb =>
    intro R st K
    simp only [ev2]
    split
    · rename_i x _
      cases x
      · exact ihb
      · exact iha
    · rfl
  | block id a ih =>
    intro R st K
    simp only [ev2]
    rw [ih]
    refine Eq.trans ?_ (congrArg (fun o : Option (Exit × St) => o.bind fun p => K p.1 p.2) (ih (st := st)).symm)
    simp only [Option.bind_assoc]
    refine congrArg (Option.bind _) ?_
    funext p
    obtain ⟨e, st'⟩ := p
    cases e with
    | exit id' =>
      simp only []
      split <;> rfl
    | _ => rfl
  | scope a ih =>
    intro R st K
    simp only [ev2]
    rw [ih]
    refine Eq.trans ?_ (congrArg (fun o : Option (Exit × St) => o.bind fun p => K p.1 p.2) (ih (st := st)).symm)
    simp only [Option.bind_assoc]
    refine congrArg (Option.bind _) ?_
    funext p
    obtain ⟨e, st'⟩ := p
    cases e <;> rfl
  | loop a ih =>
    intro R st K
    simp only [ev2]
    cases hl : lookL L (keyOf a) with
    | none => rfl
    | some f =>
      simp only []
      refine hL ?_ f ?_ R st K
      · exact (keyOf a).getD 0
      · cases hk : keyOf a with
        | none => rw [hk] at hl; cases hl
        | some k => rw [hk] at hl; exact hl
  | rangeFunc g ps a b =>
    intro R st K
    simp only [ev2]
    cases hl : lookL L (keyOf (.rangeFunc g ps a b)) with
    | none => rfl
    | some f =>
      simp only []
      refine hL ?_ f ?_ R st K
      · exact (keyOf (.rangeFunc g ps a b)).getD 0
      · cases hk : keyOf (.rangeFunc g ps a b) with
        | none => rw [hk] at hl; cases hl
        | some k => rw [hk] at hl; exact hl
  | _ => intro R st K; rfl

/-- A loop's summary: the limit of its rounds. -/
noncomputable def limSum {S X : Type} (sh : Shape) (pk : Tup sh → S) (r : S → Option (S ⊕ X)) (leave : X → ∀ R : Type, Cont R → Option R) : Sum :=
  sumOf sh fun s R K => (Lim r (pk s)).bind fun x => leave x R K
theorem natural_lim {S X : Type} {sh : Shape} {pk : Tup sh → S} {r : S → Option (S ⊕ X)} {leave : X → ∀ R : Type, Cont R → Option R} (hx : ∀ x R (K : Cont R), leave x R K = (leave x _ pairK).bind fun p => K p.1 p.2) : Natural (limSum sh pk r leave) := by
  intro R st K
  unfold limSum sumOf
  split
  · simp only [Option.bind_assoc]
    refine congrArg (Option.bind _) ?_
    funext x
    exact hx x R K
  · rfl
/-- Reads a state back. -/
def back {S X : Type} (sh : Shape) (pk : Tup sh → S) (d : Exit → St → Option X) : Cont (S ⊕ X) := fun e st => match e with
  | .normal => (match unSt sh st with
    | some s => some (.inl (pk s))
    | none => none)
  | e => (match d e st with
    | some x => some (.inr x)
    | none => none)
theorem sumOk_lim {E : Env} {O : Orc} {L : Nat → Option Sum} {c : Code} {S X : Type} {sh : Shape} {pk : Tup sh → S} {un : S → Tup sh} {r : S → Option (S ⊕ X)} {leave : X → ∀ R : Type, Cont R → Option R} {d : Exit → St → Option X}
    (hL : ∀ k f, L k = some f → Natural f) (hpu : ∀ s, un (pk s) = s)
    (hd : ∀ e st x, e ≠ .normal → d e st = some x → ∀ R (K : Cont R), K e st = leave x R K)
    (hr : ∀ s, ev2 E O L c (mkSt sh (un s)) (back sh pk d) = r s) : SumOk E O L c (limSum sh pk r leave) := by
  refine sumOk_of fun s R K y hy => ?_
  rw [Option.bind_eq_some_iff] at hy
  obtain ⟨x, hx, hy⟩ := hy
  obtain ⟨n, hn⟩ := lim_some hx
  rw [← hpu s]
  generalize pk s = z at hn
  have one : ∀ (z : S) (v : S ⊕ X), r z = some v → ∃ e st, back sh pk d e st = some v ∧ ∀ R (K : Cont R), ev2 E O L c (mkSt sh (un z)) K = K e st := by
    intro z v hv
    rw [← hr, ev2_nat hL, Option.bind_eq_some_iff] at hv
    obtain ⟨⟨e, st⟩, h1, h2⟩ := hv
    refine ⟨e, st, h2, fun R K => ?_⟩
    rw [ev2_nat hL, h1]; rfl
  refine ⟨n, ?_⟩
  induction n generalizing z with
  | zero => simp [iterN] at hn
  | succ n ih =>
    simp only [iterN] at hn
    rw [loopN_succ]
    cases hv : r z with
    | none => rw [hv] at hn; cases hn
    | some v =>
      rw [hv] at hn
      obtain ⟨e, st, h1, h2⟩ := one z v hv
      rw [h2]
      cases v with
      | inl z' =>
        cases e with
        | normal =>
          simp only [back] at h1
          split at h1
          · rename_i s' hs'
            simp only [Option.some.injEq, Sum.inl.injEq] at h1
            have := unSt_some hs'
            rw [this, ← hpu s', h1]
            exact ih z' hn
          · cases h1
        | _ => simp only [back] at h1; split at h1 <;> cases h1
      | inr x' =>
        cases e with
        | normal => simp only [back] at h1; split at h1 <;> cases h1
        | _ =>
          simp only [back] at h1
          split at h1
          · rename_i x2 hx2
            simp only [Option.some.injEq, Sum.inr.injEq] at h1 hn
            subst h1; subst hn
            exact (hd _ _ _ (by simp) hx2 R K).trans hy
          · cases h1

/-- The results, typed. -/
def datsTo : (ts : List Ty) → List Dat → Option (List.rec Unit (fun t _ T => t.den × T) ts)
  | [], [] => some ()
  | t :: ts, d :: ds => if h : d.1 = t then (match datsTo ts ds with
    | some r => some (h ▸ d.2, r)
    | none => none) else none
  | _, _ => none
def datsOf : (ts : List Ty) → (List.rec Unit (fun t _ T => t.den × T) ts) → List Dat
  | [], _ => []
  | t :: ts, x => ⟨t, x.1⟩ :: datsOf ts x.2
theorem datsTo_some : ∀ {ts : List Ty} {ds : List Dat} {x : List.rec Unit (fun t _ T => t.den × T) ts}, datsTo ts ds = some x → ds = datsOf ts x
  | [], [], _, _ => rfl
  | [], _ :: _, _, h => by simp [datsTo] at h
  | _ :: _, [], _, h => by simp [datsTo] at h
  | t :: ts, d :: ds, x, h => by
    simp only [datsTo] at h
    split at h
    · rename_i ht
      subst ht
      split at h
      · rename_i r hr
        cases h
        rw [datsTo_some hr]
        rfl
      · cases h
    · cases h
def retT {R : Type} (rs : List (Nat × RK)) (ts : List Ty) (pk : (List.rec Unit (fun t _ T => t.den × T) ts) → R) : Cont R := fun e st => match retK rs e st with
  | some ds => (match datsTo ts ds with
    | some x => some (pk x)
    | none => none)
  | none => none
theorem ev_ret {E : Env} {O : Orc} {L : Nat → Option Sum} {c : Code} {st : St} {R : Type} {rs : List (Nat × RK)} {ts : List Ty} {pk : (List.rec Unit (fun t _ T => t.den × T) ts) → R} {un : R → List Dat} {r : R}
    (hL : ∀ k f, L k = some f → Natural f) (hpu : ∀ x, un (pk x) = datsOf ts x) (h : ev2 E O L c st (retT rs ts pk) = some r) : ev2 E O L c st (retK rs) = some (un r) := by
  rw [ev2_nat hL, Option.bind_eq_some_iff] at h
  obtain ⟨⟨e, st'⟩, h1, h2⟩ := h
  rw [ev2_nat hL, h1]
  show retK rs e st' = some (un r)
  unfold retT at h2
  split at h2
  · rename_i ds hds
    split at h2
    · rename_i x hx
      simp only [Option.some.injEq] at h2
      have hds' : retK rs e st' = some ds := hds
      rw [hds', datsTo_some hx, ← h2, hpu]
    · cases h2
  · cases h2
end Go.Ev

namespace Go.Ev
open Go.RowKit

/-- Where a result is read. -/
inductive RSrc where
  | slot (r : Nat) | cell (r T : Nat)
def resAVOf (E : Env) (st : St) : RSrc → AV
  | .slot r => st.get (.slot r)
  | .cell r T => match st.get (.slot r), E.tab.ty T with
    | .ptr b c, some t => (match (gather b t c).run st.get with
      | some (x, []) => .dat t x
      | _ => .dead)
    | _, _ => .dead
/-- A pointer where one that may be nil is wanted. -/
def convK : Kd → AV → AV
  | .mptr _ _, .ptr b o => .mptr b o true
  | .mptr b o, .nilp => .mptr b o false
  | _, v => v
def outSt (E : Env) (rs : List RSrc) (pout : Shape) (st : St) : St := pout.map fun p => (p.1, match p.1 with
  | .slot j => (match rs[j]? with
    | some r => convK p.2 (resAVOf E st r)
    | none => .dead)
  | l => convK p.2 (st.get l))
/-- What a kind mentions, and what a place lies in, comes back too. -/
def closedK (bs : List Nat) : Kd → Bool
  | .ptr b _ | .mptr b _ => bs.any fun c => Nat.beq c b
  | .fn _ cs => cs.all fun b => bs.any fun c => Nat.beq c b
  | .yld => false
  | _ => true
def closedP (bs : List Nat) : Shape → Bool
  | [] => true
  | (l, k) :: r => closedK bs k && (match l with
    | .cell b _ => bs.any fun c => Nat.beq c b
    | .comp _ _ => false
    | _ => true) && closedP bs r
/-- Results come out of slots of their own. -/
def ownSlots : List RSrc → List Nat
  | [] => []
  | .slot r :: l => r :: ownSlots l
  | .cell _ _ :: l => ownSlots l
/-- Boxes are told as such. -/
def boxesBx : Shape → Bool
  | [] => true
  | (.box _, .bx _ _) :: r => boxesBx r
  | (.box _, _) :: _ => false
  | _ :: r => boxesBx r

section
variable {Z : ZS} {E : Env} {N : Nat} {w0 : World} {Ow : OwS} {g : Mem} {G : Ghost} {a a' : Act} {w w' : World} {P : Program}

/-- What may be told in another place. -/
inductive Im : AV → AV → Prop
  | dead (u : AV) : Im u .dead
  | dat (t : Ty) (x : t.den) : Im (.dat t x) (.dat t x)
  | own (e : Nat) (t : Ty) (xs : List t.den) : Im (.own e t xs 0) (.own e t xs 0)
  | ptr (b o : Nat) : Im (.ptr b o) (.ptr b o)
  | fn (f : Nat) (cs : List Nat) : Im (.fn f cs) (.fn f cs)
  | nil : Im .nil .nil
  | nilp : Im .nilp .nilp
  | mptr (b o : Nat) (p : Bool) : Im (.mptr b o p) (.mptr b o p)
  | bx (e n : Nat) : Im (.bx e n) (.bx e n)
  | dptr (t : Ty) (x : t.den) (o : Nat) : Im (.dptr t x o) (.dptr t x o)
  | pm (b o : Nat) : Im (.ptr b o) (.mptr b o true)
  | nm (b o : Nat) : Im .nilp (.mptr b o false)
/-- The boxes that a value mentions. -/
def boxesIn : AV → List Nat
  | .ptr b _ => [b]
  | .mptr b _ _ => [b]
  | .fn _ cs => cs
  | _ => []

/-- What may be told of any value, wherever it lies. -/
inductive Tells : AV → Prop
  | dat (t : Ty) (x : t.den) : Tells (.dat t x)
  | ptr (b o : Nat) : Tells (.ptr b o)
  | fn (f : Nat) (cs : List Nat) : Tells (.fn f cs)
  | nil : Tells .nil
  | nilp : Tells .nilp
  | mptr (b o : Nat) (p : Bool) : Tells (.mptr b o p)
  | dptr (t : Ty) (x : t.den) (o : Nat) : Tells (.dptr t x o)
/-- The ghosts of what is told elsewhere. -/
def imageG (g' : Mem) (src : Nat → Option Nat) (G : Ghost) : Ghost := fun l => match g' l with
  | .own _ _ _ _ => (match l with
    | .slot j => (src j).bind fun r => G (.slot r)
    | l => G l)
  | .bx _ _ => (match l with
    | .box b => G (.box b)
    | _ => none)
  | _ => none

theorem Rel.image' (h : Rel Z E N w0 Ow (fun n => n = 0) (fun _ => False) g G a w) {g' : Mem} {vs : List Value} {E' : Env} (hgl : E'.glob = E.glob) {src : Nat → Option Nat}
    {Z' : ZS} {w1 : World} {Ow1 : OwS} (hfr : ∀ b, free Z G w b → Z' b) (hos : w.os = w1.os) (htape : w.tape = w1.tape) (hout : w.output = w1.output) (hsize : w1.heap.size ≤ w.heap.size) (hlow : ∀ k, k < w1.heap.size → ¬ Ow1 k → w.heap[k]? = w1.heap[k]?)
    (hbnd : ∀ l b, imageG g' src G l = some b → Ow1 b ∨ w1.heap.size ≤ b) (hzow : ∀ b, (Ow1 b ∨ w1.heap.size ≤ b) → Z' b) {ds : List Deferred} (hdl : Ow1.dl = ds)
    (hpn : ∀ b gb, Ow1.pin b = some gb → g (.box b) ≠ .dead → G (.box b) = some gb) (hpin : ∀ b gb, Ow1.pin b = some gb → (vs.length ≤ b ∧ b < pinMax) ∨ E'.held b = true)
    (hslot : ∀ j, g' (.slot j) = .dead ∨ (∃ r, src j = some r ∧ Im (g (.slot r)) (g' (.slot j)) ∧ vs.getD j undef = a.tmps.getD r undef) ∨ (∃ t x cs, g' (.slot j) = .dat t x ∧ RV (free Z G w) w t x cs ∧ vs.getD j undef = valOf t cs) ∨ (Tells (g' (.slot j)) ∧ ∃ l, AVR Z g G a w (g' (.slot j)) l (vs.getD j undef)))
    (hsrc : ∀ j j' r, src j = some r → src j' = some r → j = j')
    (hcomp : ∀ n i, g' (.comp n i) = .dead)
    (hbox : ∀ b, g' (.box b) = .dead ∨ g' (.box b) = g (.box b))
    (hcell : ∀ b o, g' (.cell b o) = .dead ∨ (Im (g (.cell b o)) (g' (.cell b o)) ∧ g' (.box b) = g (.box b)))
    (hcl : ∀ l, ∀ b ∈ boxesIn (g' l), g' (.box b) = g (.box b)) :
    Rel Z' E' vs.length w1 Ow1 (fun n => n = 0) (fun _ => False) g' (imageG g' src G) { tmps := vs.toArray, defers := ds } w := by
  obtain ⟨G', hGdef⟩ : ∃ G', G' = imageG g' src G := ⟨_, rfl⟩
  rw [← hGdef] at hbnd ⊢
  have hG1 : ∀ {l b}, G' l = some b → ∃ l', G l' = some b ∧ ((∃ j r, l = .slot j ∧ src j = some r ∧ l' = .slot r ∧ ∃ e t xs, g' l = .own e t xs 0) ∨ (l' = l ∧ (∀ j, l ≠ .slot j) ∧ ((∃ e t xs, g' l = .own e t xs 0) ∨ ∃ e n, g' l = .bx e n))) := by
    intro l b hb
    simp only [hGdef, imageG] at hb
    split at hb
    · rename_i e t xs s hl
      have hs : s = 0 := by
        cases l with
        | slot j =>
          rcases hslot j with h1 | ⟨r, _, h1, _⟩ | ⟨t', x', cs, h1, _⟩ | ⟨h1, _⟩
          · rw [h1] at hl; cases hl
          · rw [hl] at h1; generalize g (.slot r) = u at h1; cases h1; rfl
          · rw [h1] at hl; cases hl
          · rw [hl] at h1; cases h1
        | comp n i => rw [hcomp] at hl; cases hl
        | box c =>
          rcases hbox c with h1 | h1
          · rw [h1] at hl; cases hl
          · rcases h.boxAV c with h2 | ⟨e', n', h2⟩ <;> rw [h1, h2] at hl <;> cases hl
        | cell c o =>
          rcases hcell c o with h1 | ⟨h1, _⟩
          · rw [h1] at hl; cases hl
          · rw [hl] at h1; generalize g (.cell c o) = u at h1; cases h1; rfl
      subst hs
      cases l with
      | slot j =>
        simp only [Option.bind_eq_some_iff] at hb
        obtain ⟨r, h1, h2⟩ := hb
        exact ⟨_, h2, .inl ⟨j, r, rfl, h1, rfl, e, t, xs, hl⟩⟩
      | comp n i => exact ⟨_, hb, .inr ⟨rfl, by simp, .inl ⟨e, t, xs, hl⟩⟩⟩
      | box c => exact ⟨_, hb, .inr ⟨rfl, by simp, .inl ⟨e, t, xs, hl⟩⟩⟩
      | cell c o => exact ⟨_, hb, .inr ⟨rfl, by simp, .inl ⟨e, t, xs, hl⟩⟩⟩
    · rename_i e n hl
      cases l with
      | box c => exact ⟨_, hb, .inr ⟨rfl, by simp, .inr ⟨e, n, hl⟩⟩⟩
      | _ => cases hb
    · cases hb
  have hfree : ∀ b, free Z G w b → free Z' G' w b := fun b hb => ⟨hb.1, fun l e => by
    obtain ⟨l', h1, _⟩ := hG1 e
    exact hb.2 l' h1, hfr b hb⟩
  have hRV : ∀ {t : Ty} {x : t.den} {cs : List Value}, RV (free Z G w) w t x cs → RV (free Z' G' w) w t x cs := fun hv => hv.keep (fun _ _ => rfl) hfree
  have hGb : ∀ {b e n}, g (.box b) = .bx e n → g' (.box b) = g (.box b) → G' (.box b) = G (.box b) := fun {b e n} h1 h2 => by simp only [hGdef, imageG, h2, h1]
  have hptr : ∀ {b o : Nat} {v : Value}, g' (.box b) = g (.box b) → (∃ e n gb, g (.box b) = .bx e n ∧ G (.box b) = some gb ∧ v = .pointer (some ⟨gb, o, none⟩)) → ∃ e n gb, g' (.box b) = .bx e n ∧ G' (.box b) = some gb ∧ v = .pointer (some ⟨gb, o, none⟩) := fun {b o v} hb ⟨e, n, gb, h1, h2, h3⟩ =>
    ⟨e, n, gb, hb.trans h1, (hGb h1 hb).trans h2, h3⟩
  -- one value
  have tr : ∀ {l l' : Loc} {val : Value}, (∀ b ∈ boxesIn (g' l'), g' (.box b) = g (.box b)) → (∀ e t xs, g' l' = .own e t xs 0 → G' l' = G l) → Im (g l) (g' l') → AVR Z g G a w (g l) l val → AVR Z' g' G' { tmps := vs.toArray, defers := ds } w (g' l') l' val := fun {l l' val} hcl' hGl him hv => by
    generalize hu : g l = u at him hv
    generalize hu' : g' l' = u' at him hcl' hGl
    cases him with
    | dead => trivial
    | dat t x => obtain ⟨cs, h1, h2⟩ := hv; exact ⟨cs, hRV h1, h2⟩
    | own e t xs =>
      simp only [AVR] at hv ⊢
      rw [hGl _ _ _ rfl]
      exact hv.keep (fun b hb => ⟨hfree b hb, rfl⟩) (fun _ _ => rfl)
    | ptr b o => exact hptr (hcl' b (by simp [boxesIn])) hv
    | fn f cs =>
      obtain ⟨vs1, h1, h2, h3⟩ := hv
      exact ⟨vs1, h1, h2, fun i b hi => hptr (hcl' b (by simp only [boxesIn]; exact List.mem_of_getElem? hi)) (h3 i b hi)⟩
    | nil => exact hv
    | nilp => exact hv
    | mptr b o p => exact ⟨fun hp => hptr (hcl' b (by simp [boxesIn])) (hv.1 hp), hv.2⟩
    | bx e n => exact hv.elim
    | dptr t x o =>
      obtain ⟨b, k, cs, h1, h2, h3, h4⟩ := hv
      exact ⟨b, k, cs, hRV h1, fun hne => hfree _ (h2 hne), h3, h4⟩
    | pm b o => exact ⟨fun _ => hptr (hcl' b (by simp [boxesIn])) hv, by simp⟩
    | nm b o => exact ⟨by simp, fun _ => hv⟩
  have noTup : ∀ {l n}, g' l ≠ .tup n := fun {l n} e => by
    cases l with
    | slot j =>
      rcases hslot j with h1 | ⟨r, _, h1, _⟩ | ⟨t', x', cs, h1, _⟩ | ⟨h1, _⟩
      · rw [h1] at e; cases e
      · rw [e] at h1; generalize g (.slot r) = u at h1; cases h1
      · rw [h1] at e; cases e
      · rw [e] at h1; cases h1
    | comp n i => rw [hcomp] at e; cases e
    | box c =>
      rcases hbox c with h1 | h1
      · rw [h1] at e; cases e
      · rcases h.boxAV c with h2 | ⟨e', n', h2⟩ <;> rw [h1, h2] at e <;> cases e
    | cell c o =>
      rcases hcell c o with h1 | ⟨h1, _⟩
      · rw [h1] at e; cases e
      · rw [e] at h1; generalize g (.cell c o) = u at h1; cases h1
  refine ⟨hdl.symm, by simp, hos, htape, hout, hsize, hlow, fun l b hb => ?_, hzow, fun l l' b h1 h2 => ?_, fun l b hb => ?_, fun j => ?_, fun n k i hn => absurd hn noTup, fun b e n hb => ?_, fun b o hne => ?_, fun b o o' h1 h2 hne => ?_, fun b => ?_, fun l => ?_, fun l c v hl => ?_, fun k hk => hk.elim, fun k d hk => ?_, fun b gb hp hne => ?_, hpin⟩
  · obtain ⟨l', h1, _⟩ := hG1 hb
    exact ⟨(h.bnd l' b h1).1, hbnd l b hb⟩
  · obtain ⟨k, q1, q2⟩ := hG1 h1
    obtain ⟨k', q3, q4⟩ := hG1 h2
    have := h.inj k k' b q1 q3
    subst this
    rcases q2 with ⟨j, r, rfl, e1, rfl, _⟩ | ⟨rfl, hno, _⟩ <;> rcases q4 with ⟨j', r', rfl, e1', e2', _⟩ | ⟨e2', hno', _⟩
    · cases e2'; rw [hsrc j j' r e1 e1']
    · exact absurd e2'.symm (hno' r)
    · exact absurd e2' (hno r')
    · exact e2'
  · obtain ⟨l', _, h1⟩ := hG1 hb
    rcases h1 with ⟨j, r, _, _, _, e, t, xs, h2⟩ | ⟨_, _, ⟨e, t, xs, h2⟩ | ⟨e, n, h2⟩⟩
    · exact .inl ⟨e, t, xs, 0, h2⟩
    · exact .inl ⟨e, t, xs, 0, h2⟩
    · exact .inr ⟨e, n, h2⟩
  · show AVR _ _ _ _ _ (g' (.slot j)) _ (vs.toArray.getD j undef)
    rw [show vs.toArray.getD j undef = vs.getD j undef by simp]
    rcases hslot j with h1 | ⟨r, h0, h1, h2⟩ | ⟨t, x, cs, h1, h2, h3⟩ | ⟨h1, l, h2⟩
    · rw [h1]; trivial
    · rw [h2]
      exact tr (hcl _) (fun e t xs hl => by simp only [hGdef, imageG, hl, h0, Option.bind_some]) h1 (h.slots r)
    · rw [h1]; exact ⟨cs, hRV h2, h3⟩
    · have hcl' := hcl (.slot j)
      generalize g' (.slot j) = u at h1 h2 hcl'
      cases h1 with
      | dat t x => obtain ⟨cs, q1, q2⟩ := h2; exact ⟨cs, hRV q1, q2⟩
      | ptr b o => exact hptr (hcl' b (by simp [boxesIn])) h2
      | fn f cs =>
        obtain ⟨vs1, q1, q2, q3⟩ := h2
        exact ⟨vs1, q1, q2, fun i b hi => hptr (hcl' b (by simp only [boxesIn]; exact List.mem_of_getElem? hi)) (q3 i b hi)⟩
      | nil => exact h2
      | nilp => exact h2
      | mptr b o p => exact ⟨fun hp => hptr (hcl' b (by simp [boxesIn])) (h2.1 hp), h2.2⟩
      | dptr t x o =>
        obtain ⟨b, k, cs, q1, q2, q3, q4⟩ := h2
        exact ⟨b, k, cs, hRV q1, fun hne => hfree _ (q2 hne), q3, q4⟩
  · rcases hbox b with h1 | h1
    · rw [h1] at hb; cases hb
    · rw [h1] at hb
      obtain ⟨gb, cur, h2, h3, h4⟩ := h.boxes b e n hb
      exact ⟨gb, cur, (hGb hb h1).trans h2, h3, h4⟩
  · rcases hcell b o with h1 | ⟨h1, h2⟩
    · exact absurd h1 hne
    · have hgne : g (.cell b o) ≠ .dead := fun e => by rw [e] at h1; generalize g' (.cell b o) = u at h1 hne; cases h1; exact hne rfl
      obtain ⟨e, n, gb, cur, k1, k2, k3, k4⟩ := h.cells b o hgne
      refine ⟨e, n, gb, cur, h2.trans k1, (hGb k1 h2).trans k2, k3, ?_⟩
      have ht := fun hv => tr (l := .cell b o) (l' := .cell b o) (val := cur.getD o undef) (hcl _) (fun e t xs hl => by simp only [hGdef, imageG, hl]) h1 hv
      generalize hu : g (.cell b o) = u at h1 k4 ht
      generalize hu' : g' (.cell b o) = u' at h1 ht
      cases h1 with
      | dead => trivial
      | dat t x => exact ⟨k4.1, hRV k4.2⟩
      | _ => exact ⟨k4.1, ht k4.2⟩
  · have hsz : ∀ {b o}, g' (.cell b o) ≠ .dead → g (.cell b o) ≠ .dead ∧ (g' (.cell b o)).size = (g (.cell b o)).size := fun {b o} hne => by
      rcases hcell b o with k1 | ⟨k1, _⟩
      · exact absurd k1 hne
      · generalize g (.cell b o) = u at k1
        generalize g' (.cell b o) = u' at k1 hne
        cases k1 <;> first | exact absurd rfl hne | exact ⟨by simp, rfl⟩
    rw [(hsz h1).2, (hsz h2).2]
    exact h.apart b o o' (hsz h1).1 (hsz h2).1 hne
  · rcases hbox b with h1 | h1
    · exact .inl h1
    · rw [h1]; exact h.boxAV b
  · have key : ∀ {u u' : AV}, Im u u' → stampIn (fun n => n = 0) u' := fun him => by cases him <;> first | trivial | exact rfl
    cases l with
    | slot j =>
      rcases hslot j with h1 | ⟨r, _, h1, _⟩ | ⟨t', x', cs, h1, _⟩ | ⟨h1, _⟩
      · rw [h1]; trivial
      · exact key h1
      · rw [h1]; trivial
      · generalize g' (.slot j) = u at h1; cases h1 <;> trivial
    | comp n i => rw [hcomp]; trivial
    | box c =>
      rcases hbox c with h1 | h1
      · rw [h1]; trivial
      · rw [h1]; exact h.stamps _
    | cell c o =>
      rcases hcell c o with h1 | ⟨h1, _⟩
      · rw [h1]; trivial
      · exact key h1
  · exfalso
    cases l with
    | slot j =>
      rcases hslot j with h1 | ⟨r, _, h1, _⟩ | ⟨t', x', cs, h1, _⟩ | ⟨h1, _⟩
      · rw [h1] at hl; cases hl
      · rw [hl] at h1; generalize g (.slot r) = u at h1; cases h1
      · rw [h1] at hl; cases hl
      · rw [hl] at h1; cases h1
    | comp n i => rw [hcomp] at hl; cases hl
    | box b =>
      rcases hbox b with h1 | h1
      · rw [h1] at hl; cases hl
      · rcases h.boxAV b with h2 | ⟨e', n', h2⟩ <;> rw [h1, h2] at hl <;> cases hl
    | cell b o =>
      rcases hcell b o with h1 | ⟨h1, _⟩
      · rw [h1] at hl; cases hl
      · rw [hl] at h1; generalize g (.cell b o) = u at h1; cases h1
  · obtain ⟨cs, h1, h2, h3⟩ := h.globs k d (by rw [← hgl]; exact hk)
    exact ⟨cs, hRV h1, fun hne => hfree _ (h2 hne), h3⟩
  · rcases hbox b with h1 | h1
    · exact absurd h1 hne
    · rcases h.boxAV b with h2 | ⟨e', n', h2⟩
      · rw [h1] at hne; exact absurd h2 hne
      · rw [hGb h2 h1]; exact hpn b gb hp (by rw [h2]; simp)
theorem imageG_some {g' : Mem} {src : Nat → Option Nat} {l : Loc} {b : Nat} (h : imageG g' src G l = some b) : ∃ l', G l' = some b := by
  simp only [imageG] at h
  split at h
  · split at h
    · rw [Option.bind_eq_some_iff] at h
      obtain ⟨r, _, h2⟩ := h
      exact ⟨_, h2⟩
    · exact ⟨_, h⟩
  · split at h
    · exact ⟨_, h⟩
    · cases h
  · cases h
theorem Rel.image (h : Rel Z E N w0 Ow (fun n => n = 0) (fun _ => False) g G a w) {g' : Mem} {vs : List Value} {E' : Env} (hgl : E'.glob = E.glob) (hheld : ∀ b, E.held b = false) (hdl : Ow.dl = []) (hpin : ∀ b gb, Ow.pin b = some gb → vs.length ≤ b)
    {src : Nat → Option Nat}
    (hslot : ∀ j, g' (.slot j) = .dead ∨ (∃ r, src j = some r ∧ Im (g (.slot r)) (g' (.slot j)) ∧ vs.getD j undef = a.tmps.getD r undef) ∨ (∃ t x cs, g' (.slot j) = .dat t x ∧ RV (free Z G w) w t x cs ∧ vs.getD j undef = valOf t cs))
    (hsrc : ∀ j j' r, src j = some r → src j' = some r → j = j')
    (hcomp : ∀ n i, g' (.comp n i) = .dead)
    (hbox : ∀ b, g' (.box b) = .dead ∨ g' (.box b) = g (.box b))
    (hcell : ∀ b o, g' (.cell b o) = .dead ∨ (Im (g (.cell b o)) (g' (.cell b o)) ∧ g' (.box b) = g (.box b)))
    (hcl : ∀ l, ∀ b ∈ boxesIn (g' l), g' (.box b) = g (.box b)) :
    ∃ G', Rel Z E' vs.length w0 Ow (fun n => n = 0) (fun _ => False) g' G' { tmps := vs.toArray, defers := [] } w :=
  ⟨_, h.image' hgl (fun b hb => hb.3) h.os h.tape h.output h.size h.low (fun l b hb => by obtain ⟨l', h1⟩ := imageG_some hb; exact (h.bnd l' b h1).2) h.zow hdl h.pins (fun b gb hp => .inl ⟨hpin b gb hp, ((h.pinR b gb hp).resolve_right (by rw [hheld]; simp)).2⟩) (fun j => (hslot j).imp id fun q => q.imp id .inl) hsrc hcomp hbox hcell hcl⟩
end
end Go.Ev

namespace Go.Ev
open Go.RowKit
def RSrc.var : RSrc → ResultVar
  | .slot r => .tmp r
  | .cell r T => .cell r T
/-- Every result that lies in a box can be read. -/
def cellsOk (E : Env) (st : St) : List RSrc → Bool
  | [] => true
  | .slot _ :: r => cellsOk E st r
  | .cell a T :: r => (match resAVOf E st (.cell a T) with
    | .dat _ _ => true
    | _ => false) && cellsOk E st r
def retK3 (E : Env) (rs : List RSrc) (pout : Shape) : Cont (Tup pout) := fun e st => match e with
  | .ret | .normal => bif cellsOk E st rs then unSt pout (outSt E rs pout st) else none
  | _ => none

section
variable {Z : ZS} {E : Env} {N : Nat} {w0 : World} {Ow : OwS} {S D : Nat → Prop} {g : Mem} {G : Ghost} {a a' : Act} {w w' : World} {P : Program}

theorem nres_get : ∀ {sh : Shape} {s : Tup sh} {j : Nat}, St.get (mkSt sh s) (.slot j) ≠ .dead → j < nres sh
  | [], _, _, h => absurd rfl h
  | (l, k) :: r, s, j, h => by
    have ih := fun h' => nres_get (sh := r) (s := s.2) (j := j) h'
    simp only [mkSt, St.get] at h
    cases he : l.eq (.slot j) with
    | true =>
      have := Loc.eq_iff.1 he
      subst this
      simp only [nres]; omega
    | false =>
      rw [he] at h
      have := ih h
      cases l <;> simp only [nres] <;> omega

/-- The frame's other temporaries. -/
theorem Rel.enter {args : List Value} {nt : Nat} (h : Rel Z E args.length w0 Ow S D g G { tmps := args.toArray, defers := [] } w) (hdead : ∀ j, args.length ≤ j → g (.slot j) = .dead) (hnt : args.length ≤ nt) (hpin : ∀ b gb, Ow.pin b = some gb → nt ≤ b) :
    Rel Z E nt w0 Ow S D g G { tmps := args.toArray ++ Array.replicate (nt - args.toArray.size) undef, defers := [] } w := by
  obtain ⟨a0, ha0⟩ : ∃ a0 : Act, a0 = { tmps := args.toArray, defers := [] } := ⟨_, rfl⟩
  obtain ⟨a1, ha1⟩ : ∃ a1 : Act, a1 = { tmps := args.toArray ++ Array.replicate (nt - args.toArray.size) undef, defers := [] } := ⟨_, rfl⟩
  rw [← ha0] at h
  rw [← ha1]
  have hget : ∀ j, a1.tmps.getD j undef = a0.tmps.getD j undef := fun j => by
    rw [ha0, ha1]
    by_cases hj : j < args.length
    · simp [Array.getD_eq_getD_getElem?, Array.getElem?_append, hj]
    · simp [Array.getD_eq_getD_getElem?, Array.getElem?_append, hj, Array.getElem?_replicate]
      split <;> rfl
  have hroot : ∀ l, rootVal G a1 w l = rootVal G a0 w l := fun l => by cases l <;> simp only [rootVal, hget]
  have key : ∀ {l : Loc} {val : Value}, AVR Z g G a0 w (g l) l val → AVR Z g G a1 w (g l) l val := fun {l val} hv => by
    refine AVR.keep S D rfl (fun b hb => ⟨hb, rfl⟩) (fun l st _ _ => ⟨fun e t xs hx => ⟨xs, hx, rfl, hroot l, rfl⟩, fun b o n t xs _ hx _ => ⟨xs, hx⟩⟩) (fun b e n hb => ⟨hb, rfl⟩) (fun _ _ => rfl) (fun _ _ _ _ _ => ⟨rfl, fun _ _ => rfl⟩) (fun _ _ _ _ e => e ▸ rfl) (h.stamps l)
      (fun c u e => ⟨(h.ctx l c u e).1, (h.ctx l c u e).2.1, (h.ctx l c u e).2.2.1, (h.ctx l c u e).2.2.2.2⟩) hv
  exact { h with
    defers := by rw [ha1, ← h.defers, ha0]
    tmps := by rw [ha1]; simp; omega
    slots := fun n => by rw [hget]; exact key (h.slots n)
    comps := fun n k i h1 h2 => by rw [hget]; exact key (h.comps n k i h1 h2)
    cells := fun b o hne => by
      obtain ⟨e, n, gb, cur, h1, h2, h3, h4⟩ := h.cells b o hne
      refine ⟨e, n, gb, cur, h1, h2, h3, ?_⟩
      have hk := key (l := .cell b o) (val := cur.getD o undef)
      generalize g (.cell b o) = v at h4 hk
      cases v with
      | dead => trivial
      | dat t x => exact h4
      | _ => exact ⟨h4.1, hk h4.2⟩
    pinR := fun b gb hp => (h.pinR b gb hp).imp (fun q => ⟨hpin b gb hp, q.2⟩) id }

theorem convK_bx {k : Kd} {v : AV} (hv : v = .dead ∨ ∃ e n, v = .bx e n) : convK k v = v := by
  rcases hv with rfl | ⟨e, n, rfl⟩ <;> cases k <;> rfl
theorem closedP_mem {bs : List Nat} : ∀ {pout : Shape}, closedP bs pout = true → ∀ {l k}, (l, k) ∈ pout → closedK bs k = true ∧ (∀ b o, l = .cell b o → b ∈ bs) ∧ ∀ n i, l ≠ .comp n i
  | [], _, _, _, h => by simp at h
  | (l0, k0) :: r, hc, l, k, h => by
    simp only [closedP, Bool.and_eq_true] at hc
    rcases List.mem_cons.1 h with h | h
    · cases h
      refine ⟨hc.1.1, fun b o e => ?_, fun n i e => ?_⟩
      · subst e
        have := hc.1.2
        simp only [List.any_eq_true] at this
        obtain ⟨c, h1, h2⟩ := this
        rw [← Nat.eq_of_beq_eq_true h2]; exact h1
      · subst e; simp at hc
    · exact closedP_mem hc.2 h
/-- What is told of a place fits its kind. -/
theorem mkSt_kind : ∀ {sh : Shape} {s : Tup sh} (l : Loc), St.get (mkSt sh s) l = .dead ∨ ∃ k x, (l, k) ∈ sh ∧ St.get (mkSt sh s) l = k.mk x
  | [], _, _ => .inl rfl
  | p :: r, s, l => by
    simp only [mkSt, St.get]
    cases he : p.1.eq l with
    | true =>
      have := Loc.eq_iff.1 he
      subst this
      exact .inr ⟨p.2, s.1, by simp, rfl⟩
    | false =>
      rcases mkSt_kind (sh := r) (s := s.2) l with h1 | ⟨k, x, h1, h2⟩
      · exact .inl h1
      · exact .inr ⟨k, x, List.mem_cons_of_mem _ h1, h2⟩
theorem im_conv {bs : List Nat} {k : Kd} (hk : closedK bs k = true) {v : AV} {x : k.den} (h : convK k v = k.mk x) : Im v (convK k v) := by
  have hk : k ≠ .yld := by rintro rfl; cases hk
  cases k <;> cases v <;> simp only [convK] at h ⊢ <;> simp only [Kd.mk] at h <;> first | (exact absurd rfl hk) | (cases h; done) | (cases h; constructor) | constructor
theorem boxes_mk {bs : List Nat} {k : Kd} {x : k.den} (hc : closedK bs k = true) : ∀ b ∈ boxesIn (k.mk x), b ∈ bs := by
  intro b hb
  cases k <;> simp [Kd.mk, boxesIn] at hb
  · subst hb
    simp only [closedK, List.any_eq_true] at hc
    obtain ⟨c, h1, h2⟩ := hc
    rw [← Nat.eq_of_beq_eq_true h2]; exact h1
  · simp only [closedK, List.all_eq_true, List.any_eq_true] at hc
    obtain ⟨c, h1, h2⟩ := hc b hb
    rw [← Nat.eq_of_beq_eq_true h2]; exact h1
  · subst hb
    simp only [closedK, List.any_eq_true] at hc
    obtain ⟨c, h1, h2⟩ := hc
    rw [← Nat.eq_of_beq_eq_true h2]; exact h1

/-- A box that comes back is told. -/
theorem outSt_box {rs : List RSrc} {st : St} : ∀ {pout : Shape} {o : Tup pout}, unSt pout (outSt E rs pout st) = some o → boxesBx pout = true → ∀ b ∈ outBoxes pout, St.get (outSt E rs pout st) (.box b) ≠ .dead
  | [], _, _, _, b, hb => by simp [outBoxes] at hb
  | (l, k) :: r, o, hu, hbb, b, hb => by
    simp only [outSt, List.map_cons, unSt] at hu
    rw [Loc.eq_iff.2 rfl] at hu
    simp only [cond_true] at hu
    split at hu
    · rename_i x hx
      split at hu
      · rename_i s hs
        have hk := Kd.un_some hx
        simp only [outSt, List.map_cons, St.get]
        cases he : l.eq (.box b) with
        | true =>
          have := Loc.eq_iff.1 he
          subst this
          have hk' : convK k (st.get (.box b)) = k.mk x := hk
          simp only [cond_true]
          rw [hk']
          cases k <;> simp [boxesBx] at hbb
          simp [Kd.mk]
        | false =>
          refine outSt_box hs ?_ b ?_
          · cases l <;> cases k <;> simp [boxesBx] at hbb ⊢ <;> exact hbb
          · cases l with
            | box c =>
              have : c ≠ b := fun e => by subst e; rw [Loc.eq_iff.2 rfl] at he; cases he
              simpa [outBoxes, Ne.symm this] using hb
            | _ => simpa [outBoxes] using hb
      · cases hu
    · cases hu

/-- The values that are handed back. -/
theorem results_vals (hE : TabOk P E.tab) {st : St} : ∀ {rs : List RSrc} {G : Ghost}, Rel Z E N w0 Ow (fun n => n = 0) (fun _ => False) (St.get st) G a w → cellsOk E st rs = true → ∃ (vs : List Value) (G1 : Ghost), vs.length = rs.length ∧
    Rel Z E N w0 Ow (fun n => n = 0) (fun _ => False) (St.get st) G1 a w ∧ (∀ b, free Z G w b → free Z G1 w b) ∧
    ((rs.map RSrc.var).mapM fun
      | .tmp t => pure (a.tmps.getD t undef)
      | .cell x t => do loadVar t (← asAddr (a.tmps.getD x undef)) : Sem (List Value)).run P w = .ok vs w ∧
    ∀ (j : Nat) r, rs[j]? = some r → match r with
      | .slot x => vs.getD j undef = a.tmps.getD x undef
      | .cell x T => ∃ t y cs, resAVOf E st (.cell x T) = .dat t y ∧ RV (free Z G1 w) w t y cs ∧ vs.getD j undef = valOf t cs
  | [], G, h, _ => ⟨[], G, rfl, h, fun _ hb => hb, rfl, by simp⟩
  | .slot x :: rs, G, h, hc => by
    obtain ⟨vs, G1, h1, h0, hm, h2, h3⟩ := results_vals hE (rs := rs) h hc
    refine ⟨a.tmps.getD x undef :: vs, G1, by simp [h1], h0, hm, ?_, fun j r hj => ?_⟩
    · rw [List.map_cons, List.mapM_cons]
      simp only [RSrc.var, Sem.run_bind, Sem.run_pure, Result.andThen_ok, h2]
    · cases j with
      | zero => simp at hj; subst hj; rfl
      | succ j => simpa using h3 j r (by simpa using hj)
  | .cell x T :: rs, G, h, hc => by
    simp only [cellsOk, Bool.and_eq_true] at hc
    have hd := hc.1
    obtain ⟨t, y, hav⟩ : ∃ t y, resAVOf E st (.cell x T) = .dat t y := by
      split at hd
      · rename_i t y e; exact ⟨t, y, e⟩
      · cases hd
    have hav0 := hav
    simp only [resAVOf] at hav
    split at hav
    · rename_i b c t' hp htt
      split at hav
      · rename_i y' hg
        cases hav
        have hs := h.slots x
        rw [hp] at hs
        obtain ⟨e, k, gb, k1, k2, k3⟩ := hs
        obtain ⟨gb', cur, k4, k5, k6⟩ := h.boxes b e k k1
        rw [k2] at k4; cases k4
        obtain ⟨G1, q1, q2, q3, q4, q5, q6, q7⟩ := gather_frz k2 k5 h k1 k2 hg
        have hrun : (Instr.loadAt T (.pointer (some ⟨gb, c, none⟩))).run P w = .ok (valOf t ((cur.toList.drop c).take t.sz)) w := by
          refine load_run hE htt ?_ q2.len
          rcases q3 with q3 | q3
          · intro j hj; rw [q3] at hj; simp at hj
          · exact (at_block k5 q3).1
        have hrun2 : (loadVar T ⟨gb, c, none⟩).run P w = .ok (valOf t ((cur.toList.drop c).take t.sz)) w := by
          simpa [Instr.loadAt, Instr.sureAddr] using hrun
        obtain ⟨vs, G2, h1, h0, hm, h2, h3⟩ := results_vals hE (rs := rs) q1 hc.2
        refine ⟨valOf t ((cur.toList.drop c).take t.sz) :: vs, G2, by simp [h1], h0, fun b hb => hm b (q4 b hb), ?_, fun j r hj => ?_⟩
        · have hhead : (do loadVar T (← asAddr (a.tmps.getD x undef)) : Sem Value).run P w = .ok (valOf t ((cur.toList.drop c).take t.sz)) w := by
            rw [k3, Sem.run_bind]
            simp only [asAddr, Sem.run_pure, Result.andThen_ok, hrun2]
          rw [List.map_cons, List.mapM_cons, Sem.run_bind]
          refine (congrArg (Result.andThen · _) hhead).trans ?_
          rw [Result.andThen_ok, Sem.run_bind, h2, Result.andThen_ok, Sem.run_pure]
        · cases j with
          | zero => simp at hj; subst hj; exact ⟨t, y, _, hav0, q2.keep (fun _ _ => rfl) hm, rfl⟩
          | succ j => simpa using h3 j r (by simpa using hj)
      · cases hav
    · cases hav
end
end Go.Ev

namespace Go.Ev
open Go.RowKit
section
variable {Z : ZS} {E : Env} {N : Nat} {w0 : World} {Ow : OwS} {S D : Nat → Prop} {g : Mem} {G : Ghost} {a a' : Act} {w w' : World} {P : Program}

def srcAV (E : Env) (rs : List RSrc) (st : St) (k : Kd) : Loc → AV
  | .slot j => (match rs[j]? with
    | some r => convK k (resAVOf E st r)
    | none => .dead)
  | l => convK k (st.get l)
theorem outSt_get {rs : List RSrc} {st : St} : ∀ {pout : Shape} {o : Tup pout}, unSt pout (outSt E rs pout st) = some o → ∀ l, St.get (outSt E rs pout st) l = .dead ∨ ∃ k x, (l, k) ∈ pout ∧ St.get (outSt E rs pout st) l = k.mk x ∧ St.get (outSt E rs pout st) l = srcAV E rs st k l
  | [], _, _, l => .inl rfl
  | (l0, k) :: r, o, hu, l => by
    simp only [outSt, List.map_cons, unSt] at hu
    rw [Loc.eq_iff.2 rfl] at hu
    simp only [cond_true] at hu
    split at hu
    · rename_i x hx
      split at hu
      · rename_i s hs
        have hk := Kd.un_some hx
        simp only [outSt, List.map_cons, St.get]
        cases he : l0.eq l with
        | true =>
          have := Loc.eq_iff.1 he
          subst this
          refine .inr ⟨k, x, by simp, hk, ?_⟩
          cases l0 <;> rfl
        | false =>
          rcases outSt_get hs l with h1 | ⟨k', x', h1, h2⟩
          · exact .inl h1
          · exact .inr ⟨k', x', List.mem_cons_of_mem _ h1, h2⟩
      · cases hu
    · cases hu
theorem ownSlots_mem : ∀ {rs : List RSrc} {j r : Nat}, rs[j]? = some (.slot r) → r ∈ ownSlots rs
  | [], _, _, h => by simp at h
  | .slot x :: rs, 0, r, h => by simp at h; subst h; simp [ownSlots]
  | .slot x :: rs, j + 1, r, h => by simp only [ownSlots]; exact List.mem_cons_of_mem _ (ownSlots_mem (by simpa using h))
  | .cell x T :: rs, 0, r, h => by simp at h
  | .cell x T :: rs, j + 1, r, h => by simp only [ownSlots]; exact ownSlots_mem (by simpa using h)
theorem ownSlots_inj : ∀ {rs : List RSrc} {j j' r : Nat}, distinct (ownSlots rs) = true → rs[j]? = some (.slot r) → rs[j']? = some (.slot r) → j = j'
  | [], _, _, _, _, h, _ => by simp at h
  | .cell x T :: rs, j, j', r, hd, h, h' => by
    cases j with
    | zero => simp at h
    | succ j => cases j' with
      | zero => simp at h'
      | succ j' => exact congrArg Nat.succ (ownSlots_inj (rs := rs) (r := r) hd (by simpa using h) (by simpa using h'))
  | .slot x :: rs, j, j', r, hd, h, h' => by
    simp only [ownSlots, distinct, Bool.and_eq_true, Bool.not_eq_true'] at hd
    have hno : ∀ {j}, rs[j]? = some (RSrc.slot x) → False := fun hj => by
      have := List.any_eq_false.1 hd.1 x (ownSlots_mem hj)
      simp at this
    cases j with
    | zero =>
      simp at h; subst h
      cases j' with
      | zero => rfl
      | succ j' => exact (hno (by simpa using h')).elim
    | succ j => cases j' with
      | zero => simp at h'; subst h'; exact (hno (by simpa using h)).elim
      | succ j' => exact congrArg Nat.succ (ownSlots_inj (rs := rs) (r := r) hd.2 (by simpa using h) (by simpa using h'))

theorem results_run2 {fn : Func} {rs : List RSrc} (hres : fn.results = (rs.map RSrc.var).toArray) {tmps : Array Value} {vs : List Value}
    (h : ((rs.map RSrc.var).mapM fun
      | .tmp t => pure (tmps.getD t undef)
      | .cell x t => do loadVar t (← asAddr (tmps.getD x undef)) : Sem (List Value)).run P w = .ok vs w) : (results fn tmps).run P w = .ok (retVal vs) w := by
  unfold results
  rw [hres]
  simp only [Sem.run_bind, Array.mapM_eq_mapM_toList, List.toList_toArray]
  rw [Sem.run_map]
  refine (congrArg (Result.andThen · _) (congrArg (Result.andThen · _) h)).trans ?_
  simp only [Result.andThen_ok, Sem.run_pure]
  congr 1
  match vs with
  | [] => rfl
  | [v] => rfl
  | _ :: _ :: _ => simp [retVal]

/-- What a function needs to be so that its contract can be told. -/
structure Fit (fn : Func) (rs : List RSrc) (Sp : Spec2) : Prop where
  res : fn.results = (rs.map RSrc.var).toArray
  len : rs.length = nres Sp.pout
  dist : distinct (ownSlots rs) = true
  closed : closedP (outBoxes Sp.pout) Sp.pout = true
  bx : boxesBx Sp.pout = true
  few : nres Sp.pout ≤ 50000
  par : nres Sp.pin ≤ fn.ntmps
  tmps : fn.ntmps ≤ 50000

/-- **The function is left.** -/
theorem leave2 (hE : TabOk P E.tab) (hheld : ∀ b, E.held b = false) {fn : Func} {rs : List RSrc} {Sp : Spec2} (hfit : Fit fn rs Sp) (hdl : Ow.dl = []) (hpin : ∀ b gb, Ow.pin b = some gb → 50000 ≤ b) {st : St} (h : Rel Z E N w0 Ow (fun n => n = 0) (fun _ => False) (St.get st) G a w) {e : Exit} {o : Tup Sp.pout} (hret : retK3 E rs Sp.pout e st = some o) :
    (e = .ret ∨ e = .normal) ∧ ∃ vs G', vs.length = nres Sp.pout ∧ (results fn a.tmps).run P w = .ok (retVal vs) w ∧ Rel Z (globE E.glob) vs.length w0 Ow (fun n => n = 0) (fun _ => False) (St.get (mkSt Sp.pout o)) G' { tmps := vs.toArray, defers := [] } w := by
  have main : (bif cellsOk E st rs then unSt Sp.pout (outSt E rs Sp.pout st) else none) = some o → ∃ vs G', vs.length = nres Sp.pout ∧ (results fn a.tmps).run P w = .ok (retVal vs) w ∧ Rel Z (globE E.glob) vs.length w0 Ow (fun n => n = 0) (fun _ => False) (St.get (mkSt Sp.pout o)) G' { tmps := vs.toArray, defers := [] } w := by
    intro hr
    cases hc : cellsOk E st rs with
    | false => rw [hc] at hr; cases hr
    | true =>
      rw [hc] at hr
      simp only [cond_true] at hr
      obtain ⟨vs, G1, h1, h0, _, h2, h3⟩ := results_vals hE h hc
      have hget := outSt_get hr
      have hall := outSt_box hr hfit.bx
      rw [← unSt_some hr]
      have hsl : ∀ l, St.get (outSt E rs Sp.pout st) l ≠ .dead → ∃ k x, (l, k) ∈ Sp.pout ∧ St.get (outSt E rs Sp.pout st) l = k.mk x ∧ St.get (outSt E rs Sp.pout st) l = srcAV E rs st k l := fun l hl => (hget l).resolve_left hl
      have hbx : ∀ b, St.get (outSt E rs Sp.pout st) (.box b) = .dead ∨ St.get (outSt E rs Sp.pout st) (.box b) = st.get (.box b) := fun b => by
        rcases hget (.box b) with q | ⟨k, x, q1, q2, q3⟩
        · exact .inl q
        · right
          rw [q3]
          exact convK_bx (h.boxAV b)
      have hin : ∀ b ∈ outBoxes Sp.pout, St.get (outSt E rs Sp.pout st) (.box b) = st.get (.box b) := fun b hb => (hbx b).resolve_left (hall b hb)
      obtain ⟨G', hG'⟩ := h0.image (g' := St.get (outSt E rs Sp.pout st)) (vs := vs) (E' := globE E.glob) rfl hheld hdl (fun b gb hp => by have := hpin b gb hp; have := hfit.few; have := hfit.len; omega)
        (src := fun j => match rs[j]? with
          | some (.slot r) => some r
          | _ => none)
        (fun j => by
          rcases hget (.slot j) with q | ⟨k, x, q1, q2, q3⟩
          · exact .inl q
          · cases hj : rs[j]? with
            | none => left; rw [q3]; simp only [srcAV, hj]
            | some r =>
              have hv := h3 j r hj
              cases r with
              | slot y =>
                right; left
                refine ⟨y, rfl, ?_, hv⟩
                rw [q2] at q3
                rw [q2]
                simp only [srcAV, hj, resAVOf] at q3
                rw [q3]
                exact im_conv (closedP_mem hfit.closed q1).1 q3.symm
              | cell y T =>
                right; right
                obtain ⟨t, z, cs, k1, k2, k3⟩ := hv
                refine ⟨t, z, cs, ?_, k2, k3⟩
                rw [q3]
                simp only [srcAV, hj, k1]
                cases k <;> rfl)
        (fun j j' r hj hj' => by
          have h1 : rs[j]? = some (.slot r) := by
            revert hj; cases rs[j]? with
            | none => intro hj; cases hj
            | some x => cases x <;> intro hj <;> cases hj; rfl
          have h2 : rs[j']? = some (.slot r) := by
            revert hj'; cases rs[j']? with
            | none => intro hj; cases hj
            | some x => cases x <;> intro hj <;> cases hj; rfl
          exact ownSlots_inj hfit.dist h1 h2)
        (fun n i => by
          rcases hget (.comp n i) with q | ⟨k, x, q1, q2, q3⟩
          · exact q
          · exact absurd rfl ((closedP_mem hfit.closed q1).2.2 n i))
        hbx
        (fun b j => by
          rcases hget (.cell b j) with q | ⟨k, x, q1, q2, q3⟩
          · exact .inl q
          · right
            refine ⟨?_, hin b ((closedP_mem hfit.closed q1).2.1 b j rfl)⟩
            rw [q2] at q3
            rw [q2, q3]
            simp only [srcAV] at q3 ⊢
            exact im_conv (closedP_mem hfit.closed q1).1 q3.symm)
        (fun l b hb => by
          rcases hget l with q | ⟨k, x, q1, q2, q3⟩
          · rw [q] at hb; simp [boxesIn] at hb
          · rw [q2] at hb
            exact hin b (boxes_mk (closedP_mem hfit.closed q1).1 b hb))
      exact ⟨vs, G', h1.trans hfit.len, results_run2 hfit.res h2, hG'⟩
  cases e with
  | ret => exact ⟨.inl rfl, main hret⟩
  | normal => exact ⟨.inr rfl, main hret⟩
  | _ => simp [retK3] at hret

/-- **A function that is handed boxes meets what 'ev2' answers of its body.** -/
theorem meets2_of_ev2 (hE : EnvOk P E) (hheld : ∀ b, E.held b = false) (hm : P.follows .mixedOrders = true) {f : Nat} {fn : Func} {c : Code} (hf : P.funcs[f]? = some fn) (hname : ∀ args w, (callFunc f args).run P w = .ok (.enter f args) w) (hb : fn.body = some c)
    {O : Orc} (hN : O.n = fn.ntmps) {L : Nat → Option Sum} (hL : LoopsOk E O L c) (hR : RangesOk P E O.n L c) {Sp : Spec2} {rs : List RSrc} (hfit : Fit fn rs Sp)
    (hev : ∀ s o, Sp.f s = some o → ev2 E O L c (mkSt Sp.pin s) (retK3 E rs Sp.pout) = some o) : Meets2 P E.glob f Sp := by
  refine ⟨hname, fun Z w Ow G args s o hso hdl hpin hal h => ?_⟩
  have h1 := (Rel.env (E' := E) h rfl (fun b hb => by simp [globE] at hb)).enter (nt := fn.ntmps) (fun j hj => Classical.byContradiction fun hne => by have := nres_get hne; omega) (by rw [hal]; exact hfit.par) (fun b gb hp => by have := hpin b gb hp; have := hfit.tmps; omega)
  rw [← callsIn_wide (n := 0)]
  have hz : ∀ b, (Ow b ∨ w.heap.size ≤ b) → Z b := fun b hb => h.zow b hb
  refine callsIn_of_wp_marks hf hb trivial (ev2_sound hE (plain_wide P) hm hN hdl hz c hL (.inl ⟨hN ▸ hR, rfl⟩) (mkSt Sp.pin s) (retK3 E rs Sp.pout) (bodyPostM Fence.wide 0 P fn _) G _ w (fun e a w' st hK hX => ?_) (hev s o hso) h1)
  have main : LeavesInM Fence.wide 0 P fn a.tmps (fun e w' => ∃ vs G', e = .returned (retVal vs) ∧ vs.length = nres Sp.pout ∧ Rel Z (globE E.glob) vs.length w Ow (fun n => n = 0) (fun _ => False) (St.get (mkSt Sp.pout o)) G' { tmps := vs.toArray, defers := [] } w') a.defers .returning w' := by
    refine leaveX hz hdl hX (fun w'' G'' hR => ?_)
    obtain ⟨_, vs, G', k1, k2, k3⟩ := leave2 hE.tab hheld hfit hdl hpin hR hK
    exact ⟨_, k2, vs, G', rfl, k1, k3⟩
  cases e with
  | ret => exact main
  | normal => exact main
  | _ => simp [retK3] at hK
end
end Go.Ev

namespace Go.Ev
open Go.RowKit

/-- What was yielded, and what is answered. -/
abbrev YW (Y V : Type) := Option (List Y × V)
def YW.bind {Y V U : Type} (m : YW Y V) (f : V → YW Y U) : YW Y U := match m with
  | some (ys, v) => (match f v with
    | some (zs, u) => some (ys ++ zs, u)
    | none => none)
  | none => none
theorem YW.bind_assoc {Y V U T : Type} (m : YW Y V) (f : V → YW Y U) (h : U → YW Y T) : (m.bind f).bind h = m.bind fun v => (f v).bind h := by
  cases m with
  | none => rfl
  | some p =>
    obtain ⟨ys, v⟩ := p
    show YW.bind (match f v with | some (zs, u) => some (ys ++ zs, u) | none => none) h = match (f v).bind h with | some (zs, u) => some (ys ++ zs, u) | none => none
    cases f v with
    | none => rfl
    | some q =>
      obtain ⟨zs, u⟩ := q
      show (match h u with | some (ts, t) => some (ys ++ zs ++ ts, t) | none => none) = match (match h u with | some (ts, t) => some (zs ++ ts, t) | none => none) with | some (zs, u) => some (ys ++ zs, u) | none => none
      cases h u with
      | none => rfl
      | some r => obtain ⟨ts, t⟩ := r; simp
theorem YW.bind_some {Y V U : Type} {m : YW Y V} {f : V → YW Y U} {r : List Y × U} (h : m.bind f = some r) : ∃ ys v zs, m = some (ys, v) ∧ f v = some (zs, r.2) ∧ r.1 = ys ++ zs := by
  cases m with
  | none => simp [YW.bind] at h
  | some p =>
    obtain ⟨ys, v⟩ := p
    simp only [YW.bind] at h
    split at h
    · rename_i zs u hf
      cases h
      exact ⟨ys, v, zs, rfl, hf, rfl⟩
    · cases h
/-- x is yielded if g stands; should the consumer stop, 'stop' has to be so. -/
def yieldW {Y V : Type} (g : Bool) (x : Y) (stop : Option Unit) (A : YW Y V) : YW Y V := match A with
  | some (ys, v) => bif g then (match stop with
    | some _ => some (x :: ys, v)
    | none => none) else some (ys, v)
  | none => none
theorem yieldW_bind {Y V U : Type} (g : Bool) (x : Y) (stop : Option Unit) (A : YW Y V) (f : V → YW Y U) : yieldW g x stop (A.bind f) = (yieldW g x stop A).bind f := by
  cases A with
  | none => rfl
  | some p =>
    obtain ⟨ys, v⟩ := p
    cases g
    · show yieldW false x stop (match f v with | some (zs, u) => some (ys ++ zs, u) | none => none) = _
      cases hf : f v with
      | none => simp [yieldW, YW.bind, hf]
      | some q => simp [yieldW, YW.bind, hf]
    · cases stop
      · show yieldW true x none (match f v with | some (zs, u) => some (ys ++ zs, u) | none => none) = _
        cases f v <;> rfl
      · show yieldW true x _ (match f v with | some (zs, u) => some (ys ++ zs, u) | none => none) = _
        cases hf : f v with
        | none => simp [yieldW, YW.bind, hf]
        | some q => simp [yieldW, YW.bind, hf]
theorem yieldW_some {Y V : Type} {g : Bool} {x : Y} {stop : Option Unit} {A : YW Y V} {r : List Y × V} (h : yieldW g x stop A = some r) : ∃ ys, A = some (ys, r.2) ∧ r.1 = (if g then x :: ys else ys) ∧ (g = true → stop.isSome = true) := by
  cases A with
  | none => simp [yieldW] at h
  | some p =>
    obtain ⟨ys, v⟩ := p
    cases g with
    | false => simp [yieldW] at h; subst h; exact ⟨ys, rfl, rfl, by simp⟩
    | true =>
      cases stop with
      | none => simp [yieldW] at h
      | some u => simp [yieldW] at h; subst h; exact ⟨ys, rfl, rfl, fun _ => rfl⟩

/-- An iterator: what it is handed, what it yields. -/
structure ISpec where
  pin : Shape
  Y : Type
  enc : Y → List Dat
  f : Tup pin → Option (List Y)

/-- The consumer's side: J holds between the rounds, Jx behind the last one; T: blocks that are the iterator's, C: the consumer's. -/
structure Turn {Y : Type} (enc : Y → List Dat) (ys : List Y) (P : Program) (l : Nat) (Z0 : Nat → Prop) (J : List Y → (Nat → Prop) → (Nat → Prop) → World → Prop) (Jx : (Nat → Prop) → (Nat → Prop) → World → Prop) : Prop where
  later : ∀ {pre T C W W'}, J pre T C W → W'.os = W.os → W'.tape = W.tape → W'.output = W.output → W.heap.size ≤ W'.heap.size → (∀ b, b < W.heap.size → ¬ T b → W'.heap[b]? = W.heap[b]?) → J pre (fun b => T b ∨ (W.heap.size ≤ b ∧ b < W'.heap.size)) C W'
  laterx : ∀ {T C W W'}, Jx T C W → W'.os = W.os → W'.tape = W.tape → W'.output = W.output → W.heap.size ≤ W'.heap.size → (∀ b, b < W.heap.size → ¬ T b → W'.heap[b]? = W.heap[b]?) → Jx (fun b => T b ∨ (W.heap.size ≤ b ∧ b < W'.heap.size)) C W'
  less : ∀ {pre T C W} {T' : Nat → Prop}, J pre T C W → (∀ b, T' b → T b) → J pre T' C W
  apart : ∀ {pre T C W}, J pre T C W → ∀ b, C b → b < W.heap.size
  round : ∀ {pre T C W x}, J pre T C W → (pre ++ [x]) <+: ys → ∀ (Pr : Nat → Prop) (vs : List Value), ArgsR Pr W (enc x) vs → (∀ b, Pr b → b < W.heap.size ∧ ¬ C b ∧ ¬ T b ∧ Z0 b) → ∀ m, ∃ fn tmps assign body, (Instr.yield l vs.toArray).run P W = .ok (.round l fn tmps assign body) W ∧ RoundIn Fence.wide m P l fn tmps assign body W fun e W' =>
    (W'.os = W.os ∧ W'.tape = W.tape ∧ W'.output = W.output ∧ W.heap.size ≤ W'.heap.size ∧ (∀ b, b < W.heap.size → ¬ C b → W'.heap[b]? = W.heap[b]?)) ∧
    ∃ C', (∀ b, C' b → C b ∨ W.heap.size ≤ b) ∧ (∀ b, C' b → b < W'.heap.size) ∧ ((e = .returned (.bool true) ∧ J (pre ++ [x]) T C' W') ∨ (e = .returned (.bool false) ∧ Jx T C' W'))

/-- **What is said of an iterator**: it yields these values, one after the other, until it has been told to stop. -/
structure IterOk (P : Program) (glob : Nat → Option Dat) (gf : Nat) (I : ISpec) : Prop where
  enter : ∀ args w, (callFunc gf args).run P w = .ok (.enter gf args) w
  calls : ∀ (Z : ZS) (w : World) (Ow : OwS) (G : Ghost) (args : List Value) (l : Nat) (s : Tup I.pin) (ys : List I.Y), I.f s = some ys → Ow.dl = [] → (∀ b gb, Ow.pin b = some gb → 50000 ≤ b) → args.length = max 1 (nres I.pin) → Z.yl = l → args.getD 0 undef = .func (.yield l) #[] #[] →
    Rel Z (globE glob) args.length w Ow (fun n => n = 0) (fun _ => False) (St.get (mkSt I.pin s)) G { tmps := args.toArray, defers := [] } w →
    ∀ J Jx, Turn I.enc ys P l Z.z J Jx → ∀ (T C : Nat → Prop), J [] T C w → (∀ b, Ow b → T b) → (∀ b, C b → ¬ Z b) →
      Calls P gf args.toArray w fun e W => (∃ v, e = .returned v) ∧ ∃ T C, J ys T C W ∨ Jx T C W

/-! ### The evaluator of an iterator -/
/-- A call of yield. -/
def yieldOp (o : Oper) (g : Loc → AV) : Option (Nat × List Operand × List Nat) := match o.op with
  | .call c => (match c.callee with
    | .value (.tmp t) => (match g (.slot t) with
      | .yld => some (t, c.args.toList, c.argTypes.toList)
      | .opt _ .yld => some (t, c.args.toList, c.argTypes.toList)
      | _ => none)
    | _ => none)
  | _ => none
def wrapC : Ctx → AV → AV
  | [], v => v
  | p :: c, v => .opt (p :: c) v
def evYOps {Y V : Type} (E : Env) (ts : List Ty) (mk : List Dat → Option Y) (ops : List Oper) : List Oper → Nat → St → (St → YW Y V) → (St → Option Unit) → YW Y V
  | [], _, st, K, _ => K st
  | o :: r, i, st, K, K2 => match yieldOp o st.get with
    | none => (match (opQ E ops i o).run st.get with
      | some f => bif f.test then evYOps E ts mk ops r (i + 1) (st.sets f.writes) K K2 else none
      | none => none)
    | some (t, xs, Ts) => match o.dst, ctxOf ops ops.length o.guard with
      | some d, some ctx => (match (gcond ctx).run st.get, (argsQ E ctx true ts xs Ts).run st.get, (rd E ctx (.tmp t)).run st.get with
        | some g, some (ds, []), some .yld => (match mk ds with
          | some x => yieldW g x (evOps E ops r (i + 1) ((.slot d, wrapC ctx (.dat .bool false)) :: st) K2) (evYOps E ts mk ops r (i + 1) ((.slot d, wrapC ctx (.dat .bool true)) :: st) K K2)
          | none => none)
        | _, _, _ => none)
      | _, _ => none
abbrev SumY (Y : Type) := ∀ V : Type, St → (Exit → St → YW Y V) → YW Y V
def lookY {Y : Type} (L : Nat → Option (SumY Y)) : Option Nat → Option (SumY Y)
  | some k => L k
  | none => none
/-- The stop is heard: the function is left. -/
def retOnly : Cont Unit := fun e _ => match e with
  | .ret => some ()
  | _ => none
def noL : Nat → Option Sum := fun _ => none
def evY {Y V : Type} (E : Env) (O : Orc) (L : Nat → Option (SumY Y)) (ts : List Ty) (mk : List Dat → Option Y) : Code → St → (Exit → St → YW Y V) → Cont Unit → YW Y V
  | .skip, st, K, _ => K .normal st
  | .region id ops draw, st, K, K2 =>
    bif draw then (bif regionOk O.n ops.toList && drawOk E ops.toList (normO (O.i id) st) then evOps E ops.toList ops.toList 0 (normO (O.i id) st) fun st' => K .normal (norm (O.o id) st') else none)
    else (bif regionOk O.n ops.toList then evYOps E ts mk ops.toList ops.toList 0 (normO (O.i id) st) (fun st' => K .normal (norm (O.o id) st')) (fun st' => K2 .normal (norm (O.o id) st')) else none)
  | .seq a b, st, K, K2 => evY E O L ts mk a st (fun e st' => match e with
    | .normal => evY E O L ts mk b st' K K2
    | e => K e st') (fun e st' => match e with
    | .normal => ev2 E O noL b st' K2
    | e => K2 e st')
  | .cond c x y, st, K, K2 => match condQ st c with
    | some b => bif b then evY E O L ts mk x (dropO O.c true st c) K K2 else evY E O L ts mk y (dropO O.c false st c) K K2
    | none => none
  | .block id c, st, K, K2 => evY E O L ts mk c st (fun e st' => match e with
    | .exit id' => if id' = id then K .normal st' else K (.exit id') st'
    | e => K e st') (fun e st' => match e with
    | .exit id' => if id' = id then K2 .normal st' else K2 (.exit id') st'
    | e => K2 e st')
  | .loop c, st, K, _ => match lookY L (keyOf c) with
    | some f => f V st K
    | none => none
  | .exit id, st, K, _ => K (.exit id) st
  | .ret, st, K, _ => K .ret st
  | .label _, st, K, _ => K .normal st
  | _, _, _, _ => none

section
variable {Z : ZS} {E : Env} {N : Nat} {w0 : World} {Ow : OwS} {P : Program} {F : Fence} {n : Nat}

/-- **A call of yield.** -/
theorem yield_step {Y : Type} {enc : Y → List Dat} {ys : List Y} {l : Nat} {J : List Y → (Nat → Prop) → (Nat → Prop) → World → Prop} {Jx : (Nat → Prop) → (Nat → Prop) → World → Prop} {Z0 : Nat → Prop} (T : Turn enc ys P l Z0 J Jx)
    {ops : Array Oper} (hok : RegOk N ops.toList) {X : Nat → Prop} {g : Mem} {G : Ghost} {a : Act} {w : World} (h : Inv Z E N w0 Ow ops.toList X g G a w) {i : Nat} {o : Oper} (ho : ops.toList[i]? = some o) (hX : ¬ X i) (hgX : ∀ k want, o.guard = some (k, want) → X k)
    {pre : List Y} {tt cc : Nat → Prop} (hJ : J pre tt cc w0) (hOT : ∀ b, Ow b → tt b) (hCZ : ∀ b, cc b → ¬ Z b) (hZ0 : ∀ b, Z b → Z0 b) (hZ1 : ∀ b, w0.heap.size ≤ b → Z0 b)
    {t : Nat} {xs : Array Operand} {Ts : Array Nat} (hop : o.op = .call { callee := .value (.tmp t), args := xs, argTypes := Ts }) (hzl : Z.yl = l) {d : Nat} (hd : o.dst = some d)
    {ctx : Ctx} (hctx : ctxOf ops.toList ops.toList.length o.guard = some ctx) (hyl : (rd E ctx (.tmp t)).run g = some .yld) {g0 : Bool} (hg0 : (gcond ctx).run g = some g0) {ts : List Ty} {ds : List Dat} (hargs : (argsQ E ctx true ts xs.toList Ts.toList).run g = some (ds, [])) {x : Y} (hx : enc x = ds)
    (hpre : g0 = true → (pre ++ [x]) <+: ys) {K : Act → World → Prop} {Qp : Exit → Act → World → Prop}
    (hT : ∀ a' w' Z' Ow' G' T' C', Inv Z' E N w' Ow' ops.toList (fun j => X j ∨ j = i) (g.upd (.slot d) (wrapC ctx (.dat .bool true))) G' a' w' → Z'.yl = Z.yl → Ow'.pin = Ow.pin → Ow'.dl = Ow.dl → J (if g0 then pre ++ [x] else pre) T' C' w' → (∀ b, Ow' b → T' b) → (∀ b, C' b → ¬ Z' b) → (∀ b, Z' b → Z0 b) → (∀ b, w'.heap.size ≤ b → Z0 b) → K a' w')
    (hS : g0 = true → ∀ a' w' Z' Ow' G' T' C', Inv Z' E N w' Ow' ops.toList (fun j => X j ∨ j = i) (g.upd (.slot d) (wrapC ctx (.dat .bool false))) G' a' w' → Z'.yl = Z.yl → Ow'.pin = Ow.pin → Ow'.dl = Ow.dl → Jx T' C' w' → (∀ b, Ow' b → T' b) → K a' w') :
    wpOpIn Fence.wide n P ops Qp i K a w := by
  have ho' : ops[i]? = some o := by simpa using ho
  have hdN : d < N := hok.dst i o d ho hd
  have hdD : ¬ Dof ops.toList X g d := fun ⟨k, hk, hg, hkd, _⟩ => by
    have := single_writer hok hg hkd ho hd
    exact hX (this ▸ hk)
  have hw : ∀ v, okW ops.toList o.dst [(.slot d, v)] = true := fun v => by simp [okW, hd]
  -- the territory, where it stands now
  have hGT : ∀ {l b}, G l = some b → tt b ∨ (w0.heap.size ≤ b ∧ b < w.heap.size) := fun {l b} e => by
    obtain ⟨h1, h2⟩ := h.rel.bnd l b e
    rcases h2 with h2 | h2
    · exact .inl (hOT b h2)
    · exact .inr ⟨h2, h1⟩
  have hJw : J pre (fun b => ∃ l, G l = some b) cc w := T.less (T.later hJ h.rel.os h.rel.tape h.rel.output h.rel.size (fun b hb hn => h.rel.low b hb (fun ho => hn (hOT b ho)))) (fun b ⟨l, hl⟩ => hGT hl)
  -- another start
  have re : ∀ (W' : World) (C' : Nat → Prop), w.heap.size ≤ W'.heap.size → (∀ b, b < w.heap.size → ¬ cc b → W'.heap[b]? = w.heap[b]?) → (∀ b, C' b → cc b ∨ w.heap.size ≤ b) → (∀ b, C' b → b < W'.heap.size) →
      ∃ (Z' : ZS) (Ow' : OwS), Rel Z' E N W' Ow' (Sof X) (Dof ops.toList X g) g G a W' ∧ Z'.yl = Z.yl ∧ Ow'.pin = Ow.pin ∧ Ow'.dl = Ow.dl ∧ (∀ b, Ow' b → ∃ l, G l = some b) ∧ (∀ b, C' b → ¬ Z' b) ∧ (∀ b, Z' b → Z0 b) ∧ (∀ b, W'.heap.size ≤ b → Z0 b) := by
    intro W' C' hs hb h1 h2
    refine ⟨⟨fun b => (b < w.heap.size ∧ Z b) ∨ W'.heap.size ≤ b, Z.yl⟩, ⟨fun b => ∃ l, G l = some b, Ow.pin, Ow.dl⟩, ?_, rfl, rfl, rfl, fun b ho => ho, fun b hb1 hz => ?_, fun b hb => hb.elim (fun q => hZ0 b q.2) (fun q => hZ1 b (by have := h.rel.size; omega)), fun b hb => hZ1 b (by have := h.rel.size; omega)⟩
    · exact h.rel.rebase rfl hs (fun b h3 h4 => hb b h3 (fun hc => hCZ b hc h4)) (fun b h3 h4 => .inl ⟨h3, h4⟩) (fun b h3 => .inr h3) (fun l b hl => ⟨l, hl⟩) (fun b ⟨l, hl⟩ => .inl ⟨(h.rel.bnd l b hl).1, h.rel.zow b (h.rel.bnd l b hl).2⟩) rfl rfl
    · have := h2 b hb1
      rcases hz with ⟨h3, h4⟩ | h3
      · rcases h1 b hb1 with h5 | h5
        · exact hCZ b h5 h4
        · omega
      · omega
  have hDc := ctx_dof h.closed ho hgX hctx (gcond_isB hg0)
  -- the answer is told
  have told : ∀ {W' : World} {Z' : ZS} {Ow' : OwS} (v : Bool), g0 = true → Rel Z' E N W' Ow' (Sof X) (Dof ops.toList X g) g G a W' →
      ∃ G', Inv Z' E N W' Ow' ops.toList (fun j => X j ∨ j = i) (g.upd (.slot d) (wrapC ctx (.dat .bool v))) G' (a.put o.dst (.bool v)) W' := by
    intro W' Z' Ow' v hg1 hr
    subst hg1
    have hb : AVR Z' g G a W' (.dat .bool v) (.slot d) (.bool v) := ⟨[.bool v], rfl, rfl⟩
    have hr2 : Rel Z' E N W' Ow' (Sof X) (Dof ops.toList X g) (g.upd (.slot d) (wrapC ctx (.dat .bool v))) (G.upd (.slot d) none) (a.put (some d) (.bool v)) W' := by
      cases ctx with
      | nil => exact hr.put hdN (v := .dat .bool v) rfl trivial hdD (fun c u e => by cases e) hb
      | cons p c => exact hr.put hdN (v := .opt (p :: c) (.dat .bool v)) rfl trivial hdD (fun c' u e => by cases e; exact ⟨hDc, fun _ => trivial⟩) (fun _ => hb)
    have hg2 : ∀ l, g.upd (.slot d) (wrapC ctx (.dat .bool v)) l = g.sets [(.slot d, wrapC ctx (.dat .bool v))] l := fun l => rfl
    refine ⟨G.upd (.slot d) none, ?_⟩
    rw [hd]
    refine inv_next hok h ho hX hgX (hw _) hg2 (hr2.more (fun _ hm => .inl hm) (fun _ hd => hd) hr2.dbool) ⟨.bool v, by rw [hd]⟩ (fun hG d' hd' hb' c' m hc => ?_)
    have := ctxOf_det hc hctx
    subst this
    rw [hd] at hd'; cases hd'
    refine ⟨fun e => ?_, fun e => ?_⟩
    · subst e; exact ⟨v, Mem.upd_same _ _ _⟩
    · cases c' with
      | nil => exact absurd rfl e
      | cons p c =>
        refine ⟨v, Mem.upd_same _ _ _, fun hgc => ?_⟩
        exfalso
        have : (gcond (p :: c)).run (g.upd (.slot d) (wrapC (p :: c) (.dat .bool v))) = (gcond (p :: c)).run g := gcond_congr (fun q hq => by
          obtain ⟨k5, hk5, hg5, hd5, _⟩ := hDc q hq
          exact (dof_same hok ho hX hg2 (hw _) hk5 hg5 hd5).1)
        rw [this, hg0] at hgc
        cases hgc
  -- the operation itself
  have exec : g0 = true → o.wpIn Fence.wide n P a w K Qp := by
    intro hg1
    have hv : a.tmps.getD t undef = .func (.yield l) #[] #[] := by
      have := (rd_told h.rel (hg1 ▸ hg0) hyl).r (.slot t) (by simp)
      rw [← hzl]
      exact this
    have hA := args_val h.rel (hg1 ▸ hg0) (frz := true) (Pr := free Z G w) (fun b hb => hb) (by simp) hargs (by simp)
    refine ⟨fun f _ => trivial, ?_⟩
    obtain ⟨fn, tmps, assign, body, hy, hround⟩ := T.round hJw (hpre hg1) (free Z G w) (xs.toList.map a.eval) (hx ▸ hA.1) (fun b hb => ⟨hb.1, fun hc => hCZ b hc hb.3, fun ⟨l, hl⟩ => hb.2 l hl, hZ0 b hb.3⟩) (n - 1)
    have hrun : (o.semAt Fence.wide.round a.eval).run P w = .ok (.round l fn tmps assign body) w := by
      rw [show Fence.wide.round = none from rfl, Oper.semAt_none]
      rw [show (xs.toList.map a.eval).toArray = xs.map a.eval from by rw [← Array.toList_map, Array.toArray_toList]] at hy
      simp only [execOp, hop, resolve, Act.eval, hv, Deferred.ofValue, invoke, Sem.run_bind, Sem.run_pure, Result.andThen_ok, Array.append_empty, Array.empty_append]
      exact hy
    rw [hrun]
    refine ⟨by simp [Fence.wide], hround.mono fun e W' hW => ?_⟩
    obtain ⟨⟨k1, k2, k3, k4, k5⟩, C', k6, k7, k8⟩ := hW
    obtain ⟨Z', Ow', r1, ry, r2, r3, r4, r5, r51, r52⟩ := re W' C' k4 k5 k6 k7
    rcases k8 with ⟨rfl, k8⟩ | ⟨rfl, k8⟩
    · obtain ⟨G', r6⟩ := told true hg1 r1
      exact hT _ _ Z' Ow' G' _ C' r6 ry r2 r3 (by rw [if_pos hg1]; exact k8) r4 r5 r51 r52
    · obtain ⟨G', r6⟩ := told false hg1 r1
      exact hS hg1 _ _ Z' Ow' G' _ C' r6 ry r2 r3 k8 r4
  unfold wpOpIn
  rw [ho']
  dsimp only
  cases hog : o.guard with
  | none =>
    have hwant : Region.wanted o (yielded ops a.tmps) = true := by simp [Region.wanted, hog]
    rw [if_pos hwant]
    refine exec ?_
    rw [hog, ctxOf_none] at hctx
    cases hctx
    simpa [gcond, Q.run] using hg0.symm
  | some kw =>
    obtain ⟨k, want⟩ := kw
    rw [guard_wanted h ho hog (hgX k want hog) hctx hg0]
    cases hgv : g0 with
    | true => rw [if_pos rfl]; exact exec hgv
    | false =>
      rw [if_neg (by simp)]
      refine ⟨fun f _ => trivial, ?_⟩
      have hne : ctx ≠ [] := by
        rintro rfl
        rw [hog] at hctx
        obtain ⟨_, _, _, _, _, _, _, _, hc⟩ := ctxOf_some hctx
        cases hc
      obtain ⟨p, c, rfl⟩ : ∃ p c, ctx = p :: c := by cases ctx with | nil => exact absurd rfl hne | cons p c => exact ⟨p, c, rfl⟩
      obtain ⟨Z', Ow', r1, ry, r2, r3, r4, r5, r51, r52⟩ := re w cc (Nat.le_refl _) (fun _ _ _ => rfl) (fun b hb => .inl hb) (fun b hb => T.apart hJw b hb)
      have hgf : (gcond (p :: c)).run g = some false := by rw [hg0, hgv]
      have hr2 := r1.put hdN (v := .opt (p :: c) (.dat .bool true)) (val := undef) rfl trivial hdD (fun c' u e => by cases e; exact ⟨hDc, fun hgc => by rw [hgf] at hgc; cases hgc⟩) (fun hgc => by rw [hgf] at hgc; cases hgc)
      have hg2 : ∀ l, g.upd (.slot d) (.opt (p :: c) (.dat .bool true)) l = g.sets [(.slot d, .opt (p :: c) (.dat .bool true))] l := fun l => rfl
      rw [hd]
      refine hT _ w Z' Ow' _ _ cc (inv_next hok h ho hX hgX (hw _) hg2 (hr2.more (fun _ hm => .inl hm) (fun _ hd => hd) hr2.dbool) ⟨undef, by rw [hd]⟩ (fun hG d' hd' hb c' m hc => ?_)) ry r2 r3 (by rw [if_neg (by rw [hgv]; simp)]; exact hJw) r4 r5 r51 r52
      have := ctxOf_det hc hctx
      subst this
      rw [hd] at hd'; cases hd'
      refine ⟨fun e => (by cases e), fun _ => ⟨true, Mem.upd_same _ _ _, fun _ b hb => ?_⟩⟩
      rw [put_tmps a d undef (by rw [h.rel.tmps]; exact hdN)] at hb
      simp [undef] at hb
end
end Go.Ev

namespace Go.Ev
open Go.RowKit

/-- The consumer's word, between two rounds. -/
def YH (J : (Nat → Prop) → (Nat → Prop) → World → Prop) (Z0 : Nat → Prop) (l : Nat) (pin : Nat → Option Nat) (Z : ZS) (w0 : World) (Ow : OwS) : Prop :=
  Z.yl = l ∧ Ow.pin = pin ∧ Ow.dl = [] ∧ (∀ b, Z b → Z0 b) ∧ (∀ b, w0.heap.size ≤ b → Z0 b) ∧ ∃ T C, J T C w0 ∧ (∀ b, Ow b → T b) ∧ (∀ b, C b → ¬ Z b)
/-- The consumer has stopped. -/
def YS (Jx : (Nat → Prop) → (Nat → Prop) → World → Prop) (pin : Nat → Option Nat) (Z : ZS) (w0 : World) (Ow : OwS) : Prop :=
  Ow.pin = pin ∧ Ow.dl = [] ∧ ∃ T C, Jx T C w0 ∧ (∀ b, Ow b → T b)
/-- A loop's summary, in an iterator. -/
def SumYOk {Y : Type} (E : Env) (O : Orc) (L : Nat → Option (SumY Y)) (ts : List Ty) (mk : List Dat → Option Y) (c : Code) (f : SumY Y) : Prop :=
  ∀ (V : Type) (st : St) (K : Exit → St → YW Y V) (r : List Y × V), f V st K = some r → ∃ fuel, loopN (R := List Y × V) (fun st K => evY E O L ts mk c st K retOnly) fuel st K = some r
def LoopsYOk {Y : Type} (E : Env) (O : Orc) (L : Nat → Option (SumY Y)) (ts : List Ty) (mk : List Dat → Option Y) (body : Code) : Prop := ∀ c ∈ loopsOf body, ∀ f, lookY L (keyOf c) = some f → SumYOk E O L ts mk c f

section
variable {E : Env} {N : Nat} {P : Program} {n : Nat} {Y : Type} {enc : Y → List Dat} {ys : List Y} {l : Nat} {J : List Y → (Nat → Prop) → (Nat → Prop) → World → Prop} {Jx : (Nat → Prop) → (Nat → Prop) → World → Prop} {pin : Nat → Option Nat} {Z0 : Nat → Prop}

theorem yieldOp_some {o : Oper} {g : Loc → AV} {t : Nat} {xs : List Operand} {Ts : List Nat} (h : yieldOp o g = some (t, xs, Ts)) : ∃ xa Ta, o.op = .call { callee := .value (.tmp t), args := xa, argTypes := Ta } ∧ xs = xa.toList ∧ Ts = Ta.toList := by
  unfold yieldOp at h
  split at h
  · rename_i c hc
    obtain ⟨cal, xa, Ta⟩ := c
    dsimp only at h
    split at h
    · split at h
      · cases h
        exact ⟨xa, Ta, hc, rfl, rfl⟩
      · cases h
        exact ⟨xa, Ta, hc, rfl, rfl⟩
      · cases h
    · cases h
  · cases h

/-- **A region with calls of yield.** -/
theorem region_y (T : Turn enc ys P l Z0 J Jx) (hE : EnvOk P E) {ops : Array Oper} (hok : RegOk N ops.toList) {ts : List Ty} {mk : List Dat → Option Y} (hmk : ∀ ds x, mk ds = some x → enc x = ds) {V : Type} {K : St → YW Y V} {K2 : St → Option Unit} {Qp : Exit → Act → World → Prop} {all : List Y} {v : V}
    (hall : all <+: ys)
    (hQ : ∀ a w st pre zs Z w0 Ow G, K st = some (zs, v) → pre ++ zs = all → YH (J pre) Z0 l pin Z w0 Ow → Inv Z E N w0 Ow ops.toList (fun j => j < ops.size) (St.get st) G a w → Qp .normal a w)
    (hS : ∀ a w st Z w0 Ow G, K2 st = some () → YS Jx pin Z w0 Ow → Inv Z E N w0 Ow ops.toList (fun j => j < ops.size) (St.get st) G a w → Qp .normal a w) :
    ∀ (m i : Nat) (st : St) (Z : ZS) (w0 : World) (Ow : OwS) (G : Ghost) (a : Act) (w : World) (pre zs : List Y), i + m = ops.size → evYOps E ts mk ops.toList (ops.toList.drop i) i st K K2 = some (zs, v) → pre ++ zs = all → YH (J pre) Z0 l pin Z w0 Ow →
      Inv Z E N w0 Ow ops.toList (fun j => j < i) (St.get st) G a w → wpOpsIn Fence.wide n P ops Qp (List.range' i m) a w
  | 0, i, st, Z, w0, Ow, G, a, w, pre, zs, him, hev, hpz, hyh, hinv => by
    have : ops.toList.drop i = [] := List.drop_eq_nil_of_le (by simp; omega)
    rw [this] at hev
    have hi : i = ops.size := by omega
    subst hi
    exact hQ a w st pre zs Z w0 Ow G hev hpz hyh hinv
  | m + 1, i, st, Z, w0, Ow, G, a, w, pre, zs, him, hev, hpz, hyh, hinv => by
    have hlt : i < ops.toList.length := by simp; omega
    rw [List.drop_eq_getElem_cons hlt] at hev
    have e2 : (fun j => j < i ∨ j = i) = (fun j => j < i + 1) := by funext j; exact propext ⟨by omega, by omega⟩
    rw [List.range'_succ, wpOpsIn_cons]
    simp only [evYOps] at hev
    split at hev
    · -- an operation
      split at hev
      · rename_i f hf
        cases ht : f.test with
        | false => rw [ht] at hev; cases hev
        | true =>
          rw [ht] at hev
          simp only [cond_true] at hev
          refine region_step hE (plain_wide P) hok hinv (List.getElem?_eq_getElem hlt) (Nat.lt_irrefl i) (fun k want hg => (hok.guard i _ k want (List.getElem?_eq_getElem hlt) hg).1) hf ht (fun a' w' g' G' hg' hi => ?_)
          refine region_y T hE hok hmk hall hQ hS m (i + 1) (st.sets f.writes) Z w0 Ow G' a' w' pre zs (by omega) hev hpz hyh ?_
          have e1 : g' = St.get (st.sets f.writes) := by rw [get_sets]; exact funext hg'
          rw [← e1, ← e2]
          exact hi
      · cases hev
    · -- a call of yield
      rename_i t xs Ts hy
      obtain ⟨xa, Ta, hop, rfl, rfl⟩ := yieldOp_some hy
      split at hev
      · rename_i d ctx hd hctx
        split at hev
        · rename_i g0 ds hg0 hds hyl
          split at hev
          · rename_i x hx
            obtain ⟨zs', hA, hz, hstop⟩ := yieldW_some hev
            dsimp only at hA hz
            obtain ⟨hz1, hz2, hz3, hz4, hz5, tt, cc, hJ, hOT, hCZ⟩ := hyh
            have hup : ∀ u : AV, Mem.upd (St.get st) (.slot d) u = St.get ((.slot d, u) :: st) := fun u => by
              funext k
              simp only [Mem.upd, St.get]
            refine yield_step T hok hinv (List.getElem?_eq_getElem hlt) (Nat.lt_irrefl i) (fun k want hg => (hok.guard i _ k want (List.getElem?_eq_getElem hlt) hg).1) hJ hOT hCZ hz4 hz5 hop hz1 hd hctx hyl hg0 hds (hmk _ _ hx) (fun hg => ?_) (fun a' w' Z' Ow' G' T' C' hi k1 k2 k3 k4 k5 k6 k7 k8 => ?_) (fun hg a' w' Z' Ow' G' T' C' hi k1 k2 k3 k4 k5 => ?_)
            · rw [hg, if_pos rfl] at hz
              refine List.IsPrefix.trans ⟨zs', ?_⟩ hall
              rw [← hpz, hz]; simp
            · refine region_y T hE hok hmk hall hQ hS m (i + 1) _ Z' w' Ow' G' a' w' (if g0 = true then pre ++ [x] else pre) zs' (by omega) hA ?_ ⟨k1.trans hz1, k2.trans hz2, k3.trans hz3, k7, k8, T', C', k4, k5, k6⟩ ?_
              · rw [← hpz, hz]
                cases g0 <;> simp
              · rw [← hup, ← e2]; exact hi
            · have hst := hstop hg
              obtain ⟨u, hu⟩ := Option.isSome_iff_exists.1 hst
              refine region_seq hE (plain_wide P) hok (K := K2) (r := ()) (fun a w G st hk hi => hS a w st Z' w' Ow' G hk ⟨k2.trans hz2, k3.trans hz3, T', C', k4, k5⟩ hi) m (i + 1) _ G' a' w' (by omega) hu ?_
              rw [← hup, ← e2]; exact hi
          · cases hev
        · cases hev
      · cases hev

/-- The consumer's word, where the iterator stands. -/
def YRel (E : Env) (N : Nat) (J : (Nat → Prop) → (Nat → Prop) → World → Prop) (Z0 : Nat → Prop) (l : Nat) (pin : Nat → Option Nat) (st : St) (a : Act) (w : World) : Prop := ∃ Z w0 Ow G, YH J Z0 l pin Z w0 Ow ∧ RelC Z E N w0 Ow st G a w
def YSRel (E : Env) (N : Nat) (Jx : (Nat → Prop) → (Nat → Prop) → World → Prop) (pin : Nat → Option Nat) (st : St) (a : Act) (w : World) : Prop := ∃ Z w0 Ow, YS Jx pin Z w0 Ow ∧ (∀ b, (Ow b ∨ w0.heap.size ≤ b) → Z b) ∧ RelX Z E N w0 Ow st a w

theorem noL_ok {O : Orc} {c : Code} : LoopsOk E O noL c := fun c _ f hf => by
  have : lookL noL (keyOf c) = none := by cases keyOf c <;> rfl
  rw [this] at hf; cases hf
theorem noR_ok {O : Orc} {c : Code} : RangesOk P E O.n noL c := fun rc _ f hf => by
  have : lookL noL (keyOf rc) = none := by cases keyOf rc <;> rfl
  rw [this] at hf; cases hf

/-- **What 'evY' answers is what the iterator's code does.** -/
theorem evY_sound (T : Turn enc ys P l Z0 J Jx) (hE : EnvOk P E) (hm : P.follows .mixedOrders = true) {O : Orc} (hN : O.n = N) {L : Nat → Option (SumY Y)} {ts : List Ty} {mk : List Dat → Option Y} (hmk : ∀ ds x, mk ds = some x → enc x = ds) {all : List Y} (hall : all <+: ys) {V : Type} {v : V} :
    ∀ (c : Code), LoopsYOk E O L ts mk c → ∀ (st : St) (K : Exit → St → YW Y V) (K2 : Cont Unit) (Qp : Exit → Act → World → Prop) (a : Act) (w : World) (pre zs : List Y), (∀ st, K2 .ret st = some ()) →
      (∀ e a w st pre zs, K e st = some (zs, v) → pre ++ zs = all → YRel E N (J pre) Z0 l pin st a w → Qp e a w) → (∀ e a w st, K2 e st = some () → YSRel E N Jx pin st a w → Qp e a w) →
      evY E O L ts mk c st K K2 = some (zs, v) → pre ++ zs = all → YRel E N (J pre) Z0 l pin st a w → c.wpIn Fence.wide n P Qp a w := by
  intro c
  induction c with
  | skip => intro _ st K K2 Qp a w pre zs _ hQ _ hev hp h; exact wpIn_skip (hQ _ _ _ _ _ _ hev hp h)
  | label => intro _ st K K2 Qp a w pre zs _ hQ _ hev hp h; exact wpIn_label (hQ _ _ _ _ _ _ hev hp h)
  | exit => intro _ st K K2 Qp a w pre zs _ hQ _ hev hp h; exact wpIn_exit (hQ _ _ _ _ _ _ hev hp h)
  | ret => intro _ st K K2 Qp a w pre zs _ hQ _ hev hp h; exact wpIn_ret (hQ _ _ _ _ _ _ hev hp h)
  | region id ops draw =>
    rintro _ st K K2 Qp a w pre zs _ hQ hS hev hp ⟨Z, w0, Ow, G, hyh, h⟩
    simp only [evY] at hev
    have h1 : ∃ G1, RelC Z E N w0 Ow (normO (O.i id) st) G1 a w := by
      unfold normO
      split
      · exact relC_norm h _
      · exact ⟨G, h⟩
    obtain ⟨G1, h1⟩ := h1
    cases draw with
    | true =>
      simp only [cond_true] at hev
      refine ev_sound hE (plain_wide P) hm hN (R := List Y × V) (fuel := 0) (.region id ops true) st (fun e st => K e st) Qp G a w (fun e a w st G hk hr => hQ e a w st pre zs hk hp ⟨Z, w0, Ow, G, hyh, hr⟩) ?_ h
      simpa only [ev, Bool.not_true, Bool.false_or] using hev
    | false =>
      simp only [cond_false] at hev
      cases hg : regionOk O.n ops.toList with
      | false => rw [hg] at hev; cases hev
      | true =>
        rw [hg] at hev
        simp only [cond_true] at hev
        rw [hN] at hg
        have hok := regOk_of hg
        refine wpIn_region ?_
        rw [List.range_eq_range']
        refine region_y (l := l) (pin := pin) T hE hok hmk hall (fun a w st' pre zs Z w0 Ow G hk hpz hy hi => ?_) (fun a w st' Z w0 Ow G hk hy hi => ?_) ops.size 0 (normO (O.i id) st) Z w0 Ow G1 a w pre zs (by omega) hev hp hyh ?_
        · obtain ⟨G2, h2⟩ := relC_norm hi.rel (O.o id)
          exact hQ _ _ _ _ _ _ hk hpz ⟨Z, w0, Ow, G2, hy, h2⟩
        · obtain ⟨G2, h2⟩ := relC_norm hi.rel (O.o id)
          exact hS _ _ _ _ hk ⟨Z, w0, Ow, hy, fun b hb => h2.zow b hb, h2.x hy.2.1⟩
        · have e : (fun j => j < 0) = (fun _ : Nat => False) := by funext j; simp
          rw [e]
          exact relC_inv h1
  | seq x y ihx ihy =>
    intro hL st K K2 Qp a w pre zs hk2 hQ hS hev hp h
    simp only [evY] at hev
    refine wpIn_seq (ihx (fun c hc => hL c (by simp [loopsOf, hc])) st _ (fun e st' => match e with
    | .normal => ev2 E O noL y st' K2
    | e => K2 e st') _ a w pre zs (fun st => hk2 st) (fun e a w st pre zs hk hp hr => ?_) (fun e a w st hk hr => ?_) hev hp h)
    · cases e <;> first | exact ihy (fun c hc => hL c (by simp [loopsOf, hc])) st K K2 Qp a w pre zs hk2 hQ hS hk hp hr | exact hQ _ _ _ _ _ _ hk hp hr
    · cases e <;> first
        | (obtain ⟨Z, w0, Ow, hy, hz, hx⟩ := hr
           exact ev2_soundX hE (plain_wide P) hm hN (r := ()) hy.2.1 hz y noL_ok (.inl ⟨hN ▸ noR_ok, rfl⟩) st K2 Qp a w (fun e a w st hk hx => hS e a w st hk ⟨Z, w0, Ow, hy, hz, hx⟩) hk hx)
        | exact hS _ _ _ _ hk hr
  | cond o x y ihx ihy =>
    rintro hL st K K2 Qp a w pre zs hk2 hQ hS hev hp ⟨Z, w0, Ow, G, hyh, h⟩
    simp only [evY] at hev
    split at hev
    · rename_i b hc
      obtain ⟨G1, h1⟩ := relC_drop h hc O.c
      refine wpIn_cond (cond_told h hc) ?_
      cases b with
      | true => exact ihx (fun c hc => hL c (by simp [loopsOf, hc])) _ K K2 Qp a w pre zs hk2 hQ hS hev hp ⟨Z, w0, Ow, G1, hyh, h1⟩
      | false => exact ihy (fun c hc => hL c (by simp [loopsOf, hc])) _ K K2 Qp a w pre zs hk2 hQ hS hev hp ⟨Z, w0, Ow, G1, hyh, h1⟩
    · cases hev
  | block id c ih =>
    intro hL st K K2 Qp a w pre zs hk2 hQ hS hev hp h
    simp only [evY] at hev
    refine wpIn_block (ih (fun c hc => hL c (by simp [loopsOf, hc])) st _ (fun e st' => match e with
    | .exit id' => if id' = id then K2 .normal st' else K2 (.exit id') st'
    | e => K2 e st') _ a w pre zs (fun st => hk2 st) (fun e a w st pre zs hk hp hr => ?_) (fun e a w st hk hr => ?_) hev hp h)
    · cases e with
      | exit id' =>
        simp only [] at hk
        simp only [Exit.inBlock]
        split at hk
        · rename_i hid; rw [if_pos hid]; exact hQ _ _ _ _ _ _ hk hp hr
        · rename_i hid; rw [if_neg hid]; exact hQ _ _ _ _ _ _ hk hp hr
      | _ => exact hQ _ _ _ _ _ _ hk hp hr
    · cases e with
      | exit id' =>
        simp only [] at hk
        simp only [Exit.inBlock]
        split at hk
        · rename_i hid; rw [if_pos hid]; exact hS _ _ _ _ hk hr
        · rename_i hid; rw [if_neg hid]; exact hS _ _ _ _ hk hr
      | _ => exact hS _ _ _ _ hk hr
  | loop c ih =>
    intro hL st K K2 Qp a w pre zs hk2 hQ hS hev hp h
    simp only [evY] at hev
    split at hev
    · rename_i f hf
      obtain ⟨fuel, hfu⟩ := hL c (by simp [loopsOf]) f hf V st K _ hev
      have key : ∀ (m : Nat) (st : St) (a : Act) (w : World) (pre zs : List Y), loopN (R := List Y × V) (fun st K => evY E O L ts mk c st K retOnly) m st K = some (zs, v) → pre ++ zs = all → YRel E N (J pre) Z0 l pin st a w → Code.roundsIn Fence.wide n P c Qp m a w := by
        intro m
        induction m with
        | zero => intro st a w pre zs hl; simp [loopN] at hl
        | succ m ihm =>
          intro st a w pre zs hl hp hr
          simp only [loopN] at hl
          refine ih (fun c hc => hL c (by simp [loopsOf, hc])) st _ retOnly _ a w pre zs (fun _ => rfl) (fun e a w st pre zs hk hp hr => ?_) (fun e a w st hk hr => ?_) hl hp hr
          · cases e <;> first | exact ihm st a w pre zs hk hp hr | exact hQ _ _ _ _ _ _ hk hp hr
          · cases e <;> first | exact hS .ret _ _ _ (hk2 st) hr | (simp [retOnly] at hk)
      exact wpIn_loop_rounds fuel (key fuel st a w pre zs hfu hp h)
    · cases hev
  | _ => intro _ st K K2 Qp a w pre zs _ _ _ hev; simp [evY] at hev
end
end Go.Ev
