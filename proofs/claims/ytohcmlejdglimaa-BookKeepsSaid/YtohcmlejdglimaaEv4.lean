/- A library for the proofs of this seat, part 4 of 4: an evaluator of the code over abstract states, and its soundness. It states nothing of the program. -/
import Derived.Test.YtohcmlejdglimaaEv3
import Derived.RangeFuncIn
import Derived.RangeFuncOwn
import Derived.ProofKit
import Derived.WideShapes
import Derived.ChangeArms
import Derived.OpenShut
import Derived.ChangeOld
import Derived.DataReads
import Derived.SizedLaws
import Derived.Laws.StructEq
import Derived.ChangeKeysEq
import Derived.DeepKeys
set_option linter.unusedSimpArgs false
set_option linter.unusedVariables false
set_option linter.deprecated false
/- Loops: shapes of states, summaries over shapes. -/
namespace Go.Ev

theorem natsEq_eq : ∀ {a b : List Nat}, natsEq a b = true → a = b
  | [], [], _ => rfl
  | [], _ :: _, h => by simp [natsEq] at h
  | _ :: _, [], h => by simp [natsEq] at h
  | x :: a, y :: b, h => by
    simp only [natsEq, Bool.and_eq_true] at h
    rw [Nat.eq_of_beq_eq_true h.1, natsEq_eq h.2]
theorem Kd.un_some : ∀ {k : Kd} {v : AV} {x : k.den}, k.un v = some x → v = k.mk x := by
  intro k v x h
  cases k <;> cases v <;> simp only [Kd.un, reduceCtorEq] at h
  case yld.yld => rfl
  case dat.dat =>
    split at h
    · rename_i he; subst he; cases h; rfl
    · cases h
  case own.own =>
    split at h
    · rename_i he
      subst he
      split at h
      · rename_i hb
        simp only [Bool.and_eq_true] at hb
        have h1 := Nat.eq_of_beq_eq_true hb.1
        have h2 := Nat.eq_of_beq_eq_true hb.2
        subst h1; subst h2
        cases h; rfl
      · cases h
    · cases h
  case ptr.ptr =>
    split at h
    · rename_i hb
      simp only [Bool.and_eq_true] at hb
      have h1 := Nat.eq_of_beq_eq_true hb.1
      have h2 := Nat.eq_of_beq_eq_true hb.2
      subst h1; subst h2; rfl
    · cases h
  case bx.bx =>
    split at h
    · rename_i hb
      simp only [Bool.and_eq_true] at hb
      have h1 := Nat.eq_of_beq_eq_true hb.1
      have h2 := Nat.eq_of_beq_eq_true hb.2
      subst h1; subst h2; rfl
    · cases h
  case dptr.dptr =>
    split at h
    · rename_i he
      subst he
      split at h
      · rename_i hb
        have h1 := Nat.eq_of_beq_eq_true hb
        subst h1; cases h; rfl
      · cases h
    · cases h
  case dead.dead => rfl
  case nil.nil => rfl
  case nilp.nilp => rfl
  case fn.fn =>
    split at h
    · rename_i hb
      simp only [Bool.and_eq_true] at hb
      have h1 := Nat.eq_of_beq_eq_true hb.1
      have h2 := natsEq_eq hb.2
      subst h1; subst h2; rfl
    · cases h
  case mptr.mptr =>
    split at h
    · rename_i hb
      simp only [Bool.and_eq_true] at hb
      have h1 := Nat.eq_of_beq_eq_true hb.1
      have h2 := Nat.eq_of_beq_eq_true hb.2
      subst h1; subst h2; cases h; rfl
    · cases h
theorem unSt_some : ∀ {sh : Shape} {st : St} {s : Tup sh}, unSt sh st = some s → st = mkSt sh s
  | [], [], _, _ => rfl
  | [], _ :: _, _, h => by simp [unSt] at h
  | _ :: _, [], _, h => by simp [unSt] at h
  | p :: r, q :: st, s, h => by
    simp only [unSt] at h
    cases hl : p.1.eq q.1 with
    | false => rw [hl] at h; cases h
    | true =>
      rw [hl] at h
      simp only [cond_true] at h
      split at h
      · rename_i x hx
        split at h
        · rename_i s' hs
          cases h
          have h1 := Loc.eq_iff.1 hl
          have h2 := Kd.un_some hx
          have h3 := unSt_some hs
          rw [h3]
          show q :: mkSt r s' = (p.1, p.2.mk x) :: mkSt r s'
          rw [h1, ← h2]
        · cases h
      · cases h

/-- A summary over a shape. -/
def sumOf (sh : Shape) (f : Tup sh → ∀ R : Type, Cont R → Option R) : Sum := fun R st K => match unSt sh st with
  | some s => f s R K
  | none => none
theorem sumOk_of {E : Env} {O : Orc} {L : Nat → Option Sum} {c : Code} {sh : Shape} {f : Tup sh → ∀ R : Type, Cont R → Option R}
    (h : ∀ (s : Tup sh) (R : Type) (K : Cont R) (r : R), f s R K = some r → ∃ fuel, loopN (fun st K => ev2 E O L c st K) fuel (mkSt sh s) K = some r) : SumOk E O L c (sumOf sh f) := by
  intro R st K r hr
  unfold sumOf at hr
  split at hr
  · rename_i s hs
    rw [unSt_some hs]
    exact h s R K r hr
  · cases hr
theorem loopN_succ {R : Type} (step : St → Cont R → Option R) (n : Nat) (st : St) (K : Cont R) : loopN step (n + 1) st K = step st fun e st' => match e with
    | .normal => loopN step n st' K
    | e => K e st' := rfl
theorem loopN_zero {R : Type} (step : St → Cont R → Option R) (st : St) (K : Cont R) : loopN step 0 st K = none := rfl
theorem bind_cond {α β : Type} (b : Bool) (x y : Option α) (k : α → Option β) : (bif b then x else y).bind k = bif b then x.bind k else y.bind k := by cases b <;> rfl
end Go.Ev

/- Helpers for the contracts of single functions. -/
namespace Go.Ev
theorem dats0 {ds : List Dat} (h : ds.map (·.t) = []) : ds = [] := by simpa using h
theorem datsS {ds : List Dat} {t : Ty} {ts : List Ty} (h : ds.map (·.t) = t :: ts) : ∃ (x : t.den) (r : List Dat), ds = ⟨t, x⟩ :: r ∧ r.map (·.t) = ts := by
  cases ds with
  | nil => simp at h
  | cons d r =>
    simp only [List.map_cons, List.cons.injEq] at h
    obtain ⟨rfl, h2⟩ := h
    exact ⟨d.x, r, rfl, h2⟩
theorem loopsOk_nil {E : Env} {O : Orc} {L : Nat → Option Sum} {body : Code} (h : loopsOf body = []) : LoopsOk E O L body := fun c hc => by rw [h] at hc; cases hc

end Go.Ev

/- Loops by the limit of their rounds; the evaluator is natural in its continuation. -/
namespace Go.Ev

def iterN {S X : Type} (r : S → Option (S ⊕ X)) : Nat → S → Option X
  | 0, _ => none
  | n + 1, s => match r s with
    | some (.inl s') => iterN r n s'
    | some (.inr x) => some x
    | none => none
theorem iterN_mono {S X : Type} {r : S → Option (S ⊕ X)} {x : X} : ∀ {n m : Nat} {s : S}, iterN r n s = some x → n ≤ m → iterN r m s = some x
  | 0, _, _, h, _ => by simp [iterN] at h
  | n + 1, 0, _, _, hm => by omega
  | n + 1, m + 1, s, h, hm => by
    simp only [iterN] at h ⊢
    cases hr : r s with
    | none => rw [hr] at h; cases h
    | some y =>
      rw [hr] at h
      cases y with
      | inl s' => exact iterN_mono h (by omega)
      | inr x' => exact h
/-- What the rounds come to, if they come to an end. -/
noncomputable def Lim {S X : Type} (r : S → Option (S ⊕ X)) (s : S) : Option X := by
  classical
  exact if h : ∃ x n, iterN r n s = some x then some h.choose else none
theorem lim_of {S X : Type} {r : S → Option (S ⊕ X)} {n : Nat} {s : S} {x : X} (h : iterN r n s = some x) : Lim r s = some x := by
  classical
  have he : ∃ x n, iterN r n s = some x := ⟨x, n, h⟩
  unfold Lim
  rw [dif_pos he]
  obtain ⟨m, hm⟩ := he.choose_spec
  have h1 := iterN_mono h (Nat.le_max_left n m)
  have h2 := iterN_mono hm (Nat.le_max_right n m)
  rw [h1] at h2
  exact h2.symm
theorem lim_some {S X : Type} {r : S → Option (S ⊕ X)} {s : S} {x : X} (h : Lim r s = some x) : ∃ n, iterN r n s = some x := by
  classical
  unfold Lim at h
  split at h
  · rename_i he
    cases h
    exact he.choose_spec
  · cases h
/-- The limit, one round unrolled. -/
theorem lim_step {S X : Type} (r : S → Option (S ⊕ X)) (s : S) : Lim r s = match r s with
    | some (.inl s') => Lim r s'
    | some (.inr x) => some x
    | none => none := by
  cases hr : r s with
  | none =>
    cases hl : Lim r s with
    | none => rfl
    | some x =>
      obtain ⟨n, hn⟩ := lim_some hl
      cases n with
      | zero => simp [iterN] at hn
      | succ n => simp [iterN, hr] at hn
  | some y =>
    cases y with
    | inr x => exact lim_of (n := 1) (by simp [iterN, hr])
    | inl s' =>
      show Lim r s = Lim r s'
      cases hl : Lim r s' with
      | some x =>
        obtain ⟨n, hn⟩ := lim_some hl
        exact lim_of (n := n + 1) (by simpa [iterN, hr] using hn)
      | none =>
        cases hl2 : Lim r s with
        | none => rfl
        | some x =>
          obtain ⟨n, hn⟩ := lim_some hl2
          cases n with
          | zero => simp [iterN] at hn
          | succ n =>
            have := lim_of (r := r) (n := n) (s := s') (x := x) (by simpa [iterN, hr] using hn)
            rw [hl] at this; cases this

/-! ### The evaluator is natural -/
abbrev pairK : Cont (Exit × St) := fun e st => some (e, st)
def Natural (f : Sum) : Prop := ∀ (R : Type) (st : St) (K : Cont R), f R st K = (f (Exit × St) st pairK).bind fun p => K p.1 p.2
theorem evOps_nat {R : Type} {E : Env} {ops : List Oper} : ∀ {l : List Oper} {i : Nat} {st : St} {K : St → Option R}, evOps E ops l i st K = (evOps E ops l i st some).bind K
  | [], _, _, _ => rfl
  | o :: r, i, st, K => by
    simp only [evOps]
    split
    · rename_i f _
      cases f.test
      · rfl
      · exact evOps_nat
    · rfl
theorem ev2_nat {E : Env} {O : Orc} {L : Nat → Option Sum} (hL : ∀ k f, L k = some f → Natural f) : ∀ {c : Code} {R : Type} {st : St} {K : Cont R}, ev2 E O L c st K = (ev2 E O L c st pairK).bind fun p => K p.1 p.2 := by
  intro c
  induction c with
  | region id ops draw =>
    intro R st K
    simp only [ev2]
    cases (regionOk O.n ops.toList && (!draw || drawOk E ops.toList (normO (O.i id) st))) with
    | false => rfl
    | true =>
      simp only [cond_true]
      rw [evOps_nat, evOps_nat (R := Exit × St), Option.bind_assoc]
      rfl
  | seq a b iha ihb =>
    intro R st K
    simp only [ev2]
    rw [iha]
    refine Eq.trans ?_ (congrArg (fun o : Option (Exit × St) => o.bind fun p => K p.1 p.2) (iha (st := st)).symm)
    simp only [Option.bind_assoc]
    refine congrArg (Option.bind _) ?_
    funext p
    obtain ⟨e, st'⟩ := p
    cases e <;> first | exact ihb | rfl
  | cond o a b iha ihb =>
    intro R st K
    simp only [ev2]
    split
    · rename_i x _
      cases x
      · exact ihb
      · exact iha
    · rfl
  | block id a ih =>
    intro R st K
    simp only [ev2]
    rw [ih]
    refine Eq.trans ?_ (congrArg (fun o : Option (Exit × St) => o.bind fun p => K p.1 p.2) (ih (st := st)).symm)
    simp only [Option.bind_assoc]
    refine congrArg (Option.bind _) ?_
    funext p
    obtain ⟨e, st'⟩ := p
    cases e with
    | exit id' =>
      simp only []
      split <;> rfl
    | _ => rfl
  | loop a ih =>
    intro R st K
    simp only [ev2]
    cases hl : lookL L (keyOf a) with
    | none => rfl
    | some f =>
      simp only []
      refine hL ?_ f ?_ R st K
      · exact (keyOf a).getD 0
      · cases hk : keyOf a with
        | none => rw [hk] at hl; cases hl
        | some k => rw [hk] at hl; exact hl
  | rangeFunc g ps a b =>
    intro R st K
    simp only [ev2]
    cases hl : lookL L (keyOf (.rangeFunc g ps a b)) with
    | none => rfl
    | some f =>
      simp only []
      refine hL ?_ f ?_ R st K
      · exact (keyOf (.rangeFunc g ps a b)).getD 0
      · cases hk : keyOf (.rangeFunc g ps a b) with
        | none => rw [hk] at hl; cases hl
        | some k => rw [hk] at hl; exact hl
  | _ => intro R st K; rfl

/-- A loop's summary: the limit of its rounds. -/
noncomputable def limSum {S X : Type} (sh : Shape) (pk : Tup sh → S) (r : S → Option (S ⊕ X)) (leave : X → ∀ R : Type, Cont R → Option R) : Sum :=
  sumOf sh fun s R K => (Lim r (pk s)).bind fun x => leave x R K
theorem natural_lim {S X : Type} {sh : Shape} {pk : Tup sh → S} {r : S → Option (S ⊕ X)} {leave : X → ∀ R : Type, Cont R → Option R} (hx : ∀ x R (K : Cont R), leave x R K = (leave x _ pairK).bind fun p => K p.1 p.2) : Natural (limSum sh pk r leave) := by
  intro R st K
  unfold limSum sumOf
  split
  · simp only [Option.bind_assoc]
    refine congrArg (Option.bind _) ?_
    funext x
    exact hx x R K
  · rfl
/-- Reads a state back. -/
def back {S X : Type} (sh : Shape) (pk : Tup sh → S) (d : Exit → St → Option X) : Cont (S ⊕ X) := fun e st => match e with
  | .normal => (match unSt sh st with
    | some s => some (.inl (pk s))
    | none => none)
  | e => (match d e st with
    | some x => some (.inr x)
    | none => none)
theorem sumOk_lim {E : Env} {O : Orc} {L : Nat → Option Sum} {c : Code} {S X : Type} {sh : Shape} {pk : Tup sh → S} {un : S → Tup sh} {r : S → Option (S ⊕ X)} {leave : X → ∀ R : Type, Cont R → Option R} {d : Exit → St → Option X}
    (hL : ∀ k f, L k = some f → Natural f) (hpu : ∀ s, un (pk s) = s)
    (hd : ∀ e st x, e ≠ .normal → d e st = some x → ∀ R (K : Cont R), K e st = leave x R K)
    (hr : ∀ s, ev2 E O L c (mkSt sh (un s)) (back sh pk d) = r s) : SumOk E O L c (limSum sh pk r leave) := by
  refine sumOk_of fun s R K y hy => ?_
  rw [Option.bind_eq_some_iff] at hy
  obtain ⟨x, hx, hy⟩ := hy
  obtain ⟨n, hn⟩ := lim_some hx
  rw [← hpu s]
  generalize pk s = z at hn
  have one : ∀ (z : S) (v : S ⊕ X), r z = some v → ∃ e st, back sh pk d e st = some v ∧ ∀ R (K : Cont R), ev2 E O L c (mkSt sh (un z)) K = K e st := by
    intro z v hv
    rw [← hr, ev2_nat hL, Option.bind_eq_some_iff] at hv
    obtain ⟨⟨e, st⟩, h1, h2⟩ := hv
    refine ⟨e, st, h2, fun R K => ?_⟩
    rw [ev2_nat hL, h1]; rfl
  refine ⟨n, ?_⟩
  induction n generalizing z with
  | zero => simp [iterN] at hn
  | succ n ih =>
    simp only [iterN] at hn
    rw [loopN_succ]
    cases hv : r z with
    | none => rw [hv] at hn; cases hn
    | some v =>
      rw [hv] at hn
      obtain ⟨e, st, h1, h2⟩ := one z v hv
      rw [h2]
      cases v with
      | inl z' =>
        cases e with
        | normal =>
          simp only [back] at h1
          split at h1
          · rename_i s' hs'
            simp only [Option.some.injEq, Sum.inl.injEq] at h1
            have := unSt_some hs'
            rw [this, ← hpu s', h1]
            exact ih z' hn
          · cases h1
        | _ => simp only [back] at h1; split at h1 <;> cases h1
      | inr x' =>
        cases e with
        | normal => simp only [back] at h1; split at h1 <;> cases h1
        | _ =>
          simp only [back] at h1
          split at h1
          · rename_i x2 hx2
            simp only [Option.some.injEq, Sum.inr.injEq] at h1 hn
            subst h1; subst hn
            exact (hd _ _ _ (by simp) hx2 R K).trans hy
          · cases h1

/-- The results, typed. -/
def datsTo : (ts : List Ty) → List Dat → Option (List.rec Unit (fun t _ T => t.den × T) ts)
  | [], [] => some ()
  | t :: ts, d :: ds => if h : d.1 = t then (match datsTo ts ds with
    | some r => some (h ▸ d.2, r)
    | none => none) else none
  | _, _ => none
def datsOf : (ts : List Ty) → (List.rec Unit (fun t _ T => t.den × T) ts) → List Dat
  | [], _ => []
  | t :: ts, x => ⟨t, x.1⟩ :: datsOf ts x.2
theorem datsTo_some : ∀ {ts : List Ty} {ds : List Dat} {x : List.rec Unit (fun t _ T => t.den × T) ts}, datsTo ts ds = some x → ds = datsOf ts x
  | [], [], _, _ => rfl
  | [], _ :: _, _, h => by simp [datsTo] at h
  | _ :: _, [], _, h => by simp [datsTo] at h
  | t :: ts, d :: ds, x, h => by
    simp only [datsTo] at h
    split at h
    · rename_i ht
      subst ht
      split at h
      · rename_i r hr
        cases h
        rw [datsTo_some hr]
        rfl
      · cases h
    · cases h
def retT {R : Type} (rs : List (Nat × RK)) (ts : List Ty) (pk : (List.rec Unit (fun t _ T => t.den × T) ts) → R) : Cont R := fun e st => match retK rs e st with
  | some ds => (match datsTo ts ds with
    | some x => some (pk x)
    | none => none)
  | none => none
theorem ev_ret {E : Env} {O : Orc} {L : Nat → Option Sum} {c : Code} {st : St} {R : Type} {rs : List (Nat × RK)} {ts : List Ty} {pk : (List.rec Unit (fun t _ T => t.den × T) ts) → R} {un : R → List Dat} {r : R}
    (hL : ∀ k f, L k = some f → Natural f) (hpu : ∀ x, un (pk x) = datsOf ts x) (h : ev2 E O L c st (retT rs ts pk) = some r) : ev2 E O L c st (retK rs) = some (un r) := by
  rw [ev2_nat hL, Option.bind_eq_some_iff] at h
  obtain ⟨⟨e, st'⟩, h1, h2⟩ := h
  rw [ev2_nat hL, h1]
  show retK rs e st' = some (un r)
  unfold retT at h2
  split at h2
  · rename_i ds hds
    split at h2
    · rename_i x hx
      simp only [Option.some.injEq] at h2
      have hds' : retK rs e st' = some ds := hds
      rw [hds', datsTo_some hx, ← h2, hpu]
    · cases h2
  · cases h2
end Go.Ev

/- Functions that are handed boxes: the contract out of the evaluator's answer. -/
namespace Go.Ev
open Go.RowKit

/-- Where a result is read. -/
inductive RSrc where
  | slot (r : Nat) | cell (r T : Nat)
def resAVOf (E : Env) (st : St) : RSrc → AV
  | .slot r => st.get (.slot r)
  | .cell r T => match st.get (.slot r), E.tab.ty T with
    | .ptr b c, some t => (match (gather b t c).run st.get with
      | some (x, []) => .dat t x
      | _ => .dead)
    | _, _ => .dead
/-- A pointer where one that may be nil is wanted. -/
def convK : Kd → AV → AV
  | .mptr _ _, .ptr b o => .mptr b o true
  | .mptr b o, .nilp => .mptr b o false
  | _, v => v
def outSt (E : Env) (rs : List RSrc) (pout : Shape) (st : St) : St := pout.map fun p => (p.1, match p.1 with
  | .slot j => (match rs[j]? with
    | some r => convK p.2 (resAVOf E st r)
    | none => .dead)
  | l => convK p.2 (st.get l))
def retK2 (E : Env) (rs : List RSrc) (pout : Shape) : Cont (Tup pout) := fun e st => match e with
  | .ret | .normal => unSt pout (outSt E rs pout st)
  | _ => none
/-- What a kind mentions, and what a place lies in, comes back too. -/
def closedK (bs : List Nat) : Kd → Bool
  | .ptr b _ | .mptr b _ => bs.any fun c => Nat.beq c b
  | .fn _ cs => cs.all fun b => bs.any fun c => Nat.beq c b
  | .yld => false
  | _ => true
def closedP (bs : List Nat) : Shape → Bool
  | [] => true
  | (l, k) :: r => closedK bs k && (match l with
    | .cell b _ => bs.any fun c => Nat.beq c b
    | .comp _ _ => false
    | _ => true) && closedP bs r
/-- Results come out of slots of their own. -/
def ownSlots : List RSrc → List Nat
  | [] => []
  | .slot r :: l => r :: ownSlots l
  | .cell _ _ :: l => ownSlots l
/-- Boxes are told as such. -/
def boxesBx : Shape → Bool
  | [] => true
  | (.box _, .bx _ _) :: r => boxesBx r
  | (.box _, _) :: _ => false
  | _ :: r => boxesBx r

section
variable {Z : ZS} {E : Env} {N : Nat} {w0 : World} {Ow : OwS} {g : Mem} {G : Ghost} {a a' : Act} {w w' : World} {P : Program}

/-- What may be told in another place. -/
inductive Im : AV → AV → Prop
  | dead (u : AV) : Im u .dead
  | dat (t : Ty) (x : t.den) : Im (.dat t x) (.dat t x)
  | own (e : Nat) (t : Ty) (xs : List t.den) : Im (.own e t xs 0) (.own e t xs 0)
  | ptr (b o : Nat) : Im (.ptr b o) (.ptr b o)
  | fn (f : Nat) (cs : List Nat) : Im (.fn f cs) (.fn f cs)
  | nil : Im .nil .nil
  | nilp : Im .nilp .nilp
  | mptr (b o : Nat) (p : Bool) : Im (.mptr b o p) (.mptr b o p)
  | bx (e n : Nat) : Im (.bx e n) (.bx e n)
  | dptr (t : Ty) (x : t.den) (o : Nat) : Im (.dptr t x o) (.dptr t x o)
  | pm (b o : Nat) : Im (.ptr b o) (.mptr b o true)
  | nm (b o : Nat) : Im .nilp (.mptr b o false)
/-- The boxes that a value mentions. -/
def boxesIn : AV → List Nat
  | .ptr b _ => [b]
  | .mptr b _ _ => [b]
  | .fn _ cs => cs
  | _ => []

/-- What may be told of any value, wherever it lies. -/
inductive Tells : AV → Prop
  | dat (t : Ty) (x : t.den) : Tells (.dat t x)
  | ptr (b o : Nat) : Tells (.ptr b o)
  | fn (f : Nat) (cs : List Nat) : Tells (.fn f cs)
  | nil : Tells .nil
  | nilp : Tells .nilp
  | mptr (b o : Nat) (p : Bool) : Tells (.mptr b o p)
  | dptr (t : Ty) (x : t.den) (o : Nat) : Tells (.dptr t x o)
/-- The ghosts of what is told elsewhere. -/
def imageG (g' : Mem) (src : Nat → Option Nat) (G : Ghost) : Ghost := fun l => match g' l with
  | .own _ _ _ _ => (match l with
    | .slot j => (src j).bind fun r => G (.slot r)
    | l => G l)
  | .bx _ _ => (match l with
    | .box b => G (.box b)
    | _ => none)
  | _ => none

theorem Rel.image' (h : Rel Z E N w0 Ow (fun n => n = 0) (fun _ => False) g G a w) {g' : Mem} {vs : List Value} {E' : Env} (hgl : E'.glob = E.glob) {src : Nat → Option Nat}
    {Z' : ZS} {w1 : World} {Ow1 : OwS} (hfr : ∀ b, free Z G w b → Z' b) (hos : w.os = w1.os) (htape : w.tape = w1.tape) (hout : w.output = w1.output) (hsize : w1.heap.size ≤ w.heap.size) (hlow : ∀ k, k < w1.heap.size → ¬ Ow1 k → w.heap[k]? = w1.heap[k]?)
    (hbnd : ∀ l b, imageG g' src G l = some b → Ow1 b ∨ w1.heap.size ≤ b) (hzow : ∀ b, (Ow1 b ∨ w1.heap.size ≤ b) → Z' b) {ds : List Deferred} (hdl : Ow1.dl = ds)
    (hpn : ∀ b gb, Ow1.pin b = some gb → g (.box b) ≠ .dead → G (.box b) = some gb) (hpin : ∀ b gb, Ow1.pin b = some gb → (vs.length ≤ b ∧ b < pinMax) ∨ E'.held b = true)
    (hslot : ∀ j, g' (.slot j) = .dead ∨ (∃ r, src j = some r ∧ Im (g (.slot r)) (g' (.slot j)) ∧ vs.getD j undef = a.tmps.getD r undef) ∨ (∃ t x cs, g' (.slot j) = .dat t x ∧ RV (free Z G w) w t x cs ∧ vs.getD j undef = valOf t cs) ∨ (Tells (g' (.slot j)) ∧ ∃ l, AVR Z g G a w (g' (.slot j)) l (vs.getD j undef)))
    (hsrc : ∀ j j' r, src j = some r → src j' = some r → j = j')
    (hcomp : ∀ n i, g' (.comp n i) = .dead)
    (hbox : ∀ b, g' (.box b) = .dead ∨ g' (.box b) = g (.box b))
    (hcell : ∀ b o, g' (.cell b o) = .dead ∨ (Im (g (.cell b o)) (g' (.cell b o)) ∧ g' (.box b) = g (.box b)))
    (hcl : ∀ l, ∀ b ∈ boxesIn (g' l), g' (.box b) = g (.box b)) :
    Rel Z' E' vs.length w1 Ow1 (fun n => n = 0) (fun _ => False) g' (imageG g' src G) { tmps := vs.toArray, defers := ds } w := by
  obtain ⟨G', hGdef⟩ : ∃ G', G' = imageG g' src G := ⟨_, rfl⟩
  rw [← hGdef] at hbnd ⊢
  have hG1 : ∀ {l b}, G' l = some b → ∃ l', G l' = some b ∧ ((∃ j r, l = .slot j ∧ src j = some r ∧ l' = .slot r ∧ ∃ e t xs, g' l = .own e t xs 0) ∨ (l' = l ∧ (∀ j, l ≠ .slot j) ∧ ((∃ e t xs, g' l = .own e t xs 0) ∨ ∃ e n, g' l = .bx e n))) := by
    intro l b hb
    simp only [hGdef, imageG] at hb
    split at hb
    · rename_i e t xs s hl
      have hs : s = 0 := by
        cases l with
        | slot j =>
          rcases hslot j with h1 | ⟨r, _, h1, _⟩ | ⟨t', x', cs, h1, _⟩ | ⟨h1, _⟩
          · rw [h1] at hl; cases hl
          · rw [hl] at h1; generalize g (.slot r) = u at h1; cases h1; rfl
          · rw [h1] at hl; cases hl
          · rw [hl] at h1; cases h1
        | comp n i => rw [hcomp] at hl; cases hl
        | box c =>
          rcases hbox c with h1 | h1
          · rw [h1] at hl; cases hl
          · rcases h.boxAV c with h2 | ⟨e', n', h2⟩ <;> rw [h1, h2] at hl <;> cases hl
        | cell c o =>
          rcases hcell c o with h1 | ⟨h1, _⟩
          · rw [h1] at hl; cases hl
          · rw [hl] at h1; generalize g (.cell c o) = u at h1; cases h1; rfl
      subst hs
      cases l with
      | slot j =>
        simp only [Option.bind_eq_some_iff] at hb
        obtain ⟨r, h1, h2⟩ := hb
        exact ⟨_, h2, .inl ⟨j, r, rfl, h1, rfl, e, t, xs, hl⟩⟩
      | comp n i => exact ⟨_, hb, .inr ⟨rfl, by simp, .inl ⟨e, t, xs, hl⟩⟩⟩
      | box c => exact ⟨_, hb, .inr ⟨rfl, by simp, .inl ⟨e, t, xs, hl⟩⟩⟩
      | cell c o => exact ⟨_, hb, .inr ⟨rfl, by simp, .inl ⟨e, t, xs, hl⟩⟩⟩
    · rename_i e n hl
      cases l with
      | box c => exact ⟨_, hb, .inr ⟨rfl, by simp, .inr ⟨e, n, hl⟩⟩⟩
      | _ => cases hb
    · cases hb
  have hfree : ∀ b, free Z G w b → free Z' G' w b := fun b hb => ⟨hb.1, fun l e => by
    obtain ⟨l', h1, _⟩ := hG1 e
    exact hb.2 l' h1, hfr b hb⟩
  have hRV : ∀ {t : Ty} {x : t.den} {cs : List Value}, RV (free Z G w) w t x cs → RV (free Z' G' w) w t x cs := fun hv => hv.keep (fun _ _ => rfl) hfree
  have hGb : ∀ {b e n}, g (.box b) = .bx e n → g' (.box b) = g (.box b) → G' (.box b) = G (.box b) := fun {b e n} h1 h2 => by simp only [hGdef, imageG, h2, h1]
  have hptr : ∀ {b o : Nat} {v : Value}, g' (.box b) = g (.box b) → (∃ e n gb, g (.box b) = .bx e n ∧ G (.box b) = some gb ∧ v = .pointer (some ⟨gb, o, none⟩)) → ∃ e n gb, g' (.box b) = .bx e n ∧ G' (.box b) = some gb ∧ v = .pointer (some ⟨gb, o, none⟩) := fun {b o v} hb ⟨e, n, gb, h1, h2, h3⟩ =>
    ⟨e, n, gb, hb.trans h1, (hGb h1 hb).trans h2, h3⟩
  -- one value
  have tr : ∀ {l l' : Loc} {val : Value}, (∀ b ∈ boxesIn (g' l'), g' (.box b) = g (.box b)) → (∀ e t xs, g' l' = .own e t xs 0 → G' l' = G l) → Im (g l) (g' l') → AVR Z g G a w (g l) l val → AVR Z' g' G' { tmps := vs.toArray, defers := ds } w (g' l') l' val := fun {l l' val} hcl' hGl him hv => by
    generalize hu : g l = u at him hv
    generalize hu' : g' l' = u' at him hcl' hGl
    cases him with
    | dead => trivial
    | dat t x => obtain ⟨cs, h1, h2⟩ := hv; exact ⟨cs, hRV h1, h2⟩
    | own e t xs =>
      simp only [AVR] at hv ⊢
      rw [hGl _ _ _ rfl]
      exact hv.keep (fun b hb => ⟨hfree b hb, rfl⟩) (fun _ _ => rfl)
    | ptr b o => exact hptr (hcl' b (by simp [boxesIn])) hv
    | fn f cs =>
      obtain ⟨vs1, h1, h2, h3⟩ := hv
      exact ⟨vs1, h1, h2, fun i b hi => hptr (hcl' b (by simp only [boxesIn]; exact List.mem_of_getElem? hi)) (h3 i b hi)⟩
    | nil => exact hv
    | nilp => exact hv
    | mptr b o p => exact ⟨fun hp => hptr (hcl' b (by simp [boxesIn])) (hv.1 hp), hv.2⟩
    | bx e n => exact hv.elim
    | dptr t x o =>
      obtain ⟨b, k, cs, h1, h2, h3, h4⟩ := hv
      exact ⟨b, k, cs, hRV h1, fun hne => hfree _ (h2 hne), h3, h4⟩
    | pm b o => exact ⟨fun _ => hptr (hcl' b (by simp [boxesIn])) hv, by simp⟩
    | nm b o => exact ⟨by simp, fun _ => hv⟩
  have noTup : ∀ {l n}, g' l ≠ .tup n := fun {l n} e => by
    cases l with
    | slot j =>
      rcases hslot j with h1 | ⟨r, _, h1, _⟩ | ⟨t', x', cs, h1, _⟩ | ⟨h1, _⟩
      · rw [h1] at e; cases e
      · rw [e] at h1; generalize g (.slot r) = u at h1; cases h1
      · rw [h1] at e; cases e
      · rw [e] at h1; cases h1
    | comp n i => rw [hcomp] at e; cases e
    | box c =>
      rcases hbox c with h1 | h1
      · rw [h1] at e; cases e
      · rcases h.boxAV c with h2 | ⟨e', n', h2⟩ <;> rw [h1, h2] at e <;> cases e
    | cell c o =>
      rcases hcell c o with h1 | ⟨h1, _⟩
      · rw [h1] at e; cases e
      · rw [e] at h1; generalize g (.cell c o) = u at h1; cases h1
  refine ⟨hdl.symm, by simp, hos, htape, hout, hsize, hlow, fun l b hb => ?_, hzow, fun l l' b h1 h2 => ?_, fun l b hb => ?_, fun j => ?_, fun n k i hn => absurd hn noTup, fun b e n hb => ?_, fun b o hne => ?_, fun b o o' h1 h2 hne => ?_, fun b => ?_, fun l => ?_, fun l c v hl => ?_, fun k hk => hk.elim, fun k d hk => ?_, fun b gb hp hne => ?_, hpin⟩
  · obtain ⟨l', h1, _⟩ := hG1 hb
    exact ⟨(h.bnd l' b h1).1, hbnd l b hb⟩
  · obtain ⟨k, q1, q2⟩ := hG1 h1
    obtain ⟨k', q3, q4⟩ := hG1 h2
    have := h.inj k k' b q1 q3
    subst this
    rcases q2 with ⟨j, r, rfl, e1, rfl, _⟩ | ⟨rfl, hno, _⟩ <;> rcases q4 with ⟨j', r', rfl, e1', e2', _⟩ | ⟨e2', hno', _⟩
    · cases e2'; rw [hsrc j j' r e1 e1']
    · exact absurd e2'.symm (hno' r)
    · exact absurd e2' (hno r')
    · exact e2'
  · obtain ⟨l', _, h1⟩ := hG1 hb
    rcases h1 with ⟨j, r, _, _, _, e, t, xs, h2⟩ | ⟨_, _, ⟨e, t, xs, h2⟩ | ⟨e, n, h2⟩⟩
    · exact .inl ⟨e, t, xs, 0, h2⟩
    · exact .inl ⟨e, t, xs, 0, h2⟩
    · exact .inr ⟨e, n, h2⟩
  · show AVR _ _ _ _ _ (g' (.slot j)) _ (vs.toArray.getD j undef)
    rw [show vs.toArray.getD j undef = vs.getD j undef by simp]
    rcases hslot j with h1 | ⟨r, h0, h1, h2⟩ | ⟨t, x, cs, h1, h2, h3⟩ | ⟨h1, l, h2⟩
    · rw [h1]; trivial
    · rw [h2]
      exact tr (hcl _) (fun e t xs hl => by simp only [hGdef, imageG, hl, h0, Option.bind_some]) h1 (h.slots r)
    · rw [h1]; exact ⟨cs, hRV h2, h3⟩
    · have hcl' := hcl (.slot j)
      generalize g' (.slot j) = u at h1 h2 hcl'
      cases h1 with
      | dat t x => obtain ⟨cs, q1, q2⟩ := h2; exact ⟨cs, hRV q1, q2⟩
      | ptr b o => exact hptr (hcl' b (by simp [boxesIn])) h2
      | fn f cs =>
        obtain ⟨vs1, q1, q2, q3⟩ := h2
        exact ⟨vs1, q1, q2, fun i b hi => hptr (hcl' b (by simp only [boxesIn]; exact List.mem_of_getElem? hi)) (q3 i b hi)⟩
      | nil => exact h2
      | nilp => exact h2
      | mptr b o p => exact ⟨fun hp => hptr (hcl' b (by simp [boxesIn])) (h2.1 hp), h2.2⟩
      | dptr t x o =>
        obtain ⟨b, k, cs, q1, q2, q3, q4⟩ := h2
        exact ⟨b, k, cs, hRV q1, fun hne => hfree _ (q2 hne), q3, q4⟩
  · rcases hbox b with h1 | h1
    · rw [h1] at hb; cases hb
    · rw [h1] at hb
      obtain ⟨gb, cur, h2, h3, h4⟩ := h.boxes b e n hb
      exact ⟨gb, cur, (hGb hb h1).trans h2, h3, h4⟩
  · rcases hcell b o with h1 | ⟨h1, h2⟩
    · exact absurd h1 hne
    · have hgne : g (.cell b o) ≠ .dead := fun e => by rw [e] at h1; generalize g' (.cell b o) = u at h1 hne; cases h1; exact hne rfl
      obtain ⟨e, n, gb, cur, k1, k2, k3, k4⟩ := h.cells b o hgne
      refine ⟨e, n, gb, cur, h2.trans k1, (hGb k1 h2).trans k2, k3, ?_⟩
      have ht := fun hv => tr (l := .cell b o) (l' := .cell b o) (val := cur.getD o undef) (hcl _) (fun e t xs hl => by simp only [hGdef, imageG, hl]) h1 hv
      generalize hu : g (.cell b o) = u at h1 k4 ht
      generalize hu' : g' (.cell b o) = u' at h1 ht
      cases h1 with
      | dead => trivial
      | dat t x => exact ⟨k4.1, hRV k4.2⟩
      | _ => exact ⟨k4.1, ht k4.2⟩
  · have hsz : ∀ {b o}, g' (.cell b o) ≠ .dead → g (.cell b o) ≠ .dead ∧ (g' (.cell b o)).size = (g (.cell b o)).size := fun {b o} hne => by
      rcases hcell b o with k1 | ⟨k1, _⟩
      · exact absurd k1 hne
      · generalize g (.cell b o) = u at k1
        generalize g' (.cell b o) = u' at k1 hne
        cases k1 <;> first | exact absurd rfl hne | exact ⟨by simp, rfl⟩
    rw [(hsz h1).2, (hsz h2).2]
    exact h.apart b o o' (hsz h1).1 (hsz h2).1 hne
  · rcases hbox b with h1 | h1
    · exact .inl h1
    · rw [h1]; exact h.boxAV b
  · have key : ∀ {u u' : AV}, Im u u' → stampIn (fun n => n = 0) u' := fun him => by cases him <;> first | trivial | exact rfl
    cases l with
    | slot j =>
      rcases hslot j with h1 | ⟨r, _, h1, _⟩ | ⟨t', x', cs, h1, _⟩ | ⟨h1, _⟩
      · rw [h1]; trivial
      · exact key h1
      · rw [h1]; trivial
      · generalize g' (.slot j) = u at h1; cases h1 <;> trivial
    | comp n i => rw [hcomp]; trivial
    | box c =>
      rcases hbox c with h1 | h1
      · rw [h1]; trivial
      · rw [h1]; exact h.stamps _
    | cell c o =>
      rcases hcell c o with h1 | ⟨h1, _⟩
      · rw [h1]; trivial
      · exact key h1
  · exfalso
    cases l with
    | slot j =>
      rcases hslot j with h1 | ⟨r, _, h1, _⟩ | ⟨t', x', cs, h1, _⟩ | ⟨h1, _⟩
      · rw [h1] at hl; cases hl
      · rw [hl] at h1; generalize g (.slot r) = u at h1; cases h1
      · rw [h1] at hl; cases hl
      · rw [hl] at h1; cases h1
    | comp n i => rw [hcomp] at hl; cases hl
    | box b =>
      rcases hbox b with h1 | h1
      · rw [h1] at hl; cases hl
      · rcases h.boxAV b with h2 | ⟨e', n', h2⟩ <;> rw [h1, h2] at hl <;> cases hl
    | cell b o =>
      rcases hcell b o with h1 | ⟨h1, _⟩
      · rw [h1] at hl; cases hl
      · rw [hl] at h1; generalize g (.cell b o) = u at h1; cases h1
  · obtain ⟨cs, h1, h2, h3⟩ := h.globs k d (by rw [← hgl]; exact hk)
    exact ⟨cs, hRV h1, fun hne => hfree _ (h2 hne), h3⟩
  · rcases hbox b with h1 | h1
    · exact absurd h1 hne
    · rcases h.boxAV b with h2 | ⟨e', n', h2⟩
      · rw [h1] at hne; exact absurd h2 hne
      · rw [hGb h2 h1]; exact hpn b gb hp (by rw [h2]; simp)
theorem imageG_some {g' : Mem} {src : Nat → Option Nat} {l : Loc} {b : Nat} (h : imageG g' src G l = some b) : ∃ l', G l' = some b := by
  simp only [imageG] at h
  split at h
  · split at h
    · rw [Option.bind_eq_some_iff] at h
      obtain ⟨r, _, h2⟩ := h
      exact ⟨_, h2⟩
    · exact ⟨_, h⟩
  · split at h
    · exact ⟨_, h⟩
    · cases h
  · cases h
theorem Rel.image (h : Rel Z E N w0 Ow (fun n => n = 0) (fun _ => False) g G a w) {g' : Mem} {vs : List Value} {E' : Env} (hgl : E'.glob = E.glob) (hheld : ∀ b, E.held b = false) (hdl : Ow.dl = []) (hpin : ∀ b gb, Ow.pin b = some gb → vs.length ≤ b)
    {src : Nat → Option Nat}
    (hslot : ∀ j, g' (.slot j) = .dead ∨ (∃ r, src j = some r ∧ Im (g (.slot r)) (g' (.slot j)) ∧ vs.getD j undef = a.tmps.getD r undef) ∨ (∃ t x cs, g' (.slot j) = .dat t x ∧ RV (free Z G w) w t x cs ∧ vs.getD j undef = valOf t cs))
    (hsrc : ∀ j j' r, src j = some r → src j' = some r → j = j')
    (hcomp : ∀ n i, g' (.comp n i) = .dead)
    (hbox : ∀ b, g' (.box b) = .dead ∨ g' (.box b) = g (.box b))
    (hcell : ∀ b o, g' (.cell b o) = .dead ∨ (Im (g (.cell b o)) (g' (.cell b o)) ∧ g' (.box b) = g (.box b)))
    (hcl : ∀ l, ∀ b ∈ boxesIn (g' l), g' (.box b) = g (.box b)) :
    ∃ G', Rel Z E' vs.length w0 Ow (fun n => n = 0) (fun _ => False) g' G' { tmps := vs.toArray, defers := [] } w :=
  ⟨_, h.image' hgl (fun b hb => hb.3) h.os h.tape h.output h.size h.low (fun l b hb => by obtain ⟨l', h1⟩ := imageG_some hb; exact (h.bnd l' b h1).2) h.zow hdl h.pins (fun b gb hp => .inl ⟨hpin b gb hp, ((h.pinR b gb hp).resolve_right (by rw [hheld]; simp)).2⟩) (fun j => (hslot j).imp id fun q => q.imp id .inl) hsrc hcomp hbox hcell hcl⟩
end
end Go.Ev

/- Functions that are handed boxes: entering, leaving. -/
namespace Go.Ev
open Go.RowKit
def RSrc.var : RSrc → ResultVar
  | .slot r => .tmp r
  | .cell r T => .cell r T
/-- Every result that lies in a box can be read. -/
def cellsOk (E : Env) (st : St) : List RSrc → Bool
  | [] => true
  | .slot _ :: r => cellsOk E st r
  | .cell a T :: r => (match resAVOf E st (.cell a T) with
    | .dat _ _ => true
    | _ => false) && cellsOk E st r
def retK3 (E : Env) (rs : List RSrc) (pout : Shape) : Cont (Tup pout) := fun e st => match e with
  | .ret | .normal => bif cellsOk E st rs then unSt pout (outSt E rs pout st) else none
  | _ => none

section
variable {Z : ZS} {E : Env} {N : Nat} {w0 : World} {Ow : OwS} {S D : Nat → Prop} {g : Mem} {G : Ghost} {a a' : Act} {w w' : World} {P : Program}

theorem nres_get : ∀ {sh : Shape} {s : Tup sh} {j : Nat}, St.get (mkSt sh s) (.slot j) ≠ .dead → j < nres sh
  | [], _, _, h => absurd rfl h
  | (l, k) :: r, s, j, h => by
    have ih := fun h' => nres_get (sh := r) (s := s.2) (j := j) h'
    simp only [mkSt, St.get] at h
    cases he : l.eq (.slot j) with
    | true =>
      have := Loc.eq_iff.1 he
      subst this
      simp only [nres]; omega
    | false =>
      rw [he] at h
      have := ih h
      cases l <;> simp only [nres] <;> omega

/-- The frame's other temporaries. -/
theorem Rel.enter {args : List Value} {nt : Nat} (h : Rel Z E args.length w0 Ow S D g G { tmps := args.toArray, defers := [] } w) (hdead : ∀ j, args.length ≤ j → g (.slot j) = .dead) (hnt : args.length ≤ nt) (hpin : ∀ b gb, Ow.pin b = some gb → nt ≤ b) :
    Rel Z E nt w0 Ow S D g G { tmps := args.toArray ++ Array.replicate (nt - args.toArray.size) undef, defers := [] } w := by
  obtain ⟨a0, ha0⟩ : ∃ a0 : Act, a0 = { tmps := args.toArray, defers := [] } := ⟨_, rfl⟩
  obtain ⟨a1, ha1⟩ : ∃ a1 : Act, a1 = { tmps := args.toArray ++ Array.replicate (nt - args.toArray.size) undef, defers := [] } := ⟨_, rfl⟩
  rw [← ha0] at h
  rw [← ha1]
  have hget : ∀ j, a1.tmps.getD j undef = a0.tmps.getD j undef := fun j => by
    rw [ha0, ha1]
    by_cases hj : j < args.length
    · simp [Array.getD_eq_getD_getElem?, Array.getElem?_append, hj]
    · simp [Array.getD_eq_getD_getElem?, Array.getElem?_append, hj, Array.getElem?_replicate]
      split <;> rfl
  have hroot : ∀ l, rootVal G a1 w l = rootVal G a0 w l := fun l => by cases l <;> simp only [rootVal, hget]
  have key : ∀ {l : Loc} {val : Value}, AVR Z g G a0 w (g l) l val → AVR Z g G a1 w (g l) l val := fun {l val} hv => by
    refine AVR.keep S D rfl (fun b hb => ⟨hb, rfl⟩) (fun l st _ _ => ⟨fun e t xs hx => ⟨xs, hx, rfl, hroot l, rfl⟩, fun b o n t xs _ hx _ => ⟨xs, hx⟩⟩) (fun b e n hb => ⟨hb, rfl⟩) (fun _ _ => rfl) (fun _ _ _ _ _ => ⟨rfl, fun _ _ => rfl⟩) (fun _ _ _ _ e => e ▸ rfl) (h.stamps l)
      (fun c u e => ⟨(h.ctx l c u e).1, (h.ctx l c u e).2.1, (h.ctx l c u e).2.2.1, (h.ctx l c u e).2.2.2.2⟩) hv
  exact { h with
    defers := by rw [ha1, ← h.defers, ha0]
    tmps := by rw [ha1]; simp; omega
    slots := fun n => by rw [hget]; exact key (h.slots n)
    comps := fun n k i h1 h2 => by rw [hget]; exact key (h.comps n k i h1 h2)
    cells := fun b o hne => by
      obtain ⟨e, n, gb, cur, h1, h2, h3, h4⟩ := h.cells b o hne
      refine ⟨e, n, gb, cur, h1, h2, h3, ?_⟩
      have hk := key (l := .cell b o) (val := cur.getD o undef)
      generalize g (.cell b o) = v at h4 hk
      cases v with
      | dead => trivial
      | dat t x => exact h4
      | _ => exact ⟨h4.1, hk h4.2⟩
    pinR := fun b gb hp => (h.pinR b gb hp).imp (fun q => ⟨hpin b gb hp, q.2⟩) id }

theorem get_outSt {rs : List RSrc} {st : St} : ∀ {pout : Shape} (l : Loc), St.get (outSt E rs pout st) l = .dead ∨ ∃ k, (l, k) ∈ pout ∧ St.get (outSt E rs pout st) l = match l with
    | .slot j => (match rs[j]? with
      | some r => convK k (resAVOf E st r)
      | none => .dead)
    | l => convK k (st.get l)
  | [], l => .inl rfl
  | p :: r, l => by
    simp only [outSt, List.map_cons, St.get]
    cases he : p.1.eq l with
    | true =>
      have := Loc.eq_iff.1 he
      subst this
      exact .inr ⟨p.2, by simp, rfl⟩
    | false =>
      rcases get_outSt (rs := rs) (st := st) (pout := r) l with h1 | ⟨k, h1, h2⟩
      · exact .inl h1
      · exact .inr ⟨k, List.mem_cons_of_mem _ h1, h2⟩
theorem convK_bx {k : Kd} {v : AV} (hv : v = .dead ∨ ∃ e n, v = .bx e n) : convK k v = v := by
  rcases hv with rfl | ⟨e, n, rfl⟩ <;> cases k <;> rfl
theorem closedP_mem {bs : List Nat} : ∀ {pout : Shape}, closedP bs pout = true → ∀ {l k}, (l, k) ∈ pout → closedK bs k = true ∧ (∀ b o, l = .cell b o → b ∈ bs) ∧ ∀ n i, l ≠ .comp n i
  | [], _, _, _, h => by simp at h
  | (l0, k0) :: r, hc, l, k, h => by
    simp only [closedP, Bool.and_eq_true] at hc
    rcases List.mem_cons.1 h with h | h
    · cases h
      refine ⟨hc.1.1, fun b o e => ?_, fun n i e => ?_⟩
      · subst e
        have := hc.1.2
        simp only [List.any_eq_true] at this
        obtain ⟨c, h1, h2⟩ := this
        rw [← Nat.eq_of_beq_eq_true h2]; exact h1
      · subst e; simp at hc
    · exact closedP_mem hc.2 h
/-- What is told of a place fits its kind. -/
theorem mkSt_kind : ∀ {sh : Shape} {s : Tup sh} (l : Loc), St.get (mkSt sh s) l = .dead ∨ ∃ k x, (l, k) ∈ sh ∧ St.get (mkSt sh s) l = k.mk x
  | [], _, _ => .inl rfl
  | p :: r, s, l => by
    simp only [mkSt, St.get]
    cases he : p.1.eq l with
    | true =>
      have := Loc.eq_iff.1 he
      subst this
      exact .inr ⟨p.2, s.1, by simp, rfl⟩
    | false =>
      rcases mkSt_kind (sh := r) (s := s.2) l with h1 | ⟨k, x, h1, h2⟩
      · exact .inl h1
      · exact .inr ⟨k, x, List.mem_cons_of_mem _ h1, h2⟩
theorem im_conv {bs : List Nat} {k : Kd} (hk : closedK bs k = true) {v : AV} {x : k.den} (h : convK k v = k.mk x) : Im v (convK k v) := by
  have hk : k ≠ .yld := by rintro rfl; cases hk
  cases k <;> cases v <;> simp only [convK] at h ⊢ <;> simp only [Kd.mk] at h <;> first | (exact absurd rfl hk) | (cases h; done) | (cases h; constructor) | constructor
theorem boxes_mk {bs : List Nat} {k : Kd} {x : k.den} (hc : closedK bs k = true) : ∀ b ∈ boxesIn (k.mk x), b ∈ bs := by
  intro b hb
  cases k <;> simp [Kd.mk, boxesIn] at hb
  · subst hb
    simp only [closedK, List.any_eq_true] at hc
    obtain ⟨c, h1, h2⟩ := hc
    rw [← Nat.eq_of_beq_eq_true h2]; exact h1
  · simp only [closedK, List.all_eq_true, List.any_eq_true] at hc
    obtain ⟨c, h1, h2⟩ := hc b hb
    rw [← Nat.eq_of_beq_eq_true h2]; exact h1
  · subst hb
    simp only [closedK, List.any_eq_true] at hc
    obtain ⟨c, h1, h2⟩ := hc
    rw [← Nat.eq_of_beq_eq_true h2]; exact h1

/-- A box that comes back is told. -/
theorem outSt_box {rs : List RSrc} {st : St} : ∀ {pout : Shape} {o : Tup pout}, unSt pout (outSt E rs pout st) = some o → boxesBx pout = true → ∀ b ∈ outBoxes pout, St.get (outSt E rs pout st) (.box b) ≠ .dead
  | [], _, _, _, b, hb => by simp [outBoxes] at hb
  | (l, k) :: r, o, hu, hbb, b, hb => by
    simp only [outSt, List.map_cons, unSt] at hu
    rw [Loc.eq_iff.2 rfl] at hu
    simp only [cond_true] at hu
    split at hu
    · rename_i x hx
      split at hu
      · rename_i s hs
        have hk := Kd.un_some hx
        simp only [outSt, List.map_cons, St.get]
        cases he : l.eq (.box b) with
        | true =>
          have := Loc.eq_iff.1 he
          subst this
          have hk' : convK k (st.get (.box b)) = k.mk x := hk
          simp only [cond_true]
          rw [hk']
          cases k <;> simp [boxesBx] at hbb
          simp [Kd.mk]
        | false =>
          refine outSt_box hs ?_ b ?_
          · cases l <;> cases k <;> simp [boxesBx] at hbb ⊢ <;> exact hbb
          · cases l with
            | box c =>
              have : c ≠ b := fun e => by subst e; rw [Loc.eq_iff.2 rfl] at he; cases he
              simpa [outBoxes, Ne.symm this] using hb
            | _ => simpa [outBoxes] using hb
      · cases hu
    · cases hu

/-- The values that are handed back. -/
theorem results_vals (hE : TabOk P E.tab) {st : St} : ∀ {rs : List RSrc} {G : Ghost}, Rel Z E N w0 Ow (fun n => n = 0) (fun _ => False) (St.get st) G a w → cellsOk E st rs = true → ∃ (vs : List Value) (G1 : Ghost), vs.length = rs.length ∧
    Rel Z E N w0 Ow (fun n => n = 0) (fun _ => False) (St.get st) G1 a w ∧ (∀ b, free Z G w b → free Z G1 w b) ∧
    ((rs.map RSrc.var).mapM fun
      | .tmp t => pure (a.tmps.getD t undef)
      | .cell x t => do loadVar t (← asAddr (a.tmps.getD x undef)) : Sem (List Value)).run P w = .ok vs w ∧
    ∀ (j : Nat) r, rs[j]? = some r → match r with
      | .slot x => vs.getD j undef = a.tmps.getD x undef
      | .cell x T => ∃ t y cs, resAVOf E st (.cell x T) = .dat t y ∧ RV (free Z G1 w) w t y cs ∧ vs.getD j undef = valOf t cs
  | [], G, h, _ => ⟨[], G, rfl, h, fun _ hb => hb, rfl, by simp⟩
  | .slot x :: rs, G, h, hc => by
    obtain ⟨vs, G1, h1, h0, hm, h2, h3⟩ := results_vals hE (rs := rs) h hc
    refine ⟨a.tmps.getD x undef :: vs, G1, by simp [h1], h0, hm, ?_, fun j r hj => ?_⟩
    · rw [List.map_cons, List.mapM_cons]
      simp only [RSrc.var, Sem.run_bind, Sem.run_pure, Result.andThen_ok, h2]
    · cases j with
      | zero => simp at hj; subst hj; rfl
      | succ j => simpa using h3 j r (by simpa using hj)
  | .cell x T :: rs, G, h, hc => by
    simp only [cellsOk, Bool.and_eq_true] at hc
    have hd := hc.1
    obtain ⟨t, y, hav⟩ : ∃ t y, resAVOf E st (.cell x T) = .dat t y := by
      split at hd
      · rename_i t y e; exact ⟨t, y, e⟩
      · cases hd
    have hav0 := hav
    simp only [resAVOf] at hav
    split at hav
    · rename_i b c t' hp htt
      split at hav
      · rename_i y' hg
        cases hav
        have hs := h.slots x
        rw [hp] at hs
        obtain ⟨e, k, gb, k1, k2, k3⟩ := hs
        obtain ⟨gb', cur, k4, k5, k6⟩ := h.boxes b e k k1
        rw [k2] at k4; cases k4
        obtain ⟨G1, q1, q2, q3, q4, q5, q6, q7⟩ := gather_frz k2 k5 h k1 k2 hg
        have hrun : (Instr.loadAt T (.pointer (some ⟨gb, c, none⟩))).run P w = .ok (valOf t ((cur.toList.drop c).take t.sz)) w := by
          refine load_run hE htt ?_ q2.len
          rcases q3 with q3 | q3
          · intro j hj; rw [q3] at hj; simp at hj
          · exact (at_block k5 q3).1
        have hrun2 : (loadVar T ⟨gb, c, none⟩).run P w = .ok (valOf t ((cur.toList.drop c).take t.sz)) w := by
          simpa [Instr.loadAt, Instr.sureAddr] using hrun
        obtain ⟨vs, G2, h1, h0, hm, h2, h3⟩ := results_vals hE (rs := rs) q1 hc.2
        refine ⟨valOf t ((cur.toList.drop c).take t.sz) :: vs, G2, by simp [h1], h0, fun b hb => hm b (q4 b hb), ?_, fun j r hj => ?_⟩
        · have hhead : (do loadVar T (← asAddr (a.tmps.getD x undef)) : Sem Value).run P w = .ok (valOf t ((cur.toList.drop c).take t.sz)) w := by
            rw [k3, Sem.run_bind]
            simp only [asAddr, Sem.run_pure, Result.andThen_ok, hrun2]
          rw [List.map_cons, List.mapM_cons, Sem.run_bind]
          refine (congrArg (Result.andThen · _) hhead).trans ?_
          rw [Result.andThen_ok, Sem.run_bind, h2, Result.andThen_ok, Sem.run_pure]
        · cases j with
          | zero => simp at hj; subst hj; exact ⟨t, y, _, hav0, q2.keep (fun _ _ => rfl) hm, rfl⟩
          | succ j => simpa using h3 j r (by simpa using hj)
      · cases hav
    · cases hav
end
end Go.Ev

/- Functions that are handed boxes: the contract. -/
namespace Go.Ev
open Go.RowKit
section
variable {Z : ZS} {E : Env} {N : Nat} {w0 : World} {Ow : OwS} {S D : Nat → Prop} {g : Mem} {G : Ghost} {a a' : Act} {w w' : World} {P : Program}

def srcAV (E : Env) (rs : List RSrc) (st : St) (k : Kd) : Loc → AV
  | .slot j => (match rs[j]? with
    | some r => convK k (resAVOf E st r)
    | none => .dead)
  | l => convK k (st.get l)
theorem outSt_get {rs : List RSrc} {st : St} : ∀ {pout : Shape} {o : Tup pout}, unSt pout (outSt E rs pout st) = some o → ∀ l, St.get (outSt E rs pout st) l = .dead ∨ ∃ k x, (l, k) ∈ pout ∧ St.get (outSt E rs pout st) l = k.mk x ∧ St.get (outSt E rs pout st) l = srcAV E rs st k l
  | [], _, _, l => .inl rfl
  | (l0, k) :: r, o, hu, l => by
    simp only [outSt, List.map_cons, unSt] at hu
    rw [Loc.eq_iff.2 rfl] at hu
    simp only [cond_true] at hu
    split at hu
    · rename_i x hx
      split at hu
      · rename_i s hs
        have hk := Kd.un_some hx
        simp only [outSt, List.map_cons, St.get]
        cases he : l0.eq l with
        | true =>
          have := Loc.eq_iff.1 he
          subst this
          refine .inr ⟨k, x, by simp, hk, ?_⟩
          cases l0 <;> rfl
        | false =>
          rcases outSt_get hs l with h1 | ⟨k', x', h1, h2⟩
          · exact .inl h1
          · exact .inr ⟨k', x', List.mem_cons_of_mem _ h1, h2⟩
      · cases hu
    · cases hu
theorem ownSlots_mem : ∀ {rs : List RSrc} {j r : Nat}, rs[j]? = some (.slot r) → r ∈ ownSlots rs
  | [], _, _, h => by simp at h
  | .slot x :: rs, 0, r, h => by simp at h; subst h; simp [ownSlots]
  | .slot x :: rs, j + 1, r, h => by simp only [ownSlots]; exact List.mem_cons_of_mem _ (ownSlots_mem (by simpa using h))
  | .cell x T :: rs, 0, r, h => by simp at h
  | .cell x T :: rs, j + 1, r, h => by simp only [ownSlots]; exact ownSlots_mem (by simpa using h)
theorem ownSlots_inj : ∀ {rs : List RSrc} {j j' r : Nat}, distinct (ownSlots rs) = true → rs[j]? = some (.slot r) → rs[j']? = some (.slot r) → j = j'
  | [], _, _, _, _, h, _ => by simp at h
  | .cell x T :: rs, j, j', r, hd, h, h' => by
    cases j with
    | zero => simp at h
    | succ j => cases j' with
      | zero => simp at h'
      | succ j' => exact congrArg Nat.succ (ownSlots_inj (rs := rs) (r := r) hd (by simpa using h) (by simpa using h'))
  | .slot x :: rs, j, j', r, hd, h, h' => by
    simp only [ownSlots, distinct, Bool.and_eq_true, Bool.not_eq_true'] at hd
    have hno : ∀ {j}, rs[j]? = some (RSrc.slot x) → False := fun hj => by
      have := List.any_eq_false.1 hd.1 x (ownSlots_mem hj)
      simp at this
    cases j with
    | zero =>
      simp at h; subst h
      cases j' with
      | zero => rfl
      | succ j' => exact (hno (by simpa using h')).elim
    | succ j => cases j' with
      | zero => simp at h'; subst h'; exact (hno (by simpa using h)).elim
      | succ j' => exact congrArg Nat.succ (ownSlots_inj (rs := rs) (r := r) hd.2 (by simpa using h) (by simpa using h'))

theorem results_run2 {fn : Func} {rs : List RSrc} (hres : fn.results = (rs.map RSrc.var).toArray) {tmps : Array Value} {vs : List Value}
    (h : ((rs.map RSrc.var).mapM fun
      | .tmp t => pure (tmps.getD t undef)
      | .cell x t => do loadVar t (← asAddr (tmps.getD x undef)) : Sem (List Value)).run P w = .ok vs w) : (results fn tmps).run P w = .ok (retVal vs) w := by
  unfold results
  rw [hres]
  simp only [Sem.run_bind, Array.mapM_eq_mapM_toList, List.toList_toArray]
  rw [Sem.run_map]
  refine (congrArg (Result.andThen · _) (congrArg (Result.andThen · _) h)).trans ?_
  simp only [Result.andThen_ok, Sem.run_pure]
  congr 1
  match vs with
  | [] => rfl
  | [v] => rfl
  | _ :: _ :: _ => simp [retVal]

/-- What a function needs to be so that its contract can be told. -/
structure Fit (fn : Func) (rs : List RSrc) (Sp : Spec2) : Prop where
  res : fn.results = (rs.map RSrc.var).toArray
  len : rs.length = nres Sp.pout
  dist : distinct (ownSlots rs) = true
  closed : closedP (outBoxes Sp.pout) Sp.pout = true
  bx : boxesBx Sp.pout = true
  few : nres Sp.pout ≤ 50000
  par : nres Sp.pin ≤ fn.ntmps
  tmps : fn.ntmps ≤ 50000

/-- **The function is left.** -/
theorem leave2 (hE : TabOk P E.tab) (hheld : ∀ b, E.held b = false) {fn : Func} {rs : List RSrc} {Sp : Spec2} (hfit : Fit fn rs Sp) (hdl : Ow.dl = []) (hpin : ∀ b gb, Ow.pin b = some gb → 50000 ≤ b) {st : St} (h : Rel Z E N w0 Ow (fun n => n = 0) (fun _ => False) (St.get st) G a w) {e : Exit} {o : Tup Sp.pout} (hret : retK3 E rs Sp.pout e st = some o) :
    (e = .ret ∨ e = .normal) ∧ ∃ vs G', vs.length = nres Sp.pout ∧ (results fn a.tmps).run P w = .ok (retVal vs) w ∧ Rel Z (globE E.glob) vs.length w0 Ow (fun n => n = 0) (fun _ => False) (St.get (mkSt Sp.pout o)) G' { tmps := vs.toArray, defers := [] } w := by
  have main : (bif cellsOk E st rs then unSt Sp.pout (outSt E rs Sp.pout st) else none) = some o → ∃ vs G', vs.length = nres Sp.pout ∧ (results fn a.tmps).run P w = .ok (retVal vs) w ∧ Rel Z (globE E.glob) vs.length w0 Ow (fun n => n = 0) (fun _ => False) (St.get (mkSt Sp.pout o)) G' { tmps := vs.toArray, defers := [] } w := by
    intro hr
    cases hc : cellsOk E st rs with
    | false => rw [hc] at hr; cases hr
    | true =>
      rw [hc] at hr
      simp only [cond_true] at hr
      obtain ⟨vs, G1, h1, h0, _, h2, h3⟩ := results_vals hE h hc
      have hget := outSt_get hr
      have hall := outSt_box hr hfit.bx
      rw [← unSt_some hr]
      have hsl : ∀ l, St.get (outSt E rs Sp.pout st) l ≠ .dead → ∃ k x, (l, k) ∈ Sp.pout ∧ St.get (outSt E rs Sp.pout st) l = k.mk x ∧ St.get (outSt E rs Sp.pout st) l = srcAV E rs st k l := fun l hl => (hget l).resolve_left hl
      have hbx : ∀ b, St.get (outSt E rs Sp.pout st) (.box b) = .dead ∨ St.get (outSt E rs Sp.pout st) (.box b) = st.get (.box b) := fun b => by
        rcases hget (.box b) with q | ⟨k, x, q1, q2, q3⟩
        · exact .inl q
        · right
          rw [q3]
          exact convK_bx (h.boxAV b)
      have hin : ∀ b ∈ outBoxes Sp.pout, St.get (outSt E rs Sp.pout st) (.box b) = st.get (.box b) := fun b hb => (hbx b).resolve_left (hall b hb)
      obtain ⟨G', hG'⟩ := h0.image (g' := St.get (outSt E rs Sp.pout st)) (vs := vs) (E' := globE E.glob) rfl hheld hdl (fun b gb hp => by have := hpin b gb hp; have := hfit.few; have := hfit.len; omega)
        (src := fun j => match rs[j]? with
          | some (.slot r) => some r
          | _ => none)
        (fun j => by
          rcases hget (.slot j) with q | ⟨k, x, q1, q2, q3⟩
          · exact .inl q
          · cases hj : rs[j]? with
            | none => left; rw [q3]; simp only [srcAV, hj]
            | some r =>
              have hv := h3 j r hj
              cases r with
              | slot y =>
                right; left
                refine ⟨y, rfl, ?_, hv⟩
                rw [q2] at q3
                rw [q2]
                simp only [srcAV, hj, resAVOf] at q3
                rw [q3]
                exact im_conv (closedP_mem hfit.closed q1).1 q3.symm
              | cell y T =>
                right; right
                obtain ⟨t, z, cs, k1, k2, k3⟩ := hv
                refine ⟨t, z, cs, ?_, k2, k3⟩
                rw [q3]
                simp only [srcAV, hj, k1]
                cases k <;> rfl)
        (fun j j' r hj hj' => by
          have h1 : rs[j]? = some (.slot r) := by
            revert hj; cases rs[j]? with
            | none => intro hj; cases hj
            | some x => cases x <;> intro hj <;> cases hj; rfl
          have h2 : rs[j']? = some (.slot r) := by
            revert hj'; cases rs[j']? with
            | none => intro hj; cases hj
            | some x => cases x <;> intro hj <;> cases hj; rfl
          exact ownSlots_inj hfit.dist h1 h2)
        (fun n i => by
          rcases hget (.comp n i) with q | ⟨k, x, q1, q2, q3⟩
          · exact q
          · exact absurd rfl ((closedP_mem hfit.closed q1).2.2 n i))
        hbx
        (fun b j => by
          rcases hget (.cell b j) with q | ⟨k, x, q1, q2, q3⟩
          · exact .inl q
          · right
            refine ⟨?_, hin b ((closedP_mem hfit.closed q1).2.1 b j rfl)⟩
            rw [q2] at q3
            rw [q2, q3]
            simp only [srcAV] at q3 ⊢
            exact im_conv (closedP_mem hfit.closed q1).1 q3.symm)
        (fun l b hb => by
          rcases hget l with q | ⟨k, x, q1, q2, q3⟩
          · rw [q] at hb; simp [boxesIn] at hb
          · rw [q2] at hb
            exact hin b (boxes_mk (closedP_mem hfit.closed q1).1 b hb))
      exact ⟨vs, G', h1.trans hfit.len, results_run2 hfit.res h2, hG'⟩
  cases e with
  | ret => exact ⟨.inl rfl, main hret⟩
  | normal => exact ⟨.inr rfl, main hret⟩
  | _ => simp [retK3] at hret

/-- **A function that is handed boxes meets what 'ev2' answers of its body.** -/
theorem meets2_of_ev2 (hE : EnvOk P E) (hheld : ∀ b, E.held b = false) (hm : P.follows .mixedOrders = true) {f : Nat} {fn : Func} {c : Code} (hf : P.funcs[f]? = some fn) (hname : ∀ args w, (callFunc f args).run P w = .ok (.enter f args) w) (hb : fn.body = some c)
    {O : Orc} (hN : O.n = fn.ntmps) {L : Nat → Option Sum} (hL : LoopsOk E O L c) (hR : RangesOk P E O.n L c) {Sp : Spec2} {rs : List RSrc} (hfit : Fit fn rs Sp)
    (hev : ∀ s o, Sp.f s = some o → ev2 E O L c (mkSt Sp.pin s) (retK3 E rs Sp.pout) = some o) : Meets2 P E.glob f Sp := by
  refine ⟨hname, fun Z w Ow G args s o hso hdl hpin hal h => ?_⟩
  have h1 := (Rel.env (E' := E) h rfl (fun b hb => by simp [globE] at hb)).enter (nt := fn.ntmps) (fun j hj => Classical.byContradiction fun hne => by have := nres_get hne; omega) (by rw [hal]; exact hfit.par) (fun b gb hp => by have := hpin b gb hp; have := hfit.tmps; omega)
  rw [← callsIn_wide (n := 0)]
  have hz : ∀ b, (Ow b ∨ w.heap.size ≤ b) → Z b := fun b hb => h.zow b hb
  refine callsIn_of_wp_marks hf hb trivial (ev2_sound hE (plain_wide P) hm hN hdl hz c hL (.inl ⟨hN ▸ hR, rfl⟩) (mkSt Sp.pin s) (retK3 E rs Sp.pout) (bodyPostM Fence.wide 0 P fn _) G _ w (fun e a w' st hK hX => ?_) (hev s o hso) h1)
  have main : LeavesInM Fence.wide 0 P fn a.tmps (fun e w' => ∃ vs G', e = .returned (retVal vs) ∧ vs.length = nres Sp.pout ∧ Rel Z (globE E.glob) vs.length w Ow (fun n => n = 0) (fun _ => False) (St.get (mkSt Sp.pout o)) G' { tmps := vs.toArray, defers := [] } w') a.defers .returning w' := by
    refine leaveX hz hdl hX (fun w'' G'' hR => ?_)
    obtain ⟨_, vs, G', k1, k2, k3⟩ := leave2 hE.tab hheld hfit hdl hpin hR hK
    exact ⟨_, k2, vs, G', rfl, k1, k3⟩
  cases e with
  | ret => exact main
  | normal => exact main
  | _ => simp [retK3] at hK
end
end Go.Ev

/- Iterators: functions that call yield. -/
namespace Go.Ev
open Go.RowKit

/-- What was yielded, and what is answered. -/
abbrev YW (Y V : Type) := Option (List Y × V)
def YW.bind {Y V U : Type} (m : YW Y V) (f : V → YW Y U) : YW Y U := match m with
  | some (ys, v) => (match f v with
    | some (zs, u) => some (ys ++ zs, u)
    | none => none)
  | none => none
theorem YW.bind_assoc {Y V U T : Type} (m : YW Y V) (f : V → YW Y U) (h : U → YW Y T) : (m.bind f).bind h = m.bind fun v => (f v).bind h := by
  cases m with
  | none => rfl
  | some p =>
    obtain ⟨ys, v⟩ := p
    show YW.bind (match f v with | some (zs, u) => some (ys ++ zs, u) | none => none) h = match (f v).bind h with | some (zs, u) => some (ys ++ zs, u) | none => none
    cases f v with
    | none => rfl
    | some q =>
      obtain ⟨zs, u⟩ := q
      show (match h u with | some (ts, t) => some (ys ++ zs ++ ts, t) | none => none) = match (match h u with | some (ts, t) => some (zs ++ ts, t) | none => none) with | some (zs, u) => some (ys ++ zs, u) | none => none
      cases h u with
      | none => rfl
      | some r => obtain ⟨ts, t⟩ := r; simp
theorem YW.bind_some {Y V U : Type} {m : YW Y V} {f : V → YW Y U} {r : List Y × U} (h : m.bind f = some r) : ∃ ys v zs, m = some (ys, v) ∧ f v = some (zs, r.2) ∧ r.1 = ys ++ zs := by
  cases m with
  | none => simp [YW.bind] at h
  | some p =>
    obtain ⟨ys, v⟩ := p
    simp only [YW.bind] at h
    split at h
    · rename_i zs u hf
      cases h
      exact ⟨ys, v, zs, rfl, hf, rfl⟩
    · cases h
/-- x is yielded if g stands; should the consumer stop, 'stop' has to be so. -/
def yieldW {Y V : Type} (g : Bool) (x : Y) (stop : Option Unit) (A : YW Y V) : YW Y V := match A with
  | some (ys, v) => bif g then (match stop with
    | some _ => some (x :: ys, v)
    | none => none) else some (ys, v)
  | none => none
theorem yieldW_bind {Y V U : Type} (g : Bool) (x : Y) (stop : Option Unit) (A : YW Y V) (f : V → YW Y U) : yieldW g x stop (A.bind f) = (yieldW g x stop A).bind f := by
  cases A with
  | none => rfl
  | some p =>
    obtain ⟨ys, v⟩ := p
    cases g
    · show yieldW false x stop (match f v with | some (zs, u) => some (ys ++ zs, u) | none => none) = _
      cases hf : f v with
      | none => simp [yieldW, YW.bind, hf]
      | some q => simp [yieldW, YW.bind, hf]
    · cases stop
      · show yieldW true x none (match f v with | some (zs, u) => some (ys ++ zs, u) | none => none) = _
        cases f v <;> rfl
      · show yieldW true x _ (match f v with | some (zs, u) => some (ys ++ zs, u) | none => none) = _
        cases hf : f v with
        | none => simp [yieldW, YW.bind, hf]
        | some q => simp [yieldW, YW.bind, hf]
theorem yieldW_some {Y V : Type} {g : Bool} {x : Y} {stop : Option Unit} {A : YW Y V} {r : List Y × V} (h : yieldW g x stop A = some r) : ∃ ys, A = some (ys, r.2) ∧ r.1 = (if g then x :: ys else ys) ∧ (g = true → stop.isSome = true) := by
  cases A with
  | none => simp [yieldW] at h
  | some p =>
    obtain ⟨ys, v⟩ := p
    cases g with
    | false => simp [yieldW] at h; subst h; exact ⟨ys, rfl, rfl, by simp⟩
    | true =>
      cases stop with
      | none => simp [yieldW] at h
      | some u => simp [yieldW] at h; subst h; exact ⟨ys, rfl, rfl, fun _ => rfl⟩

/-- An iterator: what it is handed, what it yields. -/
structure ISpec where
  pin : Shape
  Y : Type
  enc : Y → List Dat
  f : Tup pin → Option (List Y)

/-- The consumer's side: J holds between the rounds, Jx behind the last one; T: blocks that are the iterator's, C: the consumer's. -/
structure Turn {Y : Type} (enc : Y → List Dat) (ys : List Y) (P : Program) (l : Nat) (Z0 : Nat → Prop) (J : List Y → (Nat → Prop) → (Nat → Prop) → World → Prop) (Jx : (Nat → Prop) → (Nat → Prop) → World → Prop) : Prop where
  later : ∀ {pre T C W W'}, J pre T C W → W'.os = W.os → W'.tape = W.tape → W'.output = W.output → W.heap.size ≤ W'.heap.size → (∀ b, b < W.heap.size → ¬ T b → W'.heap[b]? = W.heap[b]?) → J pre (fun b => T b ∨ (W.heap.size ≤ b ∧ b < W'.heap.size)) C W'
  laterx : ∀ {T C W W'}, Jx T C W → W'.os = W.os → W'.tape = W.tape → W'.output = W.output → W.heap.size ≤ W'.heap.size → (∀ b, b < W.heap.size → ¬ T b → W'.heap[b]? = W.heap[b]?) → Jx (fun b => T b ∨ (W.heap.size ≤ b ∧ b < W'.heap.size)) C W'
  less : ∀ {pre T C W} {T' : Nat → Prop}, J pre T C W → (∀ b, T' b → T b) → J pre T' C W
  apart : ∀ {pre T C W}, J pre T C W → ∀ b, C b → b < W.heap.size
  round : ∀ {pre T C W x}, J pre T C W → (pre ++ [x]) <+: ys → ∀ (Pr : Nat → Prop) (vs : List Value), ArgsR Pr W (enc x) vs → (∀ b, Pr b → b < W.heap.size ∧ ¬ C b ∧ ¬ T b ∧ Z0 b) → ∀ m, ∃ fn tmps assign body, (Instr.yield l vs.toArray).run P W = .ok (.round l fn tmps assign body) W ∧ RoundIn Fence.wide m P l fn tmps assign body W fun e W' =>
    (W'.os = W.os ∧ W'.tape = W.tape ∧ W'.output = W.output ∧ W.heap.size ≤ W'.heap.size ∧ (∀ b, b < W.heap.size → ¬ C b → W'.heap[b]? = W.heap[b]?)) ∧
    ∃ C', (∀ b, C' b → C b ∨ W.heap.size ≤ b) ∧ (∀ b, C' b → b < W'.heap.size) ∧ ((e = .returned (.bool true) ∧ J (pre ++ [x]) T C' W') ∨ (e = .returned (.bool false) ∧ Jx T C' W'))

/-- **What is said of an iterator**: it yields these values, one after the other, until it has been told to stop. -/
structure IterOk (P : Program) (glob : Nat → Option Dat) (gf : Nat) (I : ISpec) : Prop where
  enter : ∀ args w, (callFunc gf args).run P w = .ok (.enter gf args) w
  calls : ∀ (Z : ZS) (w : World) (Ow : OwS) (G : Ghost) (args : List Value) (l : Nat) (s : Tup I.pin) (ys : List I.Y), I.f s = some ys → Ow.dl = [] → (∀ b gb, Ow.pin b = some gb → 50000 ≤ b) → args.length = max 1 (nres I.pin) → Z.yl = l → args.getD 0 undef = .func (.yield l) #[] #[] →
    Rel Z (globE glob) args.length w Ow (fun n => n = 0) (fun _ => False) (St.get (mkSt I.pin s)) G { tmps := args.toArray, defers := [] } w →
    ∀ J Jx, Turn I.enc ys P l Z.z J Jx → ∀ (T C : Nat → Prop), J [] T C w → (∀ b, Ow b → T b) → (∀ b, C b → ¬ Z b) →
      Calls P gf args.toArray w fun e W => (∃ v, e = .returned v) ∧ ∃ T C, J ys T C W ∨ Jx T C W

/-! ### The evaluator of an iterator -/
/-- A call of yield. -/
def yieldOp (o : Oper) (g : Loc → AV) : Option (Nat × List Operand × List Nat) := match o.op with
  | .call c => (match c.callee with
    | .value (.tmp t) => (match g (.slot t) with
      | .yld => some (t, c.args.toList, c.argTypes.toList)
      | .opt _ .yld => some (t, c.args.toList, c.argTypes.toList)
      | _ => none)
    | _ => none)
  | _ => none
def wrapC : Ctx → AV → AV
  | [], v => v
  | p :: c, v => .opt (p :: c) v
def evYOps {Y V : Type} (E : Env) (ts : List Ty) (mk : List Dat → Option Y) (ops : List Oper) : List Oper → Nat → St → (St → YW Y V) → (St → Option Unit) → YW Y V
  | [], _, st, K, _ => K st
  | o :: r, i, st, K, K2 => match yieldOp o st.get with
    | none => (match (opQ E ops i o).run st.get with
      | some f => bif f.test then evYOps E ts mk ops r (i + 1) (st.sets f.writes) K K2 else none
      | none => none)
    | some (t, xs, Ts) => match o.dst, ctxOf ops ops.length o.guard with
      | some d, some ctx => (match (gcond ctx).run st.get, (argsQ E ctx true ts xs Ts).run st.get, (rd E ctx (.tmp t)).run st.get with
        | some g, some (ds, []), some .yld => (match mk ds with
          | some x => yieldW g x (evOps E ops r (i + 1) ((.slot d, wrapC ctx (.dat .bool false)) :: st) K2) (evYOps E ts mk ops r (i + 1) ((.slot d, wrapC ctx (.dat .bool true)) :: st) K K2)
          | none => none)
        | _, _, _ => none)
      | _, _ => none
abbrev SumY (Y : Type) := ∀ V : Type, St → (Exit → St → YW Y V) → YW Y V
def lookY {Y : Type} (L : Nat → Option (SumY Y)) : Option Nat → Option (SumY Y)
  | some k => L k
  | none => none
/-- The stop is heard: the function is left. -/
def retOnly : Cont Unit := fun e _ => match e with
  | .ret => some ()
  | _ => none
def noL : Nat → Option Sum := fun _ => none
def evY {Y V : Type} (E : Env) (O : Orc) (L : Nat → Option (SumY Y)) (ts : List Ty) (mk : List Dat → Option Y) : Code → St → (Exit → St → YW Y V) → Cont Unit → YW Y V
  | .skip, st, K, _ => K .normal st
  | .region id ops draw, st, K, K2 =>
    bif draw then (bif regionOk O.n ops.toList && drawOk E ops.toList (normO (O.i id) st) then evOps E ops.toList ops.toList 0 (normO (O.i id) st) fun st' => K .normal (norm (O.o id) st') else none)
    else (bif regionOk O.n ops.toList then evYOps E ts mk ops.toList ops.toList 0 (normO (O.i id) st) (fun st' => K .normal (norm (O.o id) st')) (fun st' => K2 .normal (norm (O.o id) st')) else none)
  | .seq a b, st, K, K2 => evY E O L ts mk a st (fun e st' => match e with
    | .normal => evY E O L ts mk b st' K K2
    | e => K e st') (fun e st' => match e with
    | .normal => ev2 E O noL b st' K2
    | e => K2 e st')
  | .cond c x y, st, K, K2 => match condQ st c with
    | some b => bif b then evY E O L ts mk x (dropO O.c true st c) K K2 else evY E O L ts mk y (dropO O.c false st c) K K2
    | none => none
  | .block id c, st, K, K2 => evY E O L ts mk c st (fun e st' => match e with
    | .exit id' => if id' = id then K .normal st' else K (.exit id') st'
    | e => K e st') (fun e st' => match e with
    | .exit id' => if id' = id then K2 .normal st' else K2 (.exit id') st'
    | e => K2 e st')
  | .loop c, st, K, _ => match lookY L (keyOf c) with
    | some f => f V st K
    | none => none
  | .exit id, st, K, _ => K (.exit id) st
  | .ret, st, K, _ => K .ret st
  | .label _, st, K, _ => K .normal st
  | _, _, _, _ => none

section
variable {Z : ZS} {E : Env} {N : Nat} {w0 : World} {Ow : OwS} {P : Program} {F : Fence} {n : Nat}

theorem wrapC_nil (c : Ctx) (v : AV) (h : c = []) : wrapC c v = v := by subst h; rfl
/-- **A call of yield.** -/
theorem yield_step {Y : Type} {enc : Y → List Dat} {ys : List Y} {l : Nat} {J : List Y → (Nat → Prop) → (Nat → Prop) → World → Prop} {Jx : (Nat → Prop) → (Nat → Prop) → World → Prop} {Z0 : Nat → Prop} (T : Turn enc ys P l Z0 J Jx)
    {ops : Array Oper} (hok : RegOk N ops.toList) {X : Nat → Prop} {g : Mem} {G : Ghost} {a : Act} {w : World} (h : Inv Z E N w0 Ow ops.toList X g G a w) {i : Nat} {o : Oper} (ho : ops.toList[i]? = some o) (hX : ¬ X i) (hgX : ∀ k want, o.guard = some (k, want) → X k)
    {pre : List Y} {tt cc : Nat → Prop} (hJ : J pre tt cc w0) (hOT : ∀ b, Ow b → tt b) (hCZ : ∀ b, cc b → ¬ Z b) (hZ0 : ∀ b, Z b → Z0 b) (hZ1 : ∀ b, w0.heap.size ≤ b → Z0 b)
    {t : Nat} {xs : Array Operand} {Ts : Array Nat} (hop : o.op = .call { callee := .value (.tmp t), args := xs, argTypes := Ts }) (hzl : Z.yl = l) {d : Nat} (hd : o.dst = some d)
    {ctx : Ctx} (hctx : ctxOf ops.toList ops.toList.length o.guard = some ctx) (hyl : (rd E ctx (.tmp t)).run g = some .yld) {g0 : Bool} (hg0 : (gcond ctx).run g = some g0) {ts : List Ty} {ds : List Dat} (hargs : (argsQ E ctx true ts xs.toList Ts.toList).run g = some (ds, [])) {x : Y} (hx : enc x = ds)
    (hpre : g0 = true → (pre ++ [x]) <+: ys) {K : Act → World → Prop} {Qp : Exit → Act → World → Prop}
    (hT : ∀ a' w' Z' Ow' G' T' C', Inv Z' E N w' Ow' ops.toList (fun j => X j ∨ j = i) (g.upd (.slot d) (wrapC ctx (.dat .bool true))) G' a' w' → Z'.yl = Z.yl → Ow'.pin = Ow.pin → Ow'.dl = Ow.dl → J (if g0 then pre ++ [x] else pre) T' C' w' → (∀ b, Ow' b → T' b) → (∀ b, C' b → ¬ Z' b) → (∀ b, Z' b → Z0 b) → (∀ b, w'.heap.size ≤ b → Z0 b) → K a' w')
    (hS : g0 = true → ∀ a' w' Z' Ow' G' T' C', Inv Z' E N w' Ow' ops.toList (fun j => X j ∨ j = i) (g.upd (.slot d) (wrapC ctx (.dat .bool false))) G' a' w' → Z'.yl = Z.yl → Ow'.pin = Ow.pin → Ow'.dl = Ow.dl → Jx T' C' w' → (∀ b, Ow' b → T' b) → K a' w') :
    wpOpIn Fence.wide n P ops Qp i K a w := by
  have ho' : ops[i]? = some o := by simpa using ho
  have hdN : d < N := hok.dst i o d ho hd
  have hdD : ¬ Dof ops.toList X g d := fun ⟨k, hk, hg, hkd, _⟩ => by
    have := single_writer hok hg hkd ho hd
    exact hX (this ▸ hk)
  have hw : ∀ v, okW ops.toList o.dst [(.slot d, v)] = true := fun v => by simp [okW, hd]
  -- the territory, where it stands now
  have hGT : ∀ {l b}, G l = some b → tt b ∨ (w0.heap.size ≤ b ∧ b < w.heap.size) := fun {l b} e => by
    obtain ⟨h1, h2⟩ := h.rel.bnd l b e
    rcases h2 with h2 | h2
    · exact .inl (hOT b h2)
    · exact .inr ⟨h2, h1⟩
  have hJw : J pre (fun b => ∃ l, G l = some b) cc w := T.less (T.later hJ h.rel.os h.rel.tape h.rel.output h.rel.size (fun b hb hn => h.rel.low b hb (fun ho => hn (hOT b ho)))) (fun b ⟨l, hl⟩ => hGT hl)
  -- another start
  have re : ∀ (W' : World) (C' : Nat → Prop), w.heap.size ≤ W'.heap.size → (∀ b, b < w.heap.size → ¬ cc b → W'.heap[b]? = w.heap[b]?) → (∀ b, C' b → cc b ∨ w.heap.size ≤ b) → (∀ b, C' b → b < W'.heap.size) →
      ∃ (Z' : ZS) (Ow' : OwS), Rel Z' E N W' Ow' (Sof X) (Dof ops.toList X g) g G a W' ∧ Z'.yl = Z.yl ∧ Ow'.pin = Ow.pin ∧ Ow'.dl = Ow.dl ∧ (∀ b, Ow' b → ∃ l, G l = some b) ∧ (∀ b, C' b → ¬ Z' b) ∧ (∀ b, Z' b → Z0 b) ∧ (∀ b, W'.heap.size ≤ b → Z0 b) := by
    intro W' C' hs hb h1 h2
    refine ⟨⟨fun b => (b < w.heap.size ∧ Z b) ∨ W'.heap.size ≤ b, Z.yl⟩, ⟨fun b => ∃ l, G l = some b, Ow.pin, Ow.dl⟩, ?_, rfl, rfl, rfl, fun b ho => ho, fun b hb1 hz => ?_, fun b hb => hb.elim (fun q => hZ0 b q.2) (fun q => hZ1 b (by have := h.rel.size; omega)), fun b hb => hZ1 b (by have := h.rel.size; omega)⟩
    · exact h.rel.rebase rfl hs (fun b h3 h4 => hb b h3 (fun hc => hCZ b hc h4)) (fun b h3 h4 => .inl ⟨h3, h4⟩) (fun b h3 => .inr h3) (fun l b hl => ⟨l, hl⟩) (fun b ⟨l, hl⟩ => .inl ⟨(h.rel.bnd l b hl).1, h.rel.zow b (h.rel.bnd l b hl).2⟩) rfl rfl
    · have := h2 b hb1
      rcases hz with ⟨h3, h4⟩ | h3
      · rcases h1 b hb1 with h5 | h5
        · exact hCZ b h5 h4
        · omega
      · omega
  have hDc := ctx_dof h.closed ho hgX hctx (gcond_isB hg0)
  -- the answer is told
  have told : ∀ {W' : World} {Z' : ZS} {Ow' : OwS} (v : Bool), g0 = true → Rel Z' E N W' Ow' (Sof X) (Dof ops.toList X g) g G a W' →
      ∃ G', Inv Z' E N W' Ow' ops.toList (fun j => X j ∨ j = i) (g.upd (.slot d) (wrapC ctx (.dat .bool v))) G' (a.put o.dst (.bool v)) W' := by
    intro W' Z' Ow' v hg1 hr
    subst hg1
    have hb : AVR Z' g G a W' (.dat .bool v) (.slot d) (.bool v) := ⟨[.bool v], rfl, rfl⟩
    have hr2 : Rel Z' E N W' Ow' (Sof X) (Dof ops.toList X g) (g.upd (.slot d) (wrapC ctx (.dat .bool v))) (G.upd (.slot d) none) (a.put (some d) (.bool v)) W' := by
      cases ctx with
      | nil => exact hr.put hdN (v := .dat .bool v) rfl trivial hdD (fun c u e => by cases e) hb
      | cons p c => exact hr.put hdN (v := .opt (p :: c) (.dat .bool v)) rfl trivial hdD (fun c' u e => by cases e; exact ⟨hDc, fun _ => trivial⟩) (fun _ => hb)
    have hg2 : ∀ l, g.upd (.slot d) (wrapC ctx (.dat .bool v)) l = g.sets [(.slot d, wrapC ctx (.dat .bool v))] l := fun l => rfl
    refine ⟨G.upd (.slot d) none, ?_⟩
    rw [hd]
    refine inv_next hok h ho hX hgX (hw _) hg2 (hr2.more (fun _ hm => .inl hm) (fun _ hd => hd) hr2.dbool) ⟨.bool v, by rw [hd]⟩ (fun hG d' hd' hb' c' m hc => ?_)
    have := ctxOf_det hc hctx
    subst this
    rw [hd] at hd'; cases hd'
    refine ⟨fun e => ?_, fun e => ?_⟩
    · subst e; exact ⟨v, Mem.upd_same _ _ _⟩
    · cases c' with
      | nil => exact absurd rfl e
      | cons p c =>
        refine ⟨v, Mem.upd_same _ _ _, fun hgc => ?_⟩
        exfalso
        have : (gcond (p :: c)).run (g.upd (.slot d) (wrapC (p :: c) (.dat .bool v))) = (gcond (p :: c)).run g := gcond_congr (fun q hq => by
          obtain ⟨k5, hk5, hg5, hd5, _⟩ := hDc q hq
          exact (dof_same hok ho hX hg2 (hw _) hk5 hg5 hd5).1)
        rw [this, hg0] at hgc
        cases hgc
  -- the operation itself
  have exec : g0 = true → o.wpIn Fence.wide n P a w K Qp := by
    intro hg1
    have hv : a.tmps.getD t undef = .func (.yield l) #[] #[] := by
      have := (rd_told h.rel (hg1 ▸ hg0) hyl).r (.slot t) (by simp)
      rw [← hzl]
      exact this
    have hA := args_val h.rel (hg1 ▸ hg0) (frz := true) (Pr := free Z G w) (fun b hb => hb) (by simp) hargs (by simp)
    refine ⟨fun f _ => trivial, ?_⟩
    obtain ⟨fn, tmps, assign, body, hy, hround⟩ := T.round hJw (hpre hg1) (free Z G w) (xs.toList.map a.eval) (hx ▸ hA.1) (fun b hb => ⟨hb.1, fun hc => hCZ b hc hb.3, fun ⟨l, hl⟩ => hb.2 l hl, hZ0 b hb.3⟩) (n - 1)
    have hrun : (o.semAt Fence.wide.round a.eval).run P w = .ok (.round l fn tmps assign body) w := by
      rw [show Fence.wide.round = none from rfl, Oper.semAt_none]
      rw [show (xs.toList.map a.eval).toArray = xs.map a.eval from by rw [← Array.toList_map, Array.toArray_toList]] at hy
      simp only [execOp, hop, resolve, Act.eval, hv, Deferred.ofValue, invoke, Sem.run_bind, Sem.run_pure, Result.andThen_ok, Array.append_empty, Array.empty_append]
      exact hy
    rw [hrun]
    refine ⟨by simp [Fence.wide], hround.mono fun e W' hW => ?_⟩
    obtain ⟨⟨k1, k2, k3, k4, k5⟩, C', k6, k7, k8⟩ := hW
    obtain ⟨Z', Ow', r1, ry, r2, r3, r4, r5, r51, r52⟩ := re W' C' k4 k5 k6 k7
    rcases k8 with ⟨rfl, k8⟩ | ⟨rfl, k8⟩
    · obtain ⟨G', r6⟩ := told true hg1 r1
      exact hT _ _ Z' Ow' G' _ C' r6 ry r2 r3 (by rw [if_pos hg1]; exact k8) r4 r5 r51 r52
    · obtain ⟨G', r6⟩ := told false hg1 r1
      exact hS hg1 _ _ Z' Ow' G' _ C' r6 ry r2 r3 k8 r4
  unfold wpOpIn
  rw [ho']
  dsimp only
  cases hog : o.guard with
  | none =>
    have hwant : Region.wanted o (yielded ops a.tmps) = true := by simp [Region.wanted, hog]
    rw [if_pos hwant]
    refine exec ?_
    rw [hog, ctxOf_none] at hctx
    cases hctx
    simpa [gcond, Q.run] using hg0.symm
  | some kw =>
    obtain ⟨k, want⟩ := kw
    rw [guard_wanted h ho hog (hgX k want hog) hctx hg0]
    cases hgv : g0 with
    | true => rw [if_pos rfl]; exact exec hgv
    | false =>
      rw [if_neg (by simp)]
      refine ⟨fun f _ => trivial, ?_⟩
      have hne : ctx ≠ [] := by
        rintro rfl
        rw [hog] at hctx
        obtain ⟨_, _, _, _, _, _, _, _, hc⟩ := ctxOf_some hctx
        cases hc
      obtain ⟨p, c, rfl⟩ : ∃ p c, ctx = p :: c := by cases ctx with | nil => exact absurd rfl hne | cons p c => exact ⟨p, c, rfl⟩
      obtain ⟨Z', Ow', r1, ry, r2, r3, r4, r5, r51, r52⟩ := re w cc (Nat.le_refl _) (fun _ _ _ => rfl) (fun b hb => .inl hb) (fun b hb => T.apart hJw b hb)
      have hgf : (gcond (p :: c)).run g = some false := by rw [hg0, hgv]
      have hr2 := r1.put hdN (v := .opt (p :: c) (.dat .bool true)) (val := undef) rfl trivial hdD (fun c' u e => by cases e; exact ⟨hDc, fun hgc => by rw [hgf] at hgc; cases hgc⟩) (fun hgc => by rw [hgf] at hgc; cases hgc)
      have hg2 : ∀ l, g.upd (.slot d) (.opt (p :: c) (.dat .bool true)) l = g.sets [(.slot d, .opt (p :: c) (.dat .bool true))] l := fun l => rfl
      rw [hd]
      refine hT _ w Z' Ow' _ _ cc (inv_next hok h ho hX hgX (hw _) hg2 (hr2.more (fun _ hm => .inl hm) (fun _ hd => hd) hr2.dbool) ⟨undef, by rw [hd]⟩ (fun hG d' hd' hb c' m hc => ?_)) ry r2 r3 (by rw [if_neg (by rw [hgv]; simp)]; exact hJw) r4 r5 r51 r52
      have := ctxOf_det hc hctx
      subst this
      rw [hd] at hd'; cases hd'
      refine ⟨fun e => (by cases e), fun _ => ⟨true, Mem.upd_same _ _ _, fun _ b hb => ?_⟩⟩
      rw [put_tmps a d undef (by rw [h.rel.tmps]; exact hdN)] at hb
      simp [undef] at hb
end
end Go.Ev

/- Iterators: what the evaluator answers is what the iterator does. -/
namespace Go.Ev
open Go.RowKit

/-- The consumer's word, between two rounds. -/
def YH (J : (Nat → Prop) → (Nat → Prop) → World → Prop) (Z0 : Nat → Prop) (l : Nat) (pin : Nat → Option Nat) (Z : ZS) (w0 : World) (Ow : OwS) : Prop :=
  Z.yl = l ∧ Ow.pin = pin ∧ Ow.dl = [] ∧ (∀ b, Z b → Z0 b) ∧ (∀ b, w0.heap.size ≤ b → Z0 b) ∧ ∃ T C, J T C w0 ∧ (∀ b, Ow b → T b) ∧ (∀ b, C b → ¬ Z b)
/-- The consumer has stopped. -/
def YS (Jx : (Nat → Prop) → (Nat → Prop) → World → Prop) (pin : Nat → Option Nat) (Z : ZS) (w0 : World) (Ow : OwS) : Prop :=
  Ow.pin = pin ∧ Ow.dl = [] ∧ ∃ T C, Jx T C w0 ∧ (∀ b, Ow b → T b)
/-- A loop's summary, in an iterator. -/
def SumYOk {Y : Type} (E : Env) (O : Orc) (L : Nat → Option (SumY Y)) (ts : List Ty) (mk : List Dat → Option Y) (c : Code) (f : SumY Y) : Prop :=
  ∀ (V : Type) (st : St) (K : Exit → St → YW Y V) (r : List Y × V), f V st K = some r → ∃ fuel, loopN (R := List Y × V) (fun st K => evY E O L ts mk c st K retOnly) fuel st K = some r
def LoopsYOk {Y : Type} (E : Env) (O : Orc) (L : Nat → Option (SumY Y)) (ts : List Ty) (mk : List Dat → Option Y) (body : Code) : Prop := ∀ c ∈ loopsOf body, ∀ f, lookY L (keyOf c) = some f → SumYOk E O L ts mk c f

section
variable {E : Env} {N : Nat} {P : Program} {n : Nat} {Y : Type} {enc : Y → List Dat} {ys : List Y} {l : Nat} {J : List Y → (Nat → Prop) → (Nat → Prop) → World → Prop} {Jx : (Nat → Prop) → (Nat → Prop) → World → Prop} {pin : Nat → Option Nat} {Z0 : Nat → Prop}

theorem yieldOp_some {o : Oper} {g : Loc → AV} {t : Nat} {xs : List Operand} {Ts : List Nat} (h : yieldOp o g = some (t, xs, Ts)) : ∃ xa Ta, o.op = .call { callee := .value (.tmp t), args := xa, argTypes := Ta } ∧ xs = xa.toList ∧ Ts = Ta.toList := by
  unfold yieldOp at h
  split at h
  · rename_i c hc
    obtain ⟨cal, xa, Ta⟩ := c
    dsimp only at h
    split at h
    · split at h
      · cases h
        exact ⟨xa, Ta, hc, rfl, rfl⟩
      · cases h
        exact ⟨xa, Ta, hc, rfl, rfl⟩
      · cases h
    · cases h
  · cases h

/-- **A region with calls of yield.** -/
theorem region_y (T : Turn enc ys P l Z0 J Jx) (hE : EnvOk P E) {ops : Array Oper} (hok : RegOk N ops.toList) {ts : List Ty} {mk : List Dat → Option Y} (hmk : ∀ ds x, mk ds = some x → enc x = ds) {V : Type} {K : St → YW Y V} {K2 : St → Option Unit} {Qp : Exit → Act → World → Prop} {all : List Y} {v : V}
    (hall : all <+: ys)
    (hQ : ∀ a w st pre zs Z w0 Ow G, K st = some (zs, v) → pre ++ zs = all → YH (J pre) Z0 l pin Z w0 Ow → Inv Z E N w0 Ow ops.toList (fun j => j < ops.size) (St.get st) G a w → Qp .normal a w)
    (hS : ∀ a w st Z w0 Ow G, K2 st = some () → YS Jx pin Z w0 Ow → Inv Z E N w0 Ow ops.toList (fun j => j < ops.size) (St.get st) G a w → Qp .normal a w) :
    ∀ (m i : Nat) (st : St) (Z : ZS) (w0 : World) (Ow : OwS) (G : Ghost) (a : Act) (w : World) (pre zs : List Y), i + m = ops.size → evYOps E ts mk ops.toList (ops.toList.drop i) i st K K2 = some (zs, v) → pre ++ zs = all → YH (J pre) Z0 l pin Z w0 Ow →
      Inv Z E N w0 Ow ops.toList (fun j => j < i) (St.get st) G a w → wpOpsIn Fence.wide n P ops Qp (List.range' i m) a w
  | 0, i, st, Z, w0, Ow, G, a, w, pre, zs, him, hev, hpz, hyh, hinv => by
    have : ops.toList.drop i = [] := List.drop_eq_nil_of_le (by simp; omega)
    rw [this] at hev
    have hi : i = ops.size := by omega
    subst hi
    exact hQ a w st pre zs Z w0 Ow G hev hpz hyh hinv
  | m + 1, i, st, Z, w0, Ow, G, a, w, pre, zs, him, hev, hpz, hyh, hinv => by
    have hlt : i < ops.toList.length := by simp; omega
    rw [List.drop_eq_getElem_cons hlt] at hev
    have e2 : (fun j => j < i ∨ j = i) = (fun j => j < i + 1) := by funext j; exact propext ⟨by omega, by omega⟩
    rw [List.range'_succ, wpOpsIn_cons]
    simp only [evYOps] at hev
    split at hev
    · -- an operation
      split at hev
      · rename_i f hf
        cases ht : f.test with
        | false => rw [ht] at hev; cases hev
        | true =>
          rw [ht] at hev
          simp only [cond_true] at hev
          refine region_step hE (plain_wide P) hok hinv (List.getElem?_eq_getElem hlt) (Nat.lt_irrefl i) (fun k want hg => (hok.guard i _ k want (List.getElem?_eq_getElem hlt) hg).1) hf ht (fun a' w' g' G' hg' hi => ?_)
          refine region_y T hE hok hmk hall hQ hS m (i + 1) (st.sets f.writes) Z w0 Ow G' a' w' pre zs (by omega) hev hpz hyh ?_
          have e1 : g' = St.get (st.sets f.writes) := by rw [get_sets]; exact funext hg'
          rw [← e1, ← e2]
          exact hi
      · cases hev
    · -- a call of yield
      rename_i t xs Ts hy
      obtain ⟨xa, Ta, hop, rfl, rfl⟩ := yieldOp_some hy
      split at hev
      · rename_i d ctx hd hctx
        split at hev
        · rename_i g0 ds hg0 hds hyl
          split at hev
          · rename_i x hx
            obtain ⟨zs', hA, hz, hstop⟩ := yieldW_some hev
            dsimp only at hA hz
            obtain ⟨hz1, hz2, hz3, hz4, hz5, tt, cc, hJ, hOT, hCZ⟩ := hyh
            have hup : ∀ u : AV, Mem.upd (St.get st) (.slot d) u = St.get ((.slot d, u) :: st) := fun u => by
              funext k
              simp only [Mem.upd, St.get]
            refine yield_step T hok hinv (List.getElem?_eq_getElem hlt) (Nat.lt_irrefl i) (fun k want hg => (hok.guard i _ k want (List.getElem?_eq_getElem hlt) hg).1) hJ hOT hCZ hz4 hz5 hop hz1 hd hctx hyl hg0 hds (hmk _ _ hx) (fun hg => ?_) (fun a' w' Z' Ow' G' T' C' hi k1 k2 k3 k4 k5 k6 k7 k8 => ?_) (fun hg a' w' Z' Ow' G' T' C' hi k1 k2 k3 k4 k5 => ?_)
            · rw [hg, if_pos rfl] at hz
              refine List.IsPrefix.trans ⟨zs', ?_⟩ hall
              rw [← hpz, hz]; simp
            · refine region_y T hE hok hmk hall hQ hS m (i + 1) _ Z' w' Ow' G' a' w' (if g0 = true then pre ++ [x] else pre) zs' (by omega) hA ?_ ⟨k1.trans hz1, k2.trans hz2, k3.trans hz3, k7, k8, T', C', k4, k5, k6⟩ ?_
              · rw [← hpz, hz]
                cases g0 <;> simp
              · rw [← hup, ← e2]; exact hi
            · have hst := hstop hg
              obtain ⟨u, hu⟩ := Option.isSome_iff_exists.1 hst
              refine region_seq hE (plain_wide P) hok (K := K2) (r := ()) (fun a w G st hk hi => hS a w st Z' w' Ow' G hk ⟨k2.trans hz2, k3.trans hz3, T', C', k4, k5⟩ hi) m (i + 1) _ G' a' w' (by omega) hu ?_
              rw [← hup, ← e2]; exact hi
          · cases hev
        · cases hev
      · cases hev

/-- The consumer's word, where the iterator stands. -/
def YRel (E : Env) (N : Nat) (J : (Nat → Prop) → (Nat → Prop) → World → Prop) (Z0 : Nat → Prop) (l : Nat) (pin : Nat → Option Nat) (st : St) (a : Act) (w : World) : Prop := ∃ Z w0 Ow G, YH J Z0 l pin Z w0 Ow ∧ RelC Z E N w0 Ow st G a w
def YSRel (E : Env) (N : Nat) (Jx : (Nat → Prop) → (Nat → Prop) → World → Prop) (pin : Nat → Option Nat) (st : St) (a : Act) (w : World) : Prop := ∃ Z w0 Ow, YS Jx pin Z w0 Ow ∧ (∀ b, (Ow b ∨ w0.heap.size ≤ b) → Z b) ∧ RelX Z E N w0 Ow st a w

theorem noL_ok {O : Orc} {c : Code} : LoopsOk E O noL c := fun c _ f hf => by
  have : lookL noL (keyOf c) = none := by cases keyOf c <;> rfl
  rw [this] at hf; cases hf
theorem noR_ok {O : Orc} {c : Code} : RangesOk P E O.n noL c := fun rc _ f hf => by
  have : lookL noL (keyOf rc) = none := by cases keyOf rc <;> rfl
  rw [this] at hf; cases hf

/-- **What 'evY' answers is what the iterator's code does.** -/
theorem evY_sound (T : Turn enc ys P l Z0 J Jx) (hE : EnvOk P E) (hm : P.follows .mixedOrders = true) {O : Orc} (hN : O.n = N) {L : Nat → Option (SumY Y)} {ts : List Ty} {mk : List Dat → Option Y} (hmk : ∀ ds x, mk ds = some x → enc x = ds) {all : List Y} (hall : all <+: ys) {V : Type} {v : V} :
    ∀ (c : Code), LoopsYOk E O L ts mk c → ∀ (st : St) (K : Exit → St → YW Y V) (K2 : Cont Unit) (Qp : Exit → Act → World → Prop) (a : Act) (w : World) (pre zs : List Y), (∀ st, K2 .ret st = some ()) →
      (∀ e a w st pre zs, K e st = some (zs, v) → pre ++ zs = all → YRel E N (J pre) Z0 l pin st a w → Qp e a w) → (∀ e a w st, K2 e st = some () → YSRel E N Jx pin st a w → Qp e a w) →
      evY E O L ts mk c st K K2 = some (zs, v) → pre ++ zs = all → YRel E N (J pre) Z0 l pin st a w → c.wpIn Fence.wide n P Qp a w := by
  intro c
  induction c with
  | skip => intro _ st K K2 Qp a w pre zs _ hQ _ hev hp h; exact wpIn_skip (hQ _ _ _ _ _ _ hev hp h)
  | label => intro _ st K K2 Qp a w pre zs _ hQ _ hev hp h; exact wpIn_label (hQ _ _ _ _ _ _ hev hp h)
  | exit => intro _ st K K2 Qp a w pre zs _ hQ _ hev hp h; exact wpIn_exit (hQ _ _ _ _ _ _ hev hp h)
  | ret => intro _ st K K2 Qp a w pre zs _ hQ _ hev hp h; exact wpIn_ret (hQ _ _ _ _ _ _ hev hp h)
  | region id ops draw =>
    rintro _ st K K2 Qp a w pre zs _ hQ hS hev hp ⟨Z, w0, Ow, G, hyh, h⟩
    simp only [evY] at hev
    have h1 : ∃ G1, RelC Z E N w0 Ow (normO (O.i id) st) G1 a w := by
      unfold normO
      split
      · exact relC_norm h _
      · exact ⟨G, h⟩
    obtain ⟨G1, h1⟩ := h1
    cases draw with
    | true =>
      simp only [cond_true] at hev
      refine ev_sound hE (plain_wide P) hm hN (R := List Y × V) (fuel := 0) (.region id ops true) st (fun e st => K e st) Qp G a w (fun e a w st G hk hr => hQ e a w st pre zs hk hp ⟨Z, w0, Ow, G, hyh, hr⟩) ?_ h
      simpa only [ev, Bool.not_true, Bool.false_or] using hev
    | false =>
      simp only [cond_false] at hev
      cases hg : regionOk O.n ops.toList with
      | false => rw [hg] at hev; cases hev
      | true =>
        rw [hg] at hev
        simp only [cond_true] at hev
        rw [hN] at hg
        have hok := regOk_of hg
        refine wpIn_region ?_
        rw [List.range_eq_range']
        refine region_y (l := l) (pin := pin) T hE hok hmk hall (fun a w st' pre zs Z w0 Ow G hk hpz hy hi => ?_) (fun a w st' Z w0 Ow G hk hy hi => ?_) ops.size 0 (normO (O.i id) st) Z w0 Ow G1 a w pre zs (by omega) hev hp hyh ?_
        · obtain ⟨G2, h2⟩ := relC_norm hi.rel (O.o id)
          exact hQ _ _ _ _ _ _ hk hpz ⟨Z, w0, Ow, G2, hy, h2⟩
        · obtain ⟨G2, h2⟩ := relC_norm hi.rel (O.o id)
          exact hS _ _ _ _ hk ⟨Z, w0, Ow, hy, fun b hb => h2.zow b hb, h2.x hy.2.1⟩
        · have e : (fun j => j < 0) = (fun _ : Nat => False) := by funext j; simp
          rw [e]
          exact relC_inv h1
  | seq x y ihx ihy =>
    intro hL st K K2 Qp a w pre zs hk2 hQ hS hev hp h
    simp only [evY] at hev
    refine wpIn_seq (ihx (fun c hc => hL c (by simp [loopsOf, hc])) st _ (fun e st' => match e with
    | .normal => ev2 E O noL y st' K2
    | e => K2 e st') _ a w pre zs (fun st => hk2 st) (fun e a w st pre zs hk hp hr => ?_) (fun e a w st hk hr => ?_) hev hp h)
    · cases e <;> first | exact ihy (fun c hc => hL c (by simp [loopsOf, hc])) st K K2 Qp a w pre zs hk2 hQ hS hk hp hr | exact hQ _ _ _ _ _ _ hk hp hr
    · cases e <;> first
        | (obtain ⟨Z, w0, Ow, hy, hz, hx⟩ := hr
           exact ev2_soundX hE (plain_wide P) hm hN (r := ()) hy.2.1 hz y noL_ok (.inl ⟨hN ▸ noR_ok, rfl⟩) st K2 Qp a w (fun e a w st hk hx => hS e a w st hk ⟨Z, w0, Ow, hy, hz, hx⟩) hk hx)
        | exact hS _ _ _ _ hk hr
  | cond o x y ihx ihy =>
    rintro hL st K K2 Qp a w pre zs hk2 hQ hS hev hp ⟨Z, w0, Ow, G, hyh, h⟩
    simp only [evY] at hev
    split at hev
    · rename_i b hc
      obtain ⟨G1, h1⟩ := relC_drop h hc O.c
      refine wpIn_cond (cond_told h hc) ?_
      cases b with
      | true => exact ihx (fun c hc => hL c (by simp [loopsOf, hc])) _ K K2 Qp a w pre zs hk2 hQ hS hev hp ⟨Z, w0, Ow, G1, hyh, h1⟩
      | false => exact ihy (fun c hc => hL c (by simp [loopsOf, hc])) _ K K2 Qp a w pre zs hk2 hQ hS hev hp ⟨Z, w0, Ow, G1, hyh, h1⟩
    · cases hev
  | block id c ih =>
    intro hL st K K2 Qp a w pre zs hk2 hQ hS hev hp h
    simp only [evY] at hev
    refine wpIn_block (ih (fun c hc => hL c (by simp [loopsOf, hc])) st _ (fun e st' => match e with
    | .exit id' => if id' = id then K2 .normal st' else K2 (.exit id') st'
    | e => K2 e st') _ a w pre zs (fun st => hk2 st) (fun e a w st pre zs hk hp hr => ?_) (fun e a w st hk hr => ?_) hev hp h)
    · cases e with
      | exit id' =>
        simp only [] at hk
        simp only [Exit.inBlock]
        split at hk
        · rename_i hid; rw [if_pos hid]; exact hQ _ _ _ _ _ _ hk hp hr
        · rename_i hid; rw [if_neg hid]; exact hQ _ _ _ _ _ _ hk hp hr
      | _ => exact hQ _ _ _ _ _ _ hk hp hr
    · cases e with
      | exit id' =>
        simp only [] at hk
        simp only [Exit.inBlock]
        split at hk
        · rename_i hid; rw [if_pos hid]; exact hS _ _ _ _ hk hr
        · rename_i hid; rw [if_neg hid]; exact hS _ _ _ _ hk hr
      | _ => exact hS _ _ _ _ hk hr
  | loop c ih =>
    intro hL st K K2 Qp a w pre zs hk2 hQ hS hev hp h
    simp only [evY] at hev
    split at hev
    · rename_i f hf
      obtain ⟨fuel, hfu⟩ := hL c (by simp [loopsOf]) f hf V st K _ hev
      have key : ∀ (m : Nat) (st : St) (a : Act) (w : World) (pre zs : List Y), loopN (R := List Y × V) (fun st K => evY E O L ts mk c st K retOnly) m st K = some (zs, v) → pre ++ zs = all → YRel E N (J pre) Z0 l pin st a w → Code.roundsIn Fence.wide n P c Qp m a w := by
        intro m
        induction m with
        | zero => intro st a w pre zs hl; simp [loopN] at hl
        | succ m ihm =>
          intro st a w pre zs hl hp hr
          simp only [loopN] at hl
          refine ih (fun c hc => hL c (by simp [loopsOf, hc])) st _ retOnly _ a w pre zs (fun _ => rfl) (fun e a w st pre zs hk hp hr => ?_) (fun e a w st hk hr => ?_) hl hp hr
          · cases e <;> first | exact ihm st a w pre zs hk hp hr | exact hQ _ _ _ _ _ _ hk hp hr
          · cases e <;> first | exact hS .ret _ _ _ (hk2 st) hr | (simp [retOnly] at hk)
      exact wpIn_loop_rounds fuel (key fuel st a w pre zs hfu hp h)
    · cases hev
  | _ => intro _ st K K2 Qp a w pre zs _ _ _ hev; simp [evY] at hev
end
end Go.Ev

/- Iterators: the contract out of the evaluator's answer; loops by the limit of their rounds. -/
namespace Go.Ev
open Go.RowKit

/-! ### The evaluator is natural -/
abbrev pairW {Y : Type} : Exit → St → YW Y (Exit × St) := fun e st => some ([], (e, st))
def NaturalY {Y : Type} (f : SumY Y) : Prop := ∀ (V : Type) (st : St) (K : Exit → St → YW Y V), f V st K = YW.bind (f (Exit × St) st pairW) fun p => K p.1 p.2
theorem YW.bind_pure {Y V U : Type} (v : V) (f : V → YW Y U) : YW.bind (some ([], v)) f = f v := by
  show (match f v with | some (zs, u) => some ([] ++ zs, u) | none => none) = f v
  cases f v <;> rfl
theorem evYOps_nat {Y : Type} {E : Env} {ts : List Ty} {mk : List Dat → Option Y} {ops : List Oper} {V : Type} {K2 : St → Option Unit} : ∀ {l : List Oper} {i : Nat} {st : St} {K : St → YW Y V}, evYOps E ts mk ops l i st K K2 = YW.bind (evYOps E ts mk ops l i st (fun st => some ([], st)) K2) K
  | [], _, st, K => (YW.bind_pure st K).symm
  | o :: r, i, st, K => by
    simp only [evYOps]
    split
    · split
      · rename_i f _
        cases f.test
        · rfl
        · exact evYOps_nat
      · rfl
    · split
      · split
        · split
          · rw [evYOps_nat, yieldW_bind]
          · rfl
        · rfl
      · rfl
theorem evOps_natW {Y V : Type} {E : Env} {ops l : List Oper} {i : Nat} {st : St} {K : St → YW Y V} : evOps E ops l i st K = YW.bind (evOps E ops l i st fun st => some (([] : List Y), st)) K := by
  rw [evOps_nat, evOps_nat (K := fun st => some (([] : List Y), st))]
  cases evOps E ops l i st some with
  | none => rfl
  | some s => exact (YW.bind_pure s K).symm
theorem evY_nat {Y : Type} {E : Env} {O : Orc} {L : Nat → Option (SumY Y)} {ts : List Ty} {mk : List Dat → Option Y} (hL : ∀ k f, L k = some f → NaturalY f) : ∀ {c : Code} {V : Type} {st : St} {K : Exit → St → YW Y V} {K2 : Cont Unit}, evY E O L ts mk c st K K2 = YW.bind (evY E O L ts mk c st pairW K2) fun p => K p.1 p.2 := by
  intro c
  induction c with
  | region id ops draw =>
    intro V st K K2
    simp only [evY]
    cases draw with
    | true =>
      simp only [cond_true]
      cases (regionOk O.n ops.toList && drawOk E ops.toList (normO (O.i id) st)) with
      | false => rfl
      | true =>
        simp only [cond_true]
        rw [evOps_natW, evOps_natW (V := Exit × St), YW.bind_assoc]
        refine congrArg (YW.bind _) ?_
        funext s
        rw [YW.bind_pure]
    | false =>
      simp only [cond_false]
      cases regionOk O.n ops.toList with
      | false => rfl
      | true =>
        simp only [cond_true]
        rw [evYOps_nat, evYOps_nat (V := Exit × St), YW.bind_assoc]
        refine congrArg (YW.bind _) ?_
        funext s
        rw [YW.bind_pure]
  | seq a b iha ihb =>
    intro V st K K2
    simp only [evY]
    rw [iha]
    refine Eq.trans ?_ (congrArg (fun o : YW Y (Exit × St) => YW.bind o fun p => K p.1 p.2) (iha (st := st)).symm)
    simp only [YW.bind_assoc]
    refine congrArg (YW.bind _) ?_
    funext p
    obtain ⟨e, st'⟩ := p
    cases e <;> first | exact ihb | exact (YW.bind_pure _ _).symm
  | cond o a b iha ihb =>
    intro V st K K2
    simp only [evY]
    split
    · rename_i x _
      cases x
      · exact ihb
      · exact iha
    · rfl
  | block id a ih =>
    intro V st K K2
    simp only [evY]
    rw [ih]
    refine Eq.trans ?_ (congrArg (fun o : YW Y (Exit × St) => YW.bind o fun p => K p.1 p.2) (ih (st := st)).symm)
    simp only [YW.bind_assoc]
    refine congrArg (YW.bind _) ?_
    funext p
    obtain ⟨e, st'⟩ := p
    cases e with
    | exit id' =>
      simp only []
      split <;> exact (YW.bind_pure _ _).symm
    | _ => exact (YW.bind_pure _ _).symm
  | loop a ih =>
    intro V st K K2
    simp only [evY]
    cases hl : lookY L (keyOf a) with
    | none => rfl
    | some f =>
      simp only []
      refine hL ?_ f ?_ V st K
      · exact (keyOf a).getD 0
      · cases hk : keyOf a with
        | none => rw [hk] at hl; cases hl
        | some k => rw [hk] at hl; exact hl
  | skip => intro V st K K2; exact (YW.bind_pure _ _).symm
  | exit => intro V st K K2; exact (YW.bind_pure _ _).symm
  | ret => intro V st K K2; exact (YW.bind_pure _ _).symm
  | label => intro V st K K2; exact (YW.bind_pure _ _).symm
  | _ => intro V st K K2; rfl

/-! ### The limit of rounds that yield -/
def accW {Y S X : Type} (r : S → YW Y (S ⊕ X)) : S × List Y → Option ((S × List Y) ⊕ (X × List Y)) := fun p => match r p.1 with
  | some (ys, .inl s') => some (.inl (s', p.2 ++ ys))
  | some (ys, .inr x) => some (.inr (x, p.2 ++ ys))
  | none => none
noncomputable def LimW {Y S X : Type} (r : S → YW Y (S ⊕ X)) (s : S) : YW Y X := (Lim (accW r) (s, [])).map fun p => (p.2, p.1)
theorem iterW {Y S X : Type} {r : S → YW Y (S ⊕ X)} {b : List Y} : ∀ {n : Nat} {s : S} {acc : List Y}, iterN (accW r) n (s, b ++ acc) = (iterN (accW r) n (s, acc)).map fun p => (p.1, b ++ p.2)
  | 0, _, _ => rfl
  | n + 1, s, acc => by
    simp only [iterN, accW]
    cases r s with
    | none => rfl
    | some q =>
      obtain ⟨ys, y⟩ := q
      cases y with
      | inl s' => simp only [List.append_assoc]; exact iterW
      | inr x => simp
theorem limW_of {Y S X : Type} {r : S → YW Y (S ⊕ X)} {n : Nat} {s : S} {x : X} {ys : List Y} (h : iterN (accW r) n (s, []) = some (x, ys)) : LimW r s = some (ys, x) := by
  unfold LimW
  rw [lim_of h]; rfl
theorem limW_some {Y S X : Type} {r : S → YW Y (S ⊕ X)} {s : S} {x : X} {ys : List Y} (h : LimW r s = some (ys, x)) : ∃ n, iterN (accW r) n (s, []) = some (x, ys) := by
  unfold LimW at h
  rw [Option.map_eq_some_iff] at h
  obtain ⟨p, hp, h⟩ := h
  cases h
  exact lim_some hp
/-- The limit, one round unrolled. -/
theorem limW_step {Y S X : Type} (r : S → YW Y (S ⊕ X)) (s : S) : LimW r s = YW.bind (r s) fun o => match o with
    | .inl s' => LimW r s'
    | .inr x => some ([], x) := by
  unfold LimW
  rw [lim_step]
  simp only [accW]
  cases r s with
  | none => rfl
  | some q =>
    obtain ⟨ys, y⟩ := q
    cases y with
    | inr x => simp [YW.bind]
    | inl s' =>
      simp only [YW.bind, List.nil_append]
      have : Lim (accW r) (s', ys) = (Lim (accW r) (s', [])).map fun p => (p.1, ys ++ p.2) := by
        cases h1 : Lim (accW r) (s', []) with
        | some p =>
          obtain ⟨n, hn⟩ := lim_some h1
          refine lim_of (n := n) ?_
          have := iterW (r := r) (b := ys) (n := n) (s := s') (acc := [])
          rw [List.append_nil] at this
          rw [this, hn]
          rfl
        | none =>
          cases h2 : Lim (accW r) (s', ys) with
          | none => rfl
          | some p =>
            obtain ⟨n, hn⟩ := lim_some h2
            have := iterW (r := r) (b := ys) (n := n) (s := s') (acc := [])
            rw [List.append_nil, hn] at this
            cases h3 : iterN (accW r) n (s', []) with
            | none => rw [h3] at this; cases this
            | some q => rw [lim_of h3] at h1; cases h1
      rw [this]
      cases Lim (accW r) (s', []) with
      | none => rfl
      | some p => rfl
noncomputable def limSumW {Y S X : Type} (sh : Shape) (pk : Tup sh → S) (r : S → YW Y (S ⊕ X)) (leave : X → ∀ V : Type, (Exit → St → YW Y V) → YW Y V) : SumY Y := fun V st K => match unSt sh st with
  | some s => YW.bind (LimW r (pk s)) fun x => leave x V K
  | none => none
theorem natural_limW {Y S X : Type} {sh : Shape} {pk : Tup sh → S} {r : S → YW Y (S ⊕ X)} {leave : X → ∀ V : Type, (Exit → St → YW Y V) → YW Y V} (hx : ∀ x V (K : Exit → St → YW Y V), leave x V K = YW.bind (leave x _ pairW) fun p => K p.1 p.2) : NaturalY (limSumW sh pk r leave) := by
  intro V st K
  unfold limSumW
  split
  · rw [YW.bind_assoc]
    refine congrArg (YW.bind _) ?_
    funext x
    exact hx x V K
  · rfl
def backW {Y R : Type} (k : Cont R) : Exit → St → YW Y R := fun e st => match k e st with
  | some v => some ([], v)
  | none => none
theorem sumYOk_lim {Y : Type} {E : Env} {O : Orc} {L : Nat → Option (SumY Y)} {ts : List Ty} {mk : List Dat → Option Y} {c : Code} {S X : Type} {sh : Shape} {pk : Tup sh → S} {un : S → Tup sh} {r : S → YW Y (S ⊕ X)} {leave : X → ∀ V : Type, (Exit → St → YW Y V) → YW Y V} {d : Exit → St → Option X}
    (hL : ∀ k f, L k = some f → NaturalY f) (hpu : ∀ s, un (pk s) = s)
    (hd : ∀ e st x, e ≠ .normal → d e st = some x → ∀ V (K : Exit → St → YW Y V), K e st = leave x V K)
    (hr : ∀ s, evY E O L ts mk c (mkSt sh (un s)) (backW (back sh pk d)) retOnly = r s) : SumYOk E O L ts mk c (limSumW sh pk r leave) := by
  intro V st K y hy
  unfold limSumW at hy
  split at hy
  · rename_i s hs
    rw [unSt_some hs]
    obtain ⟨ys, x, zs2, h1, h2, h3⟩ := YW.bind_some hy
    obtain ⟨n, hn⟩ := limW_some h1
    have one : ∀ (z : S) (p : List Y × (S ⊕ X)), r z = some p → ∃ e st, back sh pk d e st = some p.2 ∧ ∀ V (K : Exit → St → YW Y V), evY E O L ts mk c (mkSt sh (un z)) K retOnly = YW.bind (some (p.1, ())) fun _ => K e st := by
      intro z p hp
      rw [← hr, evY_nat hL] at hp
      obtain ⟨y1, ⟨e, st⟩, y2, q1, q2, q3⟩ := YW.bind_some hp
      simp only [backW] at q2
      split at q2
      · rename_i v hv
        simp only [Option.some.injEq, Prod.mk.injEq] at q2
        refine ⟨e, st, hv.trans (by rw [q2.2]), fun V K => ?_⟩
        rw [evY_nat hL, q1, q3, ← q2.1, List.append_nil]
        rfl
      · cases q2
    have key : ∀ (n : Nat) (z : S) (acc acc' : List Y), iterN (accW r) n (z, acc) = some (x, acc') → ∃ ys, acc' = acc ++ ys ∧ loopN (R := List Y × V) (fun st K => evY E O L ts mk c st K retOnly) n (mkSt sh (un z)) K = some (ys ++ zs2, y.2) := by
      intro n
      induction n with
      | zero => intro z acc acc' h; simp [iterN] at h
      | succ n ih =>
        intro z acc acc' h
        simp only [iterN, accW] at h
        rw [loopN_succ]
        cases hv : r z with
        | none => rw [hv] at h; cases h
        | some p =>
          obtain ⟨y1, o⟩ := p
          rw [hv] at h
          obtain ⟨e, st, g1, g2⟩ := one z _ hv
          rw [g2]
          cases o with
          | inl z' =>
            dsimp only at h
            obtain ⟨ys', e1, e2⟩ := ih z' _ _ h
            refine ⟨y1 ++ ys', by rw [e1, List.append_assoc], ?_⟩
            cases e with
            | normal =>
              simp only [back] at g1
              split at g1
              · rename_i s' hs'
                simp only [Option.some.injEq, Sum.inl.injEq] at g1
                have := unSt_some hs'
                simp only [YW.bind]
                rw [this, ← hpu s', g1, e2]
                simp
              · cases g1
            | _ => simp only [back] at g1; split at g1 <;> cases g1
          | inr x' =>
            simp only [Option.some.injEq, Prod.mk.injEq] at h
            obtain ⟨rfl, rfl⟩ := h
            refine ⟨y1, rfl, ?_⟩
            cases e with
            | normal => simp only [back] at g1; split at g1 <;> cases g1
            | _ =>
              simp only [back] at g1
              split at g1
              · rename_i x2 hx2
                simp only [Option.some.injEq, Sum.inr.injEq] at g1
                subst g1
                have := hd _ _ _ (by simp) hx2 V K
                simp only [YW.bind]
                rw [this, h2]
              · cases g1
    obtain ⟨ys', e1, e2⟩ := key n (pk s) [] ys hn
    rw [List.nil_append] at e1
    subst e1
    rw [hpu] at e2
    exact ⟨n, e2.trans (by rw [← h3])⟩
  · cases hy

def endY {Y : Type} : Exit → St → YW Y Unit := fun e _ => match e with
  | .ret | .normal => some ([], ())
  | _ => none
/-- **An iterator yields what 'evY' answers of its body.** -/
theorem iterOk_of_evY {P : Program} {E : Env} (hE : EnvOk P E) (hm : P.follows .mixedOrders = true) {gf : Nat} {fn : Func} {c : Code} (hf : P.funcs[gf]? = some fn) (hname : ∀ args w, (callFunc gf args).run P w = .ok (.enter gf args) w) (hb : fn.body = some c)
    {O : Orc} (hN : O.n = fn.ntmps) {I : ISpec} {L : Nat → Option (SumY I.Y)} {ts : List Ty} {mk : List Dat → Option I.Y} (hmk : ∀ ds x, mk ds = some x → I.enc x = ds) (hL : LoopsYOk E O L ts mk c) (hres : fn.results = #[]) (hpar : max 1 (nres I.pin) ≤ fn.ntmps) (hnt : fn.ntmps ≤ 50000)
    (hev : ∀ s ys, I.f s = some ys → evY E O L ts mk c ((.slot 0, .yld) :: mkSt I.pin s) endY retOnly = some (ys, ())) : IterOk P E.glob gf I := by
  refine ⟨hname, fun Z w Ow G args l s ys hys hdl hpin hal hzl hyv h J Jx T tt cc hJ hOT hCZ => ?_⟩
  have h1 := h.retell (d := 0) (v := .yld) (by omega) rfl trivial (fun hd => hd) (fun c u e => by cases e) (by
    show ({ tmps := args.toArray, defers := [] } : Act).tmps.getD 0 undef = .func (.yield Z.yl) #[] #[]
    rw [hzl, ← hyv]; simp)
  have hup : Mem.upd (St.get (mkSt I.pin s)) (.slot 0) .yld = St.get ((.slot 0, .yld) :: mkSt I.pin s) := by
    funext k
    simp only [Mem.upd, St.get]
  rw [hup] at h1
  have h2 := (Rel.env (E' := E) h1 rfl (fun b hb => by simp [globE] at hb)).enter (nt := fn.ntmps) (fun j hj => Classical.byContradiction fun hne => by
      simp only [St.get] at hne
      cases he : (Loc.slot 0).eq (.slot j) with
      | true => have := Loc.eq_iff.1 he; cases this; omega
      | false =>
        rw [he] at hne
        have := nres_get hne
        omega) (by rw [hal]; exact hpar) (fun b gb hp => by have := hpin b gb hp; omega)
  rw [← callsIn_wide (n := 0)]
  have fin : ∀ {Z1 : ZS} {w1 : World} {Ow1 : OwS} {st : St} {a : Act} {w' : World}, (∀ b, (Ow1 b ∨ w1.heap.size ≤ b) → Z1 b) → Ow1.dl = [] → RelX Z1 E fn.ntmps w1 Ow1 st a w' → (∀ w'' G, RelC Z1 E fn.ntmps w1 Ow1 st G { tmps := a.tmps, defers := [] } w'' → ∃ T C, J ys T C w'' ∨ Jx T C w'') →
      LeavesInM Fence.wide 0 P fn a.tmps (fun e W => (∃ v, e = .returned v) ∧ ∃ T C, J ys T C W ∨ Jx T C W) a.defers .returning w' := fun hz hd hX hk => by
    refine leaveX hz hd hX (fun w'' G'' hR => ⟨_, results_run (slots := []) (by rw [hres]; rfl) _ _, ⟨_, rfl⟩, hk w'' G'' hR⟩)
  refine callsIn_of_wp_marks hf hb trivial (evY_sound (J := J) (Jx := Jx) (l := l) (pin := Ow.pin) T hE hm hN hmk (all := ys) (List.prefix_refl _) c hL _ endY retOnly (bodyPostM Fence.wide 0 P fn _) _ w [] ys (fun _ => rfl) (fun e a w' st pre zs hk hp hr => ?_) (fun e a w' st hk hr => ?_) (hev s ys hys) rfl ⟨Z, w, Ow, _, ⟨hzl, rfl, hdl, fun b hb => hb, fun b hb => h.zow b (.inr hb), tt, cc, hJ, hOT, hCZ⟩, h2⟩)
  · obtain ⟨Z1, w1, Ow1, G1, ⟨k1, k2, k3, _, _, T1, C1, k4, k5, k6⟩, hR⟩ := hr
    have main : zs = [] → LeavesInM Fence.wide 0 P fn a.tmps (fun e W => (∃ v, e = .returned v) ∧ ∃ T C, J ys T C W ∨ Jx T C W) a.defers .returning w' := fun hz => by
      subst hz
      rw [List.append_nil] at hp
      subst hp
      exact fin (fun b hb => hR.zow b hb) k3 (hR.x k3) (fun w'' G'' hR' => ⟨_, _, .inl (T.later k4 hR'.os hR'.tape hR'.output hR'.size (fun b hb hn => hR'.low b hb (fun ho => hn (k5 b ho))))⟩)
    cases e with
    | ret => simp [endY] at hk; exact main hk
    | normal => simp [endY] at hk; exact main hk
    | _ => simp [endY] at hk
  · obtain ⟨Z1, w1, Ow1, ⟨k2, k3, T1, C1, k4, k5⟩, hz, hX⟩ := hr
    cases e with
    | ret => exact fin hz k3 hX (fun w'' G'' hR' => ⟨_, _, .inr (T.laterx k4 hR'.os hR'.tape hR'.output hR'.size (fun b hb hn => hR'.low b hb (fun ho => hn (k5 b ho))))⟩)
    | _ => simp [retOnly] at hk
end Go.Ev

/- Ranges over functions: what the consumer's side needs. -/
namespace Go.Ev
open Go.RowKit
section
variable {Z : ZS} {E : Env} {N : Nat} {w0 : World} {Ow : OwS} {P : Program} {F : Fence} {n : Nat}
/-- Where no function is ranged over, the start stays. -/
theorem ev2_soundC (hE : EnvOk P E) (hFP : Plain P F) (hm : P.follows .mixedOrders = true) {O : Orc} (hN : O.n = N) {L : Nat → Option Sum} {R : Type} {r : R} :
    ∀ (c : Code), LoopsOk E O L c → rangesOf c = [] → ∀ (st : St) (K : Cont R) (Qp : Exit → Act → World → Prop) (a : Act) (w : World),
      (∀ e a w st, K e st = some r → (∃ G, RelC Z E N w0 Ow st G a w) → Qp e a w) → ev2 E O L c st K = some r → (∃ G, RelC Z E N w0 Ow st G a w) → c.wpIn F n P Qp a w := by
  intro c
  induction c with
  | skip => intro _ _ st K Qp a w hQ hev h; exact wpIn_skip (hQ _ _ _ _ hev h)
  | label l => intro _ _ st K Qp a w hQ hev h; exact wpIn_label (hQ _ _ _ _ hev h)
  | exit id => intro _ _ st K Qp a w hQ hev h; exact wpIn_exit (hQ _ _ _ _ hev h)
  | ret => intro _ _ st K Qp a w hQ hev h; exact wpIn_ret (hQ _ _ _ _ hev h)
  | region id ops draw =>
    intro _ _ st K Qp a w hQ hev ⟨G, h⟩
    exact ev_sound hE hFP hm hN (fuel := 0) (.region id ops draw) st K Qp G a w (fun e a w st G hk hr => hQ e a w st hk ⟨G, hr⟩) hev h
  | seq x y ihx ihy =>
    intro hL hR st K Qp a w hQ hev h
    simp only [ev2] at hev
    have hRx : rangesOf x = [] := by simp [rangesOf] at hR; exact hR.1
    have hRy : rangesOf y = [] := by simp [rangesOf] at hR; exact hR.2
    refine wpIn_seq (ihx (fun c hc => hL c (by simp [loopsOf, hc])) hRx st _ _ a w (fun e a w st hk hr => ?_) hev h)
    cases e <;> first | exact ihy (fun c hc => hL c (by simp [loopsOf, hc])) hRy st K Qp a w hQ hk hr | exact hQ _ _ _ _ hk hr
  | cond c x y ihx ihy =>
    intro hL hR st K Qp a w hQ hev ⟨G, h⟩
    simp only [ev2] at hev
    have hRx : rangesOf x = [] := by simp [rangesOf] at hR; exact hR.1
    have hRy : rangesOf y = [] := by simp [rangesOf] at hR; exact hR.2
    split at hev
    · rename_i b hc
      obtain ⟨G1, h1⟩ := relC_drop h hc O.c
      refine wpIn_cond (cond_told h hc) ?_
      cases b with
      | true => exact ihx (fun c hc => hL c (by simp [loopsOf, hc])) hRx _ K Qp a w hQ hev ⟨G1, h1⟩
      | false => exact ihy (fun c hc => hL c (by simp [loopsOf, hc])) hRy _ K Qp a w hQ hev ⟨G1, h1⟩
    · cases hev
  | block id c ih =>
    intro hL hR st K Qp a w hQ hev h
    simp only [ev2] at hev
    refine wpIn_block (ih (fun c hc => hL c (by simp [loopsOf, hc])) (by simpa [rangesOf] using hR) st _ _ a w (fun e a w st hk hr => ?_) hev h)
    cases e with
    | exit id' =>
      simp only [] at hk
      simp only [Exit.inBlock]
      split at hk
      · rename_i hid; rw [if_pos hid]; exact hQ _ _ _ _ hk hr
      · rename_i hid; rw [if_neg hid]; exact hQ _ _ _ _ hk hr
    | _ => exact hQ _ _ _ _ hk hr
  | loop c ih =>
    intro hL hR st K Qp a w hQ hev h
    simp only [ev2] at hev
    split at hev
    · rename_i f hf
      obtain ⟨fuel, hfu⟩ := hL c (by simp [loopsOf]) f hf R st K r hev
      have key : ∀ (m : Nat) (st : St) (a : Act) (w : World), loopN (fun st K => ev2 E O L c st K) m st K = some r → (∃ G, RelC Z E N w0 Ow st G a w) → Code.roundsIn F n P c Qp m a w := by
        intro m
        induction m with
        | zero => intro st a w hl; simp [loopN] at hl
        | succ m ihm =>
          intro st a w hl hr
          simp only [loopN] at hl
          refine ih (fun c hc => hL c (by simp [loopsOf, hc])) (by simpa [rangesOf] using hR) st _ _ a w (fun e a w st hk hr => ?_) hl hr
          cases e <;> first | exact ihm st a w hk hr | exact hQ _ _ _ _ hk hr
      exact wpIn_loop_rounds fuel (key fuel st a w hfu h)
    · cases hev
  | rangeFunc g ps asg body _ _ => intro hL hR; simp [rangesOf] at hR
  | _ => intro _ _ st K Qp a w hQ hev h; simp [ev2] at hev
end

section
variable {Z Z' : ZS} {g g' : Mem} {G G' : Ghost} {a a' : Act} {w w' : World}
/-- What may be told anywhere, later. -/
theorem tells_move {u : AV} {l l' : Loc} {v : Value} (hu : Tells u) (h : AVR Z g G a w u l v) (hk : ∀ b, free Z G w b → free Z' G' w' b ∧ w'.heap[b]? = w.heap[b]?)
    (hb : ∀ b ∈ boxesIn u, ∀ e n, g (.box b) = .bx e n → g' (.box b) = .bx e n ∧ G' (.box b) = G (.box b)) : AVR Z' g' G' a' w' u l' v := by
  have hRV : ∀ {t : Ty} {x : t.den} {cs : List Value}, RV (free Z G w) w t x cs → RV (free Z' G' w') w' t x cs := fun hv => hv.keep (fun b hb => (hk b hb).2) (fun b hb => (hk b hb).1)
  have hptr : ∀ {b o : Nat} {v : Value}, b ∈ boxesIn u → (∃ e n gb, g (.box b) = .bx e n ∧ G (.box b) = some gb ∧ v = .pointer (some ⟨gb, o, none⟩)) → ∃ e n gb, g' (.box b) = .bx e n ∧ G' (.box b) = some gb ∧ v = .pointer (some ⟨gb, o, none⟩) := fun {b o v} hin ⟨e, n, gb, h1, h2, h3⟩ => by
    obtain ⟨h4, h5⟩ := hb b hin e n h1
    exact ⟨e, n, gb, h4, h5.trans h2, h3⟩
  cases hu with
  | dat t x => obtain ⟨cs, q1, q2⟩ := h; exact ⟨cs, hRV q1, q2⟩
  | ptr b o => exact hptr (by simp [boxesIn]) h
  | fn f cs =>
    obtain ⟨vs1, q1, q2, q3⟩ := h
    exact ⟨vs1, q1, q2, fun i b hi => hptr (by simp only [boxesIn]; exact List.mem_of_getElem? hi) (q3 i b hi)⟩
  | nil => exact h
  | nilp => exact h
  | mptr b o p => exact ⟨fun hp => hptr (by simp [boxesIn]) (h.1 hp), h.2⟩
  | dptr t x o =>
    obtain ⟨b, k, cs, q1, q2, q3, q4⟩ := h
    exact ⟨b, k, cs, hRV q1, fun hne => (hk _ (q2 hne)).1, q3, q4.keep fun hne => (hk _ (q2 hne)).2⟩
end

/-! ### Reading a shape -/
def readSh (g : Loc → AV) : (sh : Shape) → Option (Tup sh)
  | [] => some ()
  | p :: r => match p.2.un (g p.1), readSh g r with
    | some x, some s => some (x, s)
    | _, _ => none
/-- Slots as they were; boxes and cells as they are. -/
def readBack (g : Loc → AV) : (sh : Shape) → Tup sh → Option (Tup sh)
  | [], _ => some ()
  | (.slot _, _) :: r, e => (match readBack g r e.2 with
    | some s => some (e.1, s)
    | none => none)
  | (l, k) :: r, e => (match k.un (g l), readBack g r e.2 with
    | some x, some s => some (x, s)
    | _, _ => none)
theorem readSh_get {g : Loc → AV} : ∀ {sh : Shape} {e : Tup sh}, readSh g sh = some e → ∀ l, St.get (mkSt sh e) l = .dead ∨ ∃ k x, (l, k) ∈ sh ∧ St.get (mkSt sh e) l = k.mk x ∧ g l = k.mk x
  | [], _, _, l => .inl rfl
  | p :: r, e, h, l => by
    simp only [readSh] at h
    split at h
    · rename_i x s hx hs
      cases h
      simp only [mkSt, St.get]
      cases he : p.1.eq l with
      | true =>
        have := Loc.eq_iff.1 he
        subst this
        exact .inr ⟨p.2, x, by simp, rfl, Kd.un_some hx⟩
      | false =>
        rcases readSh_get hs l with h1 | ⟨k, y, h1, h2, h3⟩
        · exact .inl h1
        · exact .inr ⟨k, y, List.mem_cons_of_mem _ h1, h2, h3⟩
    · cases h
theorem readBack_slot {g : Loc → AV} : ∀ {sh : Shape} {e e' : Tup sh}, readBack g sh e = some e' → ∀ j, St.get (mkSt sh e') (.slot j) = St.get (mkSt sh e) (.slot j)
  | [], _, _, _, _ => rfl
  | (l, k) :: r, e, e', h, j => by
    cases l with
    | slot n =>
      simp only [readBack] at h
      split at h
      · rename_i s hs
        cases h
        simp only [mkSt, St.get]
        rw [readBack_slot hs j]
      · cases h
    | _ =>
      simp only [readBack] at h
      split at h
      · rename_i x s hx hs
        cases h
        simp only [mkSt, St.get, Loc.eq, cond_false]
        exact readBack_slot hs j
      · cases h
theorem readBack_get {g : Loc → AV} : ∀ {sh : Shape} {e e' : Tup sh}, readBack g sh e = some e' → ∀ l, (∀ j, l ≠ .slot j) → St.get (mkSt sh e') l = .dead ∨ ∃ k x, (l, k) ∈ sh ∧ St.get (mkSt sh e') l = k.mk x ∧ g l = k.mk x
  | [], _, _, _, l, _ => .inl rfl
  | (l0, k) :: r, e, e', h, l, hl => by
    have main : ∀ {x : k.den} {s : Tup r}, readBack g r e.2 = some s → e' = (x, s) → (l0 = l → g l = k.mk x) → St.get (mkSt ((l0, k) :: r) e') l = .dead ∨ ∃ k' x, (l, k') ∈ (l0, k) :: r ∧ St.get (mkSt ((l0, k) :: r) e') l = k'.mk x ∧ g l = k'.mk x := by
      intro x s hs he' hg
      subst he'
      simp only [mkSt, St.get]
      cases he : l0.eq l with
      | true =>
        have := Loc.eq_iff.1 he
        subst this
        exact .inr ⟨k, x, by simp, rfl, hg rfl⟩
      | false =>
        rcases readBack_get hs l hl with h1 | ⟨k', y, h1, h2, h3⟩
        · exact .inl h1
        · exact .inr ⟨k', y, List.mem_cons_of_mem _ h1, h2, h3⟩
    cases l0 with
    | slot n =>
      simp only [readBack] at h
      split at h
      · rename_i s hs
        cases h
        exact main hs rfl (fun e => absurd e.symm (hl n))
      · cases h
    | _ =>
      simp only [readBack] at h
      split at h
      · rename_i x s hx hs
        cases h
        exact main hs rfl (fun e => e ▸ Kd.un_some hx)
      · cases h

/-! ### The parameters of a round -/
def paramsSt : List Nat → List Dat → St → St
  | p :: ps, d :: ds, st => paramsSt ps ds ((.slot p, .dat d.t d.x) :: st)
  | _, _, st => st
theorem putParams {Z : ZS} {E : Env} {N : Nat} {w0 : World} {Ow : OwS} {Pr : Nat → Prop} {w : World} (hdl : Ow.dl = []) : ∀ {ps : List Nat} {ds : List Dat} {vs : List Value} {st : St} {G : Ghost} {tmps : Array Value}, ps.length = ds.length → (∀ p ∈ ps, p < N) → ArgsR Pr w ds vs → (∀ b, Pr b → free Z G w b) → RelC Z E N w0 Ow st G { tmps := tmps, defers := [] } w →
    ∃ G', RelC Z E N w0 Ow (paramsSt ps ds st) G' { tmps := (ps.zip vs).foldl (fun t (p, v) => t.setIfInBounds p v) tmps, defers := [] } w ∧ ∀ l b, G' l = some b → ∃ l', G l' = some b
  | [], [], vs, st, G, tmps, _, _, _, _, h => ⟨G, by simpa [paramsSt] using h, fun l b hb => ⟨l, hb⟩⟩
  | [], _ :: _, _, _, _, _, hl, _, _, _, _ => by simp at hl
  | _ :: _, [], _, _, _, _, hl, _, _, _, _ => by simp at hl
  | p :: ps, d :: ds, [], st, G, tmps, hl, hp, hA, hPr, h => hA.elim
  | p :: ps, d :: ds, v :: vs, st, G, tmps, hl, hp, hA, hPr, h => by
    obtain ⟨⟨cs, h1, h2⟩, hA'⟩ := hA
    have hsz : tmps.size = N := h.tmps
    have h3 := Rel.put' (a' := { tmps := tmps.setIfInBounds p v, defers := [] }) (d := p) (v := .dat d.t d.x) (val := v) h rfl trivial (fun hd => hd) (fun c u e => by cases e) ⟨cs, h1.keep (fun _ _ => rfl) hPr, h2⟩ hdl.symm (by simpa using hsz)
      (by have := hp p (by simp); simp [Array.getD_eq_getD_getElem?, hsz, this]) (fun n hn => by simp [Array.getD_eq_getD_getElem?, Array.getElem?_setIfInBounds_ne hn])
    have hup : Mem.upd (St.get st) (.slot p) (.dat d.t d.x) = St.get ((.slot p, .dat d.t d.x) :: st) := by
      funext k
      simp only [Mem.upd, St.get]
    rw [hup] at h3
    obtain ⟨G', k1, k2⟩ := putParams hdl (ps := ps) (ds := ds) (vs := vs) (by simpa using hl) (fun q hq => hp q (by simp [hq])) hA' (fun b hb => by
      have := hPr b hb
      exact ⟨this.1, fun l e => by
        by_cases hl' : l = .slot p
        · subst hl'; rw [Ghost.upd_same] at e; cases e
        · rw [Ghost.upd_ne G none (Ne.symm hl')] at e; exact this.2 l e, this.3⟩) h3
    refine ⟨G', by simpa [paramsSt] using k1, fun l b hb => ?_⟩
    obtain ⟨l', hl'⟩ := k2 l b hb
    by_cases e : l' = .slot p
    · subst e; rw [Ghost.upd_same] at hl'; cases hl'
    · rw [Ghost.upd_ne G none (Ne.symm e)] at hl'; exact ⟨l', hl'⟩
end Go.Ev

/- Ranges over functions: the consumer's side. -/
namespace Go.Ev
open Go.RowKit

def heldOf (esh : Shape) (b : Nat) : Bool := (outBoxes esh).any fun c => Nat.beq c b
/-- Within a round no new box takes the name of one that was there. -/
def inside (E : Env) (esh : Shape) : Env := { E with held := heldOf esh }
def plainKd : Kd → Bool
  | .own _ _ | .bx _ _ | .yld => false
  | _ => true
def eshOk (esh : Shape) : Bool := closedP (outBoxes esh) esh && boxesBx esh && esh.all fun p => match p.1 with
  | .slot _ => plainKd p.2
  | .comp _ _ => false
  | _ => true
def captOk (pin esh : Shape) (n : Nat) (m : Names) : Bool := Nat.beq (n + 1) (max 1 (nres pin)) && Nat.ble (n + 1) 50000 && ownKept pin m [] && (pin.all fun p => !(Loc.slot 0).eq p.1) &&
  m.all fun p => (outBoxes pin).any (fun b => Nat.beq b p.1) && Nat.ble 50000 p.1 && Nat.blt p.1 100000 && !((outBoxes esh).any fun b => Nat.beq b p.2)
def foldX {B Y X : Type} (step : B → Y → Option (B ⊕ X)) : List Y → B → Option (B ⊕ X)
  | [], b => some (.inl b)
  | y :: ys, b => match step b y with
    | some (.inl b') => foldX step ys b'
    | some (.inr x) => some (.inr x)
    | none => none
theorem foldX_append {B Y X : Type} {step : B → Y → Option (B ⊕ X)} : ∀ {ys zs : List Y} {b : B}, foldX step (ys ++ zs) b = match foldX step ys b with
    | some (.inl b') => foldX step zs b'
    | r => r
  | [], zs, b => rfl
  | y :: ys, zs, b => by
    simp only [List.cons_append, foldX]
    cases step b y with
    | none => rfl
    | some r => cases r with
      | inl b' => exact foldX_append
      | inr x => rfl
def rangeSum {B X : Type} (E : Env) (gf t : Nat) (esh : Shape) (I : ISpec) (pk : Tup esh → B) (un : B → Tup esh) (step : B → I.Y → Option (B ⊕ X)) (leave : X → ∀ R : Type, Cont R → Option R) : Sum := fun R st K => match st.get (.slot t) with
  | .fn f cs => bif Nat.beq f gf then (match (inQ E [] (.opd (.const (.bool false)) :: cs.map .cap) I.pin []).run st.get with
    | some (s, m, []) => bif captOk I.pin esh cs.length m then (match readSh st.get esh with
      | some e => (I.f s).bind fun ys => (foldX step ys (pk e)).bind fun z => match z with
        | .inl b => K .normal (mkSt esh (un b))
        | .inr x => leave x R K
      | none => none) else none
    | _ => none) else none
  | _ => none
theorem natural_range {B X : Type} {E : Env} {gf t : Nat} {esh : Shape} {I : ISpec} {pk : Tup esh → B} {un : B → Tup esh} {step : B → I.Y → Option (B ⊕ X)} {leave : X → ∀ R : Type, Cont R → Option R} (hx : ∀ x R (K : Cont R), leave x R K = (leave x _ pairK).bind fun p => K p.1 p.2) : Natural (rangeSum E gf t esh I pk un step leave) := by
  intro R st K
  unfold rangeSum
  cases St.get st (.slot t) with
  | fn f cs =>
    dsimp only
    cases Nat.beq f gf with
    | false => rfl
    | true =>
      simp only [cond_true]
      split
      · rename_i s m hq
        cases captOk I.pin esh cs.length m with
        | false => rfl
        | true =>
          simp only [cond_true]
          cases readSh st.get esh with
          | none => rfl
          | some e =>
            dsimp only
            simp only [Option.bind_assoc]
            refine congrArg (Option.bind _) ?_
            funext ys
            refine congrArg (Option.bind _) ?_
            funext z
            cases z with
            | inl b => rfl
            | inr x => exact hx x R K
      · rfl
  | _ => rfl
/-- A round's end, read back. -/
def backR {B X : Type} (esh : Shape) (pk : Tup esh → B) (d : Exit → Tup esh → Option X) (e : Tup esh) : Cont (B ⊕ X) := fun x st => match x with
  | .normal => (match readBack st.get esh e with
    | some e' => some (.inl (pk e'))
    | none => none)
  | x => (match readBack st.get esh e with
    | some e' => (match d x e' with
      | some v => some (.inr v)
      | none => none)
    | none => none)
def jumpOf : Exit → Option Code
  | .ret => some .ret
  | .exit id => some (.exit id)
  | _ => none

/-- What the consumer counts on, while the iterator runs. -/
structure Hold (E : Env) (N : Nat) (esh : Shape) (w : World) (G : Ghost) (Zf : ZS) (D l : Nat) (tmps : Array Value) (pinE : Nat → Option Nat) (rc : Loop) (e : Tup esh) (T C : Nat → Prop) (W : World) : Prop where
  rel : ∃ Zc Owc Gc, Rel Zc (inside E esh) N W Owc (fun n => n = 0) (fun _ => False) (St.get (mkSt esh e)) Gc { tmps := tmps, defers := [] } W ∧ Zc.yl = Zf.yl ∧ Owc.pin = pinE ∧ Owc.dl = [] ∧
    (∀ b, Owc b → C b ∧ b ≠ D ∧ b ≠ l ∧ ((∃ l, G l = some b) ∨ w.heap.size ≤ b)) ∧ (∀ b, b < W.heap.size → Zc b → ¬ T b ∧ b ≠ D ∧ b ≠ l ∧ (b < w.heap.size → Zf b))
  ge : w.heap.size ≤ l ∧ w.heap.size ≤ D
  cl : C l
  cD : C D
  cs : ∀ b, C b → b < W.heap.size ∧ ¬ T b
  t : ∀ b, T b → b < W.heap.size ∧ (b < w.heap.size → ∃ l, G l = some b)
  hl : W.heap[l]? = some (.loop rc)
  hD : W.heap[D]? = some (.deferred (some []))
  os : W.os = w.os
  tape : W.tape = w.tape
  output : W.output = w.output
  size : w.heap.size ≤ W.heap.size
  low : ∀ k, k < w.heap.size → (∀ l, G l ≠ some k) → W.heap[k]? = w.heap[k]?

section
variable {E : Env} {N : Nat} {esh : Shape} {w : World} {G : Ghost} {Zf : ZS} {D l : Nat} {tmps : Array Value} {pinE : Nat → Option Nat} {rc : Loop} {e : Tup esh} {T C : Nat → Prop} {W W' : World}

theorem Hold.later (h : Hold E N esh w G Zf D l tmps pinE rc e T C W) (hos : W'.os = W.os) (htape : W'.tape = W.tape) (hout : W'.output = W.output) (hsize : W.heap.size ≤ W'.heap.size) (hb : ∀ b, b < W.heap.size → ¬ T b → W'.heap[b]? = W.heap[b]?) :
    Hold E N esh w G Zf D l tmps pinE rc e (fun b => T b ∨ (W.heap.size ≤ b ∧ b < W'.heap.size)) C W' := by
  obtain ⟨Zc, Owc, Gc, h1, h2, h3, h4, h5, h6⟩ := h.rel
  have hG : ∀ {l b}, Gc l = some b → b < W.heap.size ∧ Owc b := fun {l b} q => by
    obtain ⟨q1, q2⟩ := h1.bnd l b q
    exact ⟨q1, q2.resolve_right (by omega)⟩
  have hl := h.cs l h.cl
  have hD := h.cs D h.cD
  refine ⟨⟨⟨fun b => (b < W.heap.size ∧ Zc b) ∨ W'.heap.size ≤ b, Zc.yl⟩, ⟨fun b => ∃ l, Gc l = some b, pinE, []⟩, Gc,
    h1.rebase rfl hsize (fun b q1 q2 => hb b q1 (h6 b q1 q2).1) (fun b q1 q2 => .inl ⟨q1, q2⟩) (fun b q => .inr q) (fun l b q => ⟨l, q⟩) (fun b ⟨l, q⟩ => .inl ⟨(hG q).1, h1.zow b (.inl (hG q).2)⟩) h3.symm h4.symm,
    h2, rfl, rfl, fun b ⟨l, q⟩ => h5 b (hG q).2, fun b q1 q2 => ?_⟩, h.ge, h.cl, h.cD, fun b hb' => ?_, fun b hb' => ?_, (hb l hl.1 hl.2).trans h.hl, (hb D hD.1 hD.2).trans h.hD, hos.trans h.os, htape.trans h.tape, hout.trans h.output, Nat.le_trans h.size hsize, fun k q1 q2 => ?_⟩
  · rcases q2 with ⟨q2, q3⟩ | q2
    · obtain ⟨r1, r2⟩ := h6 b q2 q3
      exact ⟨fun q => q.elim r1 (fun q => by omega), r2⟩
    · omega
  · obtain ⟨q1, q2⟩ := h.cs b hb'
    exact ⟨by omega, fun q => q.elim q2 (fun q => by omega)⟩
  · rcases hb' with q | q
    · obtain ⟨q1, q2⟩ := h.t b q; exact ⟨by omega, q2⟩
    · exact ⟨q.2, fun q3 => by have := h.size; omega⟩
  · rw [hb k (by have := h.size; omega) (fun q => by obtain ⟨l, q4⟩ := (h.t k q).2 q1; exact q2 l q4), h.low k q1 q2]
theorem Hold.less (h : Hold E N esh w G Zf D l tmps pinE rc e T C W) {T' : Nat → Prop} (ht : ∀ b, T' b → T b) : Hold E N esh w G Zf D l tmps pinE rc e T' C W := by
  obtain ⟨Zc, Owc, Gc, h1, h2, h3, h4, h5, h6⟩ := h.rel
  exact { h with
    rel := ⟨Zc, Owc, Gc, h1, h2, h3, h4, h5, fun b q1 q2 => ⟨fun q => (h6 b q1 q2).1 (ht b q), (h6 b q1 q2).2⟩⟩
    cs := fun b hb => ⟨(h.cs b hb).1, fun q => (h.cs b hb).2 (ht b q)⟩
    t := fun b hb => h.t b (ht b hb) }

theorem eshOk_mem (hesh : eshOk esh = true) {p : Loc} {k : Kd} (hp : (p, k) ∈ esh) : (closedK (outBoxes esh) k = true ∧ (∀ b o, p = .cell b o → b ∈ outBoxes esh) ∧ ∀ n i, p ≠ .comp n i) ∧ (∀ j, p = .slot j → plainKd k = true) := by
  simp only [eshOk, Bool.and_eq_true] at hesh
  refine ⟨closedP_mem hesh.1.1 hp, fun j e => ?_⟩
  have := List.all_eq_true.1 hesh.2 _ hp
  subst e
  exact this
theorem tells_of_plain {k : Kd} (h : plainKd k = true) (x : k.den) : k.mk x = .dead ∨ Tells (k.mk x) := by
  cases k <;> first | (simp [plainKd] at h; done) | exact .inl rfl | exact .inr (by constructor)
theorem im_self {bs : List Nat} {k : Kd} (h : closedK bs k = true) (x : k.den) : Im (k.mk x) (k.mk x) := by
  cases k <;> first | (simp [closedK] at h; done) | constructor
theorem box_told : ∀ {sh : Shape} (e : Tup sh), boxesBx sh = true → ∀ b ∈ outBoxes sh, ∃ t n, St.get (mkSt sh e) (.box b) = .bx t n
  | [], _, _, b, hb => by simp [outBoxes] at hb
  | (l0, k) :: r, e, hbb, b, hb => by
    simp only [mkSt, St.get]
    cases he : l0.eq (.box b) with
    | true =>
      have := Loc.eq_iff.1 he
      subst this
      cases k <;> simp [boxesBx] at hbb
      rename_i t n
      exact ⟨t, n, rfl⟩
    | false =>
      simp only [cond_false]
      refine box_told e.2 ?_ b ?_
      · cases l0 <;> cases k <;> simp [boxesBx] at hbb ⊢ <;> exact hbb
      · cases l0 with
        | box c =>
          have : c ≠ b := fun q => by subst q; rw [Loc.eq_iff.2 rfl] at he; cases he
          simpa [outBoxes, Ne.symm this] using hb
        | _ => simpa [outBoxes] using hb
theorem get_box_indep : ∀ {sh : Shape} (e e' : Tup sh), boxesBx sh = true → ∀ b, St.get (mkSt sh e) (.box b) = St.get (mkSt sh e') (.box b)
  | [], _, _, _, _ => rfl
  | (l0, k) :: r, e, e', hbb, b => by
    have hbr : boxesBx r = true := by cases l0 <;> cases k <;> simp [boxesBx] at hbb ⊢ <;> exact hbb
    simp only [mkSt, St.get]
    cases he : l0.eq (.box b) with
    | true =>
      have := Loc.eq_iff.1 he
      subst this
      cases k <;> simp [boxesBx] at hbb
      rfl
    | false => exact get_box_indep e.2 e'.2 hbr b
end
end Go.Ev

/- Ranges over functions: one round. -/
namespace Go.Ev
open Go.RowKit
section
variable {E : Env} {N : Nat} {esh : Shape} {w : World} {G : Ghost} {Zf : ZS} {D l : Nat} {tmps : Array Value} {pinE : Nat → Option Nat} {T C : Nat → Prop} {W W' : World} {P : Program}

def recOf (fn : FuncId) (tmps : Array Value) (ps : Array Tmp) (asg body : Code) (D : Nat) (st : LoopState) (pe : Option Code) : Loop := { state := st, pending := pe, fn := fn, tmps := tmps, params := ps, assign := asg, body := body, defers := D }

theorem foldl_zip {f : Array Value → Tmp × Value → Array Value} (ps : Array Tmp) (vs : List Value) (t : Array Value) : (ps.zip vs.toArray).foldl f t = (ps.toList.zip vs).foldl f t := by
  rw [← Array.foldl_toList, Array.toList_zip]

theorem hold_round (hE' : EnvOk P (inside E esh)) (hm : P.follows .mixedOrders = true) {O : Orc} (hN : O.n = N) {L : Nat → Option Sum} {ps : Array Tmp} {asg body : Code} (hLa : LoopsOk (inside E esh) O L asg) (hLb : LoopsOk (inside E esh) O L body) (hra : rangesOf asg = []) (hrb : rangesOf body = [])
    (hesh : eshOk esh = true) (hps : ∀ p ∈ ps.toList, p < N) {B X : Type} {pk : Tup esh → B} {un : B → Tup esh} (hpu : ∀ s, un (pk s) = s) {d : Exit → Tup esh → Option X} {xOf : X → Exit × Tup esh} (hd : ∀ x e v, d x e = some v → xOf v = (x, e) ∧ ∃ c, jumpOf x = some c)
    {ds : List Dat} (hlen : ps.toList.length = ds.length) {b0 : B} {z : B ⊕ X}
    (hev : ev2 (inside E esh) O L asg (paramsSt ps.toList ds (mkSt esh (un b0))) (fun x st => match x with | .normal => ev2 (inside E esh) O L body st (backR esh pk d (un b0)) | _ => none) = some z)
    {fn : FuncId} (h : Hold E N esh w G Zf D l tmps pinE (recOf fn tmps ps asg body D .ready none) (un b0) T C W) {Pr : Nat → Prop} {vs : List Value} (hA : ArgsR Pr W ds vs) (hPr : ∀ b, Pr b → b < W.heap.size ∧ ¬ C b ∧ ¬ T b ∧ (b < w.heap.size → Zf b))
    (hpinE : ∀ b gb, pinE b = some gb → heldOf esh b = true) (hpinA : ∀ b ∈ outBoxes esh, ∃ gb, pinE b = some gb) (m : Nat) : ∃ tmps', (Instr.yield l vs.toArray).run P W = .ok (.round l fn tmps' asg body) W ∧ RoundIn Fence.wide m P l fn tmps' asg body W fun e W' =>
      (W'.os = W.os ∧ W'.tape = W.tape ∧ W'.output = W.output ∧ W.heap.size ≤ W'.heap.size ∧ (∀ b, b < W.heap.size → ¬ C b → W'.heap[b]? = W.heap[b]?)) ∧
      ∃ C', (∀ b, C' b → C b ∨ W.heap.size ≤ b) ∧ (∀ b, C' b → b < W'.heap.size) ∧ match z with
        | .inl b' => e = .returned (.bool true) ∧ Hold E N esh w G Zf D l tmps pinE (recOf fn tmps ps asg body D .ready none) (un b') T C' W'
        | .inr x => e = .returned (.bool false) ∧ ∃ c, jumpOf (xOf x).1 = some c ∧ Hold E N esh w G Zf D l tmps pinE (recOf fn tmps ps asg body D .done (some c)) (xOf x).2 T C' W' := by
  obtain ⟨Zc, Owc, Gc, h1, h2, h3, h4, h5, h6⟩ := h.rel
  have hG : ∀ {p b}, Gc p = some b → b < W.heap.size ∧ Owc b := fun {p b} q => by
    obtain ⟨q1, q2⟩ := h1.bnd p b q
    exact ⟨q1, q2.resolve_right (by omega)⟩
  have hlW := h.cs l h.cl
  have hDW := h.cs D h.cD
  have hvl : vs.length = ds.length := by
    clear hev hlen hPr
    induction ds generalizing vs with
    | nil => cases vs with
      | nil => rfl
      | cons => exact hA.elim
    | cons d0 ds ih => cases vs with
      | nil => exact hA.elim
      | cons v0 vs => exact congrArg Nat.succ (ih hA.2)
  have hy := run_yield (P := P) (args := vs.toArray) h.hl (by simp [recOf, hvl, ← hlen])
  rw [foldl_zip] at hy
  refine ⟨_, hy, ?_⟩
  -- the round's own start
  have hZl : ∀ b, b < W.heap.size → Zc b ∨ Pr b → ¬ T b ∧ b ≠ D ∧ b ≠ l ∧ (b < w.heap.size → Zf b) := fun b q1 q2 => by
    rcases q2 with q2 | q2
    · exact h6 b q1 q2
    · obtain ⟨r1, r2, r3, r4⟩ := hPr b q2
      exact ⟨r3, fun e => r2 (e ▸ h.cD), fun e => r2 (e ▸ h.cl), r4⟩
  have h0 : RelC ⟨fun b => Zc b ∨ Pr b, Zc.yl⟩ (inside E esh) N W ⟨fun b => ∃ p, Gc p = some b, pinE, []⟩ (mkSt esh (un b0)) Gc { tmps := tmps, defers := [] } W :=
    Rel.rebase h1 rfl (Nat.le_refl _) (fun _ _ _ => rfl) (fun b _ q => .inl q) (fun b q => .inl (h1.zow b (.inr q))) (fun p b q => ⟨p, q⟩) (fun b ⟨p, q⟩ => .inl (h1.zow b (.inl (hG q).2))) h3.symm h4.symm
  have hPrF : ∀ b, Pr b → free ⟨fun b => Zc b ∨ Pr b, Zc.yl⟩ Gc W b := fun b q => ⟨(hPr b q).1, fun p e => (hPr b q).2.1 (h5 b (hG e).2).1, .inr q⟩
  obtain ⟨G0, k1, k2⟩ := putParams rfl hlen hps hA hPrF h0
  refine roundIn_of_wpIn trivial (ev2_soundC hE' (plain_round P l) hm hN asg hLa hra _ _ _ _ W (fun e a₁ w₁ st₁ hk hr => ?_) hev ⟨G0, k1⟩)
  obtain ⟨G₁, r₁⟩ := hr
  cases e with
  | normal =>
    dsimp only at hk
    have hG1 : ∀ {p b}, G₁ p = some b → (∃ p', Gc p' = some b) ∨ W.heap.size ≤ b := fun {p b} q => (r₁.bnd p b q).2
    have hl₁ : w₁.heap[l]? = some (.loop (recOf fn tmps ps asg body D .ready none)) := (r₁.low l hlW.1 (fun ⟨p, q⟩ => (h5 l (hG q).2).2.2.1 rfl)).trans h.hl
    have hlz : ∀ b, b < W.heap.size → Zc b ∨ Pr b → b ≠ l := fun b q1 q2 => (hZl b q1 q2).2.2.1
    obtain ⟨w₂, hw₂⟩ : ∃ w₂, w₂ = w₁.putObj l (.loop (recOf fn tmps ps asg body D .busy none)) := ⟨_, rfl⟩
    have hs₂ : w₂.heap.size = w₁.heap.size := by rw [hw₂]; simp
    have ho₂ : ∀ k, k ≠ l → w₂.heap[k]? = w₁.heap[k]? := fun k q => by rw [hw₂]; exact World.putObj_heap_other q
    have hZ₁ : ∀ b, (Zc b ∨ Pr b) → b = l → False := fun b q e => by subst e; exact hlz b hlW.1 q rfl
    have hGz : ∀ {p b}, G₁ p = some b → Zc b ∨ Pr b := fun {p b} q => r₁.zow b (r₁.bnd p b q).2
    have r₂ : RelC ⟨fun b => Zc b ∨ Pr b, Zc.yl⟩ (inside E esh) N w₂ ⟨fun b => ∃ p, G₁ p = some b, pinE, []⟩ st₁ G₁ a₁ w₂ :=
      Rel.rebase r₁ rfl (Nat.le_of_eq hs₂.symm) (fun b _ q => ho₂ b (fun e => hZ₁ b q e)) (fun b _ q => q) (fun b q => r₁.zow b (.inr (by have := r₁.size; omega))) (fun p b q => ⟨p, q⟩) (fun b ⟨p, q⟩ => hGz q) rfl rfl
    refine ⟨w₂, ?_, ?_⟩
    · rw [hw₂]; exact run_beginRound hl₁ rfl
    refine ev2_soundC hE' (plain_round P l) hm hN body hLb hrb st₁ (backR esh pk d (un b0)) _ a₁ w₂ (fun x a₃ w₃ st₃ hk₃ hr₃ => ?_) hk ⟨G₁, r₂⟩
    obtain ⟨G₃, r₃⟩ := hr₃
    have hG3 : ∀ {p b}, G₃ p = some b → (∃ p', Gc p' = some b) ∨ W.heap.size ≤ b := fun {p b} q => by
      rcases (r₃.bnd p b q).2 with ⟨p', q'⟩ | q'
      · exact hG1 q'
      · exact .inr (by have := r₁.size; omega)
    have hGz₃ : ∀ {p b}, G₃ p = some b → Zc b ∨ Pr b := fun {p b} q => r₃.zow b (r₃.bnd p b q).2
    have hl₂ : w₂.heap[l]? = some (.loop (recOf fn tmps ps asg body D .busy none)) := by
      rw [hw₂]; exact World.putObj_heap_same (Array.getElem?_eq_some_iff.1 hl₁).1
    have hl₂s : l < w₂.heap.size := (Array.getElem?_eq_some_iff.1 hl₂).1
    have hl₃ : w₃.heap[l]? = some (.loop (recOf fn tmps ps asg body D .busy none)) := (r₃.low l hl₂s (fun ⟨p, q⟩ => hZ₁ _ (hGz q) rfl)).trans hl₂
    -- what stays
    have same : ∀ k, k < W.heap.size → (∀ p, Gc p ≠ some k) → k ≠ l → w₃.heap[k]? = W.heap[k]? := fun k q1 q2 q3 => by
      have q4 : ∀ p, G₁ p ≠ some k := fun p e => (hG1 e).elim (fun ⟨p', q⟩ => q2 p' q) (fun q => by omega)
      rw [r₃.low k (by rw [hs₂]; have := r₁.size; omega) (fun ⟨p, q⟩ => q4 p q), ho₂ k q3]
      exact r₁.low k q1 (fun ⟨p, q⟩ => q2 p q)
    have fin : ∀ (st : LoopState) (jump : Option Code) (e' : Tup esh), readBack st₃.get esh (un b0) = some e' →
        (W.heap.size ≤ (w₃.putObj l (.loop (recOf fn tmps ps asg body D st jump))).heap.size ∧ (∀ b, b < W.heap.size → ¬ C b → (w₃.putObj l (.loop (recOf fn tmps ps asg body D st jump))).heap[b]? = W.heap[b]?)) ∧
        ∃ C', (∀ b, C' b → C b ∨ W.heap.size ≤ b) ∧ (∀ b, C' b → b < (w₃.putObj l (.loop (recOf fn tmps ps asg body D st jump))).heap.size) ∧ Hold E N esh w G Zf D l tmps pinE (recOf fn tmps ps asg body D st jump) e' T C' (w₃.putObj l (.loop (recOf fn tmps ps asg body D st jump))) := by
      intro st jump e' hrb'
      obtain ⟨w₄, hw₄⟩ : ∃ w₄, w₄ = w₃.putObj l (.loop (recOf fn tmps ps asg body D st jump)) := ⟨_, rfl⟩
      rw [← hw₄]
      have hs₄ : w₄.heap.size = w₃.heap.size := by rw [hw₄]; simp
      have ho₄ : ∀ k, k ≠ l → w₄.heap[k]? = w₃.heap[k]? := fun k q => by rw [hw₄]; exact World.putObj_heap_other q
      have hsz : W.heap.size ≤ w₃.heap.size := by have := r₁.size; have := r₃.size; omega
      have r₄ : RelC ⟨fun b => Zc b ∨ Pr b, Zc.yl⟩ (inside E esh) N w₄ ⟨fun b => ∃ p, G₃ p = some b, pinE, []⟩ st₃ G₃ a₃ w₄ :=
        Rel.rebase r₃ rfl (Nat.le_of_eq hs₄.symm) (fun b _ q => ho₄ b (fun e => hZ₁ b q e)) (fun b _ q => q) (fun b q => r₃.zow b (.inr (by have := r₃.size; omega))) (fun p b q => ⟨p, q⟩) (fun b ⟨p, q⟩ => hGz₃ q) rfl rfl
      -- what was read is as it was
      have hfree : ∀ b, free ⟨fun b => Zc b ∨ Pr b, Zc.yl⟩ Gc W b → free ⟨fun b => Zc b ∨ Pr b, Zc.yl⟩ G₃ w₄ b ∧ w₄.heap[b]? = W.heap[b]? := fun b q => by
        have q3 := hlz b q.1 q.3
        exact ⟨⟨by have := q.1; omega, fun p e => (hG3 e).elim (fun ⟨p', q'⟩ => q.2 p' q') (fun q' => by have := q.1; omega), q.3⟩, (ho₄ b q3).trans (same b q.1 q.2 q3)⟩
      have hgetb := readBack_get hrb'
      have hgets := readBack_slot hrb'
      have hbx : boxesBx esh = true := by simp only [eshOk, Bool.and_eq_true] at hesh; exact hesh.1.2
      have hin : ∀ b ∈ outBoxes esh, St.get (mkSt esh e') (.box b) = St.get st₃ (.box b) := fun b hb => by
        obtain ⟨t, n, q⟩ := box_told e' hbx b hb
        rcases hgetb (.box b) (by simp) with q1 | ⟨k, x, _, q2, q3⟩
        · rw [q] at q1; cases q1
        · rw [q2, q3]
      have hsame : ∀ b ∈ outBoxes esh, St.get st₃ (.box b) = St.get (mkSt esh (un b0)) (.box b) ∧ G₃ (.box b) = Gc (.box b) := fun b hb => by
        obtain ⟨t, n, q⟩ := box_told (un b0) hbx b hb
        have q2 : St.get st₃ (.box b) = St.get (mkSt esh (un b0)) (.box b) := by rw [← hin b hb, get_box_indep e' (un b0) hbx]
        obtain ⟨gb, hgb⟩ := hpinA b hb
        refine ⟨q2, ?_⟩
        rw [r₄.pins b gb hgb (by rw [q2, q]; simp), h1.pins b gb (by rw [h3]; exact hgb) (by rw [q]; simp)]
      have hvs : ∀ j, tmps.toList.getD j undef = tmps.getD j undef := fun j => by simp
      have htl : tmps.toList.length = N := by simpa using h1.tmps
      have hcl : ∀ p, ∀ b ∈ boxesIn (St.get (mkSt esh e') p), b ∈ outBoxes esh := fun p b hb => by
        rcases mkSt_kind (sh := esh) (s := e') p with q | ⟨k, x, q1, q2⟩
        · rw [q] at hb; simp [boxesIn] at hb
        · rw [q2] at hb; exact boxes_mk (eshOk_mem hesh q1).1.1 b hb
      have hI := Rel.image' r₄ (g' := St.get (mkSt esh e')) (vs := tmps.toList) (E' := inside E esh) rfl (src := fun _ => none) (Z' := ⟨fun b => Zc b ∨ Pr b, Zc.yl⟩) (w1 := w₄) (Ow1 := ⟨fun b => ∃ p, imageG (St.get (mkSt esh e')) (fun _ => none) G₃ p = some b, pinE, []⟩) (fun b q => q.3) rfl rfl rfl (Nat.le_refl _) (fun _ _ _ => rfl) (fun p b q => .inl ⟨p, q⟩)
        (fun b q => q.elim (fun ⟨p, q⟩ => by obtain ⟨p', q'⟩ := imageG_some q; exact hGz₃ q') (fun q => r₄.zow b (.inr q))) (ds := []) rfl (fun b gb q q' => r₄.pins b gb q q') (fun b gb q => .inr (hpinE b gb q))
        (fun j => by
          rw [hgets j, hvs]
          have hs := h1.slots j
          rcases mkSt_kind (sh := esh) (s := un b0) (.slot j) with q | ⟨k, x, q1, q2⟩
          · exact .inl q
          · rw [q2] at hs ⊢
            obtain ⟨e1, e2⟩ := eshOk_mem hesh q1
            rcases tells_of_plain (e2 j rfl) x with q3 | q3
            · exact .inl q3
            · refine .inr (.inr (.inr ⟨q3, .slot j, ?_⟩))
              refine tells_move (Z := ⟨fun b => Zc b ∨ Pr b, Zc.yl⟩) (G := Gc) (w := W) (a := { tmps := tmps, defers := [] }) (g := St.get (mkSt esh (un b0))) (l := .slot j) q3 ?_ hfree (fun b hb t n q => ?_)
              · have := h0.slots j
                rw [q2] at this; exact this
              · obtain ⟨s1, s2⟩ := hsame b (boxes_mk e1.1 b hb)
                exact ⟨s1.trans q, s2⟩)
        (fun _ _ _ q => by cases q)
        (fun n i => by
          rcases mkSt_kind (sh := esh) (s := e') (.comp n i) with q | ⟨k, x, q1, q2⟩
          · exact q
          · exact absurd rfl ((eshOk_mem hesh q1).1.2.2 n i))
        (fun b => by
          rcases hgetb (.box b) (by simp) with q1 | ⟨k, x, _, q2, q3⟩
          · exact .inl q1
          · right; rw [q2, q3])
        (fun b o => by
          rcases hgetb (.cell b o) (by simp) with q1 | ⟨k, x, q0, q2, q3⟩
          · exact .inl q1
          · obtain ⟨e1, _⟩ := eshOk_mem hesh q0
            right
            rw [q2, q3]
            exact ⟨im_self e1.1 x, hin b (e1.2.1 b o rfl)⟩)
        (fun p b hb => hin b (hcl p b hb))
      rw [htl, show tmps.toList.toArray = tmps from Array.toArray_toList] at hI
      have hGi : ∀ {p b}, imageG (St.get (mkSt esh e')) (fun _ => none) G₃ p = some b → b < w₄.heap.size ∧ ((∃ p', Gc p' = some b) ∨ W.heap.size ≤ b) ∧ (Zc b ∨ Pr b) := fun {p b} q => by
        obtain ⟨p', q'⟩ := imageG_some q
        exact ⟨(r₄.bnd p' b q').1, hG3 q', hGz₃ q'⟩
      refine ⟨⟨by omega, fun b q1 q2 => ?_⟩, fun b => b = l ∨ b = D ∨ ∃ p, imageG (St.get (mkSt esh e')) (fun _ => none) G₃ p = some b, fun b q => ?_, fun b q => ?_, ?_⟩
      · have q3 : b ≠ l := fun e => q2 (e ▸ h.cl)
        rw [ho₄ b q3]
        exact same b q1 (fun p e => q2 (h5 b (hG e).2).1) q3
      · rcases q with rfl | rfl | ⟨p, q⟩
        · exact .inl h.cl
        · exact .inl h.cD
        · rcases (hGi q).2.1 with ⟨p', q'⟩ | q'
          · exact .inl (h5 b (hG q').2).1
          · exact .inr q'
      · rcases q with rfl | rfl | ⟨p, q⟩
        · have := hlW.1; omega
        · have := hDW.1; omega
        · exact (hGi q).1
      · have hDl : D ≠ l := fun e => by
          have := h.hD
          rw [e, h.hl] at this
          cases this
        refine ⟨⟨_, _, _, hI, h2, rfl, rfl, fun b ⟨p, q⟩ => ?_, fun b q1 q2 => ?_⟩, h.ge, .inl rfl, .inr (.inl rfl), fun b q => ?_, fun b q => ?_, ?_, ?_, ?_, ?_, ?_, ?_, fun k q1 q2 => ?_⟩
        · obtain ⟨r1, r2, r3⟩ := hGi q
          refine ⟨.inr (.inr ⟨p, q⟩), ?_, hZ₁ b r3, ?_⟩
          · rcases r2 with ⟨p', q'⟩ | q'
            · exact (h5 b (hG q').2).2.1
            · intro e; subst e; have := hDW.1; omega
          · rcases r2 with ⟨p', q'⟩ | q'
            · exact (h5 b (hG q').2).2.2.2
            · exact .inr (Nat.le_trans h.size q')
        · by_cases hb : b < W.heap.size
          · exact hZl b hb q2
          · refine ⟨fun q => hb (h.t b q).1, fun e => hb (e ▸ hDW.1), fun e => hb (e ▸ hlW.1), fun q => absurd (Nat.lt_of_lt_of_le q h.size) hb⟩
        · rcases q with rfl | rfl | ⟨p, q⟩
          · exact ⟨by omega, hlW.2⟩
          · exact ⟨by have := hDW.1; omega, hDW.2⟩
          · obtain ⟨r1, r2, r3⟩ := hGi q
            refine ⟨r1, fun q' => ?_⟩
            rcases r2 with ⟨p', q2⟩ | q2
            · exact (h.cs b (h5 b (hG q2).2).1).2 q'
            · have := (h.t b q').1; omega
        · obtain ⟨r1, r2⟩ := h.t b q
          exact ⟨by omega, r2⟩
        · rw [hw₄]; exact World.putObj_heap_same (Array.getElem?_eq_some_iff.1 hl₃).1
        · rw [ho₄ D hDl]
          refine (same D hDW.1 (fun p e => (h5 D (hG e).2).2.1 rfl) hDl).trans h.hD
        · rw [hw₄]; exact ((r₃.os.trans (by rw [hw₂]; rfl)).trans r₁.os).trans h.os
        · rw [hw₄]; exact ((r₃.tape.trans (by rw [hw₂]; rfl)).trans r₁.tape).trans h.tape
        · rw [hw₄]; exact ((r₃.output.trans (by rw [hw₂]; rfl)).trans r₁.output).trans h.output
        · have := h.size; omega
        · have q3 : k ≠ l := fun e => by
            have := h.ge.1
            omega
          rw [ho₄ k q3]
          refine (same k (Nat.lt_of_lt_of_le q1 h.size) (fun p e => ?_) q3).trans (h.low k q1 q2)
          rcases (h5 k (hG e).2).2.2.2 with ⟨p', q'⟩ | q'
          · exact q2 p' q'
          · omega
    have out : ∀ (jump : Option Code) (e' : Tup esh), readBack st₃.get esh (un b0) = some e' →
        ∃ v w', (Instr.endRound l jump).run P w₃ = .ok v w' ∧ v = .bool jump.isNone ∧ (w'.os = W.os ∧ w'.tape = W.tape ∧ w'.output = W.output ∧ W.heap.size ≤ w'.heap.size ∧ (∀ b, b < W.heap.size → ¬ C b → w'.heap[b]? = W.heap[b]?)) ∧
          ∃ C', (∀ b, C' b → C b ∨ W.heap.size ≤ b) ∧ (∀ b, C' b → b < w'.heap.size) ∧ Hold E N esh w G Zf D l tmps pinE (recOf fn tmps ps asg body D (if jump.isNone then .ready else .done) jump) e' T C' w' := by
      intro jump e' q
      obtain ⟨⟨f1, f2⟩, C', f3, f4, f5⟩ := fin (if jump.isNone then .ready else .done) jump e' q
      exact ⟨_, _, run_endRound (P := P) jump hl₃, rfl, ⟨f5.os.trans h.os.symm, f5.tape.trans h.tape.symm, f5.output.trans h.output.symm, f1, f2⟩, C', f3, f4, f5⟩
    have norm : ∀ e', readBack st₃.get esh (un b0) = some e' → z = .inl (pk e') → roundPost P l (fun e W' =>
      (W'.os = W.os ∧ W'.tape = W.tape ∧ W'.output = W.output ∧ W.heap.size ≤ W'.heap.size ∧ (∀ b, b < W.heap.size → ¬ C b → W'.heap[b]? = W.heap[b]?)) ∧
      ∃ C', (∀ b, C' b → C b ∨ W.heap.size ≤ b) ∧ (∀ b, C' b → b < W'.heap.size) ∧ match z with
        | .inl b' => e = .returned (.bool true) ∧ Hold E N esh w G Zf D l tmps pinE (recOf fn tmps ps asg body D .ready none) (un b') T C' W'
        | .inr x => e = .returned (.bool false) ∧ ∃ c, jumpOf (xOf x).1 = some c ∧ Hold E N esh w G Zf D l tmps pinE (recOf fn tmps ps asg body D .done (some c)) (xOf x).2 T C' W') .normal a₃ w₃ := by
      intro e' q hz
      obtain ⟨v, w', o1, o2, o3, C', o4, o5, o6⟩ := out none e' q
      refine ⟨v, w', o1, o3, C', o4, o5, ?_⟩
      rw [hz]
      exact ⟨by rw [o2]; rfl, by rw [hpu]; exact o6⟩
    have jmp : ∀ c e' v, jumpOf x = some c → readBack st₃.get esh (un b0) = some e' → d x e' = some v → z = .inr v →
      ∃ u w', (Instr.endRound l (some c)).run P w₃ = .ok u w' ∧ (w'.os = W.os ∧ w'.tape = W.tape ∧ w'.output = W.output ∧ W.heap.size ≤ w'.heap.size ∧ (∀ b, b < W.heap.size → ¬ C b → w'.heap[b]? = W.heap[b]?)) ∧
      ∃ C', (∀ b, C' b → C b ∨ W.heap.size ≤ b) ∧ (∀ b, C' b → b < w'.heap.size) ∧ match z with
        | .inl b' => (Ending.returned u) = .returned (.bool true) ∧ Hold E N esh w G Zf D l tmps pinE (recOf fn tmps ps asg body D .ready none) (un b') T C' w'
        | .inr x => (Ending.returned u) = .returned (.bool false) ∧ ∃ c, jumpOf (xOf x).1 = some c ∧ Hold E N esh w G Zf D l tmps pinE (recOf fn tmps ps asg body D .done (some c)) (xOf x).2 T C' w' := by
      intro c e' v hj q hdv hz
      obtain ⟨u, w', o1, o2, o3, C', o4, o5, o6⟩ := out (some c) e' q
      refine ⟨u, w', o1, o3, C', o4, o5, ?_⟩
      rw [hz]
      obtain ⟨x1, _⟩ := hd x e' v hdv
      exact ⟨by rw [o2]; rfl, c, by rw [x1]; exact hj, by rw [x1]; exact o6⟩
    cases x with
    | normal =>
      simp only [backR] at hk₃
      split at hk₃
      · rename_i e' q
        cases hk₃
        exact norm e' q rfl
      · cases hk₃
    | _ =>
      simp only [backR] at hk₃
      split at hk₃
      · rename_i e' q
        split at hk₃
        · rename_i v hv
          obtain ⟨_, c, hc⟩ := hd _ e' v hv
          first
            | (simp [jumpOf] at hc; done)
            | exact jmp _ e' v rfl q hv (by cases hk₃; rfl)
        · cases hk₃
      · cases hk₃
  | _ => simp at hk
end
end Go.Ev

/- Ranges over functions: the statement. -/
namespace Go.Ev
open Go.RowKit

theorem imageG_esh {esh : Shape} (hesh : eshOk esh = true) {e : Tup esh} {G : Ghost} {p : Loc} {b : Nat} (h : imageG (St.get (mkSt esh e)) some G p = some b) : ∃ c ∈ outBoxes esh, G (.box c) = some b ∨ ∃ o, G (.cell c o) = some b := by
  have hk := mkSt_kind (sh := esh) (s := e) p
  simp only [imageG] at h
  split at h
  · rename_i e1 t1 xs1 s1 hp
    rw [hp] at hk
    rcases hk with hk | ⟨k, x, q1, q2⟩
    · cases hk
    · obtain ⟨q3, q4⟩ := eshOk_mem hesh q1
      cases p with
      | slot j =>
        have := q4 j rfl
        cases k <;> simp [Kd.mk] at q2
        simp [plainKd] at this
      | comp n i => exact absurd rfl (q3.2.2 n i)
      | box c =>
        exfalso
        have hc : c ∈ outBoxes esh := outBoxes_get (s := e) (by rw [hp]; simp)
        have hbx : boxesBx esh = true := by simp only [eshOk, Bool.and_eq_true] at hesh; exact hesh.1.2
        obtain ⟨t, n, q5⟩ := box_told e hbx c hc
        rw [hp] at q5; cases q5
      | cell c o => exact ⟨c, q3.2.1 c o rfl, .inr ⟨o, h⟩⟩
  · rename_i e1 n1 hp
    cases p with
    | box c => exact ⟨c, outBoxes_get (s := e) (by rw [hp]; simp), .inl h⟩
    | _ => cases h
  · cases h

theorem rangeOk {P : Program} {E : Env} (hE : EnvOk P E) (hm : P.follows .mixedOrders = true) {O : Orc} {L : Nat → Option Sum} {gf t : Nat} {ps : Array Tmp} {asg body : Code} {I : ISpec} (hI : IterOk P E.glob gf I) {esh : Shape}
    (hLa : LoopsOk (inside E esh) O L asg) (hLb : LoopsOk (inside E esh) O L body) (hra : rangesOf asg = []) (hrb : rangesOf body = []) (hesh : eshOk esh = true) (hps : ∀ p ∈ ps.toList, p < O.n) {B X : Type} {pk : Tup esh → B} {un : B → Tup esh} (hpu : ∀ s, un (pk s) = s)
    {d : Exit → Tup esh → Option X} {xOf : X → Exit × Tup esh} (hd : ∀ x e v, d x e = some v → xOf v = (x, e) ∧ ∃ c, jumpOf x = some c) {step : B → I.Y → Option (B ⊕ X)} {leave : X → ∀ R : Type, Cont R → Option R} (hlv : ∀ x R (K : Cont R), leave x R K = K (xOf x).1 (mkSt esh (xOf x).2)) (henc : ∀ y, ps.toList.length = (I.enc y).length)
    (hstep : ∀ b y, ev2 (inside E esh) O L asg (paramsSt ps.toList (I.enc y) (mkSt esh (un b))) (fun x st => match x with | .normal => ev2 (inside E esh) O L body st (backR esh pk d (un b)) | _ => none) = step b y) :
    RangeOk P E O.n (.rangeFunc (.tmp t) ps asg body) (rangeSum E gf t esh I pk un step leave) := by
  intro R st K r hsum Z w0 Ow hdl hz F n Qp a w hFP hro hQ hX
  obtain ⟨Z1, w1, Ow1, G, hb, h0⟩ := hX
  simp only [rangeSum] at hsum
  split at hsum
  case h_2 => cases hsum
  rename_i f cs hfn
  cases hgf : Nat.beq f gf with
  | false => rw [hgf] at hsum; cases hsum
  | true =>
  have hgf' := Nat.eq_of_beq_eq_true hgf
  subst hgf'
  rw [hgf] at hsum
  simp only [cond_true] at hsum
  split at hsum
  case h_2 => cases hsum
  rename_i s m hinq
  cases hcap : captOk I.pin esh cs.length m with
  | false => rw [hcap] at hsum; cases hsum
  | true =>
  rw [hcap] at hsum
  simp only [cond_true] at hsum
  split at hsum
  case h_2 => cases hsum
  rename_i e hread
  rw [Option.bind_eq_some_iff] at hsum
  obtain ⟨ys, hys, hsum⟩ := hsum
  rw [Option.bind_eq_some_iff] at hsum
  obtain ⟨z, hfold, hz9⟩ := hsum
  simp only [captOk, Bool.and_eq_true] at hcap
  obtain ⟨⟨⟨⟨hcl, hc5⟩, hcown⟩, hc0⟩, hcm⟩ := hcap
  have hcl := Nat.eq_of_beq_eq_true hcl
  have hc5 := Nat.le_of_ble_eq_true hc5
  have hnm : ∀ x c, look m x = some c → (∃ b' ∈ outBoxes I.pin, b' = x) ∧ (50000 ≤ x ∧ x < 100000) ∧ ¬ c ∈ outBoxes esh := fun x c hl => by
    have := List.all_eq_true.1 hcm _ (look_mem hl)
    simp only [Bool.and_eq_true, List.any_eq_true, Bool.not_eq_true'] at this
    obtain ⟨⟨⟨⟨b1, q1, q2⟩, q3⟩, q4⟩, q5⟩ := this
    refine ⟨⟨b1, q1, Nat.eq_of_beq_eq_true q2⟩, ⟨Nat.le_of_ble_eq_true q3, by rw [Nat.blt_eq] at q4; exact q4⟩, fun hc => ?_⟩
    have := List.any_eq_false.1 q5 c hc
    simp at this
  have hbx : boxesBx esh = true := by simp only [eshOk, Bool.and_eq_true] at hesh; exact hesh.1.2
  obtain ⟨hbase, h⟩ := hb.fresh hz h0
  obtain ⟨Zf, hZf⟩ : ∃ Zf : ZS, Zf = ⟨fun b => (b < w.heap.size ∧ Z1 b) ∨ w.heap.size ≤ b, Z1.yl⟩ := ⟨_, rfl⟩
  obtain ⟨OwF, hOwF⟩ : ∃ OwF : OwS, OwF = ⟨fun b => ∃ p, G p = some b, Ow1.pin, Ow1.dl⟩ := ⟨_, rfl⟩
  rw [← hZf, ← hOwF] at hbase h
  have hOr : ∀ b, OwF b ↔ ∃ p, G p = some b := fun b => by rw [hOwF]
  have hGz : ∀ {p b}, G p = some b → b < w.heap.size ∧ Zf b := fun {p b} q => ⟨(h.bnd p b q).1, h.zow b (h.bnd p b q).2⟩
  have hadl : a.defers = Ow1.dl := h0.defers
  obtain ⟨lb, hv1, hv2, hv3⟩ : AVR Zf (St.get st) G a w (.fn f cs) (.slot t) (a.tmps.getD t undef) := by
    have := h.slots t
    rw [hfn] at this
    exact this
  -- what is read at the entry
  have hrd := readSh_get hread
  have hinb : ∀ b ∈ outBoxes esh, St.get (mkSt esh e) (.box b) = St.get st (.box b) := fun b hbm => by
    obtain ⟨t1, n1, q⟩ := box_told e hbx b hbm
    rcases hrd (.box b) with q1 | ⟨k, x, _, q2, q3⟩
    · rw [q] at q1; cases q1
    · rw [q2, q3]
  obtain ⟨pinE, hpE⟩ : ∃ pinE : Nat → Option Nat, pinE = fun b => bif heldOf esh b then G (.box b) else none := ⟨_, rfl⟩
  have hheld : ∀ b, heldOf esh b = true ↔ b ∈ outBoxes esh := fun b => by
    simp only [heldOf, List.any_eq_true]
    exact ⟨fun ⟨c, q1, q2⟩ => Nat.eq_of_beq_eq_true q2 ▸ q1, fun q => ⟨b, q, Nat.beq_refl b⟩⟩
  have hpinE : ∀ b gb, pinE b = some gb → heldOf esh b = true := fun b gb q => by
    rw [hpE] at q
    cases hh : heldOf esh b with
    | true => rfl
    | false => simp only [hh, cond_false] at q; cases q
  have hpinG : ∀ b, b ∈ outBoxes esh → pinE b = G (.box b) := fun b q => by
    rw [hpE]
    simp only [(hheld b).2 q, cond_true]
  have hpinA : ∀ b ∈ outBoxes esh, ∃ gb, pinE b = some gb := fun b q => by
    obtain ⟨t1, n1, q1⟩ := box_told e hbx b q
    obtain ⟨gb, _, q2, _⟩ := h.boxes b t1 n1 (by rw [← hinb b q]; exact q1)
    exact ⟨gb, (hpinG b q).trans q2⟩
  refine wpIn_rangeFunc ?_
  intro fn hfnn
  rw [hro]
  obtain ⟨W1, hW1⟩ : ∃ W1, (w.alloc (.deferred (some []))).alloc (.loop (recOf fn a.tmps ps asg body w.heap.size .ready none)) = W1 := ⟨_, rfl⟩
  have hs1 : W1.heap.size = w.heap.size + 2 := by rw [← hW1]; simp
  have hL1 : W1.heap[w.heap.size + 1]? = some (.loop (recOf fn a.tmps ps asg body w.heap.size .ready none)) := by
    rw [← hW1]; have := World.alloc_heap_new (w.alloc (.deferred (some []))) (.loop (recOf fn a.tmps ps asg body w.heap.size .ready none)); rwa [World.size_alloc] at this
  have hD1 : W1.heap[w.heap.size]? = some (.deferred (some [])) := by
    rw [← hW1]; exact (Below.heap_alloc _ _ _ (by simp)).trans (World.alloc_heap_new w _)
  have ho1 : ∀ b, b < w.heap.size → W1.heap[b]? = w.heap[b]? := fun b q => by
    rw [← hW1]; exact (Below.heap_alloc _ _ _ (by simp; omega)).trans (Below.heap_alloc _ _ _ q)
  -- the state, told from there
  obtain ⟨Z2, hZ2⟩ : ∃ Z2 : ZS, Z2 = ⟨fun b => (b < w.heap.size ∧ Zf b) ∨ W1.heap.size ≤ b, Zf.yl⟩ := ⟨_, rfl⟩
  have hZ2b : ∀ b, Z2 b ↔ (b < w.heap.size ∧ Zf b) ∨ W1.heap.size ≤ b := fun b => by rw [hZ2]
  have h1 : RelC Z2 E O.n W1 OwF st G a W1 := Rel.rebase h (by rw [hZ2]) (by omega) (fun b q1 _ => ho1 b q1) (fun b q1 q2 => (hZ2b b).2 (.inl ⟨q1, q2⟩)) (fun b q => (hZ2b b).2 (.inr q)) (fun p b q => (hOr b).2 ⟨p, q⟩) (fun b q => (hZ2b b).2 (by obtain ⟨p, q⟩ := (hOr b).1 q; exact .inl (hGz q))) rfl rfl
  obtain ⟨gc, hgc⟩ : ∃ gc, gc = St.get (mkSt I.pin s) := ⟨_, rfl⟩
  obtain ⟨args, hargs⟩ : ∃ args : List Value, args = .func (.yield (w.heap.size + 1)) #[] #[] :: lb.toList := ⟨_, rfl⟩
  have hal : args.length = max 1 (nres I.pin) := by rw [hargs, ← hcl]; simp [hv2]
  obtain ⟨hmi, _, hfz, hent⟩ := inQ_spec h1 (rfl : (gcond []).run (St.get st) = some true) hinq (fun b b' c hb => by simp [look] at hb)
  have hbxs := inQ_boxes hinq
  have hFz : Frozen Z2 W1 (St.get st) G [] G := ⟨fun _ q => q, by simp, fun _ _ => rfl, fun _ => .inr rfl, fun _ => rfl⟩
  have hno0 : St.get (mkSt I.pin s) (.slot 0) = .dead := by
    rcases mkSt_kind (sh := I.pin) (s := s) (.slot 0) with q | ⟨k, x, q1, _⟩
    · exact q
    · have := List.all_eq_true.1 hc0 _ q1
      simp [Loc.eq] at this
  have hcal := Rel.callee h1 (w.heap.size + 1) (m := m) hmi (fun b c hl => (hnm b c hl).2.1) (gc := gc) (args := args) (by rw [hargs]; simp [hv2]; omega)
    (fun j => by
      rw [hgc]
      cases j with
      | zero => rw [hno0]; trivial
      | succ j =>
        rcases hent (.slot (j + 1)) with q1 | ⟨x, v, m1, k, r1, q1, q2, q3, q4, q5, q6, q7⟩
        · rw [q1]; trivial
        · rw [q7]
          refine inArg_val h1 (rfl : (gcond []).run (St.get st) = some true) hFz ?_ q2 q3 q4 q5 q6
          simp only [List.getElem?_cons_succ, List.getElem?_map, Option.map_eq_some_iff] at q1
          obtain ⟨c, hc, rfl⟩ := q1
          obtain ⟨e1, n1, gb, q8, q9, q10⟩ := hv3 j c hc
          refine ⟨e1, n1, gb, q8, q9, ?_⟩
          rw [hargs]
          simpa [Array.getD_eq_getD_getElem?, List.getD_eq_getElem?_getD] using q10)
    (fun j q => by rw [hgc]; exact hent (.comp j q))
    (fun b => by
      rw [hgc]
      rcases hent (.box b) with q1 | ⟨c, e1, k, q1, q2, q3⟩
      · exact .inl q1
      · exact .inr ⟨c, e1, k, q1, q2, q3⟩)
    (fun b c hl => by
      obtain ⟨b', q1, rfl⟩ := (hnm b c hl).1
      rw [hgc]
      exact hbxs b' q1)
    (fun b j => by
      rw [hgc]
      rcases hent (.cell b j) with q1 | ⟨c, m1, k, r1, q1, q2, q3, q4, q5, q6, q7⟩
      · exact .inl q1
      · refine .inr ⟨c, q1, ?_⟩
        rw [q6]
        exact inCell_conv hfz hFz rfl q2 q3 q4 q5 (fun e1 t1 hk => by subst hk; exact ownKept_spec hcown q7 q1))
  have hcG : ∀ {p b}, calleeG m gc G p = some b → (∃ p', G p' = some b) ∧ ∀ c ∈ outBoxes esh, G (.box c) ≠ some b ∧ ∀ o, G (.cell c o) ≠ some b := fun {p b} q => by
    rcases calleeG_some q with ⟨x, c, _, _, _, q1, q2, _⟩ | ⟨x, c, o, _, _, _, _, _, q1, q2, _⟩
    · refine ⟨⟨_, q2⟩, fun c' hc' => ⟨fun q3 => ?_, fun o q3 => ?_⟩⟩
      · have := h.inj _ _ b q2 q3
        cases this
        exact (hnm x c q1).2.2 hc'
      · have := h.inj _ _ b q2 q3; cases this
    · refine ⟨⟨_, q2⟩, fun c' hc' => ⟨fun q3 => ?_, fun o' q3 => ?_⟩⟩
      · have := h.inj _ _ b q2 q3; cases this
      · have := h.inj _ _ b q2 q3
        cases this
        exact (hnm x c q1).2.2 hc'
  -- the consumer's part
  have hvs : ∀ j, a.tmps.toList.getD j undef = a.tmps.getD j undef := fun j => by simp
  have htl : a.tmps.toList.length = O.n := by simpa using h.tmps
  have hclz : ∀ (e' : Tup esh) p, ∀ b ∈ boxesIn (St.get (mkSt esh e') p), b ∈ outBoxes esh := fun e' p b hb => by
    rcases mkSt_kind (sh := esh) (s := e') p with q | ⟨k, x, q1, q2⟩
    · rw [q] at hb; simp [boxesIn] at hb
    · rw [q2] at hb; exact boxes_mk (eshOk_mem hesh q1).1.1 b hb
  have hiG : ∀ {p b}, imageG (St.get (mkSt esh e)) some G p = some b → (∃ p', G p' = some b) ∧ ∀ p', calleeG m gc G p' ≠ some b := fun {p b} q => by
    obtain ⟨c, hc, q1⟩ := imageG_esh hesh q
    refine ⟨q1.elim (fun q => ⟨_, q⟩) (fun ⟨_, q⟩ => ⟨_, q⟩), fun p' q2 => ?_⟩
    obtain ⟨_, q3⟩ := hcG q2
    rcases q1 with q1 | ⟨o, q1⟩
    · exact (q3 c hc).1 q1
    · exact (q3 c hc).2 o q1
  have hI0 := Rel.image' h1 (g' := St.get (mkSt esh e)) (vs := a.tmps.toList) (E' := inside E esh) rfl (src := some) (Z' := ⟨fun b => (b < w.heap.size ∧ Zf b ∧ ¬ ∃ p, calleeG m gc G p = some b) ∨ W1.heap.size ≤ b, Zf.yl⟩) (w1 := W1) (Ow1 := ⟨fun b => ∃ p, imageG (St.get (mkSt esh e)) some G p = some b, pinE, []⟩)
    (fun b q => by
      rcases (hZ2b b).1 q.3 with ⟨q1, q2⟩ | q1
      · exact .inl ⟨q1, q2, fun ⟨p, q3⟩ => by obtain ⟨⟨p', q4⟩, _⟩ := hcG q3; exact q.2 p' q4⟩
      · exact .inr q1)
    rfl rfl rfl (Nat.le_refl _) (fun _ _ _ => rfl) (fun p b q => .inl ⟨p, q⟩)
    (fun b q => q.elim (fun ⟨p, q⟩ => by
      obtain ⟨⟨p', q1⟩, q2⟩ := hiG q
      exact .inl ⟨(hGz q1).1, (hGz q1).2, fun ⟨p, q3⟩ => q2 p q3⟩) (fun q => .inr q)) (ds := []) rfl
    (fun b gb q _ => (hpinG b ((hheld b).1 (hpinE b gb q))).symm.trans q) (fun b gb q => .inr (hpinE b gb q))
    (fun j => by
      rcases hrd (.slot j) with q | ⟨k, x, q1, q2, q3⟩
      · exact .inl q
      · refine .inr (.inl ⟨j, rfl, ?_, hvs j⟩)
        rw [q2, q3]
        exact im_self (eshOk_mem hesh q1).1.1 x)
    (fun j j' r q q' => by cases q; cases q'; rfl)
    (fun n i => by
      rcases mkSt_kind (sh := esh) (s := e) (.comp n i) with q | ⟨k, x, q1, q2⟩
      · exact q
      · exact absurd rfl ((eshOk_mem hesh q1).1.2.2 n i))
    (fun b => by
      rcases hrd (.box b) with q | ⟨k, x, q1, q2, q3⟩
      · exact .inl q
      · right; rw [q2, q3])
    (fun b o => by
      rcases hrd (.cell b o) with q | ⟨k, x, q1, q2, q3⟩
      · exact .inl q
      · right
        rw [q2, q3]
        exact ⟨im_self (eshOk_mem hesh q1).1.1 x, hinb b ((eshOk_mem hesh q1).1.2.1 b o rfl)⟩)
    (fun p b hb => hinb b (hclz e p b hb))
  rw [htl, show a.tmps.toList.toArray = a.tmps from Array.toArray_toList] at hI0
  have hH0 : Hold E O.n esh w G Zf w.heap.size (w.heap.size + 1) a.tmps pinE (recOf fn a.tmps ps asg body w.heap.size .ready none) e (fun b => ∃ p, calleeG m gc G p = some b) (fun b => b = w.heap.size + 1 ∨ b = w.heap.size ∨ ∃ p, imageG (St.get (mkSt esh e)) some G p = some b) W1 := by
    refine ⟨⟨_, _, _, hI0, rfl, rfl, rfl, fun b ⟨p, q⟩ => ?_, fun b q1 q2 => ?_⟩, ⟨by omega, Nat.le_refl _⟩, .inl rfl, .inr (.inl rfl), fun b q => ?_, fun b ⟨p, q⟩ => ?_, hL1, hD1, by rw [← hW1]; rfl, by rw [← hW1]; rfl, by rw [← hW1]; rfl, by omega, fun k q1 _ => ho1 k q1⟩
    · obtain ⟨⟨p', q1⟩, _⟩ := hiG q
      have := (hGz q1).1
      exact ⟨.inr (.inr ⟨p, q⟩), by omega, by omega, .inl ⟨p', q1⟩⟩
    · rcases q2 with ⟨q2, q3, q4⟩ | q2
      · exact ⟨q4, by omega, by omega, fun _ => q3⟩
      · omega
    · rcases q with rfl | rfl | ⟨p, q⟩
      · refine ⟨by omega, fun ⟨p, q⟩ => ?_⟩
        obtain ⟨⟨p', q1⟩, _⟩ := hcG q
        have := (hGz q1).1; omega
      · refine ⟨by omega, fun ⟨p, q⟩ => ?_⟩
        obtain ⟨⟨p', q1⟩, _⟩ := hcG q
        have := (hGz q1).1; omega
      · obtain ⟨⟨p', q1⟩, q2⟩ := hiG q
        exact ⟨by have := (hGz q1).1; omega, fun ⟨p, q3⟩ => q2 p q3⟩
    · obtain ⟨⟨p', q1⟩, _⟩ := hcG q
      exact ⟨by have := (hGz q1).1; omega, fun _ => ⟨p', q1⟩⟩
  -- the end
  have leave : ∀ {rc : Loop} {e' : Tup esh} {T C : Nat → Prop} {W : World}, Hold E O.n esh w G Zf w.heap.size (w.heap.size + 1) a.tmps pinE rc e' T C W → rc.state ≠ .busy → ∃ w₄, (Instr.endLoop (w.heap.size + 1)).run P W = .ok rc.pending w₄ ∧ RelX Z E O.n w0 Ow (mkSt esh e') { a with defers := [{ target := .collected w.heap.size, args := #[] }] ++ a.defers } w₄ := by
    intro rc e' T C W hH hst
    refine ⟨_, run_endLoop hH.hl hst, ?_⟩
    obtain ⟨Zc, Owc, Gc, c1, c2, c3, c4, c5, c6⟩ := hH.rel
    obtain ⟨w₄, hw₄⟩ : ∃ w₄, w₄ = W.putObj (w.heap.size + 1) (.loop { rc with state := .exhausted }) := ⟨_, rfl⟩
    rw [← hw₄]
    have hs₄ : w₄.heap.size = W.heap.size := by rw [hw₄]; simp
    have ho₄ : ∀ k, k ≠ w.heap.size + 1 → w₄.heap[k]? = W.heap[k]? := fun k q => by rw [hw₄]; exact World.putObj_heap_other q
    have hG : ∀ {p b}, Gc p = some b → b < W.heap.size ∧ Owc b := fun {p b} q => by
      obtain ⟨q1, q2⟩ := c1.bnd p b q
      exact ⟨q1, q2.resolve_right (by omega)⟩
    have r₄ : Rel Zc (inside E esh) O.n w₄ ⟨fun b => ∃ p, Gc p = some b, pinE, []⟩ (fun n => n = 0) (fun _ => False) (St.get (mkSt esh e')) Gc { tmps := a.tmps, defers := [] } w₄ :=
      Rel.rebase c1 rfl (Nat.le_of_eq hs₄.symm) (fun b q1 q2 => ho₄ b (c6 b q1 q2).2.2.1) (fun b _ q => q) (fun b q => c1.zow b (.inr (by omega))) (fun p b q => ⟨p, q⟩) (fun b ⟨p, q⟩ => c1.zow b (.inl (hG q).2)) c3.symm c4.symm
    have hlW : w.heap.size + 1 < W.heap.size := (Array.getElem?_eq_some_iff.1 hH.hl).1
    have hI4 := Rel.image' r₄ (g' := St.get (mkSt esh e')) (vs := a.tmps.toList) (E' := E) rfl (src := some) (Z' := Zc) (w1 := w₄) (Ow1 := ⟨fun b => ∃ p, imageG (St.get (mkSt esh e')) some Gc p = some b, Ow1.pin, [{ target := .collected w.heap.size, args := #[] }] ++ a.defers⟩)
      (fun b q => q.3) rfl rfl rfl (Nat.le_refl _) (fun _ _ _ => rfl) (fun p b q => .inl ⟨p, q⟩)
      (fun b q => q.elim (fun ⟨p, q⟩ => by obtain ⟨p', q'⟩ := imageG_some q; exact c1.zow b (.inl (hG q').2)) (fun q => c1.zow b (.inr (by omega)))) (ds := [{ target := .collected w.heap.size, args := #[] }] ++ a.defers) rfl
      (fun b gb q q' => by
        have hbm : b ∈ outBoxes esh := outBoxes_get q'
        obtain ⟨t1, n1, q1⟩ := box_told e hbx b hbm
        have q2 := h.pins b gb (by rw [hOwF]; exact q) (by rw [← hinb b hbm, q1]; simp)
        exact r₄.pins b gb ((hpinG b hbm).trans q2) q')
      (fun b gb q => by rw [htl]; exact h.pinR b gb (by rw [hOwF]; exact q))
      (fun j => by
        rcases mkSt_kind (sh := esh) (s := e') (.slot j) with q | ⟨k, x, q1, q2⟩
        · exact .inl q
        · refine .inr (.inl ⟨j, rfl, ?_, hvs j⟩)
          rw [q2]
          exact im_self (eshOk_mem hesh q1).1.1 x)
      (fun j j' r q q' => by cases q; cases q'; rfl)
      (fun n i => by
        rcases mkSt_kind (sh := esh) (s := e') (.comp n i) with q | ⟨k, x, q1, q2⟩
        · exact q
        · exact absurd rfl ((eshOk_mem hesh q1).1.2.2 n i))
      (fun b => .inr rfl)
      (fun b o => by
        rcases mkSt_kind (sh := esh) (s := e') (.cell b o) with q | ⟨k, x, q1, q2⟩
        · exact .inl q
        · right
          rw [q2]
          exact ⟨im_self (eshOk_mem hesh q1).1.1 x, rfl⟩)
      (fun p b hb => rfl)
    rw [htl, show a.tmps.toList.toArray = a.tmps from Array.toArray_toList] at hI4
    have hOc : ∀ {p b}, imageG (St.get (mkSt esh e')) some Gc p = some b → Owc b := fun {p b} q => by obtain ⟨p', q'⟩ := imageG_some q; exact (hG q').2
    refine ⟨Zc, w₄, ⟨fun b => ∃ p, imageG (St.get (mkSt esh e')) some Gc p = some b, Ow1.pin, [{ target := .collected w.heap.size, args := #[] }] ++ a.defers⟩, _, ⟨c2.trans hbase.yl, ?_, ?_, ?_, ?_, fun k q1 q2 => ?_, fun b ⟨p, q⟩ => ?_, fun b q => ?_, hb.pin, ?_, fun d' hd' => ?_⟩, hI4⟩
    · rw [hw₄]; exact hH.os.trans hbase.os
    · rw [hw₄]; exact hH.tape.trans hbase.tape
    · rw [hw₄]; exact hH.output.trans hbase.output
    · have := hbase.size; have := hH.size; omega
    · have := hbase.size
      rw [ho₄ k (by omega), hH.low k (by omega) (fun p q => (hbase.ow k ((hOr k).2 ⟨p, q⟩)).elim q2 (by omega))]
      exact hbase.low k q1 q2
    · rcases (c5 b (hOc q)).2.2.2 with ⟨p', q'⟩ | q'
      · exact hbase.ow b ((hOr b).2 ⟨p', q'⟩)
      · exact .inr (Nat.le_trans hbase.size q')
    · by_cases hb' : b < w.heap.size
      · exact hbase.z b ((c6 b (Nat.lt_of_lt_of_le hb' hH.size) q).2.2.2 hb')
      · exact hz b (.inr (by have := hbase.size; omega))
    · rw [hadl]
      refine List.nodup_cons.2 ⟨fun hmem => ?_, hb.nd⟩
      obtain ⟨k, q1, _, q3, _⟩ := hbase.dl _ (by rw [hOwF]; exact hmem)
      have : w.heap.size = k := by simpa using q1
      omega
    · rcases List.mem_cons.1 hd' with rfl | hd'
      · refine ⟨w.heap.size, rfl, hbase.size, by omega, fun ⟨p, q⟩ => (c5 _ (hOc q)).2.1 rfl, fun q => (c6 _ (by omega) q).2.1 rfl, ?_⟩
        rw [ho₄ _ (by omega)]; exact hH.hD
      · rw [hadl] at hd'
        obtain ⟨k, q1, q2, q3, q4, q5, q6⟩ := hbase.dl d' (by rw [hOwF]; exact hd')
        have hsz := hH.size
        refine ⟨k, q1, q2, by omega, fun ⟨p, q⟩ => ?_, fun q => q5 ((c6 k (by omega) q).2.2.2 q3), ?_⟩
        · rcases (c5 k (hOc q)).2.2.2 with ⟨p', q'⟩ | q'
          · exact q4 ((hOr k).2 ⟨p', q'⟩)
          · omega
        · rw [ho₄ k (by omega), hH.low k q3 (fun p q => q4 ((hOr k).2 ⟨p, q⟩))]
          exact q6
  refine ⟨w.heap.size + 1, [{ target := .collected w.heap.size, args := #[] }], W1, { target := .fn (.func f) lb, args := #[.func (.yield (w.heap.size + 1)) #[] #[]] }, W1, f, args.toArray, W1, ?_, ?_, fun f' _ => hFP.fn f', ?_, fun hdp => by rw [hFP.depth] at hdp; simp at hdp, ?_⟩
  · rw [← hW1]; exact run_enterLoop_outer _ _ _ _ _
  · have hg : a.eval (.tmp t) = .func (.func f) #[] lb := hv1
    simp only [resolve, hg]
    simp [go_sem]
  · rw [hargs]
    simp [invoke, go_sem, hI.enter]
  · refine hFP.calls ?_
    have hcalls := hI.calls ⟨(calleeZ Z2 m gc G W1).z, w.heap.size + 1⟩ W1 (calleeOw m gc G) (calleeG m gc G) args (w.heap.size + 1) s ys hys rfl (fun b gb q => by
      simp only [calleeOw, Option.bind_eq_some_iff] at q
      obtain ⟨c, q1, _⟩ := q
      exact (hnm b c q1).2.1.1) hal rfl (by rw [hargs]; rfl) (by rw [← hgc]; exact hcal)
      (fun pre T C W => ∃ b, foldX step pre (pk e) = some (.inl b) ∧ Hold E O.n esh w G Zf w.heap.size (w.heap.size + 1) a.tmps pinE (recOf fn a.tmps ps asg body w.heap.size .ready none) (un b) T C W)
      (fun T C W => ∃ x c, foldX step ys (pk e) = some (.inr x) ∧ jumpOf (xOf x).1 = some c ∧ Hold E O.n esh w G Zf w.heap.size (w.heap.size + 1) a.tmps pinE (recOf fn a.tmps ps asg body w.heap.size .done (some c)) (xOf x).2 T C W)
      ⟨fun ⟨b, q1, q2⟩ e1 e2 e3 e4 e5 => ⟨b, q1, q2.later e1 e2 e3 e4 e5⟩, fun ⟨x, c, q1, q2, q3⟩ e1 e2 e3 e4 e5 => ⟨x, c, q1, q2, q3.later e1 e2 e3 e4 e5⟩, fun ⟨b, q1, q2⟩ e1 => ⟨b, q1, q2.less e1⟩, fun ⟨b, q1, q2⟩ b' q => (q2.cs b' q).1, ?_⟩
      (fun b => ∃ p, calleeG m gc G p = some b) (fun b => b = w.heap.size + 1 ∨ b = w.heap.size ∨ ∃ p, imageG (St.get (mkSt esh e)) some G p = some b) ⟨pk e, rfl, by rw [hpu]; exact hH0⟩ (fun b q => q) ?_
    · refine Calls.mono hcalls ?_
      rintro en W ⟨⟨v, rfl⟩, T, C, ⟨b, q1, q2⟩ | ⟨x, c, q1, q2, q3⟩⟩
      · obtain ⟨w₄, k1, k2⟩ := leave q2 (by simp [recOf])
        rw [hfold] at q1
        cases q1
        exact ⟨none, w₄, k1, hQ _ _ _ _ hz9 k2⟩
      · obtain ⟨w₄, k1, k2⟩ := leave q3 (by simp [recOf])
        rw [hfold] at q1
        cases q1
        refine ⟨some c, w₄, k1, ?_⟩
        dsimp only at hz9
        rw [hlv] at hz9
        generalize hxe : (xOf x).1 = xe at q2 hz9
        cases xe <;> simp [jumpOf] at q2
        all_goals subst q2
        all_goals first
          | exact wpIn_ret (hQ _ _ _ _ hz9 k2)
          | exact wpIn_exit (hQ _ _ _ _ hz9 k2)
    · intro pre T C W x ⟨b, q1, q2⟩ hpre Pr vs hA hPr mm
      obtain ⟨rest, hrest⟩ := hpre
      have hf2 : foldX step ([x] ++ rest) b = some z := by
        have q9 := hfold
        rw [← hrest, List.append_assoc, foldX_append, q1] at q9
        exact q9
      simp only [List.cons_append, List.nil_append, foldX] at hf2
      cases hst : step b x with
      | none => rw [hst] at hf2; cases hf2
      | some z1 =>
        obtain ⟨tmps', k1, k2⟩ := hold_round ⟨hE.tab, hE.spec, hE.spec2⟩ hm rfl hLa hLb hra hrb hesh hps hpu hd (henc x) ((hstep b x).trans hst) q2 hA (fun b' q => by
          obtain ⟨r1, r2, r3, r4⟩ := hPr b' q
          refine ⟨r1, r2, r3, fun r5 => ?_⟩
          rcases r4 with r4 | ⟨p, r4⟩ | r4
          · exact (((hZ2b b').1 r4.3).resolve_right (by omega)).2
          · obtain ⟨⟨p', r6⟩, _⟩ := hcG r4; exact (hGz r6).2
          · omega) hpinE hpinA mm
        refine ⟨fn, tmps', asg, body, k1, k2.mono fun en W' hW' => ?_⟩
        obtain ⟨l1, C', l2, l3, l4⟩ := hW'
        refine ⟨l1, C', l2, l3, ?_⟩
        cases z1 with
        | inl b' =>
          refine .inl ⟨l4.1, b', ?_, l4.2⟩
          rw [foldX_append, q1]
          simp only [foldX, hst]
        | inr x' =>
          obtain ⟨l5, c, l6, l7⟩ := l4
          refine .inr ⟨l5, x', c, ?_, l6, l7⟩
          rw [hst] at hf2
          cases hf2
          exact hfold
    · intro b q hzb
      rcases hzb with q1 | ⟨p, q1⟩ | q1
      · rcases q with rfl | rfl | ⟨p, q⟩
        · rcases (hZ2b _).1 q1.3 with q2 | q2 <;> omega
        · rcases (hZ2b _).1 q1.3 with q2 | q2 <;> omega
        · obtain ⟨⟨p', q2⟩, _⟩ := hiG q; exact q1.2 p' q2
      · rcases q with rfl | rfl | ⟨p', q⟩
        · obtain ⟨⟨p', q2⟩, _⟩ := hcG q1; have := (hGz q2).1; omega
        · obtain ⟨⟨p', q2⟩, _⟩ := hcG q1; have := (hGz q2).1; omega
        · exact (hiG q).2 p q1
      · rcases q with rfl | rfl | ⟨p', q⟩
        · omega
        · omega
        · obtain ⟨⟨p', q2⟩, _⟩ := hiG q; have := (hGz q2).1; omega
end Go.Ev

/- Ranges over functions and iterators: forms for printed texts. -/
namespace Go.Ev
open Go.RowKit

def rgPs : Code → Array Tmp
  | .rangeFunc _ ps _ _ => ps
  | _ => #[]
def rgAsg : Code → Code
  | .rangeFunc _ _ a _ => a
  | _ => .skip
def rgBody : Code → Code
  | .rangeFunc _ _ _ b => b
  | _ => .skip
def roundQ {B X : Type} (E : Env) (O : Orc) (L : Nat → Option Sum) (esh : Shape) (pk : Tup esh → B) (d : Exit → Tup esh → Option X) (rc : Code) (ds : List Dat) (e : Tup esh) : Option (B ⊕ X) :=
  ev2 (inside E esh) O L (rgAsg rc) (paramsSt (rgPs rc).toList ds (mkSt esh e)) fun x st => match x with
    | .normal => ev2 (inside E esh) O L (rgBody rc) st (backR esh pk d e)
    | _ => none
theorem rangeOk' {P : Program} {E : Env} (hE : EnvOk P E) (hm : P.follows .mixedOrders = true) {O : Orc} {L : Nat → Option Sum} {gf t : Nat} {rc : Code} {I : ISpec} (hI : IterOk P E.glob gf I) {esh : Shape} (hrc : rc = .rangeFunc (.tmp t) (rgPs rc) (rgAsg rc) (rgBody rc))
    (hLa : LoopsOk (inside E esh) O L (rgAsg rc)) (hLb : LoopsOk (inside E esh) O L (rgBody rc)) (hra : rangesOf (rgAsg rc) = []) (hrb : rangesOf (rgBody rc) = []) (hesh : eshOk esh = true) (hps : (rgPs rc).toList.all (fun p => Nat.blt p O.n) = true) {B X : Type} {pk : Tup esh → B} {un : B → Tup esh} (hpu : ∀ s, un (pk s) = s)
    {d : Exit → Tup esh → Option X} {xOf : X → Exit × Tup esh} (hd : ∀ x e v, d x e = some v → xOf v = (x, e) ∧ ∃ c, jumpOf x = some c) {step : B → I.Y → Option (B ⊕ X)} {leave : X → ∀ R : Type, Cont R → Option R} (hlv : ∀ x R (K : Cont R), leave x R K = K (xOf x).1 (mkSt esh (xOf x).2)) (henc : ∀ y, (rgPs rc).toList.length = (I.enc y).length)
    (hstep : ∀ b y, roundQ E O L esh pk d rc (I.enc y) (un b) = step b y) : RangeOk P E O.n rc (rangeSum E gf t esh I pk un step leave) := by
  rw [hrc]
  exact rangeOk hE hm hI hLa hLb hra hrb hesh (fun p hp => by
    have := List.all_eq_true.1 hps p hp
    rwa [Nat.blt_eq] at this) hpu hd hlv henc hstep
/-- What is yielded, typed. -/
def mkT {Y : Type} (ts : List Ty) (pk : (List.rec Unit (fun t _ T => t.den × T) ts) → Y) : List Dat → Option Y := fun ds => match datsTo ts ds with
  | some x => some (pk x)
  | none => none
theorem mkT_ok {Y : Type} {ts : List Ty} {pk : (List.rec Unit (fun t _ T => t.den × T) ts) → Y} {un : Y → (List.rec Unit (fun t _ T => t.den × T) ts)} (hpu : ∀ x, un (pk x) = x) (ds : List Dat) (y : Y) (h : mkT ts pk ds = some y) : datsOf ts (un y) = ds := by
  unfold mkT at h
  split at h
  · rename_i x hx
    cases h
    rw [hpu, datsTo_some hx]
  · cases h
theorem loopsYOk_nil {Y : Type} {E : Env} {O : Orc} {L : Nat → Option (SumY Y)} {ts : List Ty} {mk : List Dat → Option Y} {body : Code} (h : loopsOf body = []) : LoopsYOk E O L ts mk body := fun c hc => by rw [h] at hc; cases hc
/-- What was yielded, where it came to its end. -/
def YW.ys {Y : Type} (m : YW Y Unit) : Option (List Y) := match m with
  | some (ys, _) => some ys
  | none => none
theorem YW.ys_some {Y : Type} {m : YW Y Unit} {ys : List Y} (h : m.ys = some ys) : m = some (ys, ()) := by
  unfold YW.ys at h
  split at h
  · cases h; rfl
  · cases h
end Go.Ev

/- Arguments and tables, read as data. -/
namespace Go.Ev
open Go.RowKit
theorem rows_ints {Pr : Nat → Prop} {w : World} {k : IntKind} : ∀ (l : List Int), Rows (RV Pr w (.int k)) l (l.map fun n => Value.int k n)
  | [] => .nil
  | n :: l => by
    have := Rows.cons (R := RV Pr w (.int k)) (x := n) (c := [Value.int k n]) rfl (rows_ints l)
    simpa using this
theorem intsRV {W : World} {k : IntKind} {x : Addr} {len cap : Nat} {zs : List Int} (hl : len ≤ cap) (hm : cap ≤ maxLen) (hz : zs.length = cap) (hcell : ∀ i, i < zs.length → W.cell? (x.add i) = some (.int k (zs.getD i 0))) (hw : ∀ n ∈ zs, (Lit.int k n).wf = true) :
    ∃ l : List Int, (∃ cs, RV (fun b => b < W.heap.size) W (.list (.int k)) l cs ∧ Value.slice (some x) len cap = valOf (.list (.int k)) cs) ∧ (∀ n ∈ l, (Lit.int k n).wf = true) ∧ l.length = len := by
  have hlen : (zs.take len).length = len := by simp; omega
  refine ⟨zs.take len, ⟨[.slice (some x) len cap], ?_, rfl⟩, fun n hn => hw n (List.mem_of_mem_take hn), hlen⟩
  refine ⟨some x, cap, by rw [hlen], by omega, by rw [hlen]; simp only [maxLen] at hm; omega, fun h0 => ⟨x, _, rfl, ?_, rows_ints _, fun j hj => ?_⟩⟩
  · have := hcell 0 (by omega)
    cases hb : W.heap[x.block]? with
    | none => rw [show x.add 0 = x from by cases x; simp [Addr.add]] at this; simp [World.cell?, hb] at this
    | some o => exact (Array.getElem?_eq_some_iff.1 hb).1
  · simp only [List.length_map, hlen] at hj
    rw [hcell j (by omega)]
    simp [List.getD_eq_getElem?_getD, List.getElem?_eq_getElem (by omega : j < zs.length)]
end Go.Ev

/- What the kit's reader reads is data: one opener for all types. -/
namespace Go.Ev
open Go.RowKit Go.WideShapes

/-- At least so many bytes. -/
def Ty.low : Ty → Nat
  | .int k => k.bits / 8 | .bool => 1 | .str => 16 | .unit => 0 | .list _ => 24 | .pair a b => a.low + b.low | .arr n t => n * t.low
/-- Does the type with this name, or do these fields from an offset on, lie as the shape says? -/
def Ty.opens (P : Program) : Ty → TypeId ⊕ (List Field × Nat) → Bool
  | .int k, .inl T => (match P.underlying T with | some (.int j) => decide (j = k) | _ => false)
  | .bool, .inl T => (match P.underlying T with | some .bool => true | _ => false)
  | .str, .inl T => (match P.underlying T with | some .string => true | _ => false)
  | .list u, .inl T => (match P.underlying T with | some (.slice e) => u.opens P (.inl e) && (Nat.beq (P.cellsOf e) u.sz && (Nat.ble u.low (P.bytesOf e) && Nat.blt 0 u.sz)) | _ => false)
  | .arr n u, .inl T => (match P.underlying T with | some (.array m e) => Nat.beq m n && (u.opens P (.inl e) && (Nat.beq (P.cellsOf e) u.sz && Nat.beq (P.cellsOf T) (n * u.sz))) | _ => false)
  | .unit, .inl T => (match P.underlying T with | some (.struct fs) => fs.isEmpty && Nat.beq (P.cellsOf T) 0 | _ => false)
  | .pair a b, .inl T => (match P.underlying T with
    | some (.struct fs) => (match fs.toList with
      | f :: r => Nat.beq f.offset 0 && (Nat.beq (P.cellsOf f.type) a.sz && (a.opens P (.inl f.type) && (b.opens P (.inr (r, a.sz)) && Nat.beq (P.cellsOf T) (a.sz + b.sz))))
      | [] => false)
    | _ => false)
  | .unit, .inr ([], _) => true
  | .pair a b, .inr (f :: r, o) => Nat.beq f.offset o && (Nat.beq (P.cellsOf f.type) a.sz && (a.opens P (.inl f.type) && b.opens P (.inr (r, o + a.sz))))
  | _, _ => false
/-- What is known of data that were read. -/
def Good : (t : Ty) → t.den → Prop
  | .int k, n => (Lit.int k n).wf = true
  | .bool, _ => True
  | .str, s => s.length ≤ 140737488351232
  | .unit, _ => True
  | .list t, xs => xs.length * t.low ≤ 140737488351232 ∧ ∀ x ∈ xs, Good t x
  | .pair a b, x => Good a x.1 ∧ Good b x.2
  | .arr n t, xs => xs.length = n ∧ ∀ x ∈ xs, Good t x

theorem rows_get {t : Ty} {Pr : Nat → Prop} {w : World} {G : t.den → Prop} {cs : Nat → List Value} : ∀ (n : Nat), (∀ i, i < n → ∃ x, RV Pr w t x (cs i) ∧ G x) → ∃ xs : List t.den, xs.length = n ∧ Rows (RV Pr w t) xs ((List.range n).map cs).flatten ∧ ∀ x ∈ xs, G x
  | 0, _ => ⟨[], rfl, .nil, by simp⟩
  | n + 1, h => by
    obtain ⟨xs, h1, h2, h3⟩ := rows_get n fun i hi => h i (by omega)
    obtain ⟨x, hx, gx⟩ := h n (by omega)
    refine ⟨xs ++ [x], by simp [h1], ?_, ?_⟩
    · rw [List.range_succ, List.map_append, List.flatten_append]
      have : Rows (RV Pr w t) [x] (List.map cs [n]).flatten := by simpa using Rows.cons hx (Rows.nil (R := RV Pr w t))
      exact h2.append this
    · intro y hy
      rcases List.mem_append.1 hy with hy | hy
      · exact h3 y hy
      · simp at hy; subst hy; exact gx
theorem chop_flatten {α : Type} {k : Nat} : ∀ (n : Nat) (cs : List α), cs.length = n * k → ((List.range n).map fun i => (cs.drop (i * k)).take k).flatten = cs
  | 0, cs, h => by simp at h; simp [h]
  | n + 1, cs, h => by
    rw [List.range_succ_eq_map, List.map_cons, List.flatten_cons, List.map_map]
    have ih := chop_flatten n (cs.drop k) (by rw [List.length_drop, h, Nat.add_mul, Nat.one_mul, Nat.add_sub_cancel])
    have e : (List.range n).map ((fun i => (cs.drop (i * k)).take k) ∘ Nat.succ) = (List.range n).map fun i => ((cs.drop k).drop (i * k)).take k := by
      apply List.map_congr_left
      intro i _
      simp only [Function.comp, List.drop_drop, Nat.succ_eq_add_one, Nat.add_mul, Nat.one_mul, Nat.add_comm]
    rw [e, ih]; simp

theorem flat_len {α : Type} {k : Nat} {cf : Nat → List α} : ∀ (n : Nat), (∀ i, i < n → (cf i).length = k) → ((List.range n).map cf).flatten.length = n * k
  | 0, _ => by simp
  | n + 1, h => by
    rw [List.range_succ, List.map_append, List.flatten_append, List.length_append, flat_len n fun i hi => h i (by omega)]
    simp [h n (by omega), Nat.add_mul]
theorem flat_get {α : Type} {k : Nat} {cf : Nat → List α} : ∀ (n : Nat), (∀ i, i < n → (cf i).length = k) → ∀ {i r : Nat}, i < n → r < k → ((List.range n).map cf).flatten[i * k + r]? = (cf i)[r]?
  | 0, _, i, _, hi, _ => by omega
  | n + 1, h, i, r, hi, hr => by
    have hl := flat_len n fun i hi => h i (by omega)
    rw [List.range_succ, List.map_append, List.flatten_append]
    by_cases hin : i < n
    · rw [List.getElem?_append_left, flat_get n (fun i hi => h i (by omega)) hin hr]
      rw [hl]
      have : (i + 1) * k ≤ n * k := Nat.mul_le_mul_right k hin
      rw [Nat.add_mul] at this; omega
    · have : i = n := by omega
      subst this
      rw [List.getElem?_append_right (by rw [hl]; omega), hl]
      simp
theorem add_add' (a : Addr) (i j : Nat) : (a.add i).add j = a.add (i + j) := by
  unfold Addr.add
  by_cases hi : i = 0 <;> by_cases hj : j = 0 <;> simp [hi, hj, Nat.add_assoc]
section
variable {H : Type} {enc : TypeId × Value → H} {P : Program} {w : World}

theorem weights_all {e : TypeId} : ∀ {ds : List (DataW H)}, (DataW.weightsAll P e ds).all (· ≤ reachBytes) = true → ∀ d ∈ ds, (d.weights P e).all (· ≤ reachBytes) = true
  | [], _, d, hd => by simp at hd
  | x :: r, h, d, hd => by
    simp only [DataW.weightsAll, List.all_append, Bool.and_eq_true] at h
    rcases List.mem_cons.1 hd with rfl | hd
    · exact h.1
    · exact weights_all h.2 d hd
theorem open_dat : ∀ (t : Ty),
    (∀ {T : TypeId} {fuel : Nat} {cs : List Value} {y : DataW H × List MemPlace}, t.opens P (.inl T) = true → DataW.trod enc P w 0 (fun _ => true) true fuel T cs = some y →
      (y.1.weights P T).all (· ≤ reachBytes) = true → ∃ x, RV (fun b => b < w.heap.size) w t x cs ∧ Good t x) ∧
    (∀ {fs : List Field} {o n : Nat} {cs : List Value} {ys : List (DataW H × List MemPlace)}, t.opens P (.inr (fs, o)) = true → ys.length = fs.length → cs.length = o + t.sz →
      (∀ (i : Nat) (f : Field), fs[i]? = some f → DataW.trod enc P w 0 (fun _ => true) true n f.type ((cs.drop f.offset).take (P.cellsOf f.type)) = ys[i]?) →
      (DataW.weightsEach P (fs.map (·.type)) (ys.map (·.1))).all (· ≤ reachBytes) = true → ∃ x, RV (fun b => b < w.heap.size) w t x (cs.drop o) ∧ Good t x) := by
  intro t
  induction t with
  | int k =>
    refine ⟨fun {T fuel cs y} h ht _ => ?_, fun h => by simp [Ty.opens] at h⟩
    simp only [Ty.opens] at h
    split at h <;> try cases h
    rename_i j hu
    have := of_decide_eq_true h; subst this
    obtain ⟨n, rfl, _, hw⟩ := DataW.trod_int hu ht
    exact ⟨n, rfl, hw⟩
  | bool =>
    refine ⟨fun {T fuel cs y} h ht _ => ?_, fun h => by simp [Ty.opens] at h⟩
    simp only [Ty.opens] at h
    split at h <;> try cases h
    rename_i hu
    obtain ⟨b, rfl, _⟩ := DataW.trod_bool hu ht
    exact ⟨b, rfl, trivial⟩
  | str =>
    refine ⟨fun {T fuel cs y} h ht hs => ?_, fun h => by simp [Ty.opens] at h⟩
    simp only [Ty.opens] at h
    split at h <;> try cases h
    rename_i hu
    obtain ⟨s, rfl, rfl, _⟩ := DataW.trod_string hu ht
    refine ⟨s.data.toList, rfl, ?_⟩
    simp only [DataW.weights, List.all_cons, List.all_nil, Bool.and_true, decide_eq_true_eq] at hs
    exact hs
  | unit =>
    refine ⟨fun {T fuel cs y} h ht _ => ?_, fun {fs o n cs ys} h hl hc _ _ => ?_⟩
    · simp only [Ty.opens] at h
      split at h <;> try cases h
      rename_i fs hu
      simp only [Bool.and_eq_true] at h
      obtain ⟨xs, n, _, _, hl, _, _⟩ := DataW.trod_struct hu ht
      rw [Nat.eq_of_beq_eq_true h.2] at hl
      exact ⟨(), List.eq_nil_of_length_eq_zero hl, trivial⟩
    · refine ⟨(), ?_, trivial⟩
      simp only [RV]
      apply List.eq_nil_of_length_eq_zero
      rw [List.length_drop, hc]; simp [Ty.sz]
  | list u ih =>
    refine ⟨fun {T fuel cs y} h ht hs => ?_, fun h => by simp [Ty.opens] at h⟩
    simp only [Ty.opens] at h
    split at h <;> try cases h
    rename_i e hu
    simp only [Bool.and_eq_true] at h
    obtain ⟨h1, h2, h3, h4⟩ := h
    have hsz := Nat.eq_of_beq_eq_true h2
    have hpos : 0 < u.sz := Nat.le_of_ble_eq_true h4
    have hlow := Nat.le_of_ble_eq_true h3
    rcases DataW.trod_slice hu ht with ⟨rfl, rfl⟩ | ⟨a, len, cap, elems, rest, n, _, rfl, rfl, _, hlc, hcm, hel, hcell, hsp, _⟩
    · exact ⟨[], ⟨none, 0, by simp, by simp, by simp, by simp⟩, by simp, by simp⟩
    · have hlt : ∀ p ∈ (MemPlace.row a ((elems.length + rest.length) * P.cellsOf e) ++ (elems ++ rest).flatMap (·.2)), p.block < w.heap.size := DataW.trod_lt _ _ _ _ ht
      simp only [DataW.weights, hu, List.all_cons, List.all_append, Bool.and_eq_true, decide_eq_true_eq, List.length_map] at hs
      obtain ⟨hb, hw, _⟩ := hs
      have hone : ∀ i, i < len → ∃ cs', w.cells? 0 (a.add (i * P.cellsOf e)) (P.cellsOf e) = some cs' ∧ ∃ x, RV (fun b => b < w.heap.size) w u x cs' ∧ Good u x := fun i hi => by
        have := hcell i hi
        rw [List.getElem?_eq_getElem (by omega)] at this
        obtain ⟨cs', c1, c2⟩ := Option.bind_eq_some_iff.1 this
        exact ⟨cs', c1, ih.1 h1 c2 (weights_all hw _ (List.mem_map_of_mem (List.getElem_mem _)))⟩
      have hex : ∀ i, ∃ cs', i < len → w.cells? 0 (a.add (i * P.cellsOf e)) (P.cellsOf e) = some cs' ∧ ∃ x, RV (fun b => b < w.heap.size) w u x cs' ∧ Good u x := fun i => by
        by_cases hi : i < len
        · obtain ⟨c, hc⟩ := hone i hi; exact ⟨c, fun _ => hc⟩
        · exact ⟨[], fun h => absurd h hi⟩
      have hch := Classical.axiomOfChoice hex
      obtain ⟨cf, hcf⟩ := hch
      obtain ⟨xs, x1, x2, x3⟩ := rows_get (t := u) (Pr := fun b => b < w.heap.size) (w := w) (G := Good u) (cs := cf) len fun i hi => (hcf i hi).2
      refine ⟨xs, ⟨some a, cap, by rw [x1], by omega, by rw [x1]; simp only [maxLen] at hcm; omega, fun h0 => ⟨a, _, rfl, ?_, x2, ?_⟩⟩, ?_, x3⟩
      · refine hlt (.cell a.block a.off) (List.mem_append_left _ ?_)
        refine List.mem_map.2 ⟨0, List.mem_range.2 ?_, by simp⟩
        rw [hsz]
        exact Nat.mul_pos (by omega) hpos
      · intro j hj
        have hk : ∀ i, i < len → (cf i).length = u.sz := fun i hi => by have := (World.cells?_some (hcf i hi).1).2.1; rw [this, hsz]
        rw [flat_len len hk] at hj
        have hd : j / u.sz < len := by rw [Nat.div_lt_iff_lt_mul hpos]; exact hj
        have hm := Nat.mod_lt j hpos
        have hcell2 := (World.cells?_some (hcf _ hd).1).2.2 (j % u.sz) (by rw [hsz]; exact hm)
        rw [add_add', hsz] at hcell2
        have hj2 : j / u.sz * u.sz + j % u.sz = j := by rw [Nat.mul_comm]; exact Nat.div_add_mod j u.sz
        have hfl := flat_get len hk hd hm
        rw [hj2] at hcell2 hfl
        rw [hcell2, ← hfl, List.getElem?_eq_getElem]
      · rw [x1]
        refine Nat.le_trans (Nat.mul_le_mul (Nat.le_refl _) hlow) ?_
        refine Nat.le_trans ?_ (show reachBytes ≤ 140737488351232 by decide)
        refine Nat.le_trans (Nat.mul_le_mul ?_ (Nat.le_refl _)) hb
        omega
  | pair a b iha ihb =>
    refine ⟨fun {T fuel cs y} h ht hs => ?_, fun {fs o n cs ys} h hl hc hf hs => ?_⟩
    · simp only [Ty.opens] at h
      split at h <;> try cases h
      rename_i fs hu
      split at h <;> try cases h
      rename_i f r hfs
      simp only [Bool.and_eq_true] at h
      obtain ⟨h0, h1, h2, h3, h4⟩ := h
      obtain ⟨xs, n, _, rfl, hlen, hxl, hf⟩ := DataW.trod_struct hu ht
      simp only [DataW.weights, hu, hfs, List.map_cons] at hs
      rw [Nat.eq_of_beq_eq_true h4] at hlen
      have hfl : fs.size = r.length + 1 := by rw [← Array.length_toList, hfs]; rfl
      match xs, hxl with
      | y :: ys, hxl =>
        simp only [List.map_cons, DataW.weightsEach, List.all_append, Bool.and_eq_true] at hs
        have hg : ∀ i, fs[i]? = (f :: r)[i]? := fun i => by rw [← hfs, Array.getElem?_toList]
        have f0 := hf 0 f (by rw [hg]; rfl)
        rw [Nat.eq_of_beq_eq_true h0, Nat.eq_of_beq_eq_true h1] at f0
        obtain ⟨x, rx, gx⟩ := iha.1 h2 f0 hs.1
        obtain ⟨z, rz, gz⟩ := ihb.2 (fs := r) (o := a.sz) (n := n) (cs := cs) (ys := ys) h3 (by simpa [hfl] using hxl) hlen (fun i g hi => hf (i + 1) g (by rw [hg]; exact hi)) hs.2
        refine ⟨(x, z), ⟨_, _, ?_, rx, rz⟩, gx, gz⟩
        simp
      | [], hxl => simp [hfl] at hxl
    · match fs, ys, hl with
      | f :: r, y :: ys, hl =>
        simp only [Ty.opens, Bool.and_eq_true] at h
        obtain ⟨h0, h1, h2, h3⟩ := h
        simp only [List.map_cons, DataW.weightsEach, List.all_append, Bool.and_eq_true] at hs
        have f0 := hf 0 f rfl
        rw [Nat.eq_of_beq_eq_true h0, Nat.eq_of_beq_eq_true h1] at f0
        obtain ⟨x, rx, gx⟩ := iha.1 h2 f0 hs.1
        obtain ⟨z, rz, gz⟩ := ihb.2 (fs := r) (o := o + a.sz) (n := n) (cs := cs) (ys := ys) h3 (by simpa using hl) (by rw [hc]; simp [Ty.sz]; omega) (fun i g hi => hf (i + 1) g hi) hs.2
        refine ⟨(x, z), ⟨_, _, ?_, rx, rz⟩, gx, gz⟩
        rw [← List.drop_drop, List.take_append_drop]
      | [], _, _ => simp [Ty.opens] at h
  | arr n u ih =>
    refine ⟨fun {T fuel cs y} h ht hs => ?_, fun h => by simp [Ty.opens] at h⟩
    simp only [Ty.opens] at h
    split at h <;> try cases h
    rename_i m e hu
    simp only [Bool.and_eq_true] at h
    obtain ⟨h0, h1, h2, h3⟩ := h
    have := Nat.eq_of_beq_eq_true h0; subst this
    have hsz := Nat.eq_of_beq_eq_true h2
    obtain ⟨xs, k, _, rfl, hlen, hxl, hf⟩ := DataW.trod_array hu ht
    simp only [DataW.weights, hu] at hs
    obtain ⟨zs, z1, z2, z3⟩ := rows_get (t := u) (Pr := fun b => b < w.heap.size) (w := w) (G := Good u) (cs := fun i => (cs.drop (i * u.sz)).take u.sz) m fun i hi => by
      have := hf i hi
      rw [hsz, List.getElem?_eq_getElem (by omega)] at this
      exact ih.1 h1 this (weights_all hs _ (List.mem_map_of_mem (List.getElem_mem _)))
    rw [chop_flatten m cs (by rw [hlen, Nat.eq_of_beq_eq_true h3])] at z2
    exact ⟨zs, ⟨z1, z2⟩, z1, z3⟩
theorem trod_val {t : Ty} {T : TypeId} {v : Value} {r : Reach} {b : Nat} (h : t.opens P (.inl T) = true) (hv : Value.okWide P w r b T v) : v = valOf t v.cells.toList := by
  cases t with
  | int k => simp only [Ty.opens] at h; split at h <;> try cases h
             rename_i hu; obtain ⟨n, rfl⟩ := okWide_int hu hv; rfl
  | bool => simp only [Ty.opens] at h; split at h <;> try cases h
            rename_i hu; obtain ⟨n, rfl⟩ := okWide_bool hu hv; rfl
  | str => simp only [Ty.opens] at h; split at h <;> try cases h
           rename_i hu; obtain ⟨n, rfl⟩ := okWide_string hu hv; rfl
  | list u => simp only [Ty.opens] at h; split at h <;> try cases h
              rename_i hu; obtain ⟨a, n, c, rfl⟩ := okWide_slice hu hv; rfl
  | unit => simp only [Ty.opens] at h; split at h <;> try cases h
            rename_i hu; obtain ⟨cs, rfl, _⟩ := okWide_struct hu hv; simp [valOf, Ty.isAgg, Value.cells]
  | pair a c => simp only [Ty.opens] at h; split at h <;> try cases h
                rename_i hu; obtain ⟨cs, rfl, _⟩ := okWide_struct hu hv; simp [valOf, Ty.isAgg, Value.cells]
  | arr n u => simp only [Ty.opens] at h; split at h <;> try cases h
               rename_i hu; unfold Value.okWide at hv; rw [hu] at hv; obtain ⟨cs, rfl, _⟩ := hv; simp [valOf, Ty.isAgg, Value.cells]
/-- **An argument is data.** -/
theorem open_arg {t : Ty} {ts : List TypeId} {ds : List (DataW H)} {T : TypeId} {v : Value} {d : DataW H} {ps : List MemPlace} {r : Reach} {b : Nat} {j : Nat} (hs : (DataW.weightsEach P ts ds).all (· ≤ reachBytes) = true) (hj : ts[j]? = some T) (hd : ds[j]? = some d)
    (h : t.opens P (.inl T) = true) (hv : Value.okWide P w r b T v) (ht : DataW.Trod enc P w 0 (fun _ => true) true T v d ps) :
    ∃ x, (∃ cs, RV (fun b => b < w.heap.size) w t x cs ∧ v = valOf t cs) ∧ Good t x ∧ ∀ p ∈ ps, p.block < w.heap.size := by
  obtain ⟨n, hn⟩ := ht
  have hw : (d.weights P T).all (· ≤ reachBytes) = true := List.all_eq_true.2 fun z hz => List.all_eq_true.1 hs z (DataW.weights_mem_each hj hd z hz)
  obtain ⟨x, h1, h2⟩ := (open_dat (w := w) (P := P) (enc := enc) t).1 h hn hw
  exact ⟨x, ⟨_, h1, trod_val h hv⟩, h2, DataW.trod_lt _ _ _ _ hn⟩
end
end Go.Ev

/- Equality of structs and arrays. -/
namespace Go.Ev
open Go.RowKit

/-- Does the type with this name, or do these fields from an offset on, lie as the shape says, and is each part compared? -/
def Ty.eqs (P : Program) : Ty → TypeId ⊕ (List Field × Nat) → Bool
  | .int k, .inl T => (match P.underlying T with | some (.int j) => decide (j = k) | _ => false)
  | .bool, .inl T => (match P.underlying T with | some .bool => true | _ => false)
  | .str, .inl T => (match P.underlying T with | some .string => true | _ => false)
  | .arr n u, .inl T => (match P.underlying T with | some (.array m e) => Nat.beq m n && (u.eqs P (.inl e) && (Nat.beq (P.cellsOf e) u.sz && (P.info? e).isSome)) | _ => false)
  | .unit, .inl T => (match P.underlying T with | some (.struct fs) => fs.isEmpty && !P.stoodInHeld T | _ => false)
  | .pair a b, .inl T => (match P.underlying T with
    | some (.struct fs) => (match fs.toList with
      | f :: r => Nat.beq f.offset 0 && (Nat.beq (P.cellsOf f.type) a.sz && ((f.name != "_") && (a.eqs P (.inl f.type) && (b.eqs P (.inr (r, a.sz)) && !P.stoodInHeld T))))
      | [] => false)
    | _ => false)
  | .unit, .inr ([], _) => true
  | .pair a b, .inr (f :: r, o) => Nat.beq f.offset o && (Nat.beq (P.cellsOf f.type) a.sz && ((f.name != "_") && (a.eqs P (.inl f.type) && b.eqs P (.inr (r, o + a.sz)))))
  | _, _ => false
def Ty.dep : Ty → Nat
  | .pair a b => max (a.dep + 1) b.dep
  | .arr _ t => t.dep + 1
  | _ => 1
section
variable {P : Program}
theorem partE_run {w : World} {Pr : Nat → Prop} {t : Ty} {T : TypeId} (h : t.eqs P (.inl T) = true) (hsz : P.cellsOf T = t.sz) {x : t.den} {xs : Array Value} {off : Nat} (hx : RV Pr w t x ((xs.toList.drop off).take t.sz)) :
    (part T xs off).run P w = .ok (valOf t ((xs.toList.drop off).take t.sz)) w := by
  have agg : (∃ n e', P.underlying T = some (.array n e')) ∨ (∃ fs, P.underlying T = some (.struct fs)) → t.isAgg = true → (part T xs off).run P w = .ok (valOf t ((xs.toList.drop off).take t.sz)) w := by
    intro hk ha
    have hl : (xs.extract off (off + t.sz)).toList = (xs.toList.drop off).take t.sz := by rw [Array.toList_extract]; simp [List.extract]
    have hv : valOf t ((xs.toList.drop off).take t.sz) = .agg (xs.extract off (off + t.sz)) := by
      unfold valOf; rw [if_pos ha, ← hl]
    rw [hv, ← hsz]
    rcases hk with ⟨n, e', hu⟩ | ⟨fs, hu⟩
    · obtain ⟨i, hi⟩ := info_of_underlying hu
      simp [part, isAgg, run_underlying hu, run_sizeOf w hi]
    · obtain ⟨i, hi⟩ := info_of_underlying hu
      simp [part, isAgg, run_underlying hu, run_sizeOf w hi]
  have one : ∀ v : Value, (xs.toList.drop off).take 1 = [v] → xs[off]? = some v := by
    intro v hv
    have : ((xs.toList.drop off).take 1)[0]? = some v := by rw [hv]; rfl
    simpa using this
  cases t with
  | int k =>
    simp only [Ty.eqs] at h
    split at h <;> try cases h
    rename_i hu
    simp only [RV, Ty.sz] at hx ⊢
    rw [hx]
    simp [part, isAgg, run_underlying hu, one _ hx, valOf, Ty.isAgg]
  | bool =>
    simp only [Ty.eqs] at h
    split at h <;> try cases h
    rename_i hu
    simp only [RV, Ty.sz] at hx ⊢
    rw [hx]
    simp [part, isAgg, run_underlying hu, one _ hx, valOf, Ty.isAgg]
  | str =>
    simp only [Ty.eqs] at h
    split at h <;> try cases h
    rename_i hu
    simp only [RV, Ty.sz] at hx ⊢
    rw [hx]
    simp [part, isAgg, run_underlying hu, one _ hx, valOf, Ty.isAgg]
  | list u => simp [Ty.eqs] at h
  | unit =>
    simp only [Ty.eqs] at h
    split at h <;> try cases h
    rename_i hu
    exact agg (.inr ⟨_, hu⟩) rfl
  | pair a b =>
    simp only [Ty.eqs] at h
    split at h <;> try cases h
    rename_i hu
    exact agg (.inr ⟨_, hu⟩) rfl
  | arr n u =>
    simp only [Ty.eqs] at h
    split at h <;> try cases h
    rename_i hu
    exact agg (.inl ⟨_, _, hu⟩) rfl
theorem zip_all {α : Type} (d : α) (f : α → α → Bool) : ∀ (xs ys : List α), xs.length = ys.length → ((xs.zip ys).all fun p => f p.1 p.2) = (List.range xs.length).all fun i => f (xs.getD i d) (ys.getD i d)
  | [], [], _ => rfl
  | x :: xs, y :: ys, h => by
    rw [List.zip_cons_cons, List.all_cons, zip_all d f xs ys (by simpa using h), List.length_cons, List.range_succ_eq_map, List.all_cons, List.all_map]
    rfl
  | [], _ :: _, h => by simp at h
  | _ :: _, [], h => by simp at h
theorem eq_at : ∀ (t : Ty),
    (∀ {T : TypeId} {d : Nat} {w : World} {Pr : Nat → Prop} {x y : t.den} {cs ds : List Value}, t.eqs P (.inl T) = true → t.dep ≤ d → RV Pr w t x cs → RV Pr w t y ds → (Op.equalIn d T (valOf t cs) (valOf t ds)).run P w = .ok (eqv t x y) w) ∧
    (∀ {fs : List Field} {o d : Nat} {w : World} {Pr : Nat → Prop} {x y : t.den} {xs ys : Array Value}, t.eqs P (.inr (fs, o)) = true → t.dep ≤ d + 1 → RV Pr w t x (xs.toList.drop o) → RV Pr w t y (ys.toList.drop o) → (Op.eqFields d xs ys fs).run P w = .ok (eqv t x y) w) := by
  intro t
  induction t with
  | int k =>
    refine ⟨fun {T d w Pr x y cs ds} h hd hx hy => ?_, fun h => by simp [Ty.eqs] at h⟩
    simp only [Ty.eqs] at h
    split at h <;> try cases h
    rename_i hu
    simp only [RV] at hx hy
    subst hx; subst hy
    cases d with
    | zero => simp [Ty.dep] at hd
    | succ d => exact run_equalIn_int w d T _ _ _ _ hu
  | bool =>
    refine ⟨fun {T d w Pr x y cs ds} h hd hx hy => ?_, fun h => by simp [Ty.eqs] at h⟩
    simp only [Ty.eqs] at h
    split at h <;> try cases h
    rename_i hu
    simp only [RV] at hx hy
    subst hx; subst hy
    cases d with
    | zero => simp [Ty.dep] at hd
    | succ d => exact run_equalIn_bool w d T _ _ hu
  | str =>
    refine ⟨fun {T d w Pr x y cs ds} h hd hx hy => ?_, fun h => by simp [Ty.eqs] at h⟩
    simp only [Ty.eqs] at h
    split at h <;> try cases h
    rename_i hu
    simp only [RV] at hx hy
    subst hx; subst hy
    cases d with
    | zero => simp [Ty.dep] at hd
    | succ d =>
      refine (run_equalIn_string w d T (strOf x) (strOf y) hu).trans ?_
      rw [ByteArray.toList_eq, ByteArray.toList_eq]
      rfl
  | list u => exact ⟨fun h => by simp [Ty.eqs] at h, fun h => by simp [Ty.eqs] at h⟩
  | unit =>
    refine ⟨fun {T d w Pr x y cs ds} h hd hx hy => ?_, fun {fs o d w Pr x y xs ys} h _ _ _ => ?_⟩
    · simp only [Ty.eqs] at h
      split at h <;> try cases h
      rename_i fs hu
      simp only [Bool.and_eq_true, Bool.not_eq_true'] at h
      cases d with
      | zero => simp [Ty.dep] at hd
      | succ d =>
        have hf : P.fieldsOf T = fs := by simp [Program.fieldsOf, hu]
        have := run_equalIn_struct (P := P) w d T cs.toArray ds.toArray (by rw [hf]; exact hu) h.2
        refine this.trans ?_
        rw [hf, show fs.toList = [] by simpa using h.1]
        rfl
    · match fs with
      | [] => rfl
      | _ :: _ => simp [Ty.eqs] at h
  | pair a b iha ihb =>
    have step : ∀ {f : Field} {r : List Field} {o d : Nat} {w : World} {Pr : Nat → Prop} {x y : (Ty.pair a b).den} {xs ys : Array Value}, Nat.beq f.offset o = true → Nat.beq (P.cellsOf f.type) a.sz = true → (f.name != "_") = true → a.eqs P (.inl f.type) = true → b.eqs P (.inr (r, o + a.sz)) = true → (Ty.pair a b).dep ≤ d + 1 →
        RV Pr w (.pair a b) x (xs.toList.drop o) → RV Pr w (.pair a b) y (ys.toList.drop o) → (Op.eqFields d xs ys (f :: r)).run P w = .ok (eqv (.pair a b) x y) w := by
      intro f r o d w Pr x y xs ys h0 h1 h2 h3 h4 hd hx hy
      obtain ⟨c1, d1, e1, r1, s1⟩ := hx
      obtain ⟨c2, d2, e2, r2, s2⟩ := hy
      have l1 := r1.len
      have l2 := r2.len
      have ho := Nat.eq_of_beq_eq_true h0
      have hc := Nat.eq_of_beq_eq_true h1
      have p1 : (xs.toList.drop o).take a.sz = c1 := by rw [e1, ← l1, List.take_left]
      have p2 : (ys.toList.drop o).take a.sz = c2 := by rw [e2, ← l2, List.take_left]
      have q1 : xs.toList.drop (o + a.sz) = d1 := by rw [← List.drop_drop, e1, ← l1, List.drop_left]
      have q2 : ys.toList.drop (o + a.sz) = d2 := by rw [← List.drop_drop, e2, ← l2, List.drop_left]
      have k1 := partE_run (w := w) h3 hc (xs := xs) (off := o) (by rw [p1]; exact r1)
      have k2 := partE_run (w := w) h3 hc (xs := ys) (off := o) (by rw [p2]; exact r2)
      rw [p1] at k1
      rw [p2] at k2
      have hda : a.dep ≤ d := by simp only [Ty.dep] at hd; omega
      have hdb : b.dep ≤ d + 1 := by simp only [Ty.dep] at hd; omega
      have k3 := iha.1 h3 hda r1 r2
      have k4 := ihb.2 (xs := xs) (ys := ys) h4 hdb (by rw [q1]; exact s1) (by rw [q2]; exact s2)
      have hn : f.name ≠ "_" := by simpa using h2
      simp only [Op.eqFields, hn, ne_eq, not_false_eq_true, if_true, Sem.run_bind, ho, k1, k2, k3, Result.andThen_ok]
      cases hq : eqv a x.1 y.1 with
      | false => simp [eqv, hq]
      | true => simpa [eqv, hq] using k4
    refine ⟨fun {T d w Pr x y cs ds} h hd hx hy => ?_, fun {fs o d w Pr x y xs ys} h hd hx hy => ?_⟩
    · simp only [Ty.eqs] at h
      split at h <;> try cases h
      rename_i fs hu
      split at h <;> try cases h
      rename_i f r hfs
      simp only [Bool.and_eq_true, Bool.not_eq_true'] at h
      obtain ⟨h0, h1, h2, h3, h4, h5⟩ := h
      cases d with
      | zero => simp only [Ty.dep] at hd; omega
      | succ d =>
        have hf : P.fieldsOf T = fs := by simp [Program.fieldsOf, hu]
        have := run_equalIn_struct (P := P) w d T cs.toArray ds.toArray (by rw [hf]; exact hu) h5
        refine this.trans ?_
        rw [hf, hfs]
        exact step h0 h1 h2 h3 (by simpa using h4) hd (by simpa using hx) (by simpa using hy)
    · match fs with
      | f :: r =>
        simp only [Ty.eqs, Bool.and_eq_true] at h
        obtain ⟨h0, h1, h2, h3, h4⟩ := h
        exact step h0 h1 h2 h3 h4 hd hx hy
      | [] => simp [Ty.eqs] at h
  | arr n u ih =>
    refine ⟨fun {T d w Pr x y cs ds} h hd hx hy => ?_, fun h => by simp [Ty.eqs] at h⟩
    simp only [Ty.eqs] at h
    split at h <;> try cases h
    rename_i m e hu
    simp only [Bool.and_eq_true] at h
    obtain ⟨h0, h1, h2, h3⟩ := h
    have := Nat.eq_of_beq_eq_true h0; subst this
    have hsz := Nat.eq_of_beq_eq_true h2
    obtain ⟨i, hi⟩ := Option.isSome_iff_exists.1 h3
    cases d with
    | zero => simp [Ty.dep] at hd
    | succ d =>
      have hdu : u.dep ≤ d := by simp only [Ty.dep] at hd; omega
      obtain ⟨lx, rx⟩ := hx
      obtain ⟨ly, ry⟩ := hy
      have gx := rx.get (fun _ _ hc => hc.len)
      have gy := ry.get (fun _ _ hc => hc.len)
      refine (run_equalIn_array (P := P) w d cs.toArray ds.toArray hu hi).trans ?_
      have items : ∀ is : List Nat, (∀ i ∈ is, i < m) → (Op.eqItems d e (P.cellsOf e) cs.toArray ds.toArray is).run P w = .ok (is.all fun i => eqv u (x.getD i u.zero) (y.getD i u.zero)) w := by
        intro is
        induction is with
        | nil => intro _; rfl
        | cons j is ihi =>
          intro hall
          have hj := hall j (by simp)
          have jx := gx j (by omega)
          have jy := gy j (by omega)
          have k1 := partE_run (w := w) h1 hsz (xs := cs.toArray) (off := j * u.sz) jx
          have k2 := partE_run (w := w) h1 hsz (xs := ds.toArray) (off := j * u.sz) jy
          have k3 := ih.1 h1 hdu jx jy
          simp only [List.toList_toArray] at k1 k2
          have hxj : x.getD j u.zero = x[j] := by rw [List.getD_eq_getElem?_getD, List.getElem?_eq_getElem (by omega)]; rfl
          have hyj : y.getD j u.zero = y[j] := by rw [List.getD_eq_getElem?_getD, List.getElem?_eq_getElem (by omega)]; rfl
          simp only [Op.eqItems, Sem.run_bind, hsz, k1, k2, k3, Result.andThen_ok, List.all_cons, hxj, hyj]
          cases hq : eqv u x[j] y[j] with
          | false => simp
          | true => simpa [hsz] using ihi fun i hi => hall i (by simp [hi])
      rw [items (List.range m) (by simp)]
      simp only [eqv]
      rw [zip_all u.zero (eqv u) x y (by omega), lx]
/-- **Structs and arrays are compared part by part.** -/
theorem eqOk_agg {id : Nat} {t : Ty} (h : t.eqs P (.inl id) = true) (ha : t.isAgg = true) (hd : t.dep ≤ 10000) (hg : P.eqGuardType P.depth id = false) : EqOk P id t := by
  intro w Pr x y cs ds p q h1 h2
  have hv : ∀ cs, valOf t cs = .agg cs.toArray := fun cs => by unfold valOf; rw [if_pos ha]
  have he := (eq_at (P := P) t).1 h hd h1 h2
  rw [hv, hv] at he ⊢
  constructor
  · rw [Sem.run_bind, run_eqGuard_agg w .eql id p q _ _ hg, Result.andThen_ok, run_eql_struct, he]; rfl
  · rw [Sem.run_bind, run_eqGuard_agg w .neq id p q _ _ hg, Result.andThen_ok, run_neq_struct, he]; rfl
end
end Go.Ev

/- Limits, one round at a time. -/
namespace Go.Ev
theorem lim_go {S X : Type} {r : S → Option (S ⊕ X)} {s s' : S} (h : r s = some (.inl s')) : Lim r s = Lim r s' := by rw [lim_step, h]
theorem lim_end {S X : Type} {r : S → Option (S ⊕ X)} {s : S} {x : X} (h : r s = some (.inr x)) : Lim r s = some x := by rw [lim_step, h]
theorem limW_go {Y S X : Type} {r : S → YW Y (S ⊕ X)} {s s' : S} {ys : List Y} (h : r s = some (ys, .inl s')) : LimW r s = (LimW r s').map fun p => (ys ++ p.1, p.2) := by
  rw [limW_step, h]; simp only [YW.bind]
  cases LimW r s' with
  | none => rfl
  | some p => rfl
theorem limW_end {Y S X : Type} {r : S → YW Y (S ⊕ X)} {s : S} {ys : List Y} {x : X} (h : r s = some (ys, .inr x)) : LimW r s = some (ys, x) := by
  rw [limW_step, h]; simp [YW.bind]
/-- A loop whose rounds are counted: an invariant carried to the end. -/
theorem lim_inv {S X : Type} {r : S → Option (S ⊕ X)} (st : Nat → S) (x : X) (n : Nat) (hgo : ∀ i, i < n → r (st i) = some (.inl (st (i + 1)))) (hend : r (st n) = some (.inr x)) : ∀ i, i ≤ n → Lim r (st i) = some x := by
  intro i hi
  obtain ⟨k, hk⟩ : ∃ k, n = i + k := ⟨n - i, by omega⟩
  induction k generalizing i with
  | zero => rw [Nat.add_zero] at hk; subst hk; exact lim_end hend
  | succ k ih => rw [lim_go (hgo i (by omega))]; exact ih (i + 1) (by omega) (by omega)
/-- What is kept: slots, and boxes with their cells. -/
def kp (ss : List Nat) (bs : List (Nat × List Nat)) : Keep := ss.map (fun n => (.slot n, .own)) ++ bs.flatMap fun p => (.box p.1, .own) :: p.2.map fun j => (.cell p.1 j, .own)
end Go.Ev
