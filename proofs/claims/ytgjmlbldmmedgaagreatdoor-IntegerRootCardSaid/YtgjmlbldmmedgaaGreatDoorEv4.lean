/- A library for the proofs of this seat: an evaluator of the code over abstract states, and its soundness. It states nothing of the program. -/
import Derived.Test.YtgjmlbldmmedgaaGreatDoorEv3
import Derived.RangeFuncOwn
import Derived.ProofKit
import Derived.WideShapes
import Derived.ChangeArms
import Derived.OpenShut
import Derived.ChangeOld
import Derived.DataReads
import Derived.SizedLaws
import Derived.Laws.StructEq
import Derived.ChangeKeysEq
import Derived.DeepKeys
set_option linter.unusedSimpArgs false
set_option linter.unusedVariables false
set_option linter.deprecated false
namespace Go.Ev
open Go.RowKit

/-! ### The evaluator is natural -/
abbrev pairW {Y : Type} : Exit → St → YW Y (Exit × St) := fun e st => some ([], (e, st))
def NaturalY {Y : Type} (f : SumY Y) : Prop := ∀ (V : Type) (st : St) (K : Exit → St → YW Y V), f V st K = YW.bind (f (Exit × St) st pairW) fun p => K p.1 p.2
theorem YW.bind_pure {Y V U : Type} (v : V) (f : V → YW Y U) : YW.bind (some ([], v)) f = f v := by
  show (match f v with | some (zs, u) => some ([] ++ zs, u) | none => none) = f v
  cases f v <;> rfl
theorem evYOps_nat {Y : Type} {E : Env} {ts : List Ty} {mk : List Dat → Option Y} {ops : List Oper} {V : Type} {K2 : St → Option Unit} : ∀ {l : List Oper} {i : Nat} {st : St} {K : St → YW Y V}, evYOps E ts mk ops l i st K K2 = YW.bind (evYOps E ts mk ops l i st (fun st => some ([], st)) K2) K
  | [], _, st, K => (YW.bind_pure st K).symm
  | o :: r, i, st, K => by
    simp only [evYOps]
    split
    · split
      · rename_i f _
        cases f.test
        · rfl
        · exact evYOps_nat
      · rfl
    · split
      · split
        · split
          · rw [evYOps_nat, yieldW_bind]
          · rfl
        · rfl
      · rfl
theorem evOps_natW {Y V : Type} {E : Env} {ops l : List Oper} {i : Nat} {st : St} {K : St → YW Y V} : evOps E ops l i st K = YW.bind (evOps E ops l i st fun st => some (([] : List Y), st)) K := by
  rw [evOps_nat, evOps_nat (K := fun st => some (([] : List Y), st))]
  cases evOps E ops l i st some with
  | none => rfl
  | some s => exact (YW.bind_pure s K).symm
theorem evY_nat {Y : Type} {E : Env} {O : Orc} {L : Nat → Option (SumY Y)} {ts : List Ty} {mk : List Dat → Option Y} (hL : ∀ k f, L k = some f → NaturalY f) : ∀ {c : Code} {V : Type} {st : St} {K : Exit → St → YW Y V} {K2 : Cont Unit}, evY E O L ts mk c st K K2 = YW.bind (evY E O L ts mk c st pairW K2) fun p => K p.1 p.2 := by
  intro c
  induction c with
  | region id ops draw =>
    intro V st K K2
    simp only [evY]
    cases draw with
    | true =>
      simp only [cond_true]
      cases (regionOk O.n ops.toList && drawOk E ops.toList (normO (O.i id) st)) with
      | false => rfl
      | true =>
        simp only [cond_true]
        rw [evOps_natW, evOps_natW (V := Exit × St), YW.bind_assoc]
        refine congrArg (YW.bind _) ?_
        funext s
        rw [YW.bind_pure]
    | false =>
      simp only [cond_false]
      cases regionOk O.n ops.toList with
      | false => rfl
      | true =>
        simp only [cond_true]
        rw [evYOps_nat, evYOps_nat (V := Exit × St), YW.bind_assoc]
        refine congrArg (YW.bind _) ?_
        funext s
        rw [YW.bind_pure]
  | seq a b iha ihb =>
    intro V st K K2
    simp only [evY]
    rw [iha]
    refine Eq.trans ?_ (congrArg (fun o : YW Y (Exit × St) => YW.bind o fun p => K p.1 p.2) (iha (st := st)).symm)
    simp only [YW.bind_assoc]
    refine congrArg (YW.bind _) ?_
    funext p
    obtain ⟨e, st'⟩ := p
    cases e <;> first | exact ihb | exact (YW.bind_pure _ _).symm
  | cond o a b iha ihb =>
    intro V st K K2
    simp only [evY]
    split
    · rename_i x _
      cases x
      · exact ihb
      · exact iha
    · rfl
  | block id a ih =>
    intro V st K K2
    simp only [evY]
    rw [ih]
    refine Eq.trans ?_ (congrArg (fun o : YW Y (Exit × St) => YW.bind o fun p => K p.1 p.2) (ih (st := st)).symm)
    simp only [YW.bind_assoc]
    refine congrArg (YW.bind _) ?_
    funext p
    obtain ⟨e, st'⟩ := p
    cases e with
    | exit id' =>
      simp only []
      split <;> exact (YW.bind_pure _ _).symm
    | _ => exact (YW.bind_pure _ _).symm
  | loop a ih =>
    intro V st K K2
    simp only [evY]
    cases hl : lookY L (keyOf a) with
    | none => rfl
    | some f =>
      simp only []
      refine hL ?_ f ?_ V st K
      · exact (keyOf a).getD 0
      · cases hk : keyOf a with
        | none => rw [hk] at hl; cases hl
        | some k => rw [hk] at hl; exact hl
  | skip => intro V st K K2; exact (YW.bind_pure _ _).symm
  | exit => intro V st K K2; exact (YW.bind_pure _ _).symm
  | ret => intro V st K K2; exact (YW.bind_pure _ _).symm
  | label => intro V st K K2; exact (YW.bind_pure _ _).symm
  | _ => intro V st K K2; rfl

/-! ### The limit of rounds that yield -/
def accW {Y S X : Type} (r : S → YW Y (S ⊕ X)) : S × List Y → Option ((S × List Y) ⊕ (X × List Y)) := fun p => match r p.1 with
  | some (ys, .inl s') => some (.inl (s', p.2 ++ ys))
  | some (ys, .inr x) => some (.inr (x, p.2 ++ ys))
  | none => none
noncomputable def LimW {Y S X : Type} (r : S → YW Y (S ⊕ X)) (s : S) : YW Y X := (Lim (accW r) (s, [])).map fun p => (p.2, p.1)
theorem iterW {Y S X : Type} {r : S → YW Y (S ⊕ X)} {b : List Y} : ∀ {n : Nat} {s : S} {acc : List Y}, iterN (accW r) n (s, b ++ acc) = (iterN (accW r) n (s, acc)).map fun p => (p.1, b ++ p.2)
  | 0, _, _ => rfl
  | n + 1, s, acc => by
    simp only [iterN, accW]
    cases r s with
    | none => rfl
    | some q =>
      obtain ⟨ys, y⟩ := q
      cases y with
      | inl s' => simp only [List.append_assoc]; exact iterW
      | inr x => simp
theorem limW_some {Y S X : Type} {r : S → YW Y (S ⊕ X)} {s : S} {x : X} {ys : List Y} (h : LimW r s = some (ys, x)) : ∃ n, iterN (accW r) n (s, []) = some (x, ys) := by
  unfold LimW at h
  rw [Option.map_eq_some_iff] at h
  obtain ⟨p, hp, h⟩ := h
  cases h
  exact lim_some hp
/-- The limit, one round unrolled. -/
theorem limW_step {Y S X : Type} (r : S → YW Y (S ⊕ X)) (s : S) : LimW r s = YW.bind (r s) fun o => match o with
    | .inl s' => LimW r s'
    | .inr x => some ([], x) := by
  unfold LimW
  rw [lim_step]
  simp only [accW]
  cases r s with
  | none => rfl
  | some q =>
    obtain ⟨ys, y⟩ := q
    cases y with
    | inr x => simp [YW.bind]
    | inl s' =>
      simp only [YW.bind, List.nil_append]
      have : Lim (accW r) (s', ys) = (Lim (accW r) (s', [])).map fun p => (p.1, ys ++ p.2) := by
        cases h1 : Lim (accW r) (s', []) with
        | some p =>
          obtain ⟨n, hn⟩ := lim_some h1
          refine lim_of (n := n) ?_
          have := iterW (r := r) (b := ys) (n := n) (s := s') (acc := [])
          rw [List.append_nil] at this
          rw [this, hn]
          rfl
        | none =>
          cases h2 : Lim (accW r) (s', ys) with
          | none => rfl
          | some p =>
            obtain ⟨n, hn⟩ := lim_some h2
            have := iterW (r := r) (b := ys) (n := n) (s := s') (acc := [])
            rw [List.append_nil, hn] at this
            cases h3 : iterN (accW r) n (s', []) with
            | none => rw [h3] at this; cases this
            | some q => rw [lim_of h3] at h1; cases h1
      rw [this]
      cases Lim (accW r) (s', []) with
      | none => rfl
      | some p => rfl
noncomputable def limSumW {Y S X : Type} (sh : Shape) (pk : Tup sh → S) (r : S → YW Y (S ⊕ X)) (leave : X → ∀ V : Type, (Exit → St → YW Y V) → YW Y V) : SumY Y := fun V st K => match unSt sh st with
  | some s => YW.bind (LimW r (pk s)) fun x => leave x V K
  | none => none
theorem natural_limW {Y S X : Type} {sh : Shape} {pk : Tup sh → S} {r : S → YW Y (S ⊕ X)} {leave : X → ∀ V : Type, (Exit → St → YW Y V) → YW Y V} (hx : ∀ x V (K : Exit → St → YW Y V), leave x V K = YW.bind (leave x _ pairW) fun p => K p.1 p.2) : NaturalY (limSumW sh pk r leave) := by
  intro V st K
  unfold limSumW
  split
  · rw [YW.bind_assoc]
    refine congrArg (YW.bind _) ?_
    funext x
    exact hx x V K
  · rfl
def backW {Y R : Type} (k : Cont R) : Exit → St → YW Y R := fun e st => match k e st with
  | some v => some ([], v)
  | none => none
theorem sumYOk_lim {Y : Type} {E : Env} {O : Orc} {L : Nat → Option (SumY Y)} {ts : List Ty} {mk : List Dat → Option Y} {c : Code} {S X : Type} {sh : Shape} {pk : Tup sh → S} {un : S → Tup sh} {r : S → YW Y (S ⊕ X)} {leave : X → ∀ V : Type, (Exit → St → YW Y V) → YW Y V} {d : Exit → St → Option X}
    (hL : ∀ k f, L k = some f → NaturalY f) (hpu : ∀ s, un (pk s) = s)
    (hd : ∀ e st x, e ≠ .normal → d e st = some x → ∀ V (K : Exit → St → YW Y V), K e st = leave x V K)
    (hr : ∀ s, evY E O L ts mk c (mkSt sh (un s)) (backW (back sh pk d)) retOnly = r s) : SumYOk E O L ts mk c (limSumW sh pk r leave) := by
  intro V st K y hy
  unfold limSumW at hy
  split at hy
  · rename_i s hs
    rw [unSt_some hs]
    obtain ⟨ys, x, zs2, h1, h2, h3⟩ := YW.bind_some hy
    obtain ⟨n, hn⟩ := limW_some h1
    have one : ∀ (z : S) (p : List Y × (S ⊕ X)), r z = some p → ∃ e st, back sh pk d e st = some p.2 ∧ ∀ V (K : Exit → St → YW Y V), evY E O L ts mk c (mkSt sh (un z)) K retOnly = YW.bind (some (p.1, ())) fun _ => K e st := by
      intro z p hp
      rw [← hr, evY_nat hL] at hp
      obtain ⟨y1, ⟨e, st⟩, y2, q1, q2, q3⟩ := YW.bind_some hp
      simp only [backW] at q2
      split at q2
      · rename_i v hv
        simp only [Option.some.injEq, Prod.mk.injEq] at q2
        refine ⟨e, st, hv.trans (by rw [q2.2]), fun V K => ?_⟩
        rw [evY_nat hL, q1, q3, ← q2.1, List.append_nil]
        rfl
      · cases q2
    have key : ∀ (n : Nat) (z : S) (acc acc' : List Y), iterN (accW r) n (z, acc) = some (x, acc') → ∃ ys, acc' = acc ++ ys ∧ loopN (R := List Y × V) (fun st K => evY E O L ts mk c st K retOnly) n (mkSt sh (un z)) K = some (ys ++ zs2, y.2) := by
      intro n
      induction n with
      | zero => intro z acc acc' h; simp [iterN] at h
      | succ n ih =>
        intro z acc acc' h
        simp only [iterN, accW] at h
        rw [loopN_succ]
        cases hv : r z with
        | none => rw [hv] at h; cases h
        | some p =>
          obtain ⟨y1, o⟩ := p
          rw [hv] at h
          obtain ⟨e, st, g1, g2⟩ := one z _ hv
          rw [g2]
          cases o with
          | inl z' =>
            dsimp only at h
            obtain ⟨ys', e1, e2⟩ := ih z' _ _ h
            refine ⟨y1 ++ ys', by rw [e1, List.append_assoc], ?_⟩
            cases e with
            | normal =>
              simp only [back] at g1
              split at g1
              · rename_i s' hs'
                simp only [Option.some.injEq, Sum.inl.injEq] at g1
                have := unSt_some hs'
                simp only [YW.bind]
                rw [this, ← hpu s', g1, e2]
                simp
              · cases g1
            | _ => simp only [back] at g1; split at g1 <;> cases g1
          | inr x' =>
            simp only [Option.some.injEq, Prod.mk.injEq] at h
            obtain ⟨rfl, rfl⟩ := h
            refine ⟨y1, rfl, ?_⟩
            cases e with
            | normal => simp only [back] at g1; split at g1 <;> cases g1
            | _ =>
              simp only [back] at g1
              split at g1
              · rename_i x2 hx2
                simp only [Option.some.injEq, Sum.inr.injEq] at g1
                subst g1
                have := hd _ _ _ (by simp) hx2 V K
                simp only [YW.bind]
                rw [this, h2]
              · cases g1
    obtain ⟨ys', e1, e2⟩ := key n (pk s) [] ys hn
    rw [List.nil_append] at e1
    subst e1
    rw [hpu] at e2
    exact ⟨n, e2.trans (by rw [← h3])⟩
  · cases hy

def endY {Y : Type} : Exit → St → YW Y Unit := fun e _ => match e with
  | .ret | .normal => some ([], ())
  | _ => none
/-- **An iterator yields what 'evY' answers of its body.** -/
theorem iterOk_of_evY {P : Program} {E : Env} (hE : EnvOk P E) (hm : P.follows .mixedOrders = true) {gf : Nat} {fn : Func} {c : Code} (hf : P.funcs[gf]? = some fn) (hname : ∀ args w, (callFunc gf args).run P w = .ok (.enter gf args) w) (hb : fn.body = some c)
    {O : Orc} (hN : O.n = fn.ntmps) {I : ISpec} {L : Nat → Option (SumY I.Y)} {ts : List Ty} {mk : List Dat → Option I.Y} (hmk : ∀ ds x, mk ds = some x → I.enc x = ds) (hL : LoopsYOk E O L ts mk c) (hres : fn.results = #[]) (hpar : max 1 (nres I.pin) ≤ fn.ntmps) (hnt : fn.ntmps ≤ 50000)
    (hev : ∀ s ys, I.f s = some ys → evY E O L ts mk c ((.slot 0, .yld) :: mkSt I.pin s) endY retOnly = some (ys, ())) : IterOk P E.glob gf I := by
  refine ⟨hname, fun Z w Ow G args l s ys hys hdl hpin hal hzl hyv h J Jx T tt cc hJ hOT hCZ => ?_⟩
  have h1 := h.retell (d := 0) (v := .yld) (by omega) rfl trivial (fun hd => hd) (fun c u e => by cases e) (by
    show ({ tmps := args.toArray, defers := [] } : Act).tmps.getD 0 undef = .func (.yield Z.yl) #[] #[]
    rw [hzl, ← hyv]; simp)
  have hup : Mem.upd (St.get (mkSt I.pin s)) (.slot 0) .yld = St.get ((.slot 0, .yld) :: mkSt I.pin s) := by
    funext k
    simp only [Mem.upd, St.get]
  rw [hup] at h1
  have h2 := (Rel.env (E' := E) h1 rfl (fun b hb => by simp [globE] at hb)).enter (nt := fn.ntmps) (fun j hj => Classical.byContradiction fun hne => by
      simp only [St.get] at hne
      cases he : (Loc.slot 0).eq (.slot j) with
      | true => have := Loc.eq_iff.1 he; cases this; omega
      | false =>
        rw [he] at hne
        have := nres_get hne
        omega) (by rw [hal]; exact hpar) (fun b gb hp => by have := hpin b gb hp; omega)
  rw [← callsIn_wide (n := 0)]
  have fin : ∀ {Z1 : ZS} {w1 : World} {Ow1 : OwS} {st : St} {a : Act} {w' : World}, (∀ b, (Ow1 b ∨ w1.heap.size ≤ b) → Z1 b) → Ow1.dl = [] → RelX Z1 E fn.ntmps w1 Ow1 st a w' → (∀ w'' G, RelC Z1 E fn.ntmps w1 Ow1 st G { tmps := a.tmps, defers := [] } w'' → ∃ T C, J ys T C w'' ∨ Jx T C w'') →
      LeavesInM Fence.wide 0 P fn a.tmps (fun e W => (∃ v, e = .returned v) ∧ ∃ T C, J ys T C W ∨ Jx T C W) a.defers .returning w' := fun hz hd hX hk => by
    refine leaveX hz hd hX (fun w'' G'' hR => ⟨_, results_run (slots := []) (by rw [hres]; rfl) _ _, ⟨_, rfl⟩, hk w'' G'' hR⟩)
  refine callsIn_of_wp_marks hf hb trivial (evY_sound (J := J) (Jx := Jx) (l := l) (pin := Ow.pin) T hE hm hN hmk (all := ys) (List.prefix_refl _) c hL _ endY retOnly (bodyPostM Fence.wide 0 P fn _) _ w [] ys (fun _ => rfl) (fun e a w' st pre zs hk hp hr => ?_) (fun e a w' st hk hr => ?_) (hev s ys hys) rfl ⟨Z, w, Ow, _, ⟨hzl, rfl, hdl, fun b hb => hb, fun b hb => h.zow b (.inr hb), tt, cc, hJ, hOT, hCZ⟩, h2⟩)
  · obtain ⟨Z1, w1, Ow1, G1, ⟨k1, k2, k3, _, _, T1, C1, k4, k5, k6⟩, hR⟩ := hr
    have main : zs = [] → LeavesInM Fence.wide 0 P fn a.tmps (fun e W => (∃ v, e = .returned v) ∧ ∃ T C, J ys T C W ∨ Jx T C W) a.defers .returning w' := fun hz => by
      subst hz
      rw [List.append_nil] at hp
      subst hp
      exact fin (fun b hb => hR.zow b hb) k3 (hR.x k3) (fun w'' G'' hR' => ⟨_, _, .inl (T.later k4 hR'.os hR'.tape hR'.output hR'.size (fun b hb hn => hR'.low b hb (fun ho => hn (k5 b ho))))⟩)
    cases e with
    | ret => simp [endY] at hk; exact main hk
    | normal => simp [endY] at hk; exact main hk
    | _ => simp [endY] at hk
  · obtain ⟨Z1, w1, Ow1, ⟨k2, k3, T1, C1, k4, k5⟩, hz, hX⟩ := hr
    cases e with
    | ret => exact fin hz k3 hX (fun w'' G'' hR' => ⟨_, _, .inr (T.laterx k4 hR'.os hR'.tape hR'.output hR'.size (fun b hb hn => hR'.low b hb (fun ho => hn (k5 b ho))))⟩)
    | _ => simp [retOnly] at hk
end Go.Ev

namespace Go.Ev
open Go.RowKit
section
variable {Z : ZS} {E : Env} {N : Nat} {w0 : World} {Ow : OwS} {P : Program} {F : Fence} {n : Nat}
/-- Where no function is ranged over, the start stays. -/
theorem ev2_soundC (hE : EnvOk P E) (hFP : Plain P F) (hm : P.follows .mixedOrders = true) {O : Orc} (hN : O.n = N) {L : Nat → Option Sum} {R : Type} {r : R} :
    ∀ (c : Code), LoopsOk E O L c → rangesOf c = [] → ∀ (st : St) (K : Cont R) (Qp : Exit → Act → World → Prop) (a : Act) (w : World),
      (∀ e a w st, K e st = some r → (∃ G, RelC Z E N w0 Ow st G a w) → Qp e a w) → ev2 E O L c st K = some r → (∃ G, RelC Z E N w0 Ow st G a w) → c.wpIn F n P Qp a w := by
  intro c
  induction c with
  | skip => intro _ _ st K Qp a w hQ hev h; exact wpIn_skip (hQ _ _ _ _ hev h)
  | label l => intro _ _ st K Qp a w hQ hev h; exact wpIn_label (hQ _ _ _ _ hev h)
  | exit id => intro _ _ st K Qp a w hQ hev h; exact wpIn_exit (hQ _ _ _ _ hev h)
  | ret => intro _ _ st K Qp a w hQ hev h; exact wpIn_ret (hQ _ _ _ _ hev h)
  | region id ops draw =>
    intro _ _ st K Qp a w hQ hev ⟨G, h⟩
    exact ev_sound hE hFP hm hN (fuel := 0) (.region id ops draw) st K Qp G a w (fun e a w st G hk hr => hQ e a w st hk ⟨G, hr⟩) hev h
  | seq x y ihx ihy =>
    intro hL hR st K Qp a w hQ hev h
    simp only [ev2] at hev
    have hRx : rangesOf x = [] := by simp [rangesOf] at hR; exact hR.1
    have hRy : rangesOf y = [] := by simp [rangesOf] at hR; exact hR.2
    refine wpIn_seq (ihx (fun c hc => hL c (by simp [loopsOf, hc])) hRx st _ _ a w (fun e a w st hk hr => ?_) hev h)
    cases e <;> first | exact ihy (fun c hc => hL c (by simp [loopsOf, hc])) hRy st K Qp a w hQ hk hr | exact hQ _ _ _ _ hk hr
  | cond c x y ihx ihy =>
    intro hL hR st K Qp a w hQ hev ⟨G, h⟩
    simp only [ev2] at hev
    have hRx : rangesOf x = [] := by simp [rangesOf] at hR; exact hR.1
    have hRy : rangesOf y = [] := by simp [rangesOf] at hR; exact hR.2
    split at hev
    · rename_i b hc
      obtain ⟨G1, h1⟩ := relC_drop h hc O.c
      refine wpIn_cond (cond_told h hc) ?_
      cases b with
      | true => exact ihx (fun c hc => hL c (by simp [loopsOf, hc])) hRx _ K Qp a w hQ hev ⟨G1, h1⟩
      | false => exact ihy (fun c hc => hL c (by simp [loopsOf, hc])) hRy _ K Qp a w hQ hev ⟨G1, h1⟩
    · cases hev
  | block id c ih =>
    intro hL hR st K Qp a w hQ hev h
    simp only [ev2] at hev
    refine wpIn_block (ih (fun c hc => hL c (by simp [loopsOf, hc])) (by simpa [rangesOf] using hR) st _ _ a w (fun e a w st hk hr => ?_) hev h)
    cases e with
    | exit id' =>
      simp only [] at hk
      simp only [Exit.inBlock]
      split at hk
      · rename_i hid; rw [if_pos hid]; exact hQ _ _ _ _ hk hr
      · rename_i hid; rw [if_neg hid]; exact hQ _ _ _ _ hk hr
    | _ => exact hQ _ _ _ _ hk hr
  | scope c ih =>
    intro hL hR st K Qp a w hQ hev h
    simp only [ev2] at hev
    refine wpIn_scope_straight (ih (fun c hc => hL c (by simp [loopsOf, hc])) (by simpa [rangesOf] using hR) st _ _ a w (fun e a w st hk hr => ?_) hev h)
    cases e with
    | goto l => cases hk
    | _ => exact hQ _ _ _ _ hk hr
  | loop c ih =>
    intro hL hR st K Qp a w hQ hev h
    simp only [ev2] at hev
    split at hev
    · rename_i f hf
      obtain ⟨fuel, hfu⟩ := hL c (by simp [loopsOf]) f hf R st K r hev
      have key : ∀ (m : Nat) (st : St) (a : Act) (w : World), loopN (fun st K => ev2 E O L c st K) m st K = some r → (∃ G, RelC Z E N w0 Ow st G a w) → Code.roundsIn F n P c Qp m a w := by
        intro m
        induction m with
        | zero => intro st a w hl; simp [loopN] at hl
        | succ m ihm =>
          intro st a w hl hr
          simp only [loopN] at hl
          refine ih (fun c hc => hL c (by simp [loopsOf, hc])) (by simpa [rangesOf] using hR) st _ _ a w (fun e a w st hk hr => ?_) hl hr
          cases e <;> first | exact ihm st a w hk hr | exact hQ _ _ _ _ hk hr
      exact wpIn_loop_rounds fuel (key fuel st a w hfu h)
    · cases hev
  | rangeFunc g ps asg body _ _ => intro hL hR; simp [rangesOf] at hR
  | _ => intro _ _ st K Qp a w hQ hev h; simp [ev2] at hev
end

section
variable {Z Z' : ZS} {g g' : Mem} {G G' : Ghost} {a a' : Act} {w w' : World}
/-- What may be told anywhere, later. -/
theorem tells_move {u : AV} {l l' : Loc} {v : Value} (hu : Tells u) (h : AVR Z g G a w u l v) (hk : ∀ b, free Z G w b → free Z' G' w' b ∧ w'.heap[b]? = w.heap[b]?)
    (hb : ∀ b ∈ boxesIn u, ∀ e n, g (.box b) = .bx e n → g' (.box b) = .bx e n ∧ G' (.box b) = G (.box b)) : AVR Z' g' G' a' w' u l' v := by
  have hRV : ∀ {t : Ty} {x : t.den} {cs : List Value}, RV (free Z G w) w t x cs → RV (free Z' G' w') w' t x cs := fun hv => hv.keep (fun b hb => (hk b hb).2) (fun b hb => (hk b hb).1)
  have hptr : ∀ {b o : Nat} {v : Value}, b ∈ boxesIn u → (∃ e n gb, g (.box b) = .bx e n ∧ G (.box b) = some gb ∧ v = .pointer (some ⟨gb, o, none⟩)) → ∃ e n gb, g' (.box b) = .bx e n ∧ G' (.box b) = some gb ∧ v = .pointer (some ⟨gb, o, none⟩) := fun {b o v} hin ⟨e, n, gb, h1, h2, h3⟩ => by
    obtain ⟨h4, h5⟩ := hb b hin e n h1
    exact ⟨e, n, gb, h4, h5.trans h2, h3⟩
  cases hu with
  | dat t x => obtain ⟨cs, q1, q2⟩ := h; exact ⟨cs, hRV q1, q2⟩
  | ptr b o => exact hptr (by simp [boxesIn]) h
  | fn f cs =>
    obtain ⟨vs1, q1, q2, q3⟩ := h
    exact ⟨vs1, q1, q2, fun i b hi => hptr (by simp only [boxesIn]; exact List.mem_of_getElem? hi) (q3 i b hi)⟩
  | nil => exact h
  | nilp => exact h
  | mptr b o p => exact ⟨fun hp => hptr (by simp [boxesIn]) (h.1 hp), h.2⟩
  | dptr t x o =>
    obtain ⟨b, k, cs, q1, q2, q3, q4⟩ := h
    exact ⟨b, k, cs, hRV q1, fun hne => (hk _ (q2 hne)).1, q3, q4.keep fun hne => (hk _ (q2 hne)).2⟩
end

/-! ### Reading a shape -/
def readSh (g : Loc → AV) : (sh : Shape) → Option (Tup sh)
  | [] => some ()
  | p :: r => match p.2.un (g p.1), readSh g r with
    | some x, some s => some (x, s)
    | _, _ => none
/-- Slots as they were; boxes and cells as they are. -/
def readBack (g : Loc → AV) : (sh : Shape) → Tup sh → Option (Tup sh)
  | [], _ => some ()
  | (.slot _, _) :: r, e => (match readBack g r e.2 with
    | some s => some (e.1, s)
    | none => none)
  | (l, k) :: r, e => (match k.un (g l), readBack g r e.2 with
    | some x, some s => some (x, s)
    | _, _ => none)
theorem readSh_get {g : Loc → AV} : ∀ {sh : Shape} {e : Tup sh}, readSh g sh = some e → ∀ l, St.get (mkSt sh e) l = .dead ∨ ∃ k x, (l, k) ∈ sh ∧ St.get (mkSt sh e) l = k.mk x ∧ g l = k.mk x
  | [], _, _, l => .inl rfl
  | p :: r, e, h, l => by
    simp only [readSh] at h
    split at h
    · rename_i x s hx hs
      cases h
      simp only [mkSt, St.get]
      cases he : p.1.eq l with
      | true =>
        have := Loc.eq_iff.1 he
        subst this
        exact .inr ⟨p.2, x, by simp, rfl, Kd.un_some hx⟩
      | false =>
        rcases readSh_get hs l with h1 | ⟨k, y, h1, h2, h3⟩
        · exact .inl h1
        · exact .inr ⟨k, y, List.mem_cons_of_mem _ h1, h2, h3⟩
    · cases h
theorem readBack_slot {g : Loc → AV} : ∀ {sh : Shape} {e e' : Tup sh}, readBack g sh e = some e' → ∀ j, St.get (mkSt sh e') (.slot j) = St.get (mkSt sh e) (.slot j)
  | [], _, _, _, _ => rfl
  | (l, k) :: r, e, e', h, j => by
    cases l with
    | slot n =>
      simp only [readBack] at h
      split at h
      · rename_i s hs
        cases h
        simp only [mkSt, St.get]
        rw [readBack_slot hs j]
      · cases h
    | _ =>
      simp only [readBack] at h
      split at h
      · rename_i x s hx hs
        cases h
        simp only [mkSt, St.get, Loc.eq, cond_false]
        exact readBack_slot hs j
      · cases h
theorem readBack_get {g : Loc → AV} : ∀ {sh : Shape} {e e' : Tup sh}, readBack g sh e = some e' → ∀ l, (∀ j, l ≠ .slot j) → St.get (mkSt sh e') l = .dead ∨ ∃ k x, (l, k) ∈ sh ∧ St.get (mkSt sh e') l = k.mk x ∧ g l = k.mk x
  | [], _, _, _, l, _ => .inl rfl
  | (l0, k) :: r, e, e', h, l, hl => by
    have main : ∀ {x : k.den} {s : Tup r}, readBack g r e.2 = some s → e' = (x, s) → (l0 = l → g l = k.mk x) → St.get (mkSt ((l0, k) :: r) e') l = .dead ∨ ∃ k' x, (l, k') ∈ (l0, k) :: r ∧ St.get (mkSt ((l0, k) :: r) e') l = k'.mk x ∧ g l = k'.mk x := by
      intro x s hs he' hg
      subst he'
      simp only [mkSt, St.get]
      cases he : l0.eq l with
      | true =>
        have := Loc.eq_iff.1 he
        subst this
        exact .inr ⟨k, x, by simp, rfl, hg rfl⟩
      | false =>
        rcases readBack_get hs l hl with h1 | ⟨k', y, h1, h2, h3⟩
        · exact .inl h1
        · exact .inr ⟨k', y, List.mem_cons_of_mem _ h1, h2, h3⟩
    cases l0 with
    | slot n =>
      simp only [readBack] at h
      split at h
      · rename_i s hs
        cases h
        exact main hs rfl (fun e => absurd e.symm (hl n))
      · cases h
    | _ =>
      simp only [readBack] at h
      split at h
      · rename_i x s hx hs
        cases h
        exact main hs rfl (fun e => e ▸ Kd.un_some hx)
      · cases h

/-! ### The parameters of a round -/
def paramsSt : List Nat → List Dat → St → St
  | p :: ps, d :: ds, st => paramsSt ps ds ((.slot p, .dat d.t d.x) :: st)
  | _, _, st => st
theorem putParams {Z : ZS} {E : Env} {N : Nat} {w0 : World} {Ow : OwS} {Pr : Nat → Prop} {w : World} (hdl : Ow.dl = []) : ∀ {ps : List Nat} {ds : List Dat} {vs : List Value} {st : St} {G : Ghost} {tmps : Array Value}, ps.length = ds.length → (∀ p ∈ ps, p < N) → ArgsR Pr w ds vs → (∀ b, Pr b → free Z G w b) → RelC Z E N w0 Ow st G { tmps := tmps, defers := [] } w →
    ∃ G', RelC Z E N w0 Ow (paramsSt ps ds st) G' { tmps := (ps.zip vs).foldl (fun t (p, v) => t.setIfInBounds p v) tmps, defers := [] } w ∧ ∀ l b, G' l = some b → ∃ l', G l' = some b
  | [], [], vs, st, G, tmps, _, _, _, _, h => ⟨G, by simpa [paramsSt] using h, fun l b hb => ⟨l, hb⟩⟩
  | [], _ :: _, _, _, _, _, hl, _, _, _, _ => by simp at hl
  | _ :: _, [], _, _, _, _, hl, _, _, _, _ => by simp at hl
  | p :: ps, d :: ds, [], st, G, tmps, hl, hp, hA, hPr, h => hA.elim
  | p :: ps, d :: ds, v :: vs, st, G, tmps, hl, hp, hA, hPr, h => by
    obtain ⟨⟨cs, h1, h2⟩, hA'⟩ := hA
    have hsz : tmps.size = N := h.tmps
    have h3 := Rel.put' (a' := { tmps := tmps.setIfInBounds p v, defers := [] }) (d := p) (v := .dat d.t d.x) (val := v) h rfl trivial (fun hd => hd) (fun c u e => by cases e) ⟨cs, h1.keep (fun _ _ => rfl) hPr, h2⟩ hdl.symm (by simpa using hsz)
      (by have := hp p (by simp); simp [Array.getD_eq_getD_getElem?, hsz, this]) (fun n hn => by simp [Array.getD_eq_getD_getElem?, Array.getElem?_setIfInBounds_ne hn])
    have hup : Mem.upd (St.get st) (.slot p) (.dat d.t d.x) = St.get ((.slot p, .dat d.t d.x) :: st) := by
      funext k
      simp only [Mem.upd, St.get]
    rw [hup] at h3
    obtain ⟨G', k1, k2⟩ := putParams hdl (ps := ps) (ds := ds) (vs := vs) (by simpa using hl) (fun q hq => hp q (by simp [hq])) hA' (fun b hb => by
      have := hPr b hb
      exact ⟨this.1, fun l e => by
        by_cases hl' : l = .slot p
        · subst hl'; rw [Ghost.upd_same] at e; cases e
        · rw [Ghost.upd_ne G none (Ne.symm hl')] at e; exact this.2 l e, this.3⟩) h3
    refine ⟨G', by simpa [paramsSt] using k1, fun l b hb => ?_⟩
    obtain ⟨l', hl'⟩ := k2 l b hb
    by_cases e : l' = .slot p
    · subst e; rw [Ghost.upd_same] at hl'; cases hl'
    · rw [Ghost.upd_ne G none (Ne.symm e)] at hl'; exact ⟨l', hl'⟩
end Go.Ev

namespace Go.Ev
open Go.RowKit

def heldOf (esh : Shape) (b : Nat) : Bool := (outBoxes esh).any fun c => Nat.beq c b
/-- Within a round no new box takes the name of one that was there. -/
def inside (E : Env) (esh : Shape) : Env := { E with held := heldOf esh }
def plainKd : Kd → Bool
  | .own _ _ | .bx _ _ | .yld => false
  | _ => true
def eshOk (esh : Shape) : Bool := closedP (outBoxes esh) esh && boxesBx esh && esh.all fun p => match p.1 with
  | .slot _ => plainKd p.2
  | .comp _ _ => false
  | _ => true
def captOk (pin esh : Shape) (n : Nat) (m : Names) : Bool := Nat.beq (n + 1) (max 1 (nres pin)) && Nat.ble (n + 1) 50000 && ownKept pin m [] && (pin.all fun p => !(Loc.slot 0).eq p.1) &&
  m.all fun p => (outBoxes pin).any (fun b => Nat.beq b p.1) && Nat.ble 50000 p.1 && Nat.blt p.1 100000 && !((outBoxes esh).any fun b => Nat.beq b p.2)
def foldX {B Y X : Type} (step : B → Y → Option (B ⊕ X)) : List Y → B → Option (B ⊕ X)
  | [], b => some (.inl b)
  | y :: ys, b => match step b y with
    | some (.inl b') => foldX step ys b'
    | some (.inr x) => some (.inr x)
    | none => none
theorem foldX_append {B Y X : Type} {step : B → Y → Option (B ⊕ X)} : ∀ {ys zs : List Y} {b : B}, foldX step (ys ++ zs) b = match foldX step ys b with
    | some (.inl b') => foldX step zs b'
    | r => r
  | [], zs, b => rfl
  | y :: ys, zs, b => by
    simp only [List.cons_append, foldX]
    cases step b y with
    | none => rfl
    | some r => cases r with
      | inl b' => exact foldX_append
      | inr x => rfl
def rangeSum {B X : Type} (E : Env) (gf t : Nat) (esh : Shape) (I : ISpec) (pk : Tup esh → B) (un : B → Tup esh) (step : B → I.Y → Option (B ⊕ X)) (leave : X → ∀ R : Type, Cont R → Option R) : Sum := fun R st K => match st.get (.slot t) with
  | .fn f cs => bif Nat.beq f gf then (match (inQ E [] (.opd (.const (.bool false)) :: cs.map .cap) I.pin []).run st.get with
    | some (s, m, []) => bif captOk I.pin esh cs.length m then (match readSh st.get esh with
      | some e => (I.f s).bind fun ys => (foldX step ys (pk e)).bind fun z => match z with
        | .inl b => K .normal (mkSt esh (un b))
        | .inr x => leave x R K
      | none => none) else none
    | _ => none) else none
  | _ => none
theorem natural_range {B X : Type} {E : Env} {gf t : Nat} {esh : Shape} {I : ISpec} {pk : Tup esh → B} {un : B → Tup esh} {step : B → I.Y → Option (B ⊕ X)} {leave : X → ∀ R : Type, Cont R → Option R} (hx : ∀ x R (K : Cont R), leave x R K = (leave x _ pairK).bind fun p => K p.1 p.2) : Natural (rangeSum E gf t esh I pk un step leave) := by
  intro R st K
  unfold rangeSum
  cases St.get st (.slot t) with
  | fn f cs =>
    dsimp only
    cases Nat.beq f gf with
    | false => rfl
    | true =>
      simp only [cond_true]
      split
      · rename_i s m hq
        cases captOk I.pin esh cs.length m with
        | false => rfl
        | true =>
          simp only [cond_true]
          cases readSh st.get esh with
          | none => rfl
          | some e =>
            dsimp only
            simp only [Option.bind_assoc]
            refine congrArg (Option.bind _) ?_
            funext ys
            refine congrArg (Option.bind _) ?_
            funext z
            cases z with
            | inl b => rfl
            | inr x => exact hx x R K
      · rfl
  | _ => rfl
/-- A round's end, read back. -/
def backR {B X : Type} (esh : Shape) (pk : Tup esh → B) (d : Exit → Tup esh → Option X) (e : Tup esh) : Cont (B ⊕ X) := fun x st => match x with
  | .normal => (match readBack st.get esh e with
    | some e' => some (.inl (pk e'))
    | none => none)
  | x => (match readBack st.get esh e with
    | some e' => (match d x e' with
      | some v => some (.inr v)
      | none => none)
    | none => none)
def jumpOf : Exit → Option Code
  | .ret => some .ret
  | .exit id => some (.exit id)
  | _ => none

/-- What the consumer counts on, while the iterator runs. -/
structure Hold (E : Env) (N : Nat) (esh : Shape) (w : World) (G : Ghost) (Zf : ZS) (D l : Nat) (tmps : Array Value) (pinE : Nat → Option Nat) (rc : Loop) (e : Tup esh) (T C : Nat → Prop) (W : World) : Prop where
  rel : ∃ Zc Owc Gc, Rel Zc (inside E esh) N W Owc (fun n => n = 0) (fun _ => False) (St.get (mkSt esh e)) Gc { tmps := tmps, defers := [] } W ∧ Zc.yl = Zf.yl ∧ Owc.pin = pinE ∧ Owc.dl = [] ∧
    (∀ b, Owc b → C b ∧ b ≠ D ∧ b ≠ l ∧ ((∃ l, G l = some b) ∨ w.heap.size ≤ b)) ∧ (∀ b, b < W.heap.size → Zc b → ¬ T b ∧ b ≠ D ∧ b ≠ l ∧ (b < w.heap.size → Zf b))
  ge : w.heap.size ≤ l ∧ w.heap.size ≤ D
  cl : C l
  cD : C D
  cs : ∀ b, C b → b < W.heap.size ∧ ¬ T b
  t : ∀ b, T b → b < W.heap.size ∧ (b < w.heap.size → ∃ l, G l = some b)
  hl : W.heap[l]? = some (.loop rc)
  hD : W.heap[D]? = some (.deferred (some []))
  os : W.os = w.os
  tape : W.tape = w.tape
  output : W.output = w.output
  size : w.heap.size ≤ W.heap.size
  low : ∀ k, k < w.heap.size → (∀ l, G l ≠ some k) → W.heap[k]? = w.heap[k]?

section
variable {E : Env} {N : Nat} {esh : Shape} {w : World} {G : Ghost} {Zf : ZS} {D l : Nat} {tmps : Array Value} {pinE : Nat → Option Nat} {rc : Loop} {e : Tup esh} {T C : Nat → Prop} {W W' : World}

theorem Hold.later (h : Hold E N esh w G Zf D l tmps pinE rc e T C W) (hos : W'.os = W.os) (htape : W'.tape = W.tape) (hout : W'.output = W.output) (hsize : W.heap.size ≤ W'.heap.size) (hb : ∀ b, b < W.heap.size → ¬ T b → W'.heap[b]? = W.heap[b]?) :
    Hold E N esh w G Zf D l tmps pinE rc e (fun b => T b ∨ (W.heap.size ≤ b ∧ b < W'.heap.size)) C W' := by
  obtain ⟨Zc, Owc, Gc, h1, h2, h3, h4, h5, h6⟩ := h.rel
  have hG : ∀ {l b}, Gc l = some b → b < W.heap.size ∧ Owc b := fun {l b} q => by
    obtain ⟨q1, q2⟩ := h1.bnd l b q
    exact ⟨q1, q2.resolve_right (by omega)⟩
  have hl := h.cs l h.cl
  have hD := h.cs D h.cD
  refine ⟨⟨⟨fun b => (b < W.heap.size ∧ Zc b) ∨ W'.heap.size ≤ b, Zc.yl⟩, ⟨fun b => ∃ l, Gc l = some b, pinE, []⟩, Gc,
    h1.rebase rfl hsize (fun b q1 q2 => hb b q1 (h6 b q1 q2).1) (fun b q1 q2 => .inl ⟨q1, q2⟩) (fun b q => .inr q) (fun l b q => ⟨l, q⟩) (fun b ⟨l, q⟩ => .inl ⟨(hG q).1, h1.zow b (.inl (hG q).2)⟩) h3.symm h4.symm,
    h2, rfl, rfl, fun b ⟨l, q⟩ => h5 b (hG q).2, fun b q1 q2 => ?_⟩, h.ge, h.cl, h.cD, fun b hb' => ?_, fun b hb' => ?_, (hb l hl.1 hl.2).trans h.hl, (hb D hD.1 hD.2).trans h.hD, hos.trans h.os, htape.trans h.tape, hout.trans h.output, Nat.le_trans h.size hsize, fun k q1 q2 => ?_⟩
  · rcases q2 with ⟨q2, q3⟩ | q2
    · obtain ⟨r1, r2⟩ := h6 b q2 q3
      exact ⟨fun q => q.elim r1 (fun q => by omega), r2⟩
    · omega
  · obtain ⟨q1, q2⟩ := h.cs b hb'
    exact ⟨by omega, fun q => q.elim q2 (fun q => by omega)⟩
  · rcases hb' with q | q
    · obtain ⟨q1, q2⟩ := h.t b q; exact ⟨by omega, q2⟩
    · exact ⟨q.2, fun q3 => by have := h.size; omega⟩
  · rw [hb k (by have := h.size; omega) (fun q => by obtain ⟨l, q4⟩ := (h.t k q).2 q1; exact q2 l q4), h.low k q1 q2]
theorem Hold.less (h : Hold E N esh w G Zf D l tmps pinE rc e T C W) {T' : Nat → Prop} (ht : ∀ b, T' b → T b) : Hold E N esh w G Zf D l tmps pinE rc e T' C W := by
  obtain ⟨Zc, Owc, Gc, h1, h2, h3, h4, h5, h6⟩ := h.rel
  exact { h with
    rel := ⟨Zc, Owc, Gc, h1, h2, h3, h4, h5, fun b q1 q2 => ⟨fun q => (h6 b q1 q2).1 (ht b q), (h6 b q1 q2).2⟩⟩
    cs := fun b hb => ⟨(h.cs b hb).1, fun q => (h.cs b hb).2 (ht b q)⟩
    t := fun b hb => h.t b (ht b hb) }

theorem eshOk_mem (hesh : eshOk esh = true) {p : Loc} {k : Kd} (hp : (p, k) ∈ esh) : (closedK (outBoxes esh) k = true ∧ (∀ b o, p = .cell b o → b ∈ outBoxes esh) ∧ ∀ n i, p ≠ .comp n i) ∧ (∀ j, p = .slot j → plainKd k = true) := by
  simp only [eshOk, Bool.and_eq_true] at hesh
  refine ⟨closedP_mem hesh.1.1 hp, fun j e => ?_⟩
  have := List.all_eq_true.1 hesh.2 _ hp
  subst e
  exact this
theorem tells_of_plain {k : Kd} (h : plainKd k = true) (x : k.den) : k.mk x = .dead ∨ Tells (k.mk x) := by
  cases k <;> first | (simp [plainKd] at h; done) | exact .inl rfl | exact .inr (by constructor)
theorem im_self {bs : List Nat} {k : Kd} (h : closedK bs k = true) (x : k.den) : Im (k.mk x) (k.mk x) := by
  cases k <;> first | (simp [closedK] at h; done) | constructor
theorem box_told : ∀ {sh : Shape} (e : Tup sh), boxesBx sh = true → ∀ b ∈ outBoxes sh, ∃ t n, St.get (mkSt sh e) (.box b) = .bx t n
  | [], _, _, b, hb => by simp [outBoxes] at hb
  | (l0, k) :: r, e, hbb, b, hb => by
    simp only [mkSt, St.get]
    cases he : l0.eq (.box b) with
    | true =>
      have := Loc.eq_iff.1 he
      subst this
      cases k <;> simp [boxesBx] at hbb
      rename_i t n
      exact ⟨t, n, rfl⟩
    | false =>
      simp only [cond_false]
      refine box_told e.2 ?_ b ?_
      · cases l0 <;> cases k <;> simp [boxesBx] at hbb ⊢ <;> exact hbb
      · cases l0 with
        | box c =>
          have : c ≠ b := fun q => by subst q; rw [Loc.eq_iff.2 rfl] at he; cases he
          simpa [outBoxes, Ne.symm this] using hb
        | _ => simpa [outBoxes] using hb
theorem get_box_indep : ∀ {sh : Shape} (e e' : Tup sh), boxesBx sh = true → ∀ b, St.get (mkSt sh e) (.box b) = St.get (mkSt sh e') (.box b)
  | [], _, _, _, _ => rfl
  | (l0, k) :: r, e, e', hbb, b => by
    have hbr : boxesBx r = true := by cases l0 <;> cases k <;> simp [boxesBx] at hbb ⊢ <;> exact hbb
    simp only [mkSt, St.get]
    cases he : l0.eq (.box b) with
    | true =>
      have := Loc.eq_iff.1 he
      subst this
      cases k <;> simp [boxesBx] at hbb
      rfl
    | false => exact get_box_indep e.2 e'.2 hbr b
end
end Go.Ev

namespace Go.Ev
open Go.RowKit
section
variable {E : Env} {N : Nat} {esh : Shape} {w : World} {G : Ghost} {Zf : ZS} {D l : Nat} {tmps : Array Value} {pinE : Nat → Option Nat} {T C : Nat → Prop} {W W' : World} {P : Program}

def recOf (fn : FuncId) (tmps : Array Value) (ps : Array Tmp) (asg body : Code) (D : Nat) (st : LoopState) (pe : Option Code) : Loop := { state := st, pending := pe, fn := fn, tmps := tmps, params := ps, assign := asg, body := body, defers := D }

theorem foldl_zip {f : Array Value → Tmp × Value → Array Value} (ps : Array Tmp) (vs : List Value) (t : Array Value) : (ps.zip vs.toArray).foldl f t = (ps.toList.zip vs).foldl f t := by
  rw [← Array.foldl_toList, Array.toList_zip]

theorem hold_round (hE' : EnvOk P (inside E esh)) (hm : P.follows .mixedOrders = true) {O : Orc} (hN : O.n = N) {L : Nat → Option Sum} {ps : Array Tmp} {asg body : Code} (hLa : LoopsOk (inside E esh) O L asg) (hLb : LoopsOk (inside E esh) O L body) (hra : rangesOf asg = []) (hrb : rangesOf body = [])
    (hesh : eshOk esh = true) (hps : ∀ p ∈ ps.toList, p < N) {B X : Type} {pk : Tup esh → B} {un : B → Tup esh} (hpu : ∀ s, un (pk s) = s) {d : Exit → Tup esh → Option X} {xOf : X → Exit × Tup esh} (hd : ∀ x e v, d x e = some v → xOf v = (x, e) ∧ ∃ c, jumpOf x = some c)
    {ds : List Dat} (hlen : ps.toList.length = ds.length) {b0 : B} {z : B ⊕ X}
    (hev : ev2 (inside E esh) O L asg (paramsSt ps.toList ds (mkSt esh (un b0))) (fun x st => match x with | .normal => ev2 (inside E esh) O L body st (backR esh pk d (un b0)) | _ => none) = some z)
    {fn : FuncId} (h : Hold E N esh w G Zf D l tmps pinE (recOf fn tmps ps asg body D .ready none) (un b0) T C W) {Pr : Nat → Prop} {vs : List Value} (hA : ArgsR Pr W ds vs) (hPr : ∀ b, Pr b → b < W.heap.size ∧ ¬ C b ∧ ¬ T b ∧ (b < w.heap.size → Zf b))
    (hpinE : ∀ b gb, pinE b = some gb → heldOf esh b = true) (hpinA : ∀ b ∈ outBoxes esh, ∃ gb, pinE b = some gb) (m : Nat) : ∃ tmps', (Instr.yield l vs.toArray).run P W = .ok (.round l fn tmps' asg body) W ∧ RoundIn Fence.wide m P l fn tmps' asg body W fun e W' =>
      (W'.os = W.os ∧ W'.tape = W.tape ∧ W'.output = W.output ∧ W.heap.size ≤ W'.heap.size ∧ (∀ b, b < W.heap.size → ¬ C b → W'.heap[b]? = W.heap[b]?)) ∧
      ∃ C', (∀ b, C' b → C b ∨ W.heap.size ≤ b) ∧ (∀ b, C' b → b < W'.heap.size) ∧ match z with
        | .inl b' => e = .returned (.bool true) ∧ Hold E N esh w G Zf D l tmps pinE (recOf fn tmps ps asg body D .ready none) (un b') T C' W'
        | .inr x => e = .returned (.bool false) ∧ ∃ c, jumpOf (xOf x).1 = some c ∧ Hold E N esh w G Zf D l tmps pinE (recOf fn tmps ps asg body D .done (some c)) (xOf x).2 T C' W' := by
  obtain ⟨Zc, Owc, Gc, h1, h2, h3, h4, h5, h6⟩ := h.rel
  have hG : ∀ {p b}, Gc p = some b → b < W.heap.size ∧ Owc b := fun {p b} q => by
    obtain ⟨q1, q2⟩ := h1.bnd p b q
    exact ⟨q1, q2.resolve_right (by omega)⟩
  have hlW := h.cs l h.cl
  have hDW := h.cs D h.cD
  have hvl : vs.length = ds.length := by
    clear hev hlen hPr
    induction ds generalizing vs with
    | nil => cases vs with
      | nil => rfl
      | cons => exact hA.elim
    | cons d0 ds ih => cases vs with
      | nil => exact hA.elim
      | cons v0 vs => exact congrArg Nat.succ (ih hA.2)
  have hy := run_yield (P := P) (args := vs.toArray) h.hl (by simp [recOf, hvl, ← hlen])
  rw [foldl_zip] at hy
  refine ⟨_, hy, ?_⟩
  -- the round's own start
  have hZl : ∀ b, b < W.heap.size → Zc b ∨ Pr b → ¬ T b ∧ b ≠ D ∧ b ≠ l ∧ (b < w.heap.size → Zf b) := fun b q1 q2 => by
    rcases q2 with q2 | q2
    · exact h6 b q1 q2
    · obtain ⟨r1, r2, r3, r4⟩ := hPr b q2
      exact ⟨r3, fun e => r2 (e ▸ h.cD), fun e => r2 (e ▸ h.cl), r4⟩
  have h0 : RelC ⟨fun b => Zc b ∨ Pr b, Zc.yl⟩ (inside E esh) N W ⟨fun b => ∃ p, Gc p = some b, pinE, []⟩ (mkSt esh (un b0)) Gc { tmps := tmps, defers := [] } W :=
    Rel.rebase h1 rfl (Nat.le_refl _) (fun _ _ _ => rfl) (fun b _ q => .inl q) (fun b q => .inl (h1.zow b (.inr q))) (fun p b q => ⟨p, q⟩) (fun b ⟨p, q⟩ => .inl (h1.zow b (.inl (hG q).2))) h3.symm h4.symm
  have hPrF : ∀ b, Pr b → free ⟨fun b => Zc b ∨ Pr b, Zc.yl⟩ Gc W b := fun b q => ⟨(hPr b q).1, fun p e => (hPr b q).2.1 (h5 b (hG e).2).1, .inr q⟩
  obtain ⟨G0, k1, k2⟩ := putParams rfl hlen hps hA hPrF h0
  refine roundIn_of_wpIn trivial (ev2_soundC hE' (plain_round P l) hm hN asg hLa hra _ _ _ _ W (fun e a₁ w₁ st₁ hk hr => ?_) hev ⟨G0, k1⟩)
  obtain ⟨G₁, r₁⟩ := hr
  cases e with
  | normal =>
    dsimp only at hk
    have hG1 : ∀ {p b}, G₁ p = some b → (∃ p', Gc p' = some b) ∨ W.heap.size ≤ b := fun {p b} q => (r₁.bnd p b q).2
    have hl₁ : w₁.heap[l]? = some (.loop (recOf fn tmps ps asg body D .ready none)) := (r₁.low l hlW.1 (fun ⟨p, q⟩ => (h5 l (hG q).2).2.2.1 rfl)).trans h.hl
    have hlz : ∀ b, b < W.heap.size → Zc b ∨ Pr b → b ≠ l := fun b q1 q2 => (hZl b q1 q2).2.2.1
    obtain ⟨w₂, hw₂⟩ : ∃ w₂, w₂ = w₁.putObj l (.loop (recOf fn tmps ps asg body D .busy none)) := ⟨_, rfl⟩
    have hs₂ : w₂.heap.size = w₁.heap.size := by rw [hw₂]; simp
    have ho₂ : ∀ k, k ≠ l → w₂.heap[k]? = w₁.heap[k]? := fun k q => by rw [hw₂]; exact World.putObj_heap_other q
    have hZ₁ : ∀ b, (Zc b ∨ Pr b) → b = l → False := fun b q e => by subst e; exact hlz b hlW.1 q rfl
    have hGz : ∀ {p b}, G₁ p = some b → Zc b ∨ Pr b := fun {p b} q => r₁.zow b (r₁.bnd p b q).2
    have r₂ : RelC ⟨fun b => Zc b ∨ Pr b, Zc.yl⟩ (inside E esh) N w₂ ⟨fun b => ∃ p, G₁ p = some b, pinE, []⟩ st₁ G₁ a₁ w₂ :=
      Rel.rebase r₁ rfl (Nat.le_of_eq hs₂.symm) (fun b _ q => ho₂ b (fun e => hZ₁ b q e)) (fun b _ q => q) (fun b q => r₁.zow b (.inr (by have := r₁.size; omega))) (fun p b q => ⟨p, q⟩) (fun b ⟨p, q⟩ => hGz q) rfl rfl
    refine ⟨w₂, ?_, ?_⟩
    · rw [hw₂]; exact run_beginRound hl₁ rfl
    refine ev2_soundC hE' (plain_round P l) hm hN body hLb hrb st₁ (backR esh pk d (un b0)) _ a₁ w₂ (fun x a₃ w₃ st₃ hk₃ hr₃ => ?_) hk ⟨G₁, r₂⟩
    obtain ⟨G₃, r₃⟩ := hr₃
    have hG3 : ∀ {p b}, G₃ p = some b → (∃ p', Gc p' = some b) ∨ W.heap.size ≤ b := fun {p b} q => by
      rcases (r₃.bnd p b q).2 with ⟨p', q'⟩ | q'
      · exact hG1 q'
      · exact .inr (by have := r₁.size; omega)
    have hGz₃ : ∀ {p b}, G₃ p = some b → Zc b ∨ Pr b := fun {p b} q => r₃.zow b (r₃.bnd p b q).2
    have hl₂ : w₂.heap[l]? = some (.loop (recOf fn tmps ps asg body D .busy none)) := by
      rw [hw₂]; exact World.putObj_heap_same (Array.getElem?_eq_some_iff.1 hl₁).1
    have hl₂s : l < w₂.heap.size := (Array.getElem?_eq_some_iff.1 hl₂).1
    have hl₃ : w₃.heap[l]? = some (.loop (recOf fn tmps ps asg body D .busy none)) := (r₃.low l hl₂s (fun ⟨p, q⟩ => hZ₁ _ (hGz q) rfl)).trans hl₂
    -- what stays
    have same : ∀ k, k < W.heap.size → (∀ p, Gc p ≠ some k) → k ≠ l → w₃.heap[k]? = W.heap[k]? := fun k q1 q2 q3 => by
      have q4 : ∀ p, G₁ p ≠ some k := fun p e => (hG1 e).elim (fun ⟨p', q⟩ => q2 p' q) (fun q => by omega)
      rw [r₃.low k (by rw [hs₂]; have := r₁.size; omega) (fun ⟨p, q⟩ => q4 p q), ho₂ k q3]
      exact r₁.low k q1 (fun ⟨p, q⟩ => q2 p q)
    have fin : ∀ (st : LoopState) (jump : Option Code) (e' : Tup esh), readBack st₃.get esh (un b0) = some e' →
        (W.heap.size ≤ (w₃.putObj l (.loop (recOf fn tmps ps asg body D st jump))).heap.size ∧ (∀ b, b < W.heap.size → ¬ C b → (w₃.putObj l (.loop (recOf fn tmps ps asg body D st jump))).heap[b]? = W.heap[b]?)) ∧
        ∃ C', (∀ b, C' b → C b ∨ W.heap.size ≤ b) ∧ (∀ b, C' b → b < (w₃.putObj l (.loop (recOf fn tmps ps asg body D st jump))).heap.size) ∧ Hold E N esh w G Zf D l tmps pinE (recOf fn tmps ps asg body D st jump) e' T C' (w₃.putObj l (.loop (recOf fn tmps ps asg body D st jump))) := by
      intro st jump e' hrb'
      obtain ⟨w₄, hw₄⟩ : ∃ w₄, w₄ = w₃.putObj l (.loop (recOf fn tmps ps asg body D st jump)) := ⟨_, rfl⟩
      rw [← hw₄]
      have hs₄ : w₄.heap.size = w₃.heap.size := by rw [hw₄]; simp
      have ho₄ : ∀ k, k ≠ l → w₄.heap[k]? = w₃.heap[k]? := fun k q => by rw [hw₄]; exact World.putObj_heap_other q
      have hsz : W.heap.size ≤ w₃.heap.size := by have := r₁.size; have := r₃.size; omega
      have r₄ : RelC ⟨fun b => Zc b ∨ Pr b, Zc.yl⟩ (inside E esh) N w₄ ⟨fun b => ∃ p, G₃ p = some b, pinE, []⟩ st₃ G₃ a₃ w₄ :=
        Rel.rebase r₃ rfl (Nat.le_of_eq hs₄.symm) (fun b _ q => ho₄ b (fun e => hZ₁ b q e)) (fun b _ q => q) (fun b q => r₃.zow b (.inr (by have := r₃.size; omega))) (fun p b q => ⟨p, q⟩) (fun b ⟨p, q⟩ => hGz₃ q) rfl rfl
      -- what was read is as it was
      have hfree : ∀ b, free ⟨fun b => Zc b ∨ Pr b, Zc.yl⟩ Gc W b → free ⟨fun b => Zc b ∨ Pr b, Zc.yl⟩ G₃ w₄ b ∧ w₄.heap[b]? = W.heap[b]? := fun b q => by
        have q3 := hlz b q.1 q.3
        exact ⟨⟨by have := q.1; omega, fun p e => (hG3 e).elim (fun ⟨p', q'⟩ => q.2 p' q') (fun q' => by have := q.1; omega), q.3⟩, (ho₄ b q3).trans (same b q.1 q.2 q3)⟩
      have hgetb := readBack_get hrb'
      have hgets := readBack_slot hrb'
      have hbx : boxesBx esh = true := by simp only [eshOk, Bool.and_eq_true] at hesh; exact hesh.1.2
      have hin : ∀ b ∈ outBoxes esh, St.get (mkSt esh e') (.box b) = St.get st₃ (.box b) := fun b hb => by
        obtain ⟨t, n, q⟩ := box_told e' hbx b hb
        rcases hgetb (.box b) (by simp) with q1 | ⟨k, x, _, q2, q3⟩
        · rw [q] at q1; cases q1
        · rw [q2, q3]
      have hsame : ∀ b ∈ outBoxes esh, St.get st₃ (.box b) = St.get (mkSt esh (un b0)) (.box b) ∧ G₃ (.box b) = Gc (.box b) := fun b hb => by
        obtain ⟨t, n, q⟩ := box_told (un b0) hbx b hb
        have q2 : St.get st₃ (.box b) = St.get (mkSt esh (un b0)) (.box b) := by rw [← hin b hb, get_box_indep e' (un b0) hbx]
        obtain ⟨gb, hgb⟩ := hpinA b hb
        refine ⟨q2, ?_⟩
        rw [r₄.pins b gb hgb (by rw [q2, q]; simp), h1.pins b gb (by rw [h3]; exact hgb) (by rw [q]; simp)]
      have hvs : ∀ j, tmps.toList.getD j undef = tmps.getD j undef := fun j => by simp
      have htl : tmps.toList.length = N := by simpa using h1.tmps
      have hcl : ∀ p, ∀ b ∈ boxesIn (St.get (mkSt esh e') p), b ∈ outBoxes esh := fun p b hb => by
        rcases mkSt_kind (sh := esh) (s := e') p with q | ⟨k, x, q1, q2⟩
        · rw [q] at hb; simp [boxesIn] at hb
        · rw [q2] at hb; exact boxes_mk (eshOk_mem hesh q1).1.1 b hb
      have hI := Rel.image' r₄ (g' := St.get (mkSt esh e')) (vs := tmps.toList) (E' := inside E esh) rfl (src := fun _ => none) (Z' := ⟨fun b => Zc b ∨ Pr b, Zc.yl⟩) (w1 := w₄) (Ow1 := ⟨fun b => ∃ p, imageG (St.get (mkSt esh e')) (fun _ => none) G₃ p = some b, pinE, []⟩) (fun b q => q.3) rfl rfl rfl (Nat.le_refl _) (fun _ _ _ => rfl) (fun p b q => .inl ⟨p, q⟩)
        (fun b q => q.elim (fun ⟨p, q⟩ => by obtain ⟨p', q'⟩ := imageG_some q; exact hGz₃ q') (fun q => r₄.zow b (.inr q))) (ds := []) rfl (fun b gb q q' => r₄.pins b gb q q') (fun b gb q => .inr (hpinE b gb q))
        (fun j => by
          rw [hgets j, hvs]
          have hs := h1.slots j
          rcases mkSt_kind (sh := esh) (s := un b0) (.slot j) with q | ⟨k, x, q1, q2⟩
          · exact .inl q
          · rw [q2] at hs ⊢
            obtain ⟨e1, e2⟩ := eshOk_mem hesh q1
            rcases tells_of_plain (e2 j rfl) x with q3 | q3
            · exact .inl q3
            · refine .inr (.inr (.inr ⟨q3, .slot j, ?_⟩))
              refine tells_move (Z := ⟨fun b => Zc b ∨ Pr b, Zc.yl⟩) (G := Gc) (w := W) (a := { tmps := tmps, defers := [] }) (g := St.get (mkSt esh (un b0))) (l := .slot j) q3 ?_ hfree (fun b hb t n q => ?_)
              · have := h0.slots j
                rw [q2] at this; exact this
              · obtain ⟨s1, s2⟩ := hsame b (boxes_mk e1.1 b hb)
                exact ⟨s1.trans q, s2⟩)
        (fun _ _ _ q => by cases q)
        (fun n i => by
          rcases mkSt_kind (sh := esh) (s := e') (.comp n i) with q | ⟨k, x, q1, q2⟩
          · exact q
          · exact absurd rfl ((eshOk_mem hesh q1).1.2.2 n i))
        (fun b => by
          rcases hgetb (.box b) (by simp) with q1 | ⟨k, x, _, q2, q3⟩
          · exact .inl q1
          · right; rw [q2, q3])
        (fun b o => by
          rcases hgetb (.cell b o) (by simp) with q1 | ⟨k, x, q0, q2, q3⟩
          · exact .inl q1
          · obtain ⟨e1, _⟩ := eshOk_mem hesh q0
            right
            rw [q2, q3]
            exact ⟨im_self e1.1 x, hin b (e1.2.1 b o rfl)⟩)
        (fun p b hb => hin b (hcl p b hb))
      rw [htl, show tmps.toList.toArray = tmps from Array.toArray_toList] at hI
      have hGi : ∀ {p b}, imageG (St.get (mkSt esh e')) (fun _ => none) G₃ p = some b → b < w₄.heap.size ∧ ((∃ p', Gc p' = some b) ∨ W.heap.size ≤ b) ∧ (Zc b ∨ Pr b) := fun {p b} q => by
        obtain ⟨p', q'⟩ := imageG_some q
        exact ⟨(r₄.bnd p' b q').1, hG3 q', hGz₃ q'⟩
      refine ⟨⟨by omega, fun b q1 q2 => ?_⟩, fun b => b = l ∨ b = D ∨ ∃ p, imageG (St.get (mkSt esh e')) (fun _ => none) G₃ p = some b, fun b q => ?_, fun b q => ?_, ?_⟩
      · have q3 : b ≠ l := fun e => q2 (e ▸ h.cl)
        rw [ho₄ b q3]
        exact same b q1 (fun p e => q2 (h5 b (hG e).2).1) q3
      · rcases q with rfl | rfl | ⟨p, q⟩
        · exact .inl h.cl
        · exact .inl h.cD
        · rcases (hGi q).2.1 with ⟨p', q'⟩ | q'
          · exact .inl (h5 b (hG q').2).1
          · exact .inr q'
      · rcases q with rfl | rfl | ⟨p, q⟩
        · have := hlW.1; omega
        · have := hDW.1; omega
        · exact (hGi q).1
      · have hDl : D ≠ l := fun e => by
          have := h.hD
          rw [e, h.hl] at this
          cases this
        refine ⟨⟨_, _, _, hI, h2, rfl, rfl, fun b ⟨p, q⟩ => ?_, fun b q1 q2 => ?_⟩, h.ge, .inl rfl, .inr (.inl rfl), fun b q => ?_, fun b q => ?_, ?_, ?_, ?_, ?_, ?_, ?_, fun k q1 q2 => ?_⟩
        · obtain ⟨r1, r2, r3⟩ := hGi q
          refine ⟨.inr (.inr ⟨p, q⟩), ?_, hZ₁ b r3, ?_⟩
          · rcases r2 with ⟨p', q'⟩ | q'
            · exact (h5 b (hG q').2).2.1
            · intro e; subst e; have := hDW.1; omega
          · rcases r2 with ⟨p', q'⟩ | q'
            · exact (h5 b (hG q').2).2.2.2
            · exact .inr (Nat.le_trans h.size q')
        · by_cases hb : b < W.heap.size
          · exact hZl b hb q2
          · refine ⟨fun q => hb (h.t b q).1, fun e => hb (e ▸ hDW.1), fun e => hb (e ▸ hlW.1), fun q => absurd (Nat.lt_of_lt_of_le q h.size) hb⟩
        · rcases q with rfl | rfl | ⟨p, q⟩
          · exact ⟨by omega, hlW.2⟩
          · exact ⟨by have := hDW.1; omega, hDW.2⟩
          · obtain ⟨r1, r2, r3⟩ := hGi q
            refine ⟨r1, fun q' => ?_⟩
            rcases r2 with ⟨p', q2⟩ | q2
            · exact (h.cs b (h5 b (hG q2).2).1).2 q'
            · have := (h.t b q').1; omega
        · obtain ⟨r1, r2⟩ := h.t b q
          exact ⟨by omega, r2⟩
        · rw [hw₄]; exact World.putObj_heap_same (Array.getElem?_eq_some_iff.1 hl₃).1
        · rw [ho₄ D hDl]
          refine (same D hDW.1 (fun p e => (h5 D (hG e).2).2.1 rfl) hDl).trans h.hD
        · rw [hw₄]; exact ((r₃.os.trans (by rw [hw₂]; rfl)).trans r₁.os).trans h.os
        · rw [hw₄]; exact ((r₃.tape.trans (by rw [hw₂]; rfl)).trans r₁.tape).trans h.tape
        · rw [hw₄]; exact ((r₃.output.trans (by rw [hw₂]; rfl)).trans r₁.output).trans h.output
        · have := h.size; omega
        · have q3 : k ≠ l := fun e => by
            have := h.ge.1
            omega
          rw [ho₄ k q3]
          refine (same k (Nat.lt_of_lt_of_le q1 h.size) (fun p e => ?_) q3).trans (h.low k q1 q2)
          rcases (h5 k (hG e).2).2.2.2 with ⟨p', q'⟩ | q'
          · exact q2 p' q'
          · omega
    have out : ∀ (jump : Option Code) (e' : Tup esh), readBack st₃.get esh (un b0) = some e' →
        ∃ v w', (Instr.endRound l jump).run P w₃ = .ok v w' ∧ v = .bool jump.isNone ∧ (w'.os = W.os ∧ w'.tape = W.tape ∧ w'.output = W.output ∧ W.heap.size ≤ w'.heap.size ∧ (∀ b, b < W.heap.size → ¬ C b → w'.heap[b]? = W.heap[b]?)) ∧
          ∃ C', (∀ b, C' b → C b ∨ W.heap.size ≤ b) ∧ (∀ b, C' b → b < w'.heap.size) ∧ Hold E N esh w G Zf D l tmps pinE (recOf fn tmps ps asg body D (if jump.isNone then .ready else .done) jump) e' T C' w' := by
      intro jump e' q
      obtain ⟨⟨f1, f2⟩, C', f3, f4, f5⟩ := fin (if jump.isNone then .ready else .done) jump e' q
      exact ⟨_, _, run_endRound (P := P) jump hl₃, rfl, ⟨f5.os.trans h.os.symm, f5.tape.trans h.tape.symm, f5.output.trans h.output.symm, f1, f2⟩, C', f3, f4, f5⟩
    have norm : ∀ e', readBack st₃.get esh (un b0) = some e' → z = .inl (pk e') → roundPost P l (fun e W' =>
      (W'.os = W.os ∧ W'.tape = W.tape ∧ W'.output = W.output ∧ W.heap.size ≤ W'.heap.size ∧ (∀ b, b < W.heap.size → ¬ C b → W'.heap[b]? = W.heap[b]?)) ∧
      ∃ C', (∀ b, C' b → C b ∨ W.heap.size ≤ b) ∧ (∀ b, C' b → b < W'.heap.size) ∧ match z with
        | .inl b' => e = .returned (.bool true) ∧ Hold E N esh w G Zf D l tmps pinE (recOf fn tmps ps asg body D .ready none) (un b') T C' W'
        | .inr x => e = .returned (.bool false) ∧ ∃ c, jumpOf (xOf x).1 = some c ∧ Hold E N esh w G Zf D l tmps pinE (recOf fn tmps ps asg body D .done (some c)) (xOf x).2 T C' W') .normal a₃ w₃ := by
      intro e' q hz
      obtain ⟨v, w', o1, o2, o3, C', o4, o5, o6⟩ := out none e' q
      refine ⟨v, w', o1, o3, C', o4, o5, ?_⟩
      rw [hz]
      exact ⟨by rw [o2]; rfl, by rw [hpu]; exact o6⟩
    have jmp : ∀ c e' v, jumpOf x = some c → readBack st₃.get esh (un b0) = some e' → d x e' = some v → z = .inr v →
      ∃ u w', (Instr.endRound l (some c)).run P w₃ = .ok u w' ∧ (w'.os = W.os ∧ w'.tape = W.tape ∧ w'.output = W.output ∧ W.heap.size ≤ w'.heap.size ∧ (∀ b, b < W.heap.size → ¬ C b → w'.heap[b]? = W.heap[b]?)) ∧
      ∃ C', (∀ b, C' b → C b ∨ W.heap.size ≤ b) ∧ (∀ b, C' b → b < w'.heap.size) ∧ match z with
        | .inl b' => (Ending.returned u) = .returned (.bool true) ∧ Hold E N esh w G Zf D l tmps pinE (recOf fn tmps ps asg body D .ready none) (un b') T C' w'
        | .inr x => (Ending.returned u) = .returned (.bool false) ∧ ∃ c, jumpOf (xOf x).1 = some c ∧ Hold E N esh w G Zf D l tmps pinE (recOf fn tmps ps asg body D .done (some c)) (xOf x).2 T C' w' := by
      intro c e' v hj q hdv hz
      obtain ⟨u, w', o1, o2, o3, C', o4, o5, o6⟩ := out (some c) e' q
      refine ⟨u, w', o1, o3, C', o4, o5, ?_⟩
      rw [hz]
      obtain ⟨x1, _⟩ := hd x e' v hdv
      exact ⟨by rw [o2]; rfl, c, by rw [x1]; exact hj, by rw [x1]; exact o6⟩
    cases x with
    | normal =>
      simp only [backR] at hk₃
      split at hk₃
      · rename_i e' q
        cases hk₃
        exact norm e' q rfl
      · cases hk₃
    | _ =>
      simp only [backR] at hk₃
      split at hk₃
      · rename_i e' q
        split at hk₃
        · rename_i v hv
          obtain ⟨_, c, hc⟩ := hd _ e' v hv
          first
            | (simp [jumpOf] at hc; done)
            | exact jmp _ e' v rfl q hv (by cases hk₃; rfl)
        · cases hk₃
      · cases hk₃
  | _ => simp at hk
end
end Go.Ev

namespace Go.Ev
open Go.RowKit

theorem imageG_esh {esh : Shape} (hesh : eshOk esh = true) {e : Tup esh} {G : Ghost} {p : Loc} {b : Nat} (h : imageG (St.get (mkSt esh e)) some G p = some b) : ∃ c ∈ outBoxes esh, G (.box c) = some b ∨ ∃ o, G (.cell c o) = some b := by
  have hk := mkSt_kind (sh := esh) (s := e) p
  simp only [imageG] at h
  split at h
  · rename_i e1 t1 xs1 s1 hp
    rw [hp] at hk
    rcases hk with hk | ⟨k, x, q1, q2⟩
    · cases hk
    · obtain ⟨q3, q4⟩ := eshOk_mem hesh q1
      cases p with
      | slot j =>
        have := q4 j rfl
        cases k <;> simp [Kd.mk] at q2
        simp [plainKd] at this
      | comp n i => exact absurd rfl (q3.2.2 n i)
      | box c =>
        exfalso
        have hc : c ∈ outBoxes esh := outBoxes_get (s := e) (by rw [hp]; simp)
        have hbx : boxesBx esh = true := by simp only [eshOk, Bool.and_eq_true] at hesh; exact hesh.1.2
        obtain ⟨t, n, q5⟩ := box_told e hbx c hc
        rw [hp] at q5; cases q5
      | cell c o => exact ⟨c, q3.2.1 c o rfl, .inr ⟨o, h⟩⟩
  · rename_i e1 n1 hp
    cases p with
    | box c => exact ⟨c, outBoxes_get (s := e) (by rw [hp]; simp), .inl h⟩
    | _ => cases h
  · cases h

theorem rangeOk {P : Program} {E : Env} (hE : EnvOk P E) (hm : P.follows .mixedOrders = true) {O : Orc} {L : Nat → Option Sum} {gf t : Nat} {ps : Array Tmp} {asg body : Code} {I : ISpec} (hI : IterOk P E.glob gf I) {esh : Shape}
    (hLa : LoopsOk (inside E esh) O L asg) (hLb : LoopsOk (inside E esh) O L body) (hra : rangesOf asg = []) (hrb : rangesOf body = []) (hesh : eshOk esh = true) (hps : ∀ p ∈ ps.toList, p < O.n) {B X : Type} {pk : Tup esh → B} {un : B → Tup esh} (hpu : ∀ s, un (pk s) = s)
    {d : Exit → Tup esh → Option X} {xOf : X → Exit × Tup esh} (hd : ∀ x e v, d x e = some v → xOf v = (x, e) ∧ ∃ c, jumpOf x = some c) {step : B → I.Y → Option (B ⊕ X)} {leave : X → ∀ R : Type, Cont R → Option R} (hlv : ∀ x R (K : Cont R), leave x R K = K (xOf x).1 (mkSt esh (xOf x).2)) (henc : ∀ y, ps.toList.length = (I.enc y).length)
    (hstep : ∀ b y, ev2 (inside E esh) O L asg (paramsSt ps.toList (I.enc y) (mkSt esh (un b))) (fun x st => match x with | .normal => ev2 (inside E esh) O L body st (backR esh pk d (un b)) | _ => none) = step b y) :
    RangeOk P E O.n (.rangeFunc (.tmp t) ps asg body) (rangeSum E gf t esh I pk un step leave) := by
  intro R st K r hsum Z w0 Ow hdl hz F n Qp a w hFP hro hQ hX
  obtain ⟨Z1, w1, Ow1, G, hb, h0⟩ := hX
  simp only [rangeSum] at hsum
  split at hsum
  case h_2 => cases hsum
  rename_i f cs hfn
  cases hgf : Nat.beq f gf with
  | false => rw [hgf] at hsum; cases hsum
  | true =>
  have hgf' := Nat.eq_of_beq_eq_true hgf
  subst hgf'
  rw [hgf] at hsum
  simp only [cond_true] at hsum
  split at hsum
  case h_2 => cases hsum
  rename_i s m hinq
  cases hcap : captOk I.pin esh cs.length m with
  | false => rw [hcap] at hsum; cases hsum
  | true =>
  rw [hcap] at hsum
  simp only [cond_true] at hsum
  split at hsum
  case h_2 => cases hsum
  rename_i e hread
  rw [Option.bind_eq_some_iff] at hsum
  obtain ⟨ys, hys, hsum⟩ := hsum
  rw [Option.bind_eq_some_iff] at hsum
  obtain ⟨z, hfold, hz9⟩ := hsum
  simp only [captOk, Bool.and_eq_true] at hcap
  obtain ⟨⟨⟨⟨hcl, hc5⟩, hcown⟩, hc0⟩, hcm⟩ := hcap
  have hcl := Nat.eq_of_beq_eq_true hcl
  have hc5 := Nat.le_of_ble_eq_true hc5
  have hnm : ∀ x c, look m x = some c → (∃ b' ∈ outBoxes I.pin, b' = x) ∧ (50000 ≤ x ∧ x < 100000) ∧ ¬ c ∈ outBoxes esh := fun x c hl => by
    have := List.all_eq_true.1 hcm _ (look_mem hl)
    simp only [Bool.and_eq_true, List.any_eq_true, Bool.not_eq_true'] at this
    obtain ⟨⟨⟨⟨b1, q1, q2⟩, q3⟩, q4⟩, q5⟩ := this
    refine ⟨⟨b1, q1, Nat.eq_of_beq_eq_true q2⟩, ⟨Nat.le_of_ble_eq_true q3, by rw [Nat.blt_eq] at q4; exact q4⟩, fun hc => ?_⟩
    have := List.any_eq_false.1 q5 c hc
    simp at this
  have hbx : boxesBx esh = true := by simp only [eshOk, Bool.and_eq_true] at hesh; exact hesh.1.2
  obtain ⟨hbase, h⟩ := hb.fresh hz h0
  obtain ⟨Zf, hZf⟩ : ∃ Zf : ZS, Zf = ⟨fun b => (b < w.heap.size ∧ Z1 b) ∨ w.heap.size ≤ b, Z1.yl⟩ := ⟨_, rfl⟩
  obtain ⟨OwF, hOwF⟩ : ∃ OwF : OwS, OwF = ⟨fun b => ∃ p, G p = some b, Ow1.pin, Ow1.dl⟩ := ⟨_, rfl⟩
  rw [← hZf, ← hOwF] at hbase h
  have hOr : ∀ b, OwF b ↔ ∃ p, G p = some b := fun b => by rw [hOwF]
  have hGz : ∀ {p b}, G p = some b → b < w.heap.size ∧ Zf b := fun {p b} q => ⟨(h.bnd p b q).1, h.zow b (h.bnd p b q).2⟩
  have hadl : a.defers = Ow1.dl := h0.defers
  obtain ⟨lb, hv1, hv2, hv3⟩ : AVR Zf (St.get st) G a w (.fn f cs) (.slot t) (a.tmps.getD t undef) := by
    have := h.slots t
    rw [hfn] at this
    exact this
  -- what is read at the entry
  have hrd := readSh_get hread
  have hinb : ∀ b ∈ outBoxes esh, St.get (mkSt esh e) (.box b) = St.get st (.box b) := fun b hbm => by
    obtain ⟨t1, n1, q⟩ := box_told e hbx b hbm
    rcases hrd (.box b) with q1 | ⟨k, x, _, q2, q3⟩
    · rw [q] at q1; cases q1
    · rw [q2, q3]
  obtain ⟨pinE, hpE⟩ : ∃ pinE : Nat → Option Nat, pinE = fun b => bif heldOf esh b then G (.box b) else none := ⟨_, rfl⟩
  have hheld : ∀ b, heldOf esh b = true ↔ b ∈ outBoxes esh := fun b => by
    simp only [heldOf, List.any_eq_true]
    exact ⟨fun ⟨c, q1, q2⟩ => Nat.eq_of_beq_eq_true q2 ▸ q1, fun q => ⟨b, q, Nat.beq_refl b⟩⟩
  have hpinE : ∀ b gb, pinE b = some gb → heldOf esh b = true := fun b gb q => by
    rw [hpE] at q
    cases hh : heldOf esh b with
    | true => rfl
    | false => simp only [hh, cond_false] at q; cases q
  have hpinG : ∀ b, b ∈ outBoxes esh → pinE b = G (.box b) := fun b q => by
    rw [hpE]
    simp only [(hheld b).2 q, cond_true]
  have hpinA : ∀ b ∈ outBoxes esh, ∃ gb, pinE b = some gb := fun b q => by
    obtain ⟨t1, n1, q1⟩ := box_told e hbx b q
    obtain ⟨gb, _, q2, _⟩ := h.boxes b t1 n1 (by rw [← hinb b q]; exact q1)
    exact ⟨gb, (hpinG b q).trans q2⟩
  refine wpIn_rangeFunc ?_
  intro fn hfnn
  rw [hro]
  obtain ⟨W1, hW1⟩ : ∃ W1, (w.alloc (.deferred (some []))).alloc (.loop (recOf fn a.tmps ps asg body w.heap.size .ready none)) = W1 := ⟨_, rfl⟩
  have hs1 : W1.heap.size = w.heap.size + 2 := by rw [← hW1]; simp
  have hL1 : W1.heap[w.heap.size + 1]? = some (.loop (recOf fn a.tmps ps asg body w.heap.size .ready none)) := by
    rw [← hW1]; have := World.alloc_heap_new (w.alloc (.deferred (some []))) (.loop (recOf fn a.tmps ps asg body w.heap.size .ready none)); rwa [World.size_alloc] at this
  have hD1 : W1.heap[w.heap.size]? = some (.deferred (some [])) := by
    rw [← hW1]; exact (Below.heap_alloc _ _ _ (by simp)).trans (World.alloc_heap_new w _)
  have ho1 : ∀ b, b < w.heap.size → W1.heap[b]? = w.heap[b]? := fun b q => by
    rw [← hW1]; exact (Below.heap_alloc _ _ _ (by simp; omega)).trans (Below.heap_alloc _ _ _ q)
  -- the state, told from there
  obtain ⟨Z2, hZ2⟩ : ∃ Z2 : ZS, Z2 = ⟨fun b => (b < w.heap.size ∧ Zf b) ∨ W1.heap.size ≤ b, Zf.yl⟩ := ⟨_, rfl⟩
  have hZ2b : ∀ b, Z2 b ↔ (b < w.heap.size ∧ Zf b) ∨ W1.heap.size ≤ b := fun b => by rw [hZ2]
  have h1 : RelC Z2 E O.n W1 OwF st G a W1 := Rel.rebase h (by rw [hZ2]) (by omega) (fun b q1 _ => ho1 b q1) (fun b q1 q2 => (hZ2b b).2 (.inl ⟨q1, q2⟩)) (fun b q => (hZ2b b).2 (.inr q)) (fun p b q => (hOr b).2 ⟨p, q⟩) (fun b q => (hZ2b b).2 (by obtain ⟨p, q⟩ := (hOr b).1 q; exact .inl (hGz q))) rfl rfl
  obtain ⟨gc, hgc⟩ : ∃ gc, gc = St.get (mkSt I.pin s) := ⟨_, rfl⟩
  obtain ⟨args, hargs⟩ : ∃ args : List Value, args = .func (.yield (w.heap.size + 1)) #[] #[] :: lb.toList := ⟨_, rfl⟩
  have hal : args.length = max 1 (nres I.pin) := by rw [hargs, ← hcl]; simp [hv2]
  obtain ⟨hmi, _, hfz, hent⟩ := inQ_spec h1 (rfl : (gcond []).run (St.get st) = some true) hinq (fun b b' c hb => by simp [look] at hb)
  have hbxs := inQ_boxes hinq
  have hFz : Frozen Z2 W1 (St.get st) G [] G := ⟨fun _ q => q, by simp, fun _ _ => rfl, fun _ => .inr rfl, fun _ => rfl⟩
  have hno0 : St.get (mkSt I.pin s) (.slot 0) = .dead := by
    rcases mkSt_kind (sh := I.pin) (s := s) (.slot 0) with q | ⟨k, x, q1, _⟩
    · exact q
    · have := List.all_eq_true.1 hc0 _ q1
      simp [Loc.eq] at this
  have hcal := Rel.callee h1 (w.heap.size + 1) (m := m) hmi (fun b c hl => (hnm b c hl).2.1) (gc := gc) (args := args) (by rw [hargs]; simp [hv2]; omega)
    (fun j => by
      rw [hgc]
      cases j with
      | zero => rw [hno0]; trivial
      | succ j =>
        rcases hent (.slot (j + 1)) with q1 | ⟨x, v, m1, k, r1, q1, q2, q3, q4, q5, q6, q7⟩
        · rw [q1]; trivial
        · rw [q7]
          refine inArg_val h1 (rfl : (gcond []).run (St.get st) = some true) hFz ?_ q2 q3 q4 q5 q6
          simp only [List.getElem?_cons_succ, List.getElem?_map, Option.map_eq_some_iff] at q1
          obtain ⟨c, hc, rfl⟩ := q1
          obtain ⟨e1, n1, gb, q8, q9, q10⟩ := hv3 j c hc
          refine ⟨e1, n1, gb, q8, q9, ?_⟩
          rw [hargs]
          simpa [Array.getD_eq_getD_getElem?, List.getD_eq_getElem?_getD] using q10)
    (fun j q => by rw [hgc]; exact hent (.comp j q))
    (fun b => by
      rw [hgc]
      rcases hent (.box b) with q1 | ⟨c, e1, k, q1, q2, q3⟩
      · exact .inl q1
      · exact .inr ⟨c, e1, k, q1, q2, q3⟩)
    (fun b c hl => by
      obtain ⟨b', q1, rfl⟩ := (hnm b c hl).1
      rw [hgc]
      exact hbxs b' q1)
    (fun b j => by
      rw [hgc]
      rcases hent (.cell b j) with q1 | ⟨c, m1, k, r1, q1, q2, q3, q4, q5, q6, q7⟩
      · exact .inl q1
      · refine .inr ⟨c, q1, ?_⟩
        rw [q6]
        exact inCell_conv hfz hFz rfl q2 q3 q4 q5 (fun e1 t1 hk => by subst hk; exact ownKept_spec hcown q7 q1))
  have hcG : ∀ {p b}, calleeG m gc G p = some b → (∃ p', G p' = some b) ∧ ∀ c ∈ outBoxes esh, G (.box c) ≠ some b ∧ ∀ o, G (.cell c o) ≠ some b := fun {p b} q => by
    rcases calleeG_some q with ⟨x, c, _, _, _, q1, q2, _⟩ | ⟨x, c, o, _, _, _, _, _, q1, q2, _⟩
    · refine ⟨⟨_, q2⟩, fun c' hc' => ⟨fun q3 => ?_, fun o q3 => ?_⟩⟩
      · have := h.inj _ _ b q2 q3
        cases this
        exact (hnm x c q1).2.2 hc'
      · have := h.inj _ _ b q2 q3; cases this
    · refine ⟨⟨_, q2⟩, fun c' hc' => ⟨fun q3 => ?_, fun o' q3 => ?_⟩⟩
      · have := h.inj _ _ b q2 q3; cases this
      · have := h.inj _ _ b q2 q3
        cases this
        exact (hnm x c q1).2.2 hc'
  -- the consumer's part
  have hvs : ∀ j, a.tmps.toList.getD j undef = a.tmps.getD j undef := fun j => by simp
  have htl : a.tmps.toList.length = O.n := by simpa using h.tmps
  have hclz : ∀ (e' : Tup esh) p, ∀ b ∈ boxesIn (St.get (mkSt esh e') p), b ∈ outBoxes esh := fun e' p b hb => by
    rcases mkSt_kind (sh := esh) (s := e') p with q | ⟨k, x, q1, q2⟩
    · rw [q] at hb; simp [boxesIn] at hb
    · rw [q2] at hb; exact boxes_mk (eshOk_mem hesh q1).1.1 b hb
  have hiG : ∀ {p b}, imageG (St.get (mkSt esh e)) some G p = some b → (∃ p', G p' = some b) ∧ ∀ p', calleeG m gc G p' ≠ some b := fun {p b} q => by
    obtain ⟨c, hc, q1⟩ := imageG_esh hesh q
    refine ⟨q1.elim (fun q => ⟨_, q⟩) (fun ⟨_, q⟩ => ⟨_, q⟩), fun p' q2 => ?_⟩
    obtain ⟨_, q3⟩ := hcG q2
    rcases q1 with q1 | ⟨o, q1⟩
    · exact (q3 c hc).1 q1
    · exact (q3 c hc).2 o q1
  have hI0 := Rel.image' h1 (g' := St.get (mkSt esh e)) (vs := a.tmps.toList) (E' := inside E esh) rfl (src := some) (Z' := ⟨fun b => (b < w.heap.size ∧ Zf b ∧ ¬ ∃ p, calleeG m gc G p = some b) ∨ W1.heap.size ≤ b, Zf.yl⟩) (w1 := W1) (Ow1 := ⟨fun b => ∃ p, imageG (St.get (mkSt esh e)) some G p = some b, pinE, []⟩)
    (fun b q => by
      rcases (hZ2b b).1 q.3 with ⟨q1, q2⟩ | q1
      · exact .inl ⟨q1, q2, fun ⟨p, q3⟩ => by obtain ⟨⟨p', q4⟩, _⟩ := hcG q3; exact q.2 p' q4⟩
      · exact .inr q1)
    rfl rfl rfl (Nat.le_refl _) (fun _ _ _ => rfl) (fun p b q => .inl ⟨p, q⟩)
    (fun b q => q.elim (fun ⟨p, q⟩ => by
      obtain ⟨⟨p', q1⟩, q2⟩ := hiG q
      exact .inl ⟨(hGz q1).1, (hGz q1).2, fun ⟨p, q3⟩ => q2 p q3⟩) (fun q => .inr q)) (ds := []) rfl
    (fun b gb q _ => (hpinG b ((hheld b).1 (hpinE b gb q))).symm.trans q) (fun b gb q => .inr (hpinE b gb q))
    (fun j => by
      rcases hrd (.slot j) with q | ⟨k, x, q1, q2, q3⟩
      · exact .inl q
      · refine .inr (.inl ⟨j, rfl, ?_, hvs j⟩)
        rw [q2, q3]
        exact im_self (eshOk_mem hesh q1).1.1 x)
    (fun j j' r q q' => by cases q; cases q'; rfl)
    (fun n i => by
      rcases mkSt_kind (sh := esh) (s := e) (.comp n i) with q | ⟨k, x, q1, q2⟩
      · exact q
      · exact absurd rfl ((eshOk_mem hesh q1).1.2.2 n i))
    (fun b => by
      rcases hrd (.box b) with q | ⟨k, x, q1, q2, q3⟩
      · exact .inl q
      · right; rw [q2, q3])
    (fun b o => by
      rcases hrd (.cell b o) with q | ⟨k, x, q1, q2, q3⟩
      · exact .inl q
      · right
        rw [q2, q3]
        exact ⟨im_self (eshOk_mem hesh q1).1.1 x, hinb b ((eshOk_mem hesh q1).1.2.1 b o rfl)⟩)
    (fun p b hb => hinb b (hclz e p b hb))
  rw [htl, show a.tmps.toList.toArray = a.tmps from Array.toArray_toList] at hI0
  have hH0 : Hold E O.n esh w G Zf w.heap.size (w.heap.size + 1) a.tmps pinE (recOf fn a.tmps ps asg body w.heap.size .ready none) e (fun b => ∃ p, calleeG m gc G p = some b) (fun b => b = w.heap.size + 1 ∨ b = w.heap.size ∨ ∃ p, imageG (St.get (mkSt esh e)) some G p = some b) W1 := by
    refine ⟨⟨_, _, _, hI0, rfl, rfl, rfl, fun b ⟨p, q⟩ => ?_, fun b q1 q2 => ?_⟩, ⟨by omega, Nat.le_refl _⟩, .inl rfl, .inr (.inl rfl), fun b q => ?_, fun b ⟨p, q⟩ => ?_, hL1, hD1, by rw [← hW1]; rfl, by rw [← hW1]; rfl, by rw [← hW1]; rfl, by omega, fun k q1 _ => ho1 k q1⟩
    · obtain ⟨⟨p', q1⟩, _⟩ := hiG q
      have := (hGz q1).1
      exact ⟨.inr (.inr ⟨p, q⟩), by omega, by omega, .inl ⟨p', q1⟩⟩
    · rcases q2 with ⟨q2, q3, q4⟩ | q2
      · exact ⟨q4, by omega, by omega, fun _ => q3⟩
      · omega
    · rcases q with rfl | rfl | ⟨p, q⟩
      · refine ⟨by omega, fun ⟨p, q⟩ => ?_⟩
        obtain ⟨⟨p', q1⟩, _⟩ := hcG q
        have := (hGz q1).1; omega
      · refine ⟨by omega, fun ⟨p, q⟩ => ?_⟩
        obtain ⟨⟨p', q1⟩, _⟩ := hcG q
        have := (hGz q1).1; omega
      · obtain ⟨⟨p', q1⟩, q2⟩ := hiG q
        exact ⟨by have := (hGz q1).1; omega, fun ⟨p, q3⟩ => q2 p q3⟩
    · obtain ⟨⟨p', q1⟩, _⟩ := hcG q
      exact ⟨by have := (hGz q1).1; omega, fun _ => ⟨p', q1⟩⟩
  -- the end
  have leave : ∀ {rc : Loop} {e' : Tup esh} {T C : Nat → Prop} {W : World}, Hold E O.n esh w G Zf w.heap.size (w.heap.size + 1) a.tmps pinE rc e' T C W → rc.state ≠ .busy → ∃ w₄, (Instr.endLoop (w.heap.size + 1)).run P W = .ok rc.pending w₄ ∧ RelX Z E O.n w0 Ow (mkSt esh e') { a with defers := [{ target := .collected w.heap.size, args := #[] }] ++ a.defers } w₄ := by
    intro rc e' T C W hH hst
    refine ⟨_, run_endLoop hH.hl hst, ?_⟩
    obtain ⟨Zc, Owc, Gc, c1, c2, c3, c4, c5, c6⟩ := hH.rel
    obtain ⟨w₄, hw₄⟩ : ∃ w₄, w₄ = W.putObj (w.heap.size + 1) (.loop { rc with state := .exhausted }) := ⟨_, rfl⟩
    rw [← hw₄]
    have hs₄ : w₄.heap.size = W.heap.size := by rw [hw₄]; simp
    have ho₄ : ∀ k, k ≠ w.heap.size + 1 → w₄.heap[k]? = W.heap[k]? := fun k q => by rw [hw₄]; exact World.putObj_heap_other q
    have hG : ∀ {p b}, Gc p = some b → b < W.heap.size ∧ Owc b := fun {p b} q => by
      obtain ⟨q1, q2⟩ := c1.bnd p b q
      exact ⟨q1, q2.resolve_right (by omega)⟩
    have r₄ : Rel Zc (inside E esh) O.n w₄ ⟨fun b => ∃ p, Gc p = some b, pinE, []⟩ (fun n => n = 0) (fun _ => False) (St.get (mkSt esh e')) Gc { tmps := a.tmps, defers := [] } w₄ :=
      Rel.rebase c1 rfl (Nat.le_of_eq hs₄.symm) (fun b q1 q2 => ho₄ b (c6 b q1 q2).2.2.1) (fun b _ q => q) (fun b q => c1.zow b (.inr (by omega))) (fun p b q => ⟨p, q⟩) (fun b ⟨p, q⟩ => c1.zow b (.inl (hG q).2)) c3.symm c4.symm
    have hlW : w.heap.size + 1 < W.heap.size := (Array.getElem?_eq_some_iff.1 hH.hl).1
    have hI4 := Rel.image' r₄ (g' := St.get (mkSt esh e')) (vs := a.tmps.toList) (E' := E) rfl (src := some) (Z' := Zc) (w1 := w₄) (Ow1 := ⟨fun b => ∃ p, imageG (St.get (mkSt esh e')) some Gc p = some b, Ow1.pin, [{ target := .collected w.heap.size, args := #[] }] ++ a.defers⟩)
      (fun b q => q.3) rfl rfl rfl (Nat.le_refl _) (fun _ _ _ => rfl) (fun p b q => .inl ⟨p, q⟩)
      (fun b q => q.elim (fun ⟨p, q⟩ => by obtain ⟨p', q'⟩ := imageG_some q; exact c1.zow b (.inl (hG q').2)) (fun q => c1.zow b (.inr (by omega)))) (ds := [{ target := .collected w.heap.size, args := #[] }] ++ a.defers) rfl
      (fun b gb q q' => by
        have hbm : b ∈ outBoxes esh := outBoxes_get q'
        obtain ⟨t1, n1, q1⟩ := box_told e hbx b hbm
        have q2 := h.pins b gb (by rw [hOwF]; exact q) (by rw [← hinb b hbm, q1]; simp)
        exact r₄.pins b gb ((hpinG b hbm).trans q2) q')
      (fun b gb q => by rw [htl]; exact h.pinR b gb (by rw [hOwF]; exact q))
      (fun j => by
        rcases mkSt_kind (sh := esh) (s := e') (.slot j) with q | ⟨k, x, q1, q2⟩
        · exact .inl q
        · refine .inr (.inl ⟨j, rfl, ?_, hvs j⟩)
          rw [q2]
          exact im_self (eshOk_mem hesh q1).1.1 x)
      (fun j j' r q q' => by cases q; cases q'; rfl)
      (fun n i => by
        rcases mkSt_kind (sh := esh) (s := e') (.comp n i) with q | ⟨k, x, q1, q2⟩
        · exact q
        · exact absurd rfl ((eshOk_mem hesh q1).1.2.2 n i))
      (fun b => .inr rfl)
      (fun b o => by
        rcases mkSt_kind (sh := esh) (s := e') (.cell b o) with q | ⟨k, x, q1, q2⟩
        · exact .inl q
        · right
          rw [q2]
          exact ⟨im_self (eshOk_mem hesh q1).1.1 x, rfl⟩)
      (fun p b hb => rfl)
    rw [htl, show a.tmps.toList.toArray = a.tmps from Array.toArray_toList] at hI4
    have hOc : ∀ {p b}, imageG (St.get (mkSt esh e')) some Gc p = some b → Owc b := fun {p b} q => by obtain ⟨p', q'⟩ := imageG_some q; exact (hG q').2
    refine ⟨Zc, w₄, ⟨fun b => ∃ p, imageG (St.get (mkSt esh e')) some Gc p = some b, Ow1.pin, [{ target := .collected w.heap.size, args := #[] }] ++ a.defers⟩, _, ⟨c2.trans hbase.yl, ?_, ?_, ?_, ?_, fun k q1 q2 => ?_, fun b ⟨p, q⟩ => ?_, fun b q => ?_, hb.pin, ?_, fun d' hd' => ?_⟩, hI4⟩
    · rw [hw₄]; exact hH.os.trans hbase.os
    · rw [hw₄]; exact hH.tape.trans hbase.tape
    · rw [hw₄]; exact hH.output.trans hbase.output
    · have := hbase.size; have := hH.size; omega
    · have := hbase.size
      rw [ho₄ k (by omega), hH.low k (by omega) (fun p q => (hbase.ow k ((hOr k).2 ⟨p, q⟩)).elim q2 (by omega))]
      exact hbase.low k q1 q2
    · rcases (c5 b (hOc q)).2.2.2 with ⟨p', q'⟩ | q'
      · exact hbase.ow b ((hOr b).2 ⟨p', q'⟩)
      · exact .inr (Nat.le_trans hbase.size q')
    · by_cases hb' : b < w.heap.size
      · exact hbase.z b ((c6 b (Nat.lt_of_lt_of_le hb' hH.size) q).2.2.2 hb')
      · exact hz b (.inr (by have := hbase.size; omega))
    · rw [hadl]
      refine List.nodup_cons.2 ⟨fun hmem => ?_, hb.nd⟩
      obtain ⟨k, q1, _, q3, _⟩ := hbase.dl _ (by rw [hOwF]; exact hmem)
      have : w.heap.size = k := by simpa using q1
      omega
    · rcases List.mem_cons.1 hd' with rfl | hd'
      · refine ⟨w.heap.size, rfl, hbase.size, by omega, fun ⟨p, q⟩ => (c5 _ (hOc q)).2.1 rfl, fun q => (c6 _ (by omega) q).2.1 rfl, ?_⟩
        rw [ho₄ _ (by omega)]; exact hH.hD
      · rw [hadl] at hd'
        obtain ⟨k, q1, q2, q3, q4, q5, q6⟩ := hbase.dl d' (by rw [hOwF]; exact hd')
        have hsz := hH.size
        refine ⟨k, q1, q2, by omega, fun ⟨p, q⟩ => ?_, fun q => q5 ((c6 k (by omega) q).2.2.2 q3), ?_⟩
        · rcases (c5 k (hOc q)).2.2.2 with ⟨p', q'⟩ | q'
          · exact q4 ((hOr k).2 ⟨p', q'⟩)
          · omega
        · rw [ho₄ k (by omega), hH.low k q3 (fun p q => q4 ((hOr k).2 ⟨p, q⟩))]
          exact q6
  refine ⟨w.heap.size + 1, [{ target := .collected w.heap.size, args := #[] }], W1, { target := .fn (.func f) lb, args := #[.func (.yield (w.heap.size + 1)) #[] #[]] }, W1, f, args.toArray, W1, ?_, ?_, fun f' _ => hFP.fn f', ?_, fun hdp => by rw [hFP.depth] at hdp; simp at hdp, ?_⟩
  · rw [← hW1]; exact run_enterLoop_outer _ _ _ _ _
  · have hg : a.eval (.tmp t) = .func (.func f) #[] lb := hv1
    simp only [resolve, hg]
    simp [go_sem]
  · rw [hargs]
    simp [invoke, go_sem, hI.enter]
  · refine hFP.calls ?_
    have hcalls := hI.calls ⟨(calleeZ Z2 m gc G W1).z, w.heap.size + 1⟩ W1 (calleeOw m gc G) (calleeG m gc G) args (w.heap.size + 1) s ys hys rfl (fun b gb q => by
      simp only [calleeOw, Option.bind_eq_some_iff] at q
      obtain ⟨c, q1, _⟩ := q
      exact (hnm b c q1).2.1.1) hal rfl (by rw [hargs]; rfl) (by rw [← hgc]; exact hcal)
      (fun pre T C W => ∃ b, foldX step pre (pk e) = some (.inl b) ∧ Hold E O.n esh w G Zf w.heap.size (w.heap.size + 1) a.tmps pinE (recOf fn a.tmps ps asg body w.heap.size .ready none) (un b) T C W)
      (fun T C W => ∃ x c, foldX step ys (pk e) = some (.inr x) ∧ jumpOf (xOf x).1 = some c ∧ Hold E O.n esh w G Zf w.heap.size (w.heap.size + 1) a.tmps pinE (recOf fn a.tmps ps asg body w.heap.size .done (some c)) (xOf x).2 T C W)
      ⟨fun ⟨b, q1, q2⟩ e1 e2 e3 e4 e5 => ⟨b, q1, q2.later e1 e2 e3 e4 e5⟩, fun ⟨x, c, q1, q2, q3⟩ e1 e2 e3 e4 e5 => ⟨x, c, q1, q2, q3.later e1 e2 e3 e4 e5⟩, fun ⟨b, q1, q2⟩ e1 => ⟨b, q1, q2.less e1⟩, fun ⟨b, q1, q2⟩ b' q => (q2.cs b' q).1, ?_⟩
      (fun b => ∃ p, calleeG m gc G p = some b) (fun b => b = w.heap.size + 1 ∨ b = w.heap.size ∨ ∃ p, imageG (St.get (mkSt esh e)) some G p = some b) ⟨pk e, rfl, by rw [hpu]; exact hH0⟩ (fun b q => q) ?_
    · refine Calls.mono hcalls ?_
      rintro en W ⟨⟨v, rfl⟩, T, C, ⟨b, q1, q2⟩ | ⟨x, c, q1, q2, q3⟩⟩
      · obtain ⟨w₄, k1, k2⟩ := leave q2 (by simp [recOf])
        rw [hfold] at q1
        cases q1
        exact ⟨none, w₄, k1, hQ _ _ _ _ hz9 k2⟩
      · obtain ⟨w₄, k1, k2⟩ := leave q3 (by simp [recOf])
        rw [hfold] at q1
        cases q1
        refine ⟨some c, w₄, k1, ?_⟩
        dsimp only at hz9
        rw [hlv] at hz9
        generalize hxe : (xOf x).1 = xe at q2 hz9
        cases xe <;> simp [jumpOf] at q2
        all_goals subst q2
        all_goals first
          | exact wpIn_ret (hQ _ _ _ _ hz9 k2)
          | exact wpIn_exit (hQ _ _ _ _ hz9 k2)
    · intro pre T C W x ⟨b, q1, q2⟩ hpre Pr vs hA hPr mm
      obtain ⟨rest, hrest⟩ := hpre
      have hf2 : foldX step ([x] ++ rest) b = some z := by
        have q9 := hfold
        rw [← hrest, List.append_assoc, foldX_append, q1] at q9
        exact q9
      simp only [List.cons_append, List.nil_append, foldX] at hf2
      cases hst : step b x with
      | none => rw [hst] at hf2; cases hf2
      | some z1 =>
        obtain ⟨tmps', k1, k2⟩ := hold_round ⟨hE.tab, hE.spec, hE.spec2, hE.inpl, hE.bld⟩ hm rfl hLa hLb hra hrb hesh hps hpu hd (henc x) ((hstep b x).trans hst) q2 hA (fun b' q => by
          obtain ⟨r1, r2, r3, r4⟩ := hPr b' q
          refine ⟨r1, r2, r3, fun r5 => ?_⟩
          rcases r4 with r4 | ⟨p, r4⟩ | r4
          · exact (((hZ2b b').1 r4.3).resolve_right (by omega)).2
          · obtain ⟨⟨p', r6⟩, _⟩ := hcG r4; exact (hGz r6).2
          · omega) hpinE hpinA mm
        refine ⟨fn, tmps', asg, body, k1, k2.mono fun en W' hW' => ?_⟩
        obtain ⟨l1, C', l2, l3, l4⟩ := hW'
        refine ⟨l1, C', l2, l3, ?_⟩
        cases z1 with
        | inl b' =>
          refine .inl ⟨l4.1, b', ?_, l4.2⟩
          rw [foldX_append, q1]
          simp only [foldX, hst]
        | inr x' =>
          obtain ⟨l5, c, l6, l7⟩ := l4
          refine .inr ⟨l5, x', c, ?_, l6, l7⟩
          rw [hst] at hf2
          cases hf2
          exact hfold
    · intro b q hzb
      rcases hzb with q1 | ⟨p, q1⟩ | q1
      · rcases q with rfl | rfl | ⟨p, q⟩
        · rcases (hZ2b _).1 q1.3 with q2 | q2 <;> omega
        · rcases (hZ2b _).1 q1.3 with q2 | q2 <;> omega
        · obtain ⟨⟨p', q2⟩, _⟩ := hiG q; exact q1.2 p' q2
      · rcases q with rfl | rfl | ⟨p', q⟩
        · obtain ⟨⟨p', q2⟩, _⟩ := hcG q1; have := (hGz q2).1; omega
        · obtain ⟨⟨p', q2⟩, _⟩ := hcG q1; have := (hGz q2).1; omega
        · exact (hiG q).2 p q1
      · rcases q with rfl | rfl | ⟨p', q⟩
        · omega
        · omega
        · obtain ⟨⟨p', q2⟩, _⟩ := hiG q; have := (hGz q2).1; omega
end Go.Ev

namespace Go.Ev
open Go.RowKit

def rgPs : Code → Array Tmp
  | .rangeFunc _ ps _ _ => ps
  | _ => #[]
def rgAsg : Code → Code
  | .rangeFunc _ _ a _ => a
  | _ => .skip
def rgBody : Code → Code
  | .rangeFunc _ _ _ b => b
  | _ => .skip
def roundQ {B X : Type} (E : Env) (O : Orc) (L : Nat → Option Sum) (esh : Shape) (pk : Tup esh → B) (d : Exit → Tup esh → Option X) (rc : Code) (ds : List Dat) (e : Tup esh) : Option (B ⊕ X) :=
  ev2 (inside E esh) O L (rgAsg rc) (paramsSt (rgPs rc).toList ds (mkSt esh e)) fun x st => match x with
    | .normal => ev2 (inside E esh) O L (rgBody rc) st (backR esh pk d e)
    | _ => none
theorem rangeOk' {P : Program} {E : Env} (hE : EnvOk P E) (hm : P.follows .mixedOrders = true) {O : Orc} {L : Nat → Option Sum} {gf t : Nat} {rc : Code} {I : ISpec} (hI : IterOk P E.glob gf I) {esh : Shape} (hrc : rc = .rangeFunc (.tmp t) (rgPs rc) (rgAsg rc) (rgBody rc))
    (hLa : LoopsOk (inside E esh) O L (rgAsg rc)) (hLb : LoopsOk (inside E esh) O L (rgBody rc)) (hra : rangesOf (rgAsg rc) = []) (hrb : rangesOf (rgBody rc) = []) (hesh : eshOk esh = true) (hps : (rgPs rc).toList.all (fun p => Nat.blt p O.n) = true) {B X : Type} {pk : Tup esh → B} {un : B → Tup esh} (hpu : ∀ s, un (pk s) = s)
    {d : Exit → Tup esh → Option X} {xOf : X → Exit × Tup esh} (hd : ∀ x e v, d x e = some v → xOf v = (x, e) ∧ ∃ c, jumpOf x = some c) {step : B → I.Y → Option (B ⊕ X)} {leave : X → ∀ R : Type, Cont R → Option R} (hlv : ∀ x R (K : Cont R), leave x R K = K (xOf x).1 (mkSt esh (xOf x).2)) (henc : ∀ y, (rgPs rc).toList.length = (I.enc y).length)
    (hstep : ∀ b y, roundQ E O L esh pk d rc (I.enc y) (un b) = step b y) : RangeOk P E O.n rc (rangeSum E gf t esh I pk un step leave) := by
  rw [hrc]
  exact rangeOk hE hm hI hLa hLb hra hrb hesh (fun p hp => by
    have := List.all_eq_true.1 hps p hp
    rwa [Nat.blt_eq] at this) hpu hd hlv henc hstep
/-- What is yielded, typed. -/
def mkT {Y : Type} (ts : List Ty) (pk : (List.rec Unit (fun t _ T => t.den × T) ts) → Y) : List Dat → Option Y := fun ds => match datsTo ts ds with
  | some x => some (pk x)
  | none => none
theorem mkT_ok {Y : Type} {ts : List Ty} {pk : (List.rec Unit (fun t _ T => t.den × T) ts) → Y} {un : Y → (List.rec Unit (fun t _ T => t.den × T) ts)} (hpu : ∀ x, un (pk x) = x) (ds : List Dat) (y : Y) (h : mkT ts pk ds = some y) : datsOf ts (un y) = ds := by
  unfold mkT at h
  split at h
  · rename_i x hx
    cases h
    rw [hpu, datsTo_some hx]
  · cases h
/-- What was yielded, where it came to its end. -/
def YW.ys {Y : Type} (m : YW Y Unit) : Option (List Y) := match m with
  | some (ys, _) => some ys
  | none => none
theorem YW.ys_some {Y : Type} {m : YW Y Unit} {ys : List Y} (h : m.ys = some ys) : m = some (ys, ()) := by
  unfold YW.ys at h
  split at h
  · cases h; rfl
  · cases h
end Go.Ev

namespace Go.Ev
open Go.RowKit
end Go.Ev

namespace Go.Ev
open Go.RowKit Go.WideShapes

/-- At least so many bytes. -/
def Ty.low : Ty → Nat
  | .int k => k.bits / 8 | .bool => 1 | .str => 16 | .unit => 0 | .list _ => 24 | .pair a b => a.low + b.low | .arr n t => n * t.low | .err | .bnd _ _ => 0
/-- Does the type with this name, or do these fields from an offset on, lie as the shape says? -/
def Ty.opens (P : Program) : Ty → TypeId ⊕ (List Field × Nat) → Bool
  | .int k, .inl T => (match P.underlying T with | some (.int j) => decide (j = k) | _ => false)
  | .bool, .inl T => (match P.underlying T with | some .bool => true | _ => false)
  | .str, .inl T => (match P.underlying T with | some .string => true | _ => false)
  | .list u, .inl T => (match P.underlying T with | some (.slice e) => u.opens P (.inl e) && (Nat.beq (P.cellsOf e) u.sz && (Nat.ble u.low (P.bytesOf e) && Nat.blt 0 u.sz)) | _ => false)
  | .arr n u, .inl T => (match P.underlying T with | some (.array m e) => Nat.beq m n && (u.opens P (.inl e) && (Nat.beq (P.cellsOf e) u.sz && Nat.beq (P.cellsOf T) (n * u.sz))) | _ => false)
  | .unit, .inl T => (match P.underlying T with | some (.struct fs) => fs.isEmpty && Nat.beq (P.cellsOf T) 0 | _ => false)
  | .pair a b, .inl T => (match P.underlying T with
    | some (.struct fs) => (match fs.toList with
      | f :: r => Nat.beq f.offset 0 && (Nat.beq (P.cellsOf f.type) a.sz && (a.opens P (.inl f.type) && (b.opens P (.inr (r, a.sz)) && Nat.beq (P.cellsOf T) (a.sz + b.sz))))
      | [] => false)
    | _ => false)
  | .unit, .inr ([], _) => true
  | .pair a b, .inr (f :: r, o) => Nat.beq f.offset o && (Nat.beq (P.cellsOf f.type) a.sz && (a.opens P (.inl f.type) && b.opens P (.inr (r, o + a.sz))))
  | _, _ => false
/-- What is known of data that were read. -/
def Good : (t : Ty) → t.den → Prop
  | .int k, n => (Lit.int k n).wf = true
  | .bool, _ => True
  | .str, s => s.length ≤ 140737488351232
  | .unit, _ => True
  | .err, _ | .bnd _ _, _ => True
  | .list t, xs => xs.length * t.low ≤ 140737488351232 ∧ ∀ x ∈ xs, Good t x
  | .pair a b, x => Good a x.1 ∧ Good b x.2
  | .arr n t, xs => xs.length = n ∧ ∀ x ∈ xs, Good t x

theorem rows_get {t : Ty} {Pr : Nat → Prop} {w : World} {G : t.den → Prop} {cs : Nat → List Value} : ∀ (n : Nat), (∀ i, i < n → ∃ x, RV Pr w t x (cs i) ∧ G x) → ∃ xs : List t.den, xs.length = n ∧ Rows (RV Pr w t) xs ((List.range n).map cs).flatten ∧ ∀ x ∈ xs, G x
  | 0, _ => ⟨[], rfl, .nil, by simp⟩
  | n + 1, h => by
    obtain ⟨xs, h1, h2, h3⟩ := rows_get n fun i hi => h i (by omega)
    obtain ⟨x, hx, gx⟩ := h n (by omega)
    refine ⟨xs ++ [x], by simp [h1], ?_, ?_⟩
    · rw [List.range_succ, List.map_append, List.flatten_append]
      have : Rows (RV Pr w t) [x] (List.map cs [n]).flatten := by simpa using Rows.cons hx (Rows.nil (R := RV Pr w t))
      exact h2.append this
    · intro y hy
      rcases List.mem_append.1 hy with hy | hy
      · exact h3 y hy
      · simp at hy; subst hy; exact gx
theorem chop_flatten {α : Type} {k : Nat} : ∀ (n : Nat) (cs : List α), cs.length = n * k → ((List.range n).map fun i => (cs.drop (i * k)).take k).flatten = cs
  | 0, cs, h => by simp at h; simp [h]
  | n + 1, cs, h => by
    rw [List.range_succ_eq_map, List.map_cons, List.flatten_cons, List.map_map]
    have ih := chop_flatten n (cs.drop k) (by rw [List.length_drop, h, Nat.add_mul, Nat.one_mul, Nat.add_sub_cancel])
    have e : (List.range n).map ((fun i => (cs.drop (i * k)).take k) ∘ Nat.succ) = (List.range n).map fun i => ((cs.drop k).drop (i * k)).take k := by
      apply List.map_congr_left
      intro i _
      simp only [Function.comp, List.drop_drop, Nat.succ_eq_add_one, Nat.add_mul, Nat.one_mul, Nat.add_comm]
    rw [e, ih]; simp

theorem flat_len {α : Type} {k : Nat} {cf : Nat → List α} : ∀ (n : Nat), (∀ i, i < n → (cf i).length = k) → ((List.range n).map cf).flatten.length = n * k
  | 0, _ => by simp
  | n + 1, h => by
    rw [List.range_succ, List.map_append, List.flatten_append, List.length_append, flat_len n fun i hi => h i (by omega)]
    simp [h n (by omega), Nat.add_mul]
theorem flat_get {α : Type} {k : Nat} {cf : Nat → List α} : ∀ (n : Nat), (∀ i, i < n → (cf i).length = k) → ∀ {i r : Nat}, i < n → r < k → ((List.range n).map cf).flatten[i * k + r]? = (cf i)[r]?
  | 0, _, i, _, hi, _ => by omega
  | n + 1, h, i, r, hi, hr => by
    have hl := flat_len n fun i hi => h i (by omega)
    rw [List.range_succ, List.map_append, List.flatten_append]
    by_cases hin : i < n
    · rw [List.getElem?_append_left, flat_get n (fun i hi => h i (by omega)) hin hr]
      rw [hl]
      have : (i + 1) * k ≤ n * k := Nat.mul_le_mul_right k hin
      rw [Nat.add_mul] at this; omega
    · have : i = n := by omega
      subst this
      rw [List.getElem?_append_right (by rw [hl]; omega), hl]
      simp
theorem add_add' (a : Addr) (i j : Nat) : (a.add i).add j = a.add (i + j) := by
  unfold Addr.add
  by_cases hi : i = 0 <;> by_cases hj : j = 0 <;> simp [hi, hj, Nat.add_assoc]
section
variable {H : Type} {enc : TypeId × Value → H} {P : Program} {w : World}

theorem weights_all {e : TypeId} : ∀ {ds : List (DataW H)}, (DataW.weightsAll P e ds).all (· ≤ reachBytes) = true → ∀ d ∈ ds, (d.weights P e).all (· ≤ reachBytes) = true
  | [], _, d, hd => by simp at hd
  | x :: r, h, d, hd => by
    simp only [DataW.weightsAll, List.all_append, Bool.and_eq_true] at h
    rcases List.mem_cons.1 hd with rfl | hd
    · exact h.1
    · exact weights_all h.2 d hd
theorem open_dat : ∀ (t : Ty),
    (∀ {T : TypeId} {fuel : Nat} {cs : List Value} {y : DataW H × List MemPlace}, t.opens P (.inl T) = true → DataW.trod enc P w 0 (fun _ => true) true fuel T cs = some y →
      (y.1.weights P T).all (· ≤ reachBytes) = true → ∃ x, RV (fun b => b < w.heap.size) w t x cs ∧ Good t x) ∧
    (∀ {fs : List Field} {o n : Nat} {cs : List Value} {ys : List (DataW H × List MemPlace)}, t.opens P (.inr (fs, o)) = true → ys.length = fs.length → cs.length = o + t.sz →
      (∀ (i : Nat) (f : Field), fs[i]? = some f → DataW.trod enc P w 0 (fun _ => true) true n f.type ((cs.drop f.offset).take (P.cellsOf f.type)) = ys[i]?) →
      (DataW.weightsEach P (fs.map (·.type)) (ys.map (·.1))).all (· ≤ reachBytes) = true → ∃ x, RV (fun b => b < w.heap.size) w t x (cs.drop o) ∧ Good t x) := by
  intro t
  induction t with
  | int k =>
    refine ⟨fun {T fuel cs y} h ht _ => ?_, fun h => by simp [Ty.opens] at h⟩
    simp only [Ty.opens] at h
    split at h <;> try cases h
    rename_i j hu
    have := of_decide_eq_true h; subst this
    obtain ⟨n, rfl, _, hw⟩ := DataW.trod_int hu ht
    exact ⟨n, rfl, hw⟩
  | bool =>
    refine ⟨fun {T fuel cs y} h ht _ => ?_, fun h => by simp [Ty.opens] at h⟩
    simp only [Ty.opens] at h
    split at h <;> try cases h
    rename_i hu
    obtain ⟨b, rfl, _⟩ := DataW.trod_bool hu ht
    exact ⟨b, rfl, trivial⟩
  | str =>
    refine ⟨fun {T fuel cs y} h ht hs => ?_, fun h => by simp [Ty.opens] at h⟩
    simp only [Ty.opens] at h
    split at h <;> try cases h
    rename_i hu
    obtain ⟨s, rfl, rfl, _⟩ := DataW.trod_string hu ht
    refine ⟨s.data.toList, rfl, ?_⟩
    simp only [DataW.weights, List.all_cons, List.all_nil, Bool.and_true, decide_eq_true_eq] at hs
    exact hs
  | unit =>
    refine ⟨fun {T fuel cs y} h ht _ => ?_, fun {fs o n cs ys} h hl hc _ _ => ?_⟩
    · simp only [Ty.opens] at h
      split at h <;> try cases h
      rename_i fs hu
      simp only [Bool.and_eq_true] at h
      obtain ⟨xs, n, _, _, hl, _, _⟩ := DataW.trod_struct hu ht
      rw [Nat.eq_of_beq_eq_true h.2] at hl
      exact ⟨(), List.eq_nil_of_length_eq_zero hl, trivial⟩
    · refine ⟨(), ?_, trivial⟩
      simp only [RV]
      apply List.eq_nil_of_length_eq_zero
      rw [List.length_drop, hc]; simp [Ty.sz]
  | err | bnd => exact ⟨fun h => by simp [Ty.opens] at h, fun h => by simp [Ty.opens] at h⟩
  | list u ih =>
    refine ⟨fun {T fuel cs y} h ht hs => ?_, fun h => by simp [Ty.opens] at h⟩
    simp only [Ty.opens] at h
    split at h <;> try cases h
    rename_i e hu
    simp only [Bool.and_eq_true] at h
    obtain ⟨h1, h2, h3, h4⟩ := h
    have hsz := Nat.eq_of_beq_eq_true h2
    have hpos : 0 < u.sz := Nat.le_of_ble_eq_true h4
    have hlow := Nat.le_of_ble_eq_true h3
    rcases DataW.trod_slice hu ht with ⟨rfl, rfl⟩ | ⟨a, len, cap, elems, rest, n, _, rfl, rfl, _, hlc, hcm, hel, hcell, hsp, _⟩
    · exact ⟨[], ⟨none, 0, by simp, by simp, by simp, by simp⟩, by simp, by simp⟩
    · have hlt : ∀ p ∈ (MemPlace.row a ((elems.length + rest.length) * P.cellsOf e) ++ (elems ++ rest).flatMap (·.2)), p.block < w.heap.size := DataW.trod_lt _ _ _ _ ht
      simp only [DataW.weights, hu, List.all_cons, List.all_append, Bool.and_eq_true, decide_eq_true_eq, List.length_map] at hs
      obtain ⟨hb, hw, _⟩ := hs
      have hone : ∀ i, i < len → ∃ cs', w.cells? 0 (a.add (i * P.cellsOf e)) (P.cellsOf e) = some cs' ∧ ∃ x, RV (fun b => b < w.heap.size) w u x cs' ∧ Good u x := fun i hi => by
        have := hcell i hi
        rw [List.getElem?_eq_getElem (by omega)] at this
        obtain ⟨cs', c1, c2⟩ := Option.bind_eq_some_iff.1 this
        exact ⟨cs', c1, ih.1 h1 c2 (weights_all hw _ (List.mem_map_of_mem (List.getElem_mem _)))⟩
      have hex : ∀ i, ∃ cs', i < len → w.cells? 0 (a.add (i * P.cellsOf e)) (P.cellsOf e) = some cs' ∧ ∃ x, RV (fun b => b < w.heap.size) w u x cs' ∧ Good u x := fun i => by
        by_cases hi : i < len
        · obtain ⟨c, hc⟩ := hone i hi; exact ⟨c, fun _ => hc⟩
        · exact ⟨[], fun h => absurd h hi⟩
      have hch := Classical.axiomOfChoice hex
      obtain ⟨cf, hcf⟩ := hch
      obtain ⟨xs, x1, x2, x3⟩ := rows_get (t := u) (Pr := fun b => b < w.heap.size) (w := w) (G := Good u) (cs := cf) len fun i hi => (hcf i hi).2
      refine ⟨xs, ⟨some a, cap, by rw [x1], by omega, by rw [x1]; simp only [maxLen] at hcm; omega, fun h0 => ⟨a, _, rfl, ?_, x2, ?_⟩⟩, ?_, x3⟩
      · refine hlt (.cell a.block a.off) (List.mem_append_left _ ?_)
        refine List.mem_map.2 ⟨0, List.mem_range.2 ?_, by simp⟩
        rw [hsz]
        exact Nat.mul_pos (by omega) hpos
      · intro j hj
        have hk : ∀ i, i < len → (cf i).length = u.sz := fun i hi => by have := (World.cells?_some (hcf i hi).1).2.1; rw [this, hsz]
        rw [flat_len len hk] at hj
        have hd : j / u.sz < len := by rw [Nat.div_lt_iff_lt_mul hpos]; exact hj
        have hm := Nat.mod_lt j hpos
        have hcell2 := (World.cells?_some (hcf _ hd).1).2.2 (j % u.sz) (by rw [hsz]; exact hm)
        rw [add_add', hsz] at hcell2
        have hj2 : j / u.sz * u.sz + j % u.sz = j := by rw [Nat.mul_comm]; exact Nat.div_add_mod j u.sz
        have hfl := flat_get len hk hd hm
        rw [hj2] at hcell2 hfl
        rw [hcell2, ← hfl, List.getElem?_eq_getElem]
      · rw [x1]
        refine Nat.le_trans (Nat.mul_le_mul (Nat.le_refl _) hlow) ?_
        refine Nat.le_trans ?_ (show reachBytes ≤ 140737488351232 by decide)
        refine Nat.le_trans (Nat.mul_le_mul ?_ (Nat.le_refl _)) hb
        omega
  | pair a b iha ihb =>
    refine ⟨fun {T fuel cs y} h ht hs => ?_, fun {fs o n cs ys} h hl hc hf hs => ?_⟩
    · simp only [Ty.opens] at h
      split at h <;> try cases h
      rename_i fs hu
      split at h <;> try cases h
      rename_i f r hfs
      simp only [Bool.and_eq_true] at h
      obtain ⟨h0, h1, h2, h3, h4⟩ := h
      obtain ⟨xs, n, _, rfl, hlen, hxl, hf⟩ := DataW.trod_struct hu ht
      simp only [DataW.weights, hu, hfs, List.map_cons] at hs
      rw [Nat.eq_of_beq_eq_true h4] at hlen
      have hfl : fs.size = r.length + 1 := by rw [← Array.length_toList, hfs]; rfl
      match xs, hxl with
      | y :: ys, hxl =>
        simp only [List.map_cons, DataW.weightsEach, List.all_append, Bool.and_eq_true] at hs
        have hg : ∀ i, fs[i]? = (f :: r)[i]? := fun i => by rw [← hfs, Array.getElem?_toList]
        have f0 := hf 0 f (by rw [hg]; rfl)
        rw [Nat.eq_of_beq_eq_true h0, Nat.eq_of_beq_eq_true h1] at f0
        obtain ⟨x, rx, gx⟩ := iha.1 h2 f0 hs.1
        obtain ⟨z, rz, gz⟩ := ihb.2 (fs := r) (o := a.sz) (n := n) (cs := cs) (ys := ys) h3 (by simpa [hfl] using hxl) hlen (fun i g hi => hf (i + 1) g (by rw [hg]; exact hi)) hs.2
        refine ⟨(x, z), ⟨_, _, ?_, rx, rz⟩, gx, gz⟩
        simp
      | [], hxl => simp [hfl] at hxl
    · match fs, ys, hl with
      | f :: r, y :: ys, hl =>
        simp only [Ty.opens, Bool.and_eq_true] at h
        obtain ⟨h0, h1, h2, h3⟩ := h
        simp only [List.map_cons, DataW.weightsEach, List.all_append, Bool.and_eq_true] at hs
        have f0 := hf 0 f rfl
        rw [Nat.eq_of_beq_eq_true h0, Nat.eq_of_beq_eq_true h1] at f0
        obtain ⟨x, rx, gx⟩ := iha.1 h2 f0 hs.1
        obtain ⟨z, rz, gz⟩ := ihb.2 (fs := r) (o := o + a.sz) (n := n) (cs := cs) (ys := ys) h3 (by simpa using hl) (by rw [hc]; simp [Ty.sz]; omega) (fun i g hi => hf (i + 1) g hi) hs.2
        refine ⟨(x, z), ⟨_, _, ?_, rx, rz⟩, gx, gz⟩
        rw [← List.drop_drop, List.take_append_drop]
      | [], _, _ => simp [Ty.opens] at h
  | arr n u ih =>
    refine ⟨fun {T fuel cs y} h ht hs => ?_, fun h => by simp [Ty.opens] at h⟩
    simp only [Ty.opens] at h
    split at h <;> try cases h
    rename_i m e hu
    simp only [Bool.and_eq_true] at h
    obtain ⟨h0, h1, h2, h3⟩ := h
    have := Nat.eq_of_beq_eq_true h0; subst this
    have hsz := Nat.eq_of_beq_eq_true h2
    obtain ⟨xs, k, _, rfl, hlen, hxl, hf⟩ := DataW.trod_array hu ht
    simp only [DataW.weights, hu] at hs
    obtain ⟨zs, z1, z2, z3⟩ := rows_get (t := u) (Pr := fun b => b < w.heap.size) (w := w) (G := Good u) (cs := fun i => (cs.drop (i * u.sz)).take u.sz) m fun i hi => by
      have := hf i hi
      rw [hsz, List.getElem?_eq_getElem (by omega)] at this
      exact ih.1 h1 this (weights_all hs _ (List.mem_map_of_mem (List.getElem_mem _)))
    rw [chop_flatten m cs (by rw [hlen, Nat.eq_of_beq_eq_true h3])] at z2
    exact ⟨zs, ⟨z1, z2⟩, z1, z3⟩
theorem trod_val {t : Ty} {T : TypeId} {v : Value} {r : Reach} {b : Nat} (h : t.opens P (.inl T) = true) (hv : Value.okWide P w r b T v) : v = valOf t v.cells.toList := by
  cases t with
  | int k => simp only [Ty.opens] at h; split at h <;> try cases h
             rename_i hu; obtain ⟨n, rfl⟩ := okWide_int hu hv; rfl
  | bool => simp only [Ty.opens] at h; split at h <;> try cases h
            rename_i hu; obtain ⟨n, rfl⟩ := okWide_bool hu hv; rfl
  | str => simp only [Ty.opens] at h; split at h <;> try cases h
           rename_i hu; obtain ⟨n, rfl⟩ := okWide_string hu hv; rfl
  | list u => simp only [Ty.opens] at h; split at h <;> try cases h
              rename_i hu; obtain ⟨a, n, c, rfl⟩ := okWide_slice hu hv; rfl
  | unit => simp only [Ty.opens] at h; split at h <;> try cases h
            rename_i hu; obtain ⟨cs, rfl, _⟩ := okWide_struct hu hv; simp [valOf, Ty.isAgg, Value.cells]
  | pair a c => simp only [Ty.opens] at h; split at h <;> try cases h
                rename_i hu; obtain ⟨cs, rfl, _⟩ := okWide_struct hu hv; simp [valOf, Ty.isAgg, Value.cells]
  | arr n u => simp only [Ty.opens] at h; split at h <;> try cases h
               rename_i hu; unfold Value.okWide at hv; rw [hu] at hv; obtain ⟨cs, rfl, _⟩ := hv; simp [valOf, Ty.isAgg, Value.cells]
  | err | bnd => simp [Ty.opens] at h
/-- **An argument is data.** -/
theorem open_arg {t : Ty} {ts : List TypeId} {ds : List (DataW H)} {T : TypeId} {v : Value} {d : DataW H} {ps : List MemPlace} {r : Reach} {b : Nat} {j : Nat} (hs : (DataW.weightsEach P ts ds).all (· ≤ reachBytes) = true) (hj : ts[j]? = some T) (hd : ds[j]? = some d)
    (h : t.opens P (.inl T) = true) (hv : Value.okWide P w r b T v) (ht : DataW.Trod enc P w 0 (fun _ => true) true T v d ps) :
    ∃ x, (∃ cs, RV (fun b => b < w.heap.size) w t x cs ∧ v = valOf t cs) ∧ Good t x ∧ ∀ p ∈ ps, p.block < w.heap.size := by
  obtain ⟨n, hn⟩ := ht
  have hw : (d.weights P T).all (· ≤ reachBytes) = true := List.all_eq_true.2 fun z hz => List.all_eq_true.1 hs z (DataW.weights_mem_each hj hd z hz)
  obtain ⟨x, h1, h2⟩ := (open_dat (w := w) (P := P) (enc := enc) t).1 h hn hw
  exact ⟨x, ⟨_, h1, trod_val h hv⟩, h2, DataW.trod_lt _ _ _ _ hn⟩
end
end Go.Ev

namespace Go.Ev
open Go.RowKit

section
variable {P : Program}
end
end Go.Ev

namespace Go.Ev
theorem lim_go {S X : Type} {r : S → Option (S ⊕ X)} {s s' : S} (h : r s = some (.inl s')) : Lim r s = Lim r s' := by rw [lim_step, h]
theorem lim_end {S X : Type} {r : S → Option (S ⊕ X)} {s : S} {x : X} (h : r s = some (.inr x)) : Lim r s = some x := by rw [lim_step, h]
theorem limW_go {Y S X : Type} {r : S → YW Y (S ⊕ X)} {s s' : S} {ys : List Y} (h : r s = some (ys, .inl s')) : LimW r s = (LimW r s').map fun p => (ys ++ p.1, p.2) := by
  rw [limW_step, h]; simp only [YW.bind]
  cases LimW r s' with
  | none => rfl
  | some p => rfl
theorem limW_end {Y S X : Type} {r : S → YW Y (S ⊕ X)} {s : S} {ys : List Y} {x : X} (h : r s = some (ys, .inr x)) : LimW r s = some (ys, x) := by
  rw [limW_step, h]; simp [YW.bind]
/-- A loop whose rounds are counted: an invariant carried to the end. -/
theorem lim_inv {S X : Type} {r : S → Option (S ⊕ X)} (st : Nat → S) (x : X) (n : Nat) (hgo : ∀ i, i < n → r (st i) = some (.inl (st (i + 1)))) (hend : r (st n) = some (.inr x)) : ∀ i, i ≤ n → Lim r (st i) = some x := by
  intro i hi
  obtain ⟨k, hk⟩ : ∃ k, n = i + k := ⟨n - i, by omega⟩
  induction k generalizing i with
  | zero => rw [Nat.add_zero] at hk; subst hk; exact lim_end hend
  | succ k ih => rw [lim_go (hgo i (by omega))]; exact ih (i + 1) (by omega) (by omega)
/-- What is kept: slots, and boxes with their cells. -/
def kp (ss : List Nat) (bs : List (Nat × List Nat)) : Keep := ss.map (fun n => (.slot n, .own)) ++ bs.flatMap fun p => (.box p.1, .own) :: p.2.map fun j => (.cell p.1 j, .own)
theorem some_getD {α : Type} [Inhabited α] {o : Option α} (h : o.isSome = true) : o = some (o.getD default) := by
  cases o with
  | none => cases h
  | some x => rfl
/-- A value behind a name that is not unfolded. -/
noncomputable def hold {α : Type} (a : α) : α := Classical.choose (⟨a, rfl⟩ : ∃ b, b = a)
theorem hold_eq {α : Type} (a : α) : hold a = a := Classical.choose_spec (⟨a, rfl⟩ : ∃ b, b = a)
end Go.Ev
