/- The functions of the program as functions of Lean, with the proofs that they are. -/
import Derived.Test.YtockaglkljgnhaaDoorF1
import Derived.KernelRfl
set_option linter.unusedSimpArgs false
set_option linter.unusedVariables false
set_option linter.deprecated false
namespace Go.Ev.D
open Go Go.Proofs Go.Ev
noncomputable section
def env27 : Env := {
  tab := tab
  glob := glob
  spec := fun
    | 30 => some spec30
    | _ => none }

def orc27 : Orc := ⟨40, fun _ => none, fun
  | 0 => kp [0, 1] []
  | 1 => kp [0, 1, 5] []
  | 2 => kp [0, 1, 5, 15] []
  | 3 => kp [0, 1, 5] []
  | 4 => kp [0, 1, 5, 39] []
  | 5 => kp [4] []
  | 6 => kp [4] []
  | _ => [], fun | _ => false⟩
noncomputable def body27 : Code := Tryd.f27.body.getD .skip
def L27_2_sh : Shape := [(.slot 0, .dat (.list .str)), (.slot 1, .dat (.list .str)), (.slot 5, .dat (.int .i64))]
def L27_2_x0 : Shape := [(.slot 4, .dat .bool)]
def L27_2_x1 : Shape := [(.slot 0, .dat (.list .str)), (.slot 1, .dat (.list .str)), (.slot 5, .dat (.int .i64))]
def L27_2_pk (s : Tup L27_2_sh) : (List (List UInt8)) × (List (List UInt8)) × Int := (s.1, s.2.1, s.2.2.1)
def L27_2_un (s : (List (List UInt8)) × (List (List UInt8)) × Int) : Tup L27_2_sh := (s.1, (s.2.1, (s.2.2, ())))
def L27_2_leave (x : (Bool) ⊕ ((List (List UInt8)) × (List (List UInt8)) × Int)) (R : Type) (K : Cont R) : Option R := match x with
  | (.inl a) => K .ret (mkSt L27_2_x0 (a, ()))
  | (.inr a) => K (.exit 0) (mkSt L27_2_x1 (a.1, (a.2.1, (a.2.2, ()))))
def L27_2_d (e : Exit) (st : St) : Option ((Bool) ⊕ ((List (List UInt8)) × (List (List UInt8)) × Int)) := match e with
  | .ret => (match unSt L27_2_x0 st with
    | some s => some (.inl s.1)
    | none => none)
  | .exit 0 => (match unSt L27_2_x1 st with
    | some s => some (.inr (s.1, s.2.1, s.2.2.1))
    | none => none)
  | _ => none
def L27_2_r (s0 : (List (List UInt8))) (s1 : (List (List UInt8))) (s2 : Int) : Option (((List (List UInt8)) × (List (List UInt8)) × Int) ⊕ ((Bool) ⊕ ((List (List UInt8)) × (List (List UInt8)) × Int))) :=
  let v1 : Int := ((List.length s0 : Nat) : Int)
  let v2 : Bool := (decide (s2 < v1))
  let v3 : Int := ((List.length s1 : Nat) : Int)
  let v4 : Bool := (decide (s2 < v3))
  let v5 : Bool := (bif v2 then v4 else false)
  bif v5 then
  bif (decide (0 ≤ s2) && decide (s2 < List.length s0)) then
  let v6 : (List UInt8) := (List.getD s0 (Int.toNat s2) ([] : List UInt8))
  bif (decide (0 ≤ s2) && decide (s2 < List.length s1)) then
  let v7 : (List UInt8) := (List.getD s1 (Int.toNat s2) ([] : List UInt8))
  let v8 : Bool := (!(v6 == v7))
  bif ((decide (0 ≤ s2) && decide (s2 < List.length s0)) || !(v8 && true)) then
  let v9 : (List UInt8) := (List.getD s0 (Int.toNat s2) ([] : List UInt8))
  bif ((P30 v9) || !(v8 && true)) then
  let v10 : (List UInt8) := (F30 v9)
  bif ((decide (0 ≤ s2) && decide (s2 < List.length s1)) || !(v8 && true)) then
  let v11 : (List UInt8) := (List.getD s1 (Int.toNat s2) ([] : List UInt8))
  bif ((P30 v11) || !(v8 && true)) then
  let v12 : (List UInt8) := (F30 v11)
  let v13 : Bool := (v10 == v12)
  let v14 : Bool := (bif v8 then v13 else false)
  bif v14 then
  some (.inr (.inl true))
  else
  let v15 : Int := (IntKind.i64.wrap (s2 + (1 : Int)))
  some (.inl (s0, s1, v15))
  else none
  else none
  else none
  else none
  else none
  else none
  else
  some (.inr (.inr (s0, s1, s2)))
def L27_2 : (List (List UInt8)) × (List (List UInt8)) × Int → Option ((Bool) ⊕ ((List (List UInt8)) × (List (List UInt8)) × Int)) := Lim (fun s => L27_2_r s.1 s.2.1 s.2.2)
def L27_2_sum : Sum := limSum L27_2_sh L27_2_pk (fun s => L27_2_r s.1 s.2.1 s.2.2) L27_2_leave
theorem L27_2_nat : Natural L27_2_sum := natural_lim fun x R K => by
  rcases x with x|x <;> rfl
theorem L27_2_dok : ∀ e st x, e ≠ .normal → L27_2_d e st = some x → ∀ R (K : Cont R), K e st = L27_2_leave x R K := by
  intro e st x _ h R K
  unfold L27_2_d at h
  split at h
  · split at h
    · rename_i s hs; cases h; rw [unSt_some hs]; rfl
    · cases h
  · split at h
    · rename_i s hs; cases h; rw [unSt_some hs]; rfl
    · cases h
  · cases h
def loops27 : Nat → Option (Sum) := fun | 2 => some L27_2_sum | _ => none
theorem loops27_nat : ∀ q f, loops27 q = some f → Natural f := by
  intro q f h
  unfold loops27 at h
  split at h
  · cases h; exact L27_2_nat
  · cases h
noncomputable def L27_2_code : Code := (loopsOf body27).getD 0 .skip
theorem L27_2_round (s0 : (List (List UInt8))) (s1 : (List (List UInt8))) (s2 : Int) : ev2 env27 orc27 loops27 L27_2_code (mkSt L27_2_sh (s0, (s1, (s2, ())))) (back L27_2_sh L27_2_pk L27_2_d) = L27_2_r s0 s1 s2 := by kernel_rfl
theorem L27_2_ok : SumOk env27 orc27 loops27 L27_2_code L27_2_sum := sumOk_lim (un := L27_2_un) loops27_nat (fun _ => rfl) L27_2_dok fun s => L27_2_round s.1 s.2.1 s.2.2
theorem loops27_all : loopsOf body27 = [L27_2_code] := by kernel_rfl
theorem L27_2_key : lookL loops27 (keyOf L27_2_code) = some L27_2_sum := by kernel_rfl
theorem loops27_ok : LoopsOk env27 orc27 loops27 body27 := by
  intro c hc f hf
  rw [loops27_all] at hc
  simp only [List.mem_cons, List.not_mem_nil, or_false] at hc
  subst hc
  · rw [L27_2_key] at hf; cases hf; exact L27_2_ok
def G27 (x0 : (List (List UInt8))) (x1 : (List (List UInt8))) : Option (Bool) :=
  Option.bind (L27_2 (x0, x1, (0 : Int))) fun x => match x with
  | (.inl r16) =>
  some (r16)
  | (.inr r17) =>
  some (false)
theorem ev27 (x0 : (List (List UInt8))) (x1 : (List (List UInt8))) : ev2 env27 orc27 loops27 body27 (initSt 0 [⟨(.list .str), x0⟩, ⟨(.list .str), x1⟩]) (retT [(4, .dat .bool)] [.bool] fun x => x.1) = G27 x0 x1 := by kernel_rfl
def P27 (x0 : (List (List UInt8))) (x1 : (List (List UInt8))) : Bool := (hold (G27 x0 x1)).isSome
def F27 (x0 : (List (List UInt8))) (x1 : (List (List UInt8))) : Bool := (hold (G27 x0 x1)).getD default
theorem G27_some (x0 : (List (List UInt8))) (x1 : (List (List UInt8))) (h : P27 x0 x1 = true) : G27 x0 x1 = some (F27 x0 x1) := by
  unfold P27 at h; unfold F27
  rw [hold_eq] at h ⊢
  exact some_getD h
theorem P27_of (x0 : (List (List UInt8))) (x1 : (List (List UInt8))) {r : Bool} (h : G27 x0 x1 = some r) : P27 x0 x1 = true := by unfold P27; rw [hold_eq, h]; rfl
theorem F27_of (x0 : (List (List UInt8))) (x1 : (List (List UInt8))) {r : Bool} (h : G27 x0 x1 = some r) : F27 x0 x1 = r := by unfold F27; rw [hold_eq, h]; rfl
def spec27 : Spec := ⟨[(.list .str), (.list .str)], [.dat .bool], fun | [a0, a1] => P27 (a0.as (.list .str)) (a1.as (.list .str)) | _ => false, fun | [a0, a1] => [⟨.bool, (F27 (a0.as (.list .str)) (a1.as (.list .str)))⟩] | _ => []⟩
theorem meets27 (hE : EnvOk Tryd.prog env27) (hm : Tryd.prog.follows .mixedOrders = true) : Meets Tryd.prog glob 27 spec27 :=
  meets_of_ev2 (O := orc27) (L := loops27) (c := body27) (slots := [4]) hE hm Tryd.func27 Tryd.call27 (by kernel_rfl) (by kernel_rfl) loops27_ok (rangesOk_nil (by kernel_rfl)) (by kernel_rfl) rfl (by decide) (fun ds hds hpre => by
  obtain ⟨x0, ds0, rfl, h0⟩ := datsS hds
  obtain ⟨x1, ds1, rfl, h1⟩ := datsS h0
  have h9 := dats0 h1; subst h9
  exact ev_ret (un := fun r => [⟨.bool, r⟩]) loops27_nat (fun _ => rfl) ((ev27 x0 x1).trans (G27_some x0 x1 hpre)))
def specs28 (PR : (List UInt8) → Int → Int → (List (List UInt8)) → Bool → Bool) (FR : (List UInt8) → Int → Int → (List (List UInt8)) → Bool → (List (List UInt8)) × (List UInt8)) : Spec := ⟨[.str, (.int .i64), (.int .i64), (.list .str), .bool], [.dat (.list .str), .dat .str], fun | [a0, a1, a2, a3, a4] => PR (a0.as .str) (a1.as (.int .i64)) (a2.as (.int .i64)) (a3.as (.list .str)) (a4.as .bool) | _ => false, fun | [a0, a1, a2, a3, a4] => [⟨(.list .str), (FR (a0.as .str) (a1.as (.int .i64)) (a2.as (.int .i64)) (a3.as (.list .str)) (a4.as .bool)).1⟩, ⟨.str, (FR (a0.as .str) (a1.as (.int .i64)) (a2.as (.int .i64)) (a3.as (.list .str)) (a4.as .bool)).2⟩] | _ => []⟩
def envs28 (PR : (List UInt8) → Int → Int → (List (List UInt8)) → Bool → Bool) (FR : (List UInt8) → Int → Int → (List (List UInt8)) → Bool → (List (List UInt8)) × (List UInt8)) : Env := {
  tab := tab
  glob := glob
  spec := fun
    | 28 => some (specs28 PR FR)
    | 31 => some spec31
    | 32 => some spec32
    | _ => none }

def orc28 : Orc := ⟨94, fun _ => none, fun
  | 0 => kp [0, 1, 2, 3, 4] []
  | 1 => kp [0, 1, 2, 3, 4, 26] []
  | 2 => kp [0, 3, 32] []
  | 3 => kp [10, 11] []
  | 4 => kp [10, 11] []
  | 5 => kp [0, 1, 2, 3, 4, 12] []
  | 6 => kp [0, 1, 2, 4, 12, 13] []
  | 7 => kp [0, 1, 2, 4, 12, 13, 14] []
  | 8 => kp [0, 1, 2, 4, 12, 13, 14, 52] []
  | 9 => kp [12, 15, 16] []
  | 10 => kp [10, 11] []
  | 11 => kp [12, 17, 18] []
  | 12 => kp [10, 11] []
  | _ => [], fun | _ => false⟩
noncomputable def body28 : Code := Tryd.f28.body.getD .skip
def loops28 : Nat → Option (Sum) := fun | _ => none
theorem loops28_nat : ∀ q f, loops28 q = some f → Natural f := by
  intro q f h
  cases h
theorem loops28_ok (PR : (List UInt8) → Int → Int → (List (List UInt8)) → Bool → Bool) (FR : (List UInt8) → Int → Int → (List (List UInt8)) → Bool → (List (List UInt8)) × (List UInt8)) : LoopsOk (envs28 PR FR) orc28 loops28 body28 := loopsOk_nil (by kernel_rfl)
def Gs28 (PR : (List UInt8) → Int → Int → (List (List UInt8)) → Bool → Bool) (FR : (List UInt8) → Int → Int → (List (List UInt8)) → Bool → (List (List UInt8)) × (List UInt8)) (x0 : (List UInt8)) (x1 : Int) (x2 : Int) (x3 : (List (List UInt8))) (x4 : Bool) : Option ((List (List UInt8)) × (List UInt8)) :=
  let v1 : (List (List UInt8)) := ([] : (List (List UInt8)))
  let v2 : Bool := (decide (x1 ≥ x2))
  let v3 : Int := ((List.length x3 : Nat) : Int)
  let v4 : Bool := (v3 == (0 : Int))
  let v5 : Bool := (bif v2 then true else v4)
  bif v5 then
  let v6 : Int := ((List.length x3 : Nat) : Int)
  let v7 : Bool := (v6 == (0 : Int))
  let v8 : Bool := (bif x4 then true else v7)
  bif v8 then
  let v9 : (List (List UInt8)) := ([] : (List (List UInt8)))
  some (v9, x0)
  else
  bif (decide (0 ≤ (0 : Int)) && decide ((0 : Int) < List.length x3)) then
  let v10 : (List UInt8) := (List.getD x3 (Int.toNat (0 : Int)) ([] : List UInt8))
  let v11 : (List (List UInt8)) := ([] : (List (List UInt8)))
  some (v11, v10)
  else none
  else
  let v12 : Int := ((List.length x3 : Nat) : Int)
  let v13 : Int := (IntKind.i64.wrap (v12 - (1 : Int)))
  bif (decide (0 ≤ v13) && decide (v13 < List.length x3)) then
  let v14 : (List UInt8) := (List.getD x3 (Int.toNat v13) ([] : List UInt8))
  let v15 : Int := ((List.length x3 : Nat) : Int)
  let v16 : Int := (IntKind.i64.wrap (v15 - (1 : Int)))
  bif (sliceTest (0 : Int) v16 (List.length x3)) then
  let v17 : (List (List UInt8)) := (cut x3 (0 : Int) v16)
  bif (P31 x2) then
  let v18 : Int := (F31 x2)
  let v19 : Bool := (decide (x1 ≤ v18))
  bif v19 then
  bif (PR x0 x1 v18 v17 x4) then
  let v20 : ((List (List UInt8)) × (List UInt8)) := (FR x0 x1 v18 v17 x4)
  bif (decide (List.length ([1] : List UInt8) + List.length v20.2 ≤ 9223372036854775807)) then
  let v21 : (List UInt8) := (([1] : List UInt8) ++ v20.2)
  bif (decide (List.length v21 + List.length v14 ≤ 9223372036854775807)) then
  let v22 : (List UInt8) := (v21 ++ v14)
  let v23 : (List (List UInt8)) := (List.set (List.replicate 1 ([] : List UInt8)) 0 v22)
  bif (decide (List.length (List.take (List.length v23) v23) + List.length v20.1 ≤ 100000000000)) then
  let v24 : (List (List UInt8)) := ((List.take (List.length v23) v23) ++ v20.1)
  bif (P32 v20.2 v14) then
  let v25 : (List UInt8) := (F32 v20.2 v14)
  some (v24, v25)
  else none
  else none
  else none
  else none
  else none
  else
  let v26 : Int := (IntKind.i64.wrap (x1 - v18))
  let v27 : Int := (IntKind.i64.wrap (x2 - v18))
  bif (PR x0 v26 v27 v17 false) then
  let v28 : ((List (List UInt8)) × (List UInt8)) := (FR x0 v26 v27 v17 false)
  bif (decide (List.length ([1] : List UInt8) + List.length v14 ≤ 9223372036854775807)) then
  let v29 : (List UInt8) := (([1] : List UInt8) ++ v14)
  bif (decide (List.length v29 + List.length v28.2 ≤ 9223372036854775807)) then
  let v30 : (List UInt8) := (v29 ++ v28.2)
  let v31 : (List (List UInt8)) := (List.set (List.replicate 1 ([] : List UInt8)) 0 v30)
  bif (decide (List.length (List.take (List.length v31) v31) + List.length v28.1 ≤ 100000000000)) then
  let v32 : (List (List UInt8)) := ((List.take (List.length v31) v31) ++ v28.1)
  bif (P32 v14 v28.2) then
  let v33 : (List UInt8) := (F32 v14 v28.2)
  some (v32, v33)
  else none
  else none
  else none
  else none
  else none
  else none
  else none
  else none
theorem ev28 (PR : (List UInt8) → Int → Int → (List (List UInt8)) → Bool → Bool) (FR : (List UInt8) → Int → Int → (List (List UInt8)) → Bool → (List (List UInt8)) × (List UInt8)) (x0 : (List UInt8)) (x1 : Int) (x2 : Int) (x3 : (List (List UInt8))) (x4 : Bool) : ev2 (envs28 PR FR) orc28 loops28 body28 (initSt 0 [⟨.str, x0⟩, ⟨(.int .i64), x1⟩, ⟨(.int .i64), x2⟩, ⟨(.list .str), x3⟩, ⟨.bool, x4⟩]) (retT [(10, .dat (.list .str)), (11, .dat .str)] [(.list .str), .str] fun x => (x.1, x.2.1)) = Gs28 PR FR x0 x1 x2 x3 x4 := by kernel_rfl
def Gn28 : Nat → (List UInt8) → Int → Int → (List (List UInt8)) → Bool → Option ((List (List UInt8)) × (List UInt8))
  | 0, _, _, _, _, _ => none
  | n + 1, x0, x1, x2, x3, x4 => Gs28 (fun x0 x1 x2 x3 x4 => (Gn28 n x0 x1 x2 x3 x4).isSome) (fun x0 x1 x2 x3 x4 => (Gn28 n x0 x1 x2 x3 x4).getD default) x0 x1 x2 x3 x4
def G28 (x0 : (List UInt8)) (x1 : Int) (x2 : Int) (x3 : (List (List UInt8))) (x4 : Bool) : Option ((List (List UInt8)) × (List UInt8)) := Gn28 recDepth x0 x1 x2 x3 x4
def P28 (x0 : (List UInt8)) (x1 : Int) (x2 : Int) (x3 : (List (List UInt8))) (x4 : Bool) : Bool := (hold (G28 x0 x1 x2 x3 x4)).isSome
def F28 (x0 : (List UInt8)) (x1 : Int) (x2 : Int) (x3 : (List (List UInt8))) (x4 : Bool) : (List (List UInt8)) × (List UInt8) := (hold (G28 x0 x1 x2 x3 x4)).getD default
theorem P28_of (x0 : (List UInt8)) (x1 : Int) (x2 : Int) (x3 : (List (List UInt8))) (x4 : Bool) {r : (List (List UInt8)) × (List UInt8)} (h : G28 x0 x1 x2 x3 x4 = some r) : P28 x0 x1 x2 x3 x4 = true := by unfold P28; rw [hold_eq, h]; rfl
theorem F28_of (x0 : (List UInt8)) (x1 : Int) (x2 : Int) (x3 : (List (List UInt8))) (x4 : Bool) {r : (List (List UInt8)) × (List UInt8)} (h : G28 x0 x1 x2 x3 x4 = some r) : F28 x0 x1 x2 x3 x4 = r := by unfold F28; rw [hold_eq, h]; rfl
def spec28 : Spec := ⟨[.str, (.int .i64), (.int .i64), (.list .str), .bool], [.dat (.list .str), .dat .str], fun | [a0, a1, a2, a3, a4] => P28 (a0.as .str) (a1.as (.int .i64)) (a2.as (.int .i64)) (a3.as (.list .str)) (a4.as .bool) | _ => false, fun | [a0, a1, a2, a3, a4] => [⟨(.list .str), (F28 (a0.as .str) (a1.as (.int .i64)) (a2.as (.int .i64)) (a3.as (.list .str)) (a4.as .bool)).1⟩, ⟨.str, (F28 (a0.as .str) (a1.as (.int .i64)) (a2.as (.int .i64)) (a3.as (.list .str)) (a4.as .bool)).2⟩] | _ => []⟩
theorem meetsn28 (hE : ∀ (PR : (List UInt8) → Int → Int → (List (List UInt8)) → Bool → Bool) (FR : (List UInt8) → Int → Int → (List (List UInt8)) → Bool → (List (List UInt8)) × (List UInt8)), Meets Tryd.prog glob 28 (specs28 PR FR) → EnvOk Tryd.prog (envs28 PR FR)) (hm : Tryd.prog.follows .mixedOrders = true) : ∀ n, Meets Tryd.prog glob 28 (specs28 (fun x0 x1 x2 x3 x4 => (Gn28 n x0 x1 x2 x3 x4).isSome) (fun x0 x1 x2 x3 x4 => (Gn28 n x0 x1 x2 x3 x4).getD default))
  | 0 => ⟨Tryd.call28, fun w Pr ds args _ _ hds _ hpre => by
    obtain ⟨x0, ds0, rfl, h0⟩ := datsS hds
    obtain ⟨x1, ds1, rfl, h1⟩ := datsS h0
    obtain ⟨x2, ds2, rfl, h2⟩ := datsS h1
    obtain ⟨x3, ds3, rfl, h3⟩ := datsS h2
    obtain ⟨x4, ds4, rfl, h4⟩ := datsS h3
    have h9 := dats0 h4; subst h9
    cases (show false = true from hpre)⟩
  | n + 1 => meets_of_ev2 (E := envs28 (fun x0 x1 x2 x3 x4 => (Gn28 n x0 x1 x2 x3 x4).isSome) (fun x0 x1 x2 x3 x4 => (Gn28 n x0 x1 x2 x3 x4).getD default)) (O := orc28) (L := loops28) (c := body28) (slots := [10, 11]) (hE _ _ (meetsn28 hE hm n)) hm Tryd.func28 Tryd.call28 (by kernel_rfl) (by kernel_rfl) (loops28_ok _ _) (rangesOk_nil (by kernel_rfl)) (by kernel_rfl) rfl (show 5 ≤ Tryd.f28.ntmps by decide) (fun ds hds hpre => by
    obtain ⟨x0, ds0, rfl, h0⟩ := datsS hds
    obtain ⟨x1, ds1, rfl, h1⟩ := datsS h0
    obtain ⟨x2, ds2, rfl, h2⟩ := datsS h1
    obtain ⟨x3, ds3, rfl, h3⟩ := datsS h2
    obtain ⟨x4, ds4, rfl, h4⟩ := datsS h3
    have h9 := dats0 h4; subst h9
    exact ev_ret (un := fun r => [⟨(.list .str), r.1⟩, ⟨.str, r.2⟩]) loops28_nat (fun _ => rfl) ((ev28 _ _ x0 x1 x2 x3 x4).trans (some_getD (o := Gn28 (n + 1) x0 x1 x2 x3 x4) hpre)))
def env8 : Env := {
  tab := tab
  glob := glob
  spec := fun
    | 12 => some spec12
    | 13 => some spec13
    | 23 => some spec23
    | 27 => some spec27
    | 28 => some spec28
    | _ => none }

def orc8 : Orc := ⟨73, fun _ => none, fun
  | 0 => kp [0, 1, 2, 3, 4, 5, 6] []
  | 1 => kp [0, 1, 2, 3, 4, 5, 6, 15] []
  | 2 => kp [0, 1, 2, 3, 4, 5, 6, 15] []
  | 3 => kp [0, 1, 2, 3, 4, 5, 6, 15] []
  | 4 => kp [0, 1, 2, 3, 4, 5, 6, 15, 16] []
  | 5 => kp [0, 1, 2, 3, 4, 6, 15, 16, 17] []
  | 6 => kp [0, 1, 2, 3, 4, 6, 15, 49] []
  | 7 => kp [14] []
  | 8 => kp [2, 3, 4, 6, 15, 18] []
  | 9 => kp [15, 18, 20] []
  | 10 => kp [14] []
  | _ => [], fun | _ => false⟩
noncomputable def body8 : Code := Tryd.f8.body.getD .skip
def loops8 : Nat → Option (Sum) := fun | _ => none
theorem loops8_nat : ∀ q f, loops8 q = some f → Natural f := by
  intro q f h
  cases h
theorem loops8_ok : LoopsOk env8 orc8 loops8 body8 := loopsOk_nil (by kernel_rfl)
def G8 (x0 : (List UInt8)) (x1 : (List (List UInt8))) (x2 : (List UInt8)) (x3 : (List (List UInt8))) (x4 : Int) (x5 : (List UInt8)) (x6 : Int) : Option (Bool) :=
  bif (P12 ) then
  bif (P13 x1 (70 : Int)) then
  let v1 : (List (List UInt8)) := (F13 x1 (70 : Int))
  bif (P13 x3 (70 : Int)) then
  let v2 : (List (List UInt8)) := (F13 x3 (70 : Int))
  bif (P23 x0 x4 x5 x6 v1) then
  let v3 : Bool := (F23 x0 x4 x5 x6 v1)
  bif (P23 x2 x4 x5 x6 v2) then
  let v4 : Bool := (F23 x2 x4 x5 x6 v2)
  let v5 : Bool := (!v3)
  let v6 : Bool := (!v4)
  let v7 : Bool := (bif v5 then true else v6)
  let v8 : Bool := (x0 == x2)
  let v9 : Bool := (bif v7 then true else v8)
  bif v9 then
  some (F12)
  else
  bif (P28 x0 x4 x6 v1 true) then
  let v10 : ((List (List UInt8)) × (List UInt8)) := (F28 x0 x4 x6 v1 true)
  bif (P28 x2 x4 x6 v2 true) then
  let v11 : ((List (List UInt8)) × (List UInt8)) := (F28 x2 x4 x6 v2 true)
  bif ((P27 v10.1 v11.1) || !(F12 && true)) then
  let v12 : Bool := (F27 v10.1 v11.1)
  let v13 : Bool := (bif F12 then v12 else false)
  some (v13)
  else none
  else none
  else none
  else none
  else none
  else none
  else none
  else none
theorem ev8 (x0 : (List UInt8)) (x1 : (List (List UInt8))) (x2 : (List UInt8)) (x3 : (List (List UInt8))) (x4 : Int) (x5 : (List UInt8)) (x6 : Int) : ev2 env8 orc8 loops8 body8 (initSt 0 [⟨.str, x0⟩, ⟨(.list .str), x1⟩, ⟨.str, x2⟩, ⟨(.list .str), x3⟩, ⟨(.int .i64), x4⟩, ⟨.str, x5⟩, ⟨(.int .i64), x6⟩]) (retT [(14, .dat .bool)] [.bool] fun x => x.1) = G8 x0 x1 x2 x3 x4 x5 x6 := by kernel_rfl
def P8 (x0 : (List UInt8)) (x1 : (List (List UInt8))) (x2 : (List UInt8)) (x3 : (List (List UInt8))) (x4 : Int) (x5 : (List UInt8)) (x6 : Int) : Bool := (hold (G8 x0 x1 x2 x3 x4 x5 x6)).isSome
def F8 (x0 : (List UInt8)) (x1 : (List (List UInt8))) (x2 : (List UInt8)) (x3 : (List (List UInt8))) (x4 : Int) (x5 : (List UInt8)) (x6 : Int) : Bool := (hold (G8 x0 x1 x2 x3 x4 x5 x6)).getD default
theorem G8_some (x0 : (List UInt8)) (x1 : (List (List UInt8))) (x2 : (List UInt8)) (x3 : (List (List UInt8))) (x4 : Int) (x5 : (List UInt8)) (x6 : Int) (h : P8 x0 x1 x2 x3 x4 x5 x6 = true) : G8 x0 x1 x2 x3 x4 x5 x6 = some (F8 x0 x1 x2 x3 x4 x5 x6) := by
  unfold P8 at h; unfold F8
  rw [hold_eq] at h ⊢
  exact some_getD h
theorem P8_of (x0 : (List UInt8)) (x1 : (List (List UInt8))) (x2 : (List UInt8)) (x3 : (List (List UInt8))) (x4 : Int) (x5 : (List UInt8)) (x6 : Int) {r : Bool} (h : G8 x0 x1 x2 x3 x4 x5 x6 = some r) : P8 x0 x1 x2 x3 x4 x5 x6 = true := by unfold P8; rw [hold_eq, h]; rfl
theorem F8_of (x0 : (List UInt8)) (x1 : (List (List UInt8))) (x2 : (List UInt8)) (x3 : (List (List UInt8))) (x4 : Int) (x5 : (List UInt8)) (x6 : Int) {r : Bool} (h : G8 x0 x1 x2 x3 x4 x5 x6 = some r) : F8 x0 x1 x2 x3 x4 x5 x6 = r := by unfold F8; rw [hold_eq, h]; rfl
def spec8 : Spec := ⟨[.str, (.list .str), .str, (.list .str), (.int .i64), .str, (.int .i64)], [.dat .bool], fun | [a0, a1, a2, a3, a4, a5, a6] => P8 (a0.as .str) (a1.as (.list .str)) (a2.as .str) (a3.as (.list .str)) (a4.as (.int .i64)) (a5.as .str) (a6.as (.int .i64)) | _ => false, fun | [a0, a1, a2, a3, a4, a5, a6] => [⟨.bool, (F8 (a0.as .str) (a1.as (.list .str)) (a2.as .str) (a3.as (.list .str)) (a4.as (.int .i64)) (a5.as .str) (a6.as (.int .i64)))⟩] | _ => []⟩
theorem meets8 (hE : EnvOk Tryd.prog env8) (hm : Tryd.prog.follows .mixedOrders = true) : Meets Tryd.prog glob 8 spec8 :=
  meets_of_ev2 (O := orc8) (L := loops8) (c := body8) (slots := [14]) hE hm Tryd.func8 Tryd.call8 (by kernel_rfl) (by kernel_rfl) loops8_ok (rangesOk_nil (by kernel_rfl)) (by kernel_rfl) rfl (by decide) (fun ds hds hpre => by
  obtain ⟨x0, ds0, rfl, h0⟩ := datsS hds
  obtain ⟨x1, ds1, rfl, h1⟩ := datsS h0
  obtain ⟨x2, ds2, rfl, h2⟩ := datsS h1
  obtain ⟨x3, ds3, rfl, h3⟩ := datsS h2
  obtain ⟨x4, ds4, rfl, h4⟩ := datsS h3
  obtain ⟨x5, ds5, rfl, h5⟩ := datsS h4
  obtain ⟨x6, ds6, rfl, h6⟩ := datsS h5
  have h9 := dats0 h6; subst h9
  exact ev_ret (un := fun r => [⟨.bool, r⟩]) loops8_nat (fun _ => rfl) ((ev8 x0 x1 x2 x3 x4 x5 x6).trans (G8_some x0 x1 x2 x3 x4 x5 x6 hpre)))
theorem mixed : Tryd.prog.follows .mixedOrders = true := by kernel_rfl
theorem envOk72 : EnvOk Tryd.prog env72 := by
  refine ⟨tabOk, fun f S h => ?_, fun f l S h => ?_, fun f fs I h => ?_⟩
  · simp only [env72] at h
    cases h
  · simp only [env72] at h
    cases h
  · simp only [env72] at h
    cases h
theorem full72 : Meets Tryd.prog glob 72 spec72 := meets72 envOk72 mixed
theorem envOk59 : EnvOk Tryd.prog env59 := by
  refine ⟨tabOk, fun f S h => ?_, fun f l S h => ?_, fun f fs I h => ?_⟩
  · simp only [env59] at h
    split at h
    · cases h; exact full72
    · cases h
  · simp only [env59] at h
    cases h
  · simp only [env59] at h
    cases h
theorem full59 : Meets Tryd.prog glob 59 spec59 := meets59 envOk59 mixed
theorem envOk40 : EnvOk Tryd.prog env40 := by
  refine ⟨tabOk, fun f S h => ?_, fun f l S h => ?_, fun f fs I h => ?_⟩
  · simp only [env40] at h
    split at h
    · cases h; exact full59
    · cases h
  · simp only [env40] at h
    cases h
  · simp only [env40] at h
    cases h
theorem full40 : Meets Tryd.prog glob 40 spec40 := meets40 envOk40 mixed
theorem envOk53 : EnvOk Tryd.prog env53 := by
  refine ⟨tabOk, fun f S h => ?_, fun f l S h => ?_, fun f fs I h => ?_⟩
  · simp only [env53] at h
    cases h
  · simp only [env53] at h
    cases h
  · simp only [env53] at h
    cases h
theorem full53 : Meets2 Tryd.prog glob 53 sp53 := meets53 envOk53 mixed
theorem envOk54 : EnvOk Tryd.prog env54 := by
  refine ⟨tabOk, fun f S h => ?_, fun f l S h => ?_, fun f fs I h => ?_⟩
  · simp only [env54] at h
    cases h
  · simp only [env54] at h
    cases h
  · simp only [env54] at h
    cases h
theorem full54 : Meets2 Tryd.prog glob 54 sp54 := meets54 envOk54 mixed
theorem envOk66 : EnvOk Tryd.prog env66 := by
  refine ⟨tabOk, fun f S h => ?_, fun f l S h => ?_, fun f fs I h => ?_⟩
  · simp only [env66] at h
    cases h
  · simp only [env66] at h
    cases h
  · simp only [env66] at h
    cases h
theorem fullI66 : IterOk Tryd.prog glob 66 I66 := iter66 envOk66 mixed
theorem envOk77 : EnvOk Tryd.prog env77 := by
  refine ⟨tabOk, fun f S h => ?_, fun f l S h => ?_, fun f fs I h => ?_⟩
  · simp only [env77] at h
    cases h
  · simp only [env77] at h
    cases h
  · simp only [env77] at h
    cases h
theorem full77 : Meets Tryd.prog glob 77 spec77 := meets77 envOk77 mixed
theorem envOk68 : EnvOk Tryd.prog env68 := by
  refine ⟨tabOk, fun f S h => ?_, fun f l S h => ?_, fun f fs I h => ?_⟩
  · simp only [env68] at h
    split at h
    · cases h; exact full77
    · cases h
  · simp only [env68] at h
    cases h
  · simp only [env68] at h
    cases h
theorem full68 : Meets Tryd.prog glob 68 spec68 := meets68 envOk68 mixed
theorem envOk67 : EnvOk Tryd.prog env67 := by
  refine ⟨tabOk, fun f S h => ?_, fun f l S h => ?_, fun f fs I h => ?_⟩
  · simp only [env67] at h
    split at h
    · cases h; exact full68
    · cases h
  · simp only [env67] at h
    cases h
  · simp only [env67] at h
    cases h
theorem full67 : Meets2 Tryd.prog glob 67 sp67 := meets67 envOk67 mixed
theorem envOk55 : EnvOk Tryd.prog env55 := by
  refine ⟨tabOk, fun f S h => ?_, fun f l S h => ?_, fun f fs I h => ?_⟩
  · simp only [env55] at h
    split at h
    · cases h; exact full68
    · cases h
  · simp only [env55] at h
    split at h
    · cases h; exact full67
    · cases h
  · simp only [env55] at h
    cases h
theorem full55 : Meets2 Tryd.prog glob 55 sp55 := meets55 envOk55 mixed
theorem envOk56 : EnvOk Tryd.prog env56 := by
  refine ⟨tabOk, fun f S h => ?_, fun f l S h => ?_, fun f fs I h => ?_⟩
  · simp only [env56] at h
    cases h
  · simp only [env56] at h
    cases h
  · simp only [env56] at h
    cases h
theorem full56 : Meets Tryd.prog glob 56 spec56 := meets56 envOk56 mixed
theorem envOk30 : EnvOk Tryd.prog env30 := by
  refine ⟨tabOk, fun f S h => ?_, fun f l S h => ?_, fun f fs I h => ?_⟩
  · simp only [env30] at h
    split at h
    · cases h; exact full56
    · cases h
  · simp only [env30] at h
    split at h
    · cases h; exact full54
    · cases h; exact full55
    · cases h
  · simp only [env30] at h
    cases h
theorem full30 : Meets Tryd.prog glob 30 spec30 := meets30 envOk30 mixed fullI66
theorem envOk64 : EnvOk Tryd.prog env64 := by
  refine ⟨tabOk, fun f S h => ?_, fun f l S h => ?_, fun f fs I h => ?_⟩
  · simp only [env64] at h
    split at h
    · cases h; exact full30
    · cases h; exact full65
    · cases h
  · simp only [env64] at h
    cases h
  · simp only [env64] at h
    cases h
theorem full64 : Meets2 Tryd.prog glob 64 sp64 := meets64 envOk64 mixed
theorem envOk29 : EnvOk Tryd.prog env29 := by
  refine ⟨tabOk, fun f S h => ?_, fun f l S h => ?_, fun f fs I h => ?_⟩
  · simp only [env29] at h
    cases h
  · simp only [env29] at h
    split at h
    · cases h; exact full53
    · cases h; exact full64
    · cases h
  · simp only [env29] at h
    cases h
theorem full29 : Meets Tryd.prog glob 29 spec29 := meets29 envOk29 mixed
theorem envOk32 : EnvOk Tryd.prog env32 := by
  refine ⟨tabOk, fun f S h => ?_, fun f l S h => ?_, fun f fs I h => ?_⟩
  · simp only [env32] at h
    cases h
  · simp only [env32] at h
    split at h
    · cases h; exact full53
    · cases h; exact full64
    · cases h
  · simp only [env32] at h
    cases h
theorem full32 : Meets Tryd.prog glob 32 spec32 := meets32 envOk32 mixed
theorem envOk44 : EnvOk Tryd.prog env44 := by
  refine ⟨tabOk, fun f S h => ?_, fun f l S h => ?_, fun f fs I h => ?_⟩
  · simp only [env44] at h
    cases h
  · simp only [env44] at h
    cases h
  · simp only [env44] at h
    cases h
theorem full44 : Meets2 Tryd.prog glob 44 sp44 := meets44 envOk44 mixed
theorem envOk60 : EnvOk Tryd.prog env60 := by
  refine ⟨tabOk, fun f S h => ?_, fun f l S h => ?_, fun f fs I h => ?_⟩
  · simp only [env60] at h
    cases h
  · simp only [env60] at h
    cases h
  · simp only [env60] at h
    cases h
theorem fullI60 : IterOk Tryd.prog glob 60 I60 := iter60 envOk60 mixed
theorem envOk19 : EnvOk Tryd.prog env19 := by
  refine ⟨tabOk, fun f S h => ?_, fun f l S h => ?_, fun f fs I h => ?_⟩
  · simp only [env19] at h
    split at h
    · cases h; exact full29
    · cases h; exact full30
    · cases h; exact full32
    · cases h
  · simp only [env19] at h
    split at h
    · cases h; exact full44
    · cases h
  · simp only [env19] at h
    cases h
theorem full19 : Meets Tryd.prog glob 19 spec19 := meets19 envOk19 mixed fullI60
theorem envOk14 : EnvOk Tryd.prog env14 := by
  refine ⟨tabOk, fun f S h => ?_, fun f l S h => ?_, fun f fs I h => ?_⟩
  · simp only [env14] at h
    split at h
    · cases h; exact full19
    · cases h; exact full40
    · cases h
  · simp only [env14] at h
    cases h
  · simp only [env14] at h
    split at h
    · cases h; exact inOk41
    · cases h
theorem full14 : Meets Tryd.prog glob 14 spec14 := meets14 envOk14 mixed
theorem envOk16 : EnvOk Tryd.prog env16 := by
  refine ⟨tabOk, fun f S h => ?_, fun f l S h => ?_, fun f fs I h => ?_⟩
  · simp only [env16] at h
    split at h
    · cases h; exact full19
    · cases h; exact full40
    · cases h
  · simp only [env16] at h
    cases h
  · simp only [env16] at h
    split at h
    · cases h; exact inOk41
    · cases h
theorem full16 : Meets Tryd.prog glob 16 spec16 := meets16 envOk16 mixed
theorem envOk39 : EnvOk Tryd.prog env39 := by
  refine ⟨tabOk, fun f S h => ?_, fun f l S h => ?_, fun f fs I h => ?_⟩
  · simp only [env39] at h
    cases h
  · simp only [env39] at h
    cases h
  · simp only [env39] at h
    cases h
theorem full39 : Meets Tryd.prog glob 39 spec39 := meets39 envOk39 mixed
theorem envOk51 : EnvOk Tryd.prog env51 := by
  refine ⟨tabOk, fun f S h => ?_, fun f l S h => ?_, fun f fs I h => ?_⟩
  · simp only [env51] at h
    cases h
  · simp only [env51] at h
    cases h
  · simp only [env51] at h
    cases h
theorem full51 : Meets Tryd.prog glob 51 spec51 := meets51 envOk51 mixed
theorem envOk61 : EnvOk Tryd.prog env61 := by
  refine ⟨tabOk, fun f S h => ?_, fun f l S h => ?_, fun f fs I h => ?_⟩
  · simp only [env61] at h
    split at h
    · cases h; exact full51
    · cases h
  · simp only [env61] at h
    cases h
  · simp only [env61] at h
    cases h
theorem full61 : Meets2 Tryd.prog glob 61 sp61 := meets61 envOk61 mixed
theorem envOk73 : EnvOk Tryd.prog env73 := by
  refine ⟨tabOk, fun f S h => ?_, fun f l S h => ?_, fun f fs I h => ?_⟩
  · simp only [env73] at h
    cases h
  · simp only [env73] at h
    split at h
    · cases h; exact full61
    · cases h
  · simp only [env73] at h
    cases h
theorem full73 : Meets2 Tryd.prog glob 73 sp73 := meets73 envOk73 mixed
theorem envOk62 : EnvOk Tryd.prog env62 := by
  refine ⟨tabOk, fun f S h => ?_, fun f l S h => ?_, fun f fs I h => ?_⟩
  · simp only [env62] at h
    cases h
  · simp only [env62] at h
    split at h
    · cases h; exact full73
    · cases h
  · simp only [env62] at h
    cases h
theorem full62 : Meets2 Tryd.prog glob 62 sp62 := meets62 envOk62 mixed
theorem envOk45 : EnvOk Tryd.prog env45 := by
  refine ⟨tabOk, fun f S h => ?_, fun f l S h => ?_, fun f fs I h => ?_⟩
  · simp only [env45] at h
    cases h
  · simp only [env45] at h
    split at h
    · cases h; exact full62
    · cases h
  · simp only [env45] at h
    cases h
theorem full45 : Meets Tryd.prog glob 45 spec45 := meets45 envOk45 mixed
theorem envOk46 : EnvOk Tryd.prog env46 := by
  refine ⟨tabOk, fun f S h => ?_, fun f l S h => ?_, fun f fs I h => ?_⟩
  · simp only [env46] at h
    cases h
  · simp only [env46] at h
    cases h
  · simp only [env46] at h
    cases h
theorem full46 : Meets Tryd.prog glob 46 spec46 := meets46 envOk46 mixed
theorem envOk47 : EnvOk Tryd.prog env47 := by
  refine ⟨tabOk, fun f S h => ?_, fun f l S h => ?_, fun f fs I h => ?_⟩
  · simp only [env47] at h
    cases h
  · simp only [env47] at h
    cases h
  · simp only [env47] at h
    cases h
theorem full47 : Meets2 Tryd.prog glob 47 sp47 := meets47 envOk47 mixed
theorem envOk63 : EnvOk Tryd.prog env63 := by
  refine ⟨tabOk, fun f S h => ?_, fun f l S h => ?_, fun f fs I h => ?_⟩
  · simp only [env63] at h
    cases h
  · simp only [env63] at h
    cases h
  · simp only [env63] at h
    cases h
theorem fullI63 : IterOk Tryd.prog glob 63 I63 := iter63 envOk63 mixed
theorem envOk48 : EnvOk Tryd.prog env48 := by
  refine ⟨tabOk, fun f S h => ?_, fun f l S h => ?_, fun f fs I h => ?_⟩
  · simp only [env48] at h
    split at h
    · cases h; exact full32
    · cases h
  · simp only [env48] at h
    cases h
  · simp only [env48] at h
    cases h
theorem full48 : Meets Tryd.prog glob 48 spec48 := meets48 envOk48 mixed
theorem envOk21 : EnvOk Tryd.prog env21 := by
  refine ⟨tabOk, fun f S h => ?_, fun f l S h => ?_, fun f fs I h => ?_⟩
  · simp only [env21] at h
    split at h
    · cases h; exact full29
    · cases h; exact full40
    · cases h; exact full45
    · cases h; exact full46
    · cases h; exact full48
    · cases h
  · simp only [env21] at h
    split at h
    · cases h; exact full47
    · cases h
  · simp only [env21] at h
    cases h
theorem full21 : Meets Tryd.prog glob 21 spec21 := meets21 envOk21 mixed fullI63
theorem envOk23 : EnvOk Tryd.prog env23 := by
  refine ⟨tabOk, fun f S h => ?_, fun f l S h => ?_, fun f fs I h => ?_⟩
  · simp only [env23] at h
    split at h
    · cases h; exact full30
    · cases h; exact full40
    · cases h; exact full45
    · cases h; exact full46
    · cases h; exact full48
    · cases h; exact full51
    · cases h
  · simp only [env23] at h
    split at h
    · cases h; exact full47
    · cases h
  · simp only [env23] at h
    cases h
theorem full23 : Meets Tryd.prog glob 23 spec23 := meets23 envOk23 mixed fullI63
theorem envOk12 : EnvOk Tryd.prog env12 := by
  refine ⟨tabOk, fun f S h => ?_, fun f l S h => ?_, fun f fs I h => ?_⟩
  · simp only [env12] at h
    split at h
    · cases h; exact full14
    · cases h; exact full16
    · cases h; exact full19
    · cases h; exact full21
    · cases h; exact full23
    · cases h; exact full30
    · cases h; exact full39
    · cases h
  · simp only [env12] at h
    cases h
  · simp only [env12] at h
    cases h
theorem full12 : Meets Tryd.prog glob 12 spec12 := meets12 envOk12 mixed
theorem envOk13 : EnvOk Tryd.prog env13 := by
  refine ⟨tabOk, fun f S h => ?_, fun f l S h => ?_, fun f fs I h => ?_⟩
  · simp only [env13] at h
    cases h
  · simp only [env13] at h
    cases h
  · simp only [env13] at h
    cases h
theorem full13 : Meets Tryd.prog glob 13 spec13 := meets13 envOk13 mixed
theorem envOk31 : EnvOk Tryd.prog env31 := by
  refine ⟨tabOk, fun f S h => ?_, fun f l S h => ?_, fun f fs I h => ?_⟩
  · simp only [env31] at h
    cases h
  · simp only [env31] at h
    cases h
  · simp only [env31] at h
    cases h
theorem full31 : Meets Tryd.prog glob 31 spec31 := meets31 envOk31 mixed
theorem envOk27 : EnvOk Tryd.prog env27 := by
  refine ⟨tabOk, fun f S h => ?_, fun f l S h => ?_, fun f fs I h => ?_⟩
  · simp only [env27] at h
    split at h
    · cases h; exact full30
    · cases h
  · simp only [env27] at h
    cases h
  · simp only [env27] at h
    cases h
theorem full27 : Meets Tryd.prog glob 27 spec27 := meets27 envOk27 mixed
theorem envOk28 (PR : (List UInt8) → Int → Int → (List (List UInt8)) → Bool → Bool) (FR : (List UInt8) → Int → Int → (List (List UInt8)) → Bool → (List (List UInt8)) × (List UInt8)) (hself : Meets Tryd.prog glob 28 (specs28 PR FR)) : EnvOk Tryd.prog (envs28 PR FR) := by
  refine ⟨tabOk, fun f S h => ?_, fun f l S h => ?_, fun f fs I h => ?_⟩
  · simp only [envs28] at h
    split at h
    · cases h; exact hself
    · cases h; exact full31
    · cases h; exact full32
    · cases h
  · simp only [envs28] at h
    cases h
  · simp only [envs28] at h
    cases h
theorem spec28_eq : specs28 (fun x0 x1 x2 x3 x4 => (Gn28 recDepth x0 x1 x2 x3 x4).isSome) (fun x0 x1 x2 x3 x4 => (Gn28 recDepth x0 x1 x2 x3 x4).getD default) = spec28 := by
  unfold spec28 specs28 P28 F28 G28
  simp only [hold_eq]
theorem full28 : Meets Tryd.prog glob 28 spec28 := spec28_eq ▸ meetsn28 envOk28 mixed recDepth
theorem envOk8 : EnvOk Tryd.prog env8 := by
  refine ⟨tabOk, fun f S h => ?_, fun f l S h => ?_, fun f fs I h => ?_⟩
  · simp only [env8] at h
    split at h
    · cases h; exact full12
    · cases h; exact full13
    · cases h; exact full23
    · cases h; exact full27
    · cases h; exact full28
    · cases h
  · simp only [env8] at h
    cases h
  · simp only [env8] at h
    cases h
theorem full8 : Meets Tryd.prog glob 8 spec8 := meets8 envOk8 mixed
end
end Go.Ev.D
