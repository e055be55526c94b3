/- The functions of the program as functions of Lean, with the proofs that they are. -/
import Derived.Test.YtockaglkljgnhaaDoorF1
import Derived.KernelRfl
set_option linter.unusedSimpArgs false
set_option linter.unusedVariables false
set_option linter.deprecated false
namespace Go.Ev.D
open Go Go.Proofs Go.Ev
noncomputable section
noncomputable def L58_16_code : Code := (loopsOf body58).getD 2 .skip
theorem L58_16_round (s0 : (List Int)) (s1 : (List Int)) (s2 : (List Int)) (s3 : (List Int)) (s4 : Int) : ev2 env58 orc58 loops58 L58_16_code (mkSt L58_16_sh (s0, (s1, (s2, (s3, (s4, ())))))) (back L58_16_sh L58_16_pk L58_16_d) = L58_16_r s0 s1 s2 s3 s4 := by kernel_rfl
theorem L58_16_ok : SumOk env58 orc58 loops58 L58_16_code L58_16_sum := sumOk_lim (un := L58_16_un) loops58_nat (fun _ => rfl) L58_16_dok fun s => L58_16_round s.1 s.2.1 s.2.2.1 s.2.2.2.1 s.2.2.2.2
noncomputable def L58_25_code : Code := (loopsOf body58).getD 3 .skip
theorem L58_25_round (s0 : (List Int)) (s1 : (List Int)) (s2 : (List Int)) (s3 : Int) : ev2 env58 orc58 loops58 L58_25_code (mkSt L58_25_sh (s0, (s1, (s2, (s3, ()))))) (back L58_25_sh L58_25_pk L58_25_d) = L58_25_r s0 s1 s2 s3 := by kernel_rfl
theorem L58_25_ok : SumOk env58 orc58 loops58 L58_25_code L58_25_sum := sumOk_lim (un := L58_25_un) loops58_nat (fun _ => rfl) L58_25_dok fun s => L58_25_round s.1 s.2.1 s.2.2.1 s.2.2.2
theorem loops58_all : loopsOf body58 = [L58_3_code, L58_7_code, L58_16_code, L58_25_code] := by kernel_rfl
theorem L58_3_key : lookL loops58 (keyOf L58_3_code) = some L58_3_sum := by kernel_rfl
theorem L58_7_key : lookL loops58 (keyOf L58_7_code) = some L58_7_sum := by kernel_rfl
theorem L58_16_key : lookL loops58 (keyOf L58_16_code) = some L58_16_sum := by kernel_rfl
theorem L58_25_key : lookL loops58 (keyOf L58_25_code) = some L58_25_sum := by kernel_rfl
theorem loops58_ok : LoopsOk env58 orc58 loops58 body58 := by
  intro c hc f hf
  rw [loops58_all] at hc
  simp only [List.mem_cons, List.not_mem_nil, or_false] at hc
  rcases hc with rfl | rfl | rfl | rfl
  · rw [L58_3_key] at hf; cases hf; exact L58_3_ok
  · rw [L58_7_key] at hf; cases hf; exact L58_7_ok
  · rw [L58_16_key] at hf; cases hf; exact L58_16_ok
  · rw [L58_25_key] at hf; cases hf; exact L58_25_ok
def G58 (x0 : (List Int)) (x1 : (List Int)) : Option ((List Int)) :=
  let v1 : (List Int) := ([] : (List Int))
  let v2 : (List Int) := ([] : (List Int))
  Option.bind (L58_3 (x0, x1, v2, (0 : Int))) fun (r28 : (List Int) × (List Int) × (List Int) × Int) =>
  Option.bind (L58_7 (r28.1, r28.2.2.1, (16 : Int))) fun (r62 : (List Int) × (List Int) × Int) =>
  bif (P70 ) then
  let v63 : (List Int) := ([] : (List Int))
  bif (decide (List.length (List.take (List.length v63) v63) + List.length r62.1 ≤ 100000000000)) then
  let v64 : (List Int) := ((List.take (List.length v63) v63) ++ r62.1)
  Option.bind (L58_16 (r62.1, r62.2.1, F70, v64, (0 : Int))) fun (r110 : (List Int) × (List Int) × (List Int) × (List Int) × Int) =>
  let v111 : (List Int) := ([] : (List Int))
  Option.bind (L58_25 (r110.1, r110.2.2.2.1, v111, (0 : Int))) fun (r119 : (List Int) × (List Int) × (List Int) × Int) =>
  let v120 : (List Int) := (List.take (List.length r119.2.2.1) r119.2.2.1)
  some (v120)
  else none
  else none
theorem ev58 (x0 : (List Int)) (x1 : (List Int)) : ev2 env58 orc58 loops58 body58 (initSt 0 [⟨(.list (.int .u32)), x0⟩, ⟨(.list (.int .u8)), x1⟩]) (retT [(4, .dat (.list (.int .u32)))] [(.list (.int .u32))] fun x => x.1) = G58 x0 x1 := by kernel_rfl
def P58 (x0 : (List Int)) (x1 : (List Int)) : Bool := (hold (G58 x0 x1)).isSome
def F58 (x0 : (List Int)) (x1 : (List Int)) : (List Int) := (hold (G58 x0 x1)).getD default
theorem G58_some (x0 : (List Int)) (x1 : (List Int)) (h : P58 x0 x1 = true) : G58 x0 x1 = some (F58 x0 x1) := by
  unfold P58 at h; unfold F58
  rw [hold_eq] at h ⊢
  exact some_getD h
theorem P58_of (x0 : (List Int)) (x1 : (List Int)) {r : (List Int)} (h : G58 x0 x1 = some r) : P58 x0 x1 = true := by unfold P58; rw [hold_eq, h]; rfl
theorem F58_of (x0 : (List Int)) (x1 : (List Int)) {r : (List Int)} (h : G58 x0 x1 = some r) : F58 x0 x1 = r := by unfold F58; rw [hold_eq, h]; rfl
def spec58 : Spec := ⟨[(.list (.int .u32)), (.list (.int .u8))], [.dat (.list (.int .u32))], fun | [a0, a1] => P58 (a0.as (.list (.int .u32))) (a1.as (.list (.int .u8))) | _ => false, fun | [a0, a1] => [⟨(.list (.int .u32)), (F58 (a0.as (.list (.int .u32))) (a1.as (.list (.int .u8))))⟩] | _ => []⟩
theorem meets58 (hE : EnvOk Tryd.prog env58) (hm : Tryd.prog.follows .mixedOrders = true) : Meets Tryd.prog glob 58 spec58 :=
  meets_of_ev2 (O := orc58) (L := loops58) (c := body58) (slots := [4]) hE hm Tryd.func58 Tryd.call58 (by kernel_rfl) (by kernel_rfl) loops58_ok (rangesOk_nil (by kernel_rfl)) (by kernel_rfl) rfl (by decide) (fun ds hds hpre => by
  obtain ⟨x0, ds0, rfl, h0⟩ := datsS hds
  obtain ⟨x1, ds1, rfl, h1⟩ := datsS h0
  have h9 := dats0 h1; subst h9
  exact ev_ret (un := fun r => [⟨(.list (.int .u32)), r⟩]) loops58_nat (fun _ => rfl) ((ev58 x0 x1).trans (G58_some x0 x1 hpre)))
def env33 : Env := {
  tab := tab
  glob := glob
  spec := fun
    | 57 => some spec57
    | 58 => some spec58
    | _ => none }

def orc33 : Orc := ⟨56, fun _ => none, fun
  | 0 => kp [0] []
  | 1 => kp [0, 3] []
  | 2 => kp [3, 4] []
  | 3 => [(.slot 3, .frz)] ++ kp [4, 5] []
  | 4 => kp [3, 4, 5, 14] []
  | 5 => kp [3, 4, 5] []
  | 6 => kp [3, 4, 5] []
  | 7 => kp [3, 6] []
  | 8 => kp [3, 6, 7] []
  | 9 => kp [3, 6, 7, 25] []
  | 10 => kp [3, 6, 7] []
  | 11 => kp [3, 6, 7] []
  | 12 => kp [2] []
  | _ => [], fun | _ => false⟩
noncomputable def body33 : Code := Tryd.f33.body.getD .skip
def L33_9_sh : Shape := [(.slot 3, .dat (.list (.int .u32))), (.slot 6, .own 5 (.int .u8)), (.slot 7, .dat (.int .i64))]
def L33_9_x0 : Shape := [(.slot 3, .dat (.list (.int .u32))), (.slot 6, .own 5 (.int .u8)), (.slot 7, .dat (.int .i64))]
def L33_9_pk (s : Tup L33_9_sh) : (List Int) × (List Int) × Int := (s.1, s.2.1, s.2.2.1)
def L33_9_un (s : (List Int) × (List Int) × Int) : Tup L33_9_sh := (s.1, (s.2.1, (s.2.2, ())))
def L33_9_leave (x : ((List Int) × (List Int) × Int)) (R : Type) (K : Cont R) : Option R := match x with
  | a => K (.exit 2) (mkSt L33_9_x0 (a.1, (a.2.1, (a.2.2, ()))))
def L33_9_d (e : Exit) (st : St) : Option (((List Int) × (List Int) × Int)) := match e with
  | .exit 2 => (match unSt L33_9_x0 st with
    | some s => some (s.1, s.2.1, s.2.2.1)
    | none => none)
  | _ => none
def L33_9_r (s0 : (List Int)) (s1 : (List Int)) (s2 : Int) : Option (((List Int) × (List Int) × Int) ⊕ (((List Int) × (List Int) × Int))) :=
  let v11 : Bool := (decide (s2 < (8 : Int)))
  bif v11 then
  bif (decide (0 ≤ s2) && decide (s2 < List.length s0)) then
  let v12 : Int := (List.getD s0 (Int.toNat s2) (0 : Int))
  let v13 : Int := (Int.fdiv v12 (2 ^ min (Int.toNat (24 : Int)) (IntKind.u32.bits)))
  let v14 : Int := (IntKind.u8.wrap v13)
  bif (decide (0 ≤ s2) && decide (s2 < List.length s0)) then
  let v15 : Int := (List.getD s0 (Int.toNat s2) (0 : Int))
  let v16 : Int := (Int.fdiv v15 (2 ^ min (Int.toNat (16 : Int)) (IntKind.u32.bits)))
  let v17 : Int := (IntKind.u8.wrap v16)
  bif (decide (0 ≤ s2) && decide (s2 < List.length s0)) then
  let v18 : Int := (List.getD s0 (Int.toNat s2) (0 : Int))
  let v19 : Int := (Int.fdiv v18 (2 ^ min (Int.toNat (8 : Int)) (IntKind.u32.bits)))
  let v20 : Int := (IntKind.u8.wrap v19)
  bif (decide (0 ≤ s2) && decide (s2 < List.length s0)) then
  let v21 : Int := (List.getD s0 (Int.toNat s2) (0 : Int))
  let v22 : Int := (IntKind.u8.wrap v21)
  let v23 : (List Int) := (List.set (List.set (List.set (List.set (List.replicate 4 (0 : Int)) 0 v14) 1 v17) 2 v20) 3 v22)
  bif (decide (List.length (List.take (List.length s1) s1) + List.length v23 ≤ 100000000000)) then
  let v24 : (List Int) := ((List.take (List.length s1) s1) ++ v23)
  let v25 : Int := (IntKind.i64.wrap (s2 + (1 : Int)))
  some (.inl (s0, v24, v25))
  else none
  else none
  else none
  else none
  else none
  else
  some (.inr (s0, s1, s2))
def L33_9 : (List Int) × (List Int) × Int → Option (((List Int) × (List Int) × Int)) := Lim (fun s => L33_9_r s.1 s.2.1 s.2.2)
def L33_9_sum : Sum := limSum L33_9_sh L33_9_pk (fun s => L33_9_r s.1 s.2.1 s.2.2) L33_9_leave
theorem L33_9_nat : Natural L33_9_sum := natural_lim fun x R K => by
  rfl
theorem L33_9_dok : ∀ e st x, e ≠ .normal → L33_9_d e st = some x → ∀ R (K : Cont R), K e st = L33_9_leave x R K := by
  intro e st x _ h R K
  unfold L33_9_d at h
  split at h
  · split at h
    · rename_i s hs; cases h; rw [unSt_some hs]; rfl
    · cases h
  · cases h
def L33_4_sh : Shape := [(.slot 3, .dat (.list (.int .u32))), (.slot 4, .dat (.list (.int .u8))), (.slot 5, .dat (.int .i64))]
def L33_4_x0 : Shape := [(.slot 3, .dat (.list (.int .u32))), (.slot 4, .dat (.list (.int .u8))), (.slot 5, .dat (.int .i64))]
def L33_4_pk (s : Tup L33_4_sh) : (List Int) × (List Int) × Int := (s.1, s.2.1, s.2.2.1)
def L33_4_un (s : (List Int) × (List Int) × Int) : Tup L33_4_sh := (s.1, (s.2.1, (s.2.2, ())))
def L33_4_leave (x : ((List Int) × (List Int) × Int)) (R : Type) (K : Cont R) : Option R := match x with
  | a => K (.exit 0) (mkSt L33_4_x0 (a.1, (a.2.1, (a.2.2, ()))))
def L33_4_d (e : Exit) (st : St) : Option (((List Int) × (List Int) × Int)) := match e with
  | .exit 0 => (match unSt L33_4_x0 st with
    | some s => some (s.1, s.2.1, s.2.2.1)
    | none => none)
  | _ => none
def L33_4_r (s0 : (List Int)) (s1 : (List Int)) (s2 : Int) : Option (((List Int) × (List Int) × Int) ⊕ (((List Int) × (List Int) × Int))) :=
  let v3 : Int := ((List.length s1 : Nat) : Int)
  let v4 : Bool := (decide (s2 < v3))
  bif v4 then
  let v5 : Int := (IntKind.i64.wrap (s2 + (64 : Int)))
  bif (sliceTest s2 v5 (List.length s1)) then
  let v6 : (List Int) := (cut s1 s2 v5)
  bif (P58 s0 v6) then
  let v7 : (List Int) := (F58 s0 v6)
  let v8 : Int := (IntKind.i64.wrap (s2 + (64 : Int)))
  some (.inl (v7, s1, v8))
  else none
  else none
  else
  some (.inr (s0, s1, s2))
def L33_4 : (List Int) × (List Int) × Int → Option (((List Int) × (List Int) × Int)) := Lim (fun s => L33_4_r s.1 s.2.1 s.2.2)
def L33_4_sum : Sum := limSum L33_4_sh L33_4_pk (fun s => L33_4_r s.1 s.2.1 s.2.2) L33_4_leave
theorem L33_4_nat : Natural L33_4_sum := natural_lim fun x R K => by
  rfl
theorem L33_4_dok : ∀ e st x, e ≠ .normal → L33_4_d e st = some x → ∀ R (K : Cont R), K e st = L33_4_leave x R K := by
  intro e st x _ h R K
  unfold L33_4_d at h
  split at h
  · split at h
    · rename_i s hs; cases h; rw [unSt_some hs]; rfl
    · cases h
  · cases h
def loops33 : Nat → Option (Sum) := fun | 4 => some L33_4_sum | 9 => some L33_9_sum | _ => none
theorem loops33_nat : ∀ q f, loops33 q = some f → Natural f := by
  intro q f h
  unfold loops33 at h
  split at h
  · cases h; exact L33_4_nat
  · cases h; exact L33_9_nat
  · cases h
noncomputable def L33_4_code : Code := (loopsOf body33).getD 0 .skip
theorem L33_4_round (s0 : (List Int)) (s1 : (List Int)) (s2 : Int) : ev2 env33 orc33 loops33 L33_4_code (mkSt L33_4_sh (s0, (s1, (s2, ())))) (back L33_4_sh L33_4_pk L33_4_d) = L33_4_r s0 s1 s2 := by kernel_rfl
theorem L33_4_ok : SumOk env33 orc33 loops33 L33_4_code L33_4_sum := sumOk_lim (un := L33_4_un) loops33_nat (fun _ => rfl) L33_4_dok fun s => L33_4_round s.1 s.2.1 s.2.2
noncomputable def L33_9_code : Code := (loopsOf body33).getD 1 .skip
theorem L33_9_round (s0 : (List Int)) (s1 : (List Int)) (s2 : Int) : ev2 env33 orc33 loops33 L33_9_code (mkSt L33_9_sh (s0, (s1, (s2, ())))) (back L33_9_sh L33_9_pk L33_9_d) = L33_9_r s0 s1 s2 := by kernel_rfl
theorem L33_9_ok : SumOk env33 orc33 loops33 L33_9_code L33_9_sum := sumOk_lim (un := L33_9_un) loops33_nat (fun _ => rfl) L33_9_dok fun s => L33_9_round s.1 s.2.1 s.2.2
theorem loops33_all : loopsOf body33 = [L33_4_code, L33_9_code] := by kernel_rfl
theorem L33_4_key : lookL loops33 (keyOf L33_4_code) = some L33_4_sum := by kernel_rfl
theorem L33_9_key : lookL loops33 (keyOf L33_9_code) = some L33_9_sum := by kernel_rfl
theorem loops33_ok : LoopsOk env33 orc33 loops33 body33 := by
  intro c hc f hf
  rw [loops33_all] at hc
  simp only [List.mem_cons, List.not_mem_nil, or_false] at hc
  rcases hc with rfl | rfl
  · rw [L33_4_key] at hf; cases hf; exact L33_4_ok
  · rw [L33_9_key] at hf; cases hf; exact L33_9_ok
def G33 (x0 : (List UInt8)) : Option ((List UInt8)) :=
  let v1 : (List Int) := (List.set (List.set (List.set (List.set (List.set (List.set (List.set (List.set (List.replicate 8 (0 : Int)) 0 (1779033703 : Int)) 1 (3144134277 : Int)) 2 (1013904242 : Int)) 3 (2773480762 : Int)) 4 (1359893119 : Int)) 5 (2600822924 : Int)) 6 (528734635 : Int)) 7 (1541459225 : Int))
  bif (P57 x0) then
  let v2 : (List Int) := (F57 x0)
  Option.bind (L33_4 (v1, v2, (0 : Int))) fun (r9 : (List Int) × (List Int) × Int) =>
  let v10 : (List Int) := ([] : (List Int))
  Option.bind (L33_9 (r9.1, v10, (0 : Int))) fun (r26 : (List Int) × (List Int) × Int) =>
  let v27 : (List UInt8) := (List.map (fun (n : Int) => UInt8.ofNat n.toNat) (List.take (List.length r26.2.1) r26.2.1))
  some (v27)
  else none
theorem ev33 (x0 : (List UInt8)) : ev2 env33 orc33 loops33 body33 (initSt 0 [⟨.str, x0⟩]) (retT [(2, .dat .str)] [.str] fun x => x.1) = G33 x0 := by kernel_rfl
def P33 (x0 : (List UInt8)) : Bool := (hold (G33 x0)).isSome
def F33 (x0 : (List UInt8)) : (List UInt8) := (hold (G33 x0)).getD default
theorem G33_some (x0 : (List UInt8)) (h : P33 x0 = true) : G33 x0 = some (F33 x0) := by
  unfold P33 at h; unfold F33
  rw [hold_eq] at h ⊢
  exact some_getD h
theorem P33_of (x0 : (List UInt8)) {r : (List UInt8)} (h : G33 x0 = some r) : P33 x0 = true := by unfold P33; rw [hold_eq, h]; rfl
theorem F33_of (x0 : (List UInt8)) {r : (List UInt8)} (h : G33 x0 = some r) : F33 x0 = r := by unfold F33; rw [hold_eq, h]; rfl
def spec33 : Spec := ⟨[.str], [.dat .str], fun | [a0] => P33 (a0.as .str) | _ => false, fun | [a0] => [⟨.str, (F33 (a0.as .str))⟩] | _ => []⟩
theorem meets33 (hE : EnvOk Tryd.prog env33) (hm : Tryd.prog.follows .mixedOrders = true) : Meets Tryd.prog glob 33 spec33 :=
  meets_of_ev2 (O := orc33) (L := loops33) (c := body33) (slots := [2]) hE hm Tryd.func33 Tryd.call33 (by kernel_rfl) (by kernel_rfl) loops33_ok (rangesOk_nil (by kernel_rfl)) (by kernel_rfl) rfl (by decide) (fun ds hds hpre => by
  obtain ⟨x0, ds0, rfl, h0⟩ := datsS hds
  have h9 := dats0 h0; subst h9
  exact ev_ret (un := fun r => [⟨.str, r⟩]) loops33_nat (fun _ => rfl) ((ev33 x0).trans (G33_some x0 hpre)))
def env34 : Env := {
  tab := tab
  glob := glob
  spec := fun
    | 33 => some spec33
    | _ => none }

def orc34 : Orc := ⟨6, fun _ => none, fun
  | 0 => kp [0] []
  | 1 => kp [2] []
  | _ => [], fun | _ => false⟩
noncomputable def body34 : Code := Tryd.f34.body.getD .skip
def loops34 : Nat → Option (Sum) := fun | _ => none
theorem loops34_nat : ∀ q f, loops34 q = some f → Natural f := by
  intro q f h
  cases h
theorem loops34_ok : LoopsOk env34 orc34 loops34 body34 := loopsOk_nil (by kernel_rfl)
def G34 (x0 : (List UInt8)) : Option ((List UInt8)) :=
  bif (decide (List.length ([0] : List UInt8) + List.length x0 ≤ 9223372036854775807)) then
  let v1 : (List UInt8) := (([0] : List UInt8) ++ x0)
  bif (P33 v1) then
  let v2 : (List UInt8) := (F33 v1)
  some (v2)
  else none
  else none
theorem ev34 (x0 : (List UInt8)) : ev2 env34 orc34 loops34 body34 (initSt 0 [⟨.str, x0⟩]) (retT [(2, .dat .str)] [.str] fun x => x.1) = G34 x0 := by kernel_rfl
def P34 (x0 : (List UInt8)) : Bool := (hold (G34 x0)).isSome
def F34 (x0 : (List UInt8)) : (List UInt8) := (hold (G34 x0)).getD default
theorem G34_some (x0 : (List UInt8)) (h : P34 x0 = true) : G34 x0 = some (F34 x0) := by
  unfold P34 at h; unfold F34
  rw [hold_eq] at h ⊢
  exact some_getD h
theorem P34_of (x0 : (List UInt8)) {r : (List UInt8)} (h : G34 x0 = some r) : P34 x0 = true := by unfold P34; rw [hold_eq, h]; rfl
theorem F34_of (x0 : (List UInt8)) {r : (List UInt8)} (h : G34 x0 = some r) : F34 x0 = r := by unfold F34; rw [hold_eq, h]; rfl
def spec34 : Spec := ⟨[.str], [.dat .str], fun | [a0] => P34 (a0.as .str) | _ => false, fun | [a0] => [⟨.str, (F34 (a0.as .str))⟩] | _ => []⟩
theorem meets34 (hE : EnvOk Tryd.prog env34) (hm : Tryd.prog.follows .mixedOrders = true) : Meets Tryd.prog glob 34 spec34 :=
  meets_of_ev2 (O := orc34) (L := loops34) (c := body34) (slots := [2]) hE hm Tryd.func34 Tryd.call34 (by kernel_rfl) (by kernel_rfl) loops34_ok (rangesOk_nil (by kernel_rfl)) (by kernel_rfl) rfl (by decide) (fun ds hds hpre => by
  obtain ⟨x0, ds0, rfl, h0⟩ := datsS hds
  have h9 := dats0 h0; subst h9
  exact ev_ret (un := fun r => [⟨.str, r⟩]) loops34_nat (fun _ => rfl) ((ev34 x0).trans (G34_some x0 hpre)))
def env35 : Env := {
  tab := tab
  glob := glob
  spec := fun
    | 33 => some spec33
    | _ => none }

def orc35 : Orc := ⟨10, fun _ => none, fun
  | 0 => kp [0, 1] []
  | 1 => kp [4] []
  | _ => [], fun | _ => false⟩
noncomputable def body35 : Code := Tryd.f35.body.getD .skip
def loops35 : Nat → Option (Sum) := fun | _ => none
theorem loops35_nat : ∀ q f, loops35 q = some f → Natural f := by
  intro q f h
  cases h
theorem loops35_ok : LoopsOk env35 orc35 loops35 body35 := loopsOk_nil (by kernel_rfl)
def G35 (x0 : (List UInt8)) (x1 : (List UInt8)) : Option ((List UInt8)) :=
  bif (decide (List.length ([1] : List UInt8) + List.length x0 ≤ 9223372036854775807)) then
  let v1 : (List UInt8) := (([1] : List UInt8) ++ x0)
  bif (decide (List.length v1 + List.length x1 ≤ 9223372036854775807)) then
  let v2 : (List UInt8) := (v1 ++ x1)
  bif (P33 v2) then
  let v3 : (List UInt8) := (F33 v2)
  some (v3)
  else none
  else none
  else none
theorem ev35 (x0 : (List UInt8)) (x1 : (List UInt8)) : ev2 env35 orc35 loops35 body35 (initSt 0 [⟨.str, x0⟩, ⟨.str, x1⟩]) (retT [(4, .dat .str)] [.str] fun x => x.1) = G35 x0 x1 := by kernel_rfl
def P35 (x0 : (List UInt8)) (x1 : (List UInt8)) : Bool := (hold (G35 x0 x1)).isSome
def F35 (x0 : (List UInt8)) (x1 : (List UInt8)) : (List UInt8) := (hold (G35 x0 x1)).getD default
theorem G35_some (x0 : (List UInt8)) (x1 : (List UInt8)) (h : P35 x0 x1 = true) : G35 x0 x1 = some (F35 x0 x1) := by
  unfold P35 at h; unfold F35
  rw [hold_eq] at h ⊢
  exact some_getD h
theorem P35_of (x0 : (List UInt8)) (x1 : (List UInt8)) {r : (List UInt8)} (h : G35 x0 x1 = some r) : P35 x0 x1 = true := by unfold P35; rw [hold_eq, h]; rfl
theorem F35_of (x0 : (List UInt8)) (x1 : (List UInt8)) {r : (List UInt8)} (h : G35 x0 x1 = some r) : F35 x0 x1 = r := by unfold F35; rw [hold_eq, h]; rfl
def spec35 : Spec := ⟨[.str, .str], [.dat .str], fun | [a0, a1] => P35 (a0.as .str) (a1.as .str) | _ => false, fun | [a0, a1] => [⟨.str, (F35 (a0.as .str) (a1.as .str))⟩] | _ => []⟩
theorem meets35 (hE : EnvOk Tryd.prog env35) (hm : Tryd.prog.follows .mixedOrders = true) : Meets Tryd.prog glob 35 spec35 :=
  meets_of_ev2 (O := orc35) (L := loops35) (c := body35) (slots := [4]) hE hm Tryd.func35 Tryd.call35 (by kernel_rfl) (by kernel_rfl) loops35_ok (rangesOk_nil (by kernel_rfl)) (by kernel_rfl) rfl (by decide) (fun ds hds hpre => by
  obtain ⟨x0, ds0, rfl, h0⟩ := datsS hds
  obtain ⟨x1, ds1, rfl, h1⟩ := datsS h0
  have h9 := dats0 h1; subst h9
  exact ev_ret (un := fun r => [⟨.str, r⟩]) loops35_nat (fun _ => rfl) ((ev35 x0 x1).trans (G35_some x0 x1 hpre)))
def env36 : Env := {
  tab := tab
  glob := glob
  spec := fun
    | _ => none
  spec2 := fun
    | 53, [] => some sp53
    | 64, [] => some sp64
    | _, _ => none }

def orc36 : Orc := ⟨10, fun _ => none, fun
  | 0 => kp [0, 1] []
  | 1 => kp [4] []
  | _ => [], fun | _ => false⟩
noncomputable def body36 : Code := Tryd.f36.body.getD .skip
def loops36 : Nat → Option (Sum) := fun | _ => none
theorem loops36_nat : ∀ q f, loops36 q = some f → Natural f := by
  intro q f h
  cases h
theorem loops36_ok : LoopsOk env36 orc36 loops36 body36 := loopsOk_nil (by kernel_rfl)
def G36 (x0 : (List UInt8)) (x1 : (List UInt8)) : Option ((List UInt8)) :=
  bif (P53 ([2] : List UInt8)) then
  let q1 : (Unit × (Unit × ((List UInt8) × Unit))) := F53 ([2] : List UInt8)
  let v2 : (List (List UInt8)) := (List.set (List.set (List.replicate 2 ([] : List UInt8)) 0 x0) 1 x1)
  bif (P64 v2 q1.2.2.1) then
  let q3 : ((List UInt8) × (Unit × ((List UInt8) × Unit))) := F64 v2 q1.2.2.1
  some (q3.1)
  else none
  else none
theorem ev36 (x0 : (List UInt8)) (x1 : (List UInt8)) : ev2 env36 orc36 loops36 body36 (initSt 0 [⟨.str, x0⟩, ⟨.str, x1⟩]) (retT [(4, .dat .str)] [.str] fun x => x.1) = G36 x0 x1 := by kernel_rfl
def P36 (x0 : (List UInt8)) (x1 : (List UInt8)) : Bool := (hold (G36 x0 x1)).isSome
def F36 (x0 : (List UInt8)) (x1 : (List UInt8)) : (List UInt8) := (hold (G36 x0 x1)).getD default
theorem G36_some (x0 : (List UInt8)) (x1 : (List UInt8)) (h : P36 x0 x1 = true) : G36 x0 x1 = some (F36 x0 x1) := by
  unfold P36 at h; unfold F36
  rw [hold_eq] at h ⊢
  exact some_getD h
theorem P36_of (x0 : (List UInt8)) (x1 : (List UInt8)) {r : (List UInt8)} (h : G36 x0 x1 = some r) : P36 x0 x1 = true := by unfold P36; rw [hold_eq, h]; rfl
theorem F36_of (x0 : (List UInt8)) (x1 : (List UInt8)) {r : (List UInt8)} (h : G36 x0 x1 = some r) : F36 x0 x1 = r := by unfold F36; rw [hold_eq, h]; rfl
def spec36 : Spec := ⟨[.str, .str], [.dat .str], fun | [a0, a1] => P36 (a0.as .str) (a1.as .str) | _ => false, fun | [a0, a1] => [⟨.str, (F36 (a0.as .str) (a1.as .str))⟩] | _ => []⟩
theorem meets36 (hE : EnvOk Tryd.prog env36) (hm : Tryd.prog.follows .mixedOrders = true) : Meets Tryd.prog glob 36 spec36 :=
  meets_of_ev2 (O := orc36) (L := loops36) (c := body36) (slots := [4]) hE hm Tryd.func36 Tryd.call36 (by kernel_rfl) (by kernel_rfl) loops36_ok (rangesOk_nil (by kernel_rfl)) (by kernel_rfl) rfl (by decide) (fun ds hds hpre => by
  obtain ⟨x0, ds0, rfl, h0⟩ := datsS hds
  obtain ⟨x1, ds1, rfl, h1⟩ := datsS h0
  have h9 := dats0 h1; subst h9
  exact ev_ret (un := fun r => [⟨.str, r⟩]) loops36_nat (fun _ => rfl) ((ev36 x0 x1).trans (G36_some x0 x1 hpre)))
def env37 : Env := {
  tab := tab
  glob := glob
  spec := fun
    | 33 => some spec33
    | _ => none }

def orc37 : Orc := ⟨10, fun _ => none, fun
  | 0 => kp [0, 1] []
  | 1 => kp [4] []
  | _ => [], fun | _ => false⟩
noncomputable def body37 : Code := Tryd.f37.body.getD .skip
def loops37 : Nat → Option (Sum) := fun | _ => none
theorem loops37_nat : ∀ q f, loops37 q = some f → Natural f := by
  intro q f h
  cases h
theorem loops37_ok : LoopsOk env37 orc37 loops37 body37 := loopsOk_nil (by kernel_rfl)
def G37 (x0 : (List UInt8)) (x1 : (List UInt8)) : Option ((List UInt8)) :=
  bif (decide (List.length ([2] : List UInt8) + List.length x0 ≤ 9223372036854775807)) then
  let v1 : (List UInt8) := (([2] : List UInt8) ++ x0)
  bif (decide (List.length v1 + List.length x1 ≤ 9223372036854775807)) then
  let v2 : (List UInt8) := (v1 ++ x1)
  bif (P33 v2) then
  let v3 : (List UInt8) := (F33 v2)
  some (v3)
  else none
  else none
  else none
theorem ev37 (x0 : (List UInt8)) (x1 : (List UInt8)) : ev2 env37 orc37 loops37 body37 (initSt 0 [⟨.str, x0⟩, ⟨.str, x1⟩]) (retT [(4, .dat .str)] [.str] fun x => x.1) = G37 x0 x1 := by kernel_rfl
def P37 (x0 : (List UInt8)) (x1 : (List UInt8)) : Bool := (hold (G37 x0 x1)).isSome
def F37 (x0 : (List UInt8)) (x1 : (List UInt8)) : (List UInt8) := (hold (G37 x0 x1)).getD default
theorem G37_some (x0 : (List UInt8)) (x1 : (List UInt8)) (h : P37 x0 x1 = true) : G37 x0 x1 = some (F37 x0 x1) := by
  unfold P37 at h; unfold F37
  rw [hold_eq] at h ⊢
  exact some_getD h
theorem P37_of (x0 : (List UInt8)) (x1 : (List UInt8)) {r : (List UInt8)} (h : G37 x0 x1 = some r) : P37 x0 x1 = true := by unfold P37; rw [hold_eq, h]; rfl
theorem F37_of (x0 : (List UInt8)) (x1 : (List UInt8)) {r : (List UInt8)} (h : G37 x0 x1 = some r) : F37 x0 x1 = r := by unfold F37; rw [hold_eq, h]; rfl
def spec37 : Spec := ⟨[.str, .str], [.dat .str], fun | [a0, a1] => P37 (a0.as .str) (a1.as .str) | _ => false, fun | [a0, a1] => [⟨.str, (F37 (a0.as .str) (a1.as .str))⟩] | _ => []⟩
theorem meets37 (hE : EnvOk Tryd.prog env37) (hm : Tryd.prog.follows .mixedOrders = true) : Meets Tryd.prog glob 37 spec37 :=
  meets_of_ev2 (O := orc37) (L := loops37) (c := body37) (slots := [4]) hE hm Tryd.func37 Tryd.call37 (by kernel_rfl) (by kernel_rfl) loops37_ok (rangesOk_nil (by kernel_rfl)) (by kernel_rfl) rfl (by decide) (fun ds hds hpre => by
  obtain ⟨x0, ds0, rfl, h0⟩ := datsS hds
  obtain ⟨x1, ds1, rfl, h1⟩ := datsS h0
  have h9 := dats0 h1; subst h9
  exact ev_ret (un := fun r => [⟨.str, r⟩]) loops37_nat (fun _ => rfl) ((ev37 x0 x1).trans (G37_some x0 x1 hpre)))
def env10 : Env := {
  tab := tab
  glob := glob
  spec := fun
    | 12 => some spec12
    | 29 => some spec29
    | 30 => some spec30
    | 32 => some spec32
    | 33 => some spec33
    | 34 => some spec34
    | 35 => some spec35
    | 36 => some spec36
    | 37 => some spec37
    | _ => none }

def orc10 : Orc := ⟨50, fun _ => none, fun
  | 0 => kp [0, 1] []
  | 1 => kp [0, 1, 5] []
  | 2 => kp [0, 1, 5] []
  | 3 => kp [0, 1, 5] []
  | 4 => kp [4] []
  | _ => [], fun | _ => false⟩
noncomputable def body10 : Code := Tryd.f10.body.getD .skip
def loops10 : Nat → Option (Sum) := fun | _ => none
theorem loops10_nat : ∀ q f, loops10 q = some f → Natural f := by
  intro q f h
  cases h
theorem loops10_ok : LoopsOk env10 orc10 loops10 body10 := loopsOk_nil (by kernel_rfl)
def G10 (x0 : (List UInt8)) (x1 : (List UInt8)) : Option (Bool) :=
  bif (P12 ) then
  let v1 : Int := ((List.length x0 : Nat) : Int)
  let v2 : Int := (if (500 : Int) < v1 then (500 : Int) else v1)
  bif (sliceTest (0 : Int) v2 (List.length x0)) then
  let v3 : (List UInt8) := (cut x0 (0 : Int) v2)
  let v4 : Int := ((List.length x1 : Nat) : Int)
  let v5 : Int := (if (500 : Int) < v4 then (500 : Int) else v4)
  bif (sliceTest (0 : Int) v5 (List.length x1)) then
  let v6 : (List UInt8) := (cut x1 (0 : Int) v5)
  bif ((P30 v3) || !(F12 && true)) then
  let v7 : (List UInt8) := (F30 v3)
  bif ((P33 v3) || !(F12 && true)) then
  let v8 : (List UInt8) := (F33 v3)
  let v9 : Bool := (v7 == v8)
  let v10 : Bool := (bif F12 then v9 else false)
  bif ((P29 v6) || !(v10 && true)) then
  let v11 : (List UInt8) := (F29 v6)
  bif ((P34 v6) || !(v10 && true)) then
  let v12 : (List UInt8) := (F34 v6)
  let v13 : Bool := (v11 == v12)
  let v14 : Bool := (bif v10 then v13 else false)
  bif ((P32 v3 v6) || !(v14 && true)) then
  let v15 : (List UInt8) := (F32 v3 v6)
  bif ((P35 v3 v6) || !(v14 && true)) then
  let v16 : (List UInt8) := (F35 v3 v6)
  let v17 : Bool := (v15 == v16)
  let v18 : Bool := (bif v14 then v17 else false)
  bif ((P36 v6 v3) || !(v18 && true)) then
  let v19 : (List UInt8) := (F36 v6 v3)
  bif ((P37 v6 v3) || !(v18 && true)) then
  let v20 : (List UInt8) := (F37 v6 v3)
  let v21 : Bool := (v19 == v20)
  let v22 : Bool := (bif v18 then v21 else false)
  some (v22)
  else none
  else none
  else none
  else none
  else none
  else none
  else none
  else none
  else none
  else none
  else none
theorem ev10 (x0 : (List UInt8)) (x1 : (List UInt8)) : ev2 env10 orc10 loops10 body10 (initSt 0 [⟨.str, x0⟩, ⟨.str, x1⟩]) (retT [(4, .dat .bool)] [.bool] fun x => x.1) = G10 x0 x1 := by kernel_rfl
def P10 (x0 : (List UInt8)) (x1 : (List UInt8)) : Bool := (hold (G10 x0 x1)).isSome
def F10 (x0 : (List UInt8)) (x1 : (List UInt8)) : Bool := (hold (G10 x0 x1)).getD default
theorem G10_some (x0 : (List UInt8)) (x1 : (List UInt8)) (h : P10 x0 x1 = true) : G10 x0 x1 = some (F10 x0 x1) := by
  unfold P10 at h; unfold F10
  rw [hold_eq] at h ⊢
  exact some_getD h
theorem P10_of (x0 : (List UInt8)) (x1 : (List UInt8)) {r : Bool} (h : G10 x0 x1 = some r) : P10 x0 x1 = true := by unfold P10; rw [hold_eq, h]; rfl
theorem F10_of (x0 : (List UInt8)) (x1 : (List UInt8)) {r : Bool} (h : G10 x0 x1 = some r) : F10 x0 x1 = r := by unfold F10; rw [hold_eq, h]; rfl
def spec10 : Spec := ⟨[.str, .str], [.dat .bool], fun | [a0, a1] => P10 (a0.as .str) (a1.as .str) | _ => false, fun | [a0, a1] => [⟨.bool, (F10 (a0.as .str) (a1.as .str))⟩] | _ => []⟩
theorem meets10 (hE : EnvOk Tryd.prog env10) (hm : Tryd.prog.follows .mixedOrders = true) : Meets Tryd.prog glob 10 spec10 :=
  meets_of_ev2 (O := orc10) (L := loops10) (c := body10) (slots := [4]) hE hm Tryd.func10 Tryd.call10 (by kernel_rfl) (by kernel_rfl) loops10_ok (rangesOk_nil (by kernel_rfl)) (by kernel_rfl) rfl (by decide) (fun ds hds hpre => by
  obtain ⟨x0, ds0, rfl, h0⟩ := datsS hds
  obtain ⟨x1, ds1, rfl, h1⟩ := datsS h0
  have h9 := dats0 h1; subst h9
  exact ev_ret (un := fun r => [⟨.bool, r⟩]) loops10_nat (fun _ => rfl) ((ev10 x0 x1).trans (G10_some x0 x1 hpre)))
theorem mixed : Tryd.prog.follows .mixedOrders = true := by kernel_rfl
theorem envOk72 : EnvOk Tryd.prog env72 := by
  refine ⟨tabOk, fun f S h => ?_, fun f l S h => ?_, fun f fs I h => ?_⟩
  · simp only [env72] at h
    cases h
  · simp only [env72] at h
    cases h
  · simp only [env72] at h
    cases h
theorem full72 : Meets Tryd.prog glob 72 spec72 := meets72 envOk72 mixed
theorem envOk59 : EnvOk Tryd.prog env59 := by
  refine ⟨tabOk, fun f S h => ?_, fun f l S h => ?_, fun f fs I h => ?_⟩
  · simp only [env59] at h
    split at h
    · cases h; exact full72
    · cases h
  · simp only [env59] at h
    cases h
  · simp only [env59] at h
    cases h
theorem full59 : Meets Tryd.prog glob 59 spec59 := meets59 envOk59 mixed
theorem envOk40 : EnvOk Tryd.prog env40 := by
  refine ⟨tabOk, fun f S h => ?_, fun f l S h => ?_, fun f fs I h => ?_⟩
  · simp only [env40] at h
    split at h
    · cases h; exact full59
    · cases h
  · simp only [env40] at h
    cases h
  · simp only [env40] at h
    cases h
theorem full40 : Meets Tryd.prog glob 40 spec40 := meets40 envOk40 mixed
theorem envOk53 : EnvOk Tryd.prog env53 := by
  refine ⟨tabOk, fun f S h => ?_, fun f l S h => ?_, fun f fs I h => ?_⟩
  · simp only [env53] at h
    cases h
  · simp only [env53] at h
    cases h
  · simp only [env53] at h
    cases h
theorem full53 : Meets2 Tryd.prog glob 53 sp53 := meets53 envOk53 mixed
theorem envOk54 : EnvOk Tryd.prog env54 := by
  refine ⟨tabOk, fun f S h => ?_, fun f l S h => ?_, fun f fs I h => ?_⟩
  · simp only [env54] at h
    cases h
  · simp only [env54] at h
    cases h
  · simp only [env54] at h
    cases h
theorem full54 : Meets2 Tryd.prog glob 54 sp54 := meets54 envOk54 mixed
theorem envOk66 : EnvOk Tryd.prog env66 := by
  refine ⟨tabOk, fun f S h => ?_, fun f l S h => ?_, fun f fs I h => ?_⟩
  · simp only [env66] at h
    cases h
  · simp only [env66] at h
    cases h
  · simp only [env66] at h
    cases h
theorem fullI66 : IterOk Tryd.prog glob 66 I66 := iter66 envOk66 mixed
theorem envOk77 : EnvOk Tryd.prog env77 := by
  refine ⟨tabOk, fun f S h => ?_, fun f l S h => ?_, fun f fs I h => ?_⟩
  · simp only [env77] at h
    cases h
  · simp only [env77] at h
    cases h
  · simp only [env77] at h
    cases h
theorem full77 : Meets Tryd.prog glob 77 spec77 := meets77 envOk77 mixed
theorem envOk68 : EnvOk Tryd.prog env68 := by
  refine ⟨tabOk, fun f S h => ?_, fun f l S h => ?_, fun f fs I h => ?_⟩
  · simp only [env68] at h
    split at h
    · cases h; exact full77
    · cases h
  · simp only [env68] at h
    cases h
  · simp only [env68] at h
    cases h
theorem full68 : Meets Tryd.prog glob 68 spec68 := meets68 envOk68 mixed
theorem envOk67 : EnvOk Tryd.prog env67 := by
  refine ⟨tabOk, fun f S h => ?_, fun f l S h => ?_, fun f fs I h => ?_⟩
  · simp only [env67] at h
    split at h
    · cases h; exact full68
    · cases h
  · simp only [env67] at h
    cases h
  · simp only [env67] at h
    cases h
theorem full67 : Meets2 Tryd.prog glob 67 sp67 := meets67 envOk67 mixed
theorem envOk55 : EnvOk Tryd.prog env55 := by
  refine ⟨tabOk, fun f S h => ?_, fun f l S h => ?_, fun f fs I h => ?_⟩
  · simp only [env55] at h
    split at h
    · cases h; exact full68
    · cases h
  · simp only [env55] at h
    split at h
    · cases h; exact full67
    · cases h
  · simp only [env55] at h
    cases h
theorem full55 : Meets2 Tryd.prog glob 55 sp55 := meets55 envOk55 mixed
theorem envOk56 : EnvOk Tryd.prog env56 := by
  refine ⟨tabOk, fun f S h => ?_, fun f l S h => ?_, fun f fs I h => ?_⟩
  · simp only [env56] at h
    cases h
  · simp only [env56] at h
    cases h
  · simp only [env56] at h
    cases h
theorem full56 : Meets Tryd.prog glob 56 spec56 := meets56 envOk56 mixed
theorem envOk30 : EnvOk Tryd.prog env30 := by
  refine ⟨tabOk, fun f S h => ?_, fun f l S h => ?_, fun f fs I h => ?_⟩
  · simp only [env30] at h
    split at h
    · cases h; exact full56
    · cases h
  · simp only [env30] at h
    split at h
    · cases h; exact full54
    · cases h; exact full55
    · cases h
  · simp only [env30] at h
    cases h
theorem full30 : Meets Tryd.prog glob 30 spec30 := meets30 envOk30 mixed fullI66
theorem envOk64 : EnvOk Tryd.prog env64 := by
  refine ⟨tabOk, fun f S h => ?_, fun f l S h => ?_, fun f fs I h => ?_⟩
  · simp only [env64] at h
    split at h
    · cases h; exact full30
    · cases h; exact full65
    · cases h
  · simp only [env64] at h
    cases h
  · simp only [env64] at h
    cases h
theorem full64 : Meets2 Tryd.prog glob 64 sp64 := meets64 envOk64 mixed
theorem envOk29 : EnvOk Tryd.prog env29 := by
  refine ⟨tabOk, fun f S h => ?_, fun f l S h => ?_, fun f fs I h => ?_⟩
  · simp only [env29] at h
    cases h
  · simp only [env29] at h
    split at h
    · cases h; exact full53
    · cases h; exact full64
    · cases h
  · simp only [env29] at h
    cases h
theorem full29 : Meets Tryd.prog glob 29 spec29 := meets29 envOk29 mixed
theorem envOk32 : EnvOk Tryd.prog env32 := by
  refine ⟨tabOk, fun f S h => ?_, fun f l S h => ?_, fun f fs I h => ?_⟩
  · simp only [env32] at h
    cases h
  · simp only [env32] at h
    split at h
    · cases h; exact full53
    · cases h; exact full64
    · cases h
  · simp only [env32] at h
    cases h
theorem full32 : Meets Tryd.prog glob 32 spec32 := meets32 envOk32 mixed
theorem envOk44 : EnvOk Tryd.prog env44 := by
  refine ⟨tabOk, fun f S h => ?_, fun f l S h => ?_, fun f fs I h => ?_⟩
  · simp only [env44] at h
    cases h
  · simp only [env44] at h
    cases h
  · simp only [env44] at h
    cases h
theorem full44 : Meets2 Tryd.prog glob 44 sp44 := meets44 envOk44 mixed
theorem envOk60 : EnvOk Tryd.prog env60 := by
  refine ⟨tabOk, fun f S h => ?_, fun f l S h => ?_, fun f fs I h => ?_⟩
  · simp only [env60] at h
    cases h
  · simp only [env60] at h
    cases h
  · simp only [env60] at h
    cases h
theorem fullI60 : IterOk Tryd.prog glob 60 I60 := iter60 envOk60 mixed
theorem envOk19 : EnvOk Tryd.prog env19 := by
  refine ⟨tabOk, fun f S h => ?_, fun f l S h => ?_, fun f fs I h => ?_⟩
  · simp only [env19] at h
    split at h
    · cases h; exact full29
    · cases h; exact full30
    · cases h; exact full32
    · cases h
  · simp only [env19] at h
    split at h
    · cases h; exact full44
    · cases h
  · simp only [env19] at h
    cases h
theorem full19 : Meets Tryd.prog glob 19 spec19 := meets19 envOk19 mixed fullI60
theorem envOk14 : EnvOk Tryd.prog env14 := by
  refine ⟨tabOk, fun f S h => ?_, fun f l S h => ?_, fun f fs I h => ?_⟩
  · simp only [env14] at h
    split at h
    · cases h; exact full19
    · cases h; exact full40
    · cases h
  · simp only [env14] at h
    cases h
  · simp only [env14] at h
    split at h
    · cases h; exact inOk41
    · cases h
theorem full14 : Meets Tryd.prog glob 14 spec14 := meets14 envOk14 mixed
theorem envOk16 : EnvOk Tryd.prog env16 := by
  refine ⟨tabOk, fun f S h => ?_, fun f l S h => ?_, fun f fs I h => ?_⟩
  · simp only [env16] at h
    split at h
    · cases h; exact full19
    · cases h; exact full40
    · cases h
  · simp only [env16] at h
    cases h
  · simp only [env16] at h
    split at h
    · cases h; exact inOk41
    · cases h
theorem full16 : Meets Tryd.prog glob 16 spec16 := meets16 envOk16 mixed
theorem envOk39 : EnvOk Tryd.prog env39 := by
  refine ⟨tabOk, fun f S h => ?_, fun f l S h => ?_, fun f fs I h => ?_⟩
  · simp only [env39] at h
    cases h
  · simp only [env39] at h
    cases h
  · simp only [env39] at h
    cases h
theorem full39 : Meets Tryd.prog glob 39 spec39 := meets39 envOk39 mixed
theorem envOk51 : EnvOk Tryd.prog env51 := by
  refine ⟨tabOk, fun f S h => ?_, fun f l S h => ?_, fun f fs I h => ?_⟩
  · simp only [env51] at h
    cases h
  · simp only [env51] at h
    cases h
  · simp only [env51] at h
    cases h
theorem full51 : Meets Tryd.prog glob 51 spec51 := meets51 envOk51 mixed
theorem envOk61 : EnvOk Tryd.prog env61 := by
  refine ⟨tabOk, fun f S h => ?_, fun f l S h => ?_, fun f fs I h => ?_⟩
  · simp only [env61] at h
    split at h
    · cases h; exact full51
    · cases h
  · simp only [env61] at h
    cases h
  · simp only [env61] at h
    cases h
theorem full61 : Meets2 Tryd.prog glob 61 sp61 := meets61 envOk61 mixed
theorem envOk73 : EnvOk Tryd.prog env73 := by
  refine ⟨tabOk, fun f S h => ?_, fun f l S h => ?_, fun f fs I h => ?_⟩
  · simp only [env73] at h
    cases h
  · simp only [env73] at h
    split at h
    · cases h; exact full61
    · cases h
  · simp only [env73] at h
    cases h
theorem full73 : Meets2 Tryd.prog glob 73 sp73 := meets73 envOk73 mixed
theorem envOk62 : EnvOk Tryd.prog env62 := by
  refine ⟨tabOk, fun f S h => ?_, fun f l S h => ?_, fun f fs I h => ?_⟩
  · simp only [env62] at h
    cases h
  · simp only [env62] at h
    split at h
    · cases h; exact full73
    · cases h
  · simp only [env62] at h
    cases h
theorem full62 : Meets2 Tryd.prog glob 62 sp62 := meets62 envOk62 mixed
theorem envOk45 : EnvOk Tryd.prog env45 := by
  refine ⟨tabOk, fun f S h => ?_, fun f l S h => ?_, fun f fs I h => ?_⟩
  · simp only [env45] at h
    cases h
  · simp only [env45] at h
    split at h
    · cases h; exact full62
    · cases h
  · simp only [env45] at h
    cases h
theorem full45 : Meets Tryd.prog glob 45 spec45 := meets45 envOk45 mixed
theorem envOk46 : EnvOk Tryd.prog env46 := by
  refine ⟨tabOk, fun f S h => ?_, fun f l S h => ?_, fun f fs I h => ?_⟩
  · simp only [env46] at h
    cases h
  · simp only [env46] at h
    cases h
  · simp only [env46] at h
    cases h
theorem full46 : Meets Tryd.prog glob 46 spec46 := meets46 envOk46 mixed
theorem envOk47 : EnvOk Tryd.prog env47 := by
  refine ⟨tabOk, fun f S h => ?_, fun f l S h => ?_, fun f fs I h => ?_⟩
  · simp only [env47] at h
    cases h
  · simp only [env47] at h
    cases h
  · simp only [env47] at h
    cases h
theorem full47 : Meets2 Tryd.prog glob 47 sp47 := meets47 envOk47 mixed
theorem envOk63 : EnvOk Tryd.prog env63 := by
  refine ⟨tabOk, fun f S h => ?_, fun f l S h => ?_, fun f fs I h => ?_⟩
  · simp only [env63] at h
    cases h
  · simp only [env63] at h
    cases h
  · simp only [env63] at h
    cases h
theorem fullI63 : IterOk Tryd.prog glob 63 I63 := iter63 envOk63 mixed
theorem envOk48 : EnvOk Tryd.prog env48 := by
  refine ⟨tabOk, fun f S h => ?_, fun f l S h => ?_, fun f fs I h => ?_⟩
  · simp only [env48] at h
    split at h
    · cases h; exact full32
    · cases h
  · simp only [env48] at h
    cases h
  · simp only [env48] at h
    cases h
theorem full48 : Meets Tryd.prog glob 48 spec48 := meets48 envOk48 mixed
theorem envOk21 : EnvOk Tryd.prog env21 := by
  refine ⟨tabOk, fun f S h => ?_, fun f l S h => ?_, fun f fs I h => ?_⟩
  · simp only [env21] at h
    split at h
    · cases h; exact full29
    · cases h; exact full40
    · cases h; exact full45
    · cases h; exact full46
    · cases h; exact full48
    · cases h
  · simp only [env21] at h
    split at h
    · cases h; exact full47
    · cases h
  · simp only [env21] at h
    cases h
theorem full21 : Meets Tryd.prog glob 21 spec21 := meets21 envOk21 mixed fullI63
theorem envOk23 : EnvOk Tryd.prog env23 := by
  refine ⟨tabOk, fun f S h => ?_, fun f l S h => ?_, fun f fs I h => ?_⟩
  · simp only [env23] at h
    split at h
    · cases h; exact full30
    · cases h; exact full40
    · cases h; exact full45
    · cases h; exact full46
    · cases h; exact full48
    · cases h; exact full51
    · cases h
  · simp only [env23] at h
    split at h
    · cases h; exact full47
    · cases h
  · simp only [env23] at h
    cases h
theorem full23 : Meets Tryd.prog glob 23 spec23 := meets23 envOk23 mixed fullI63
theorem envOk12 : EnvOk Tryd.prog env12 := by
  refine ⟨tabOk, fun f S h => ?_, fun f l S h => ?_, fun f fs I h => ?_⟩
  · simp only [env12] at h
    split at h
    · cases h; exact full14
    · cases h; exact full16
    · cases h; exact full19
    · cases h; exact full21
    · cases h; exact full23
    · cases h; exact full30
    · cases h; exact full39
    · cases h
  · simp only [env12] at h
    cases h
  · simp only [env12] at h
    cases h
theorem full12 : Meets Tryd.prog glob 12 spec12 := meets12 envOk12 mixed
theorem envOk57 : EnvOk Tryd.prog env57 := by
  refine ⟨tabOk, fun f S h => ?_, fun f l S h => ?_, fun f fs I h => ?_⟩
  · simp only [env57] at h
    cases h
  · simp only [env57] at h
    cases h
  · simp only [env57] at h
    cases h
theorem full57 : Meets Tryd.prog glob 57 spec57 := meets57 envOk57 mixed
theorem envOk69 : EnvOk Tryd.prog env69 := by
  refine ⟨tabOk, fun f S h => ?_, fun f l S h => ?_, fun f fs I h => ?_⟩
  · simp only [env69] at h
    cases h
  · simp only [env69] at h
    cases h
  · simp only [env69] at h
    cases h
theorem full69 : Meets Tryd.prog glob 69 spec69 := meets69 envOk69 mixed
theorem envOk70 : EnvOk Tryd.prog env70 := by
  refine ⟨tabOk, fun f S h => ?_, fun f l S h => ?_, fun f fs I h => ?_⟩
  · simp only [env70] at h
    cases h
  · simp only [env70] at h
    cases h
  · simp only [env70] at h
    cases h
theorem full70 : Meets Tryd.prog glob 70 spec70 := meets70 envOk70 mixed
theorem envOk58 : EnvOk Tryd.prog env58 := by
  refine ⟨tabOk, fun f S h => ?_, fun f l S h => ?_, fun f fs I h => ?_⟩
  · simp only [env58] at h
    split at h
    · cases h; exact full69
    · cases h; exact full70
    · cases h
  · simp only [env58] at h
    cases h
  · simp only [env58] at h
    cases h
theorem full58 : Meets Tryd.prog glob 58 spec58 := meets58 envOk58 mixed
theorem envOk33 : EnvOk Tryd.prog env33 := by
  refine ⟨tabOk, fun f S h => ?_, fun f l S h => ?_, fun f fs I h => ?_⟩
  · simp only [env33] at h
    split at h
    · cases h; exact full57
    · cases h; exact full58
    · cases h
  · simp only [env33] at h
    cases h
  · simp only [env33] at h
    cases h
theorem full33 : Meets Tryd.prog glob 33 spec33 := meets33 envOk33 mixed
theorem envOk34 : EnvOk Tryd.prog env34 := by
  refine ⟨tabOk, fun f S h => ?_, fun f l S h => ?_, fun f fs I h => ?_⟩
  · simp only [env34] at h
    split at h
    · cases h; exact full33
    · cases h
  · simp only [env34] at h
    cases h
  · simp only [env34] at h
    cases h
theorem full34 : Meets Tryd.prog glob 34 spec34 := meets34 envOk34 mixed
theorem envOk35 : EnvOk Tryd.prog env35 := by
  refine ⟨tabOk, fun f S h => ?_, fun f l S h => ?_, fun f fs I h => ?_⟩
  · simp only [env35] at h
    split at h
    · cases h; exact full33
    · cases h
  · simp only [env35] at h
    cases h
  · simp only [env35] at h
    cases h
theorem full35 : Meets Tryd.prog glob 35 spec35 := meets35 envOk35 mixed
theorem envOk36 : EnvOk Tryd.prog env36 := by
  refine ⟨tabOk, fun f S h => ?_, fun f l S h => ?_, fun f fs I h => ?_⟩
  · simp only [env36] at h
    cases h
  · simp only [env36] at h
    split at h
    · cases h; exact full53
    · cases h; exact full64
    · cases h
  · simp only [env36] at h
    cases h
theorem full36 : Meets Tryd.prog glob 36 spec36 := meets36 envOk36 mixed
theorem envOk37 : EnvOk Tryd.prog env37 := by
  refine ⟨tabOk, fun f S h => ?_, fun f l S h => ?_, fun f fs I h => ?_⟩
  · simp only [env37] at h
    split at h
    · cases h; exact full33
    · cases h
  · simp only [env37] at h
    cases h
  · simp only [env37] at h
    cases h
theorem full37 : Meets Tryd.prog glob 37 spec37 := meets37 envOk37 mixed
theorem envOk10 : EnvOk Tryd.prog env10 := by
  refine ⟨tabOk, fun f S h => ?_, fun f l S h => ?_, fun f fs I h => ?_⟩
  · simp only [env10] at h
    split at h
    · cases h; exact full12
    · cases h; exact full29
    · cases h; exact full30
    · cases h; exact full32
    · cases h; exact full33
    · cases h; exact full34
    · cases h; exact full35
    · cases h; exact full36
    · cases h; exact full37
    · cases h
  · simp only [env10] at h
    cases h
  · simp only [env10] at h
    cases h
theorem full10 : Meets Tryd.prog glob 10 spec10 := meets10 envOk10 mixed
end
end Go.Ev.D
