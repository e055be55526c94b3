/- Texts for the proofs of this seat: the functions of the program as functions of Lean, with the proofs that they are. -/
import Derived.Test.YtohcmlejdglimaaB1
import Derived.KernelRfl
set_option linter.unusedSimpArgs false
set_option linter.unusedVariables false
namespace Go.Ev.B
open Go Go.Proofs Go.Ev
noncomputable section
def L3_4_r (s0 : Int) (s1 : Int) (s2 : Int) (s3 : Int) (s4 : Bool) (s5 : (List D23)) (s6 : Int) (s7 : Int) (s8 : Int) (s9 : Int) (s10 : Int) (s11 : Int) (s12 : Int) (s13 : Int) (s14 : Int) : Option ((Int × Int × Int × Int × Bool × (List D23) × Int × Int × Int × Int × Int × Int × Int × Int × Int) ⊕ ((Bool) ⊕ (Int × Int × Int × Int × Bool × (List D23) × Int × Int × Int × Int × Int × Int × Int × Int × Int))) :=
  let v7 : Bool := (decide (s7 < s6))
  bif v7 then
  bif (decide (0 ≤ s7) && decide (s7 < (List.length s5))) then
  bif (decide ((Int.toNat s7) < List.length s5)) then
  let v8 : D23 := (List.getD s5 (Int.toNat s7) z23)
  let v9 : (List D26) := ([] : (List D26))
  let v10 : (List D26) := ([] : (List D26))
  bif (P9 v8 (s8, (s9, (s10, (s11, (s12, (s13, (s14, ())))))))) then
  let q11 : (D23 × (Int × (Int × Unit))) := F9 v8 (s8, (s9, (s10, (s11, (s12, (s13, (s14, ())))))))
  let v12 : (List D26) := ([] : (List D26))
  let v13 : (List D26) := ([] : (List D26))
  bif (P10 v8 (s8, (s9, (s10, (s11, (s12, (s13, (s14, ())))))))) then
  let q14 : (D23 × (Int × (Int × Unit))) := F10 v8 (s8, (s9, (s10, (s11, (s12, (s13, (s14, ())))))))
  let v15 : (List D26) := ([] : (List D26))
  let v16 : (List D26) := ([] : (List D26))
  bif (P11 v8) then
  let v17 : Bool := (F11 v8)
  bif (P12 v8) then
  let v18 : Bool := (F12 v8)
  let v19 : Bool := (!(eqv .bool v17 v18))
  let v20 : Bool := (q11.2.1 != q14.2.1)
  let v21 : Bool := (bif v19 then true else v20)
  let v22 : Bool := (q11.2.2.1 != q14.2.2.1)
  let v23 : Bool := (bif v21 then true else v22)
  bif ((P13 q11.1 q14.1) || !(!v23 && true)) then
  let v24 : Bool := (F13 q11.1 q14.1)
  let v25 : Bool := (!v24)
  let v26 : Bool := (bif v23 then true else v25)
  bif v26 then
  some (.inr (.inl false))
  else
  let v27 : Int := ((List.length v8.2.1 : Nat) : Int)
  let v28 : Int := (IntKind.i64.wrap (v27 + (1 : Int)))
  bif (P14 s0 v28) then
  let v29 : Int := (F14 s0 v28)
  let v30 : (List Int) := (List.set (List.set (List.replicate 2 (0 : Int)) 0 s0) 1 v29)
  Option.bind (L3_11 (s0, s1, s2, s3, s4, s5, s6, s7, v30, (2 : Int), (0 : Int), s8, s9, s10, s11, s12, s13, s14, v8.1, v8.2.1, v8.2.2.1)) fun x => match x with
  | (.inl r44) =>
  some (.inr (.inl r44))
  | (.inr r45) =>
  bif (P14 r45.2.2.2.1 (12 : Int)) then
  let v46 : Int := (F14 r45.2.2.2.1 (12 : Int))
  let v47 : (List Int) := (List.set (List.set (List.set (List.replicate 3 (0 : Int)) 0 r45.2.2.2.1) 1 v46) 2 r45.2.2.2.2.2.2.2.2.2.2.2.2.2.2.2.2.2.2.2.2)
  Option.bind (L3_19 (r45.1, r45.2.1, r45.2.2.1, r45.2.2.2.1, r45.2.2.2.2.1, r45.2.2.2.2.2.1, r45.2.2.2.2.2.2.1, r45.2.2.2.2.2.2.2.1, v47, (3 : Int), (0 : Int), r45.2.2.2.2.2.2.2.2.2.2.2.1, r45.2.2.2.2.2.2.2.2.2.2.2.2.1, r45.2.2.2.2.2.2.2.2.2.2.2.2.2.1, r45.2.2.2.2.2.2.2.2.2.2.2.2.2.2.1, r45.2.2.2.2.2.2.2.2.2.2.2.2.2.2.2.1, r45.2.2.2.2.2.2.2.2.2.2.2.2.2.2.2.2.1, r45.2.2.2.2.2.2.2.2.2.2.2.2.2.2.2.2.2.1, r45.2.2.2.2.2.2.2.2.2.2.2.2.2.2.2.2.2.2.1, r45.2.2.2.2.2.2.2.2.2.2.2.2.2.2.2.2.2.2.2.1, r45.2.2.2.2.2.2.2.2.2.2.2.2.2.2.2.2.2.2.2.2)) fun x => match x with
  | (.inl r74) =>
  some (.inr (.inl r74))
  | (.inr r75) =>
  bif (P14 r75.2.2.2.2.2.2.2.2.2.2.2.2.2.2.2.2.1 (6 : Int)) then
  let v76 : Int := (F14 r75.2.2.2.2.2.2.2.2.2.2.2.2.2.2.2.2.1 (6 : Int))
  let v77 : (List Int) := (List.set (List.set (List.replicate 2 (0 : Int)) 0 r75.2.2.2.2.2.2.2.2.2.2.2.2.2.2.2.2.1) 1 v76)
  Option.bind (L3_31 (r75.1, r75.2.1, r75.2.2.1, r75.2.2.2.1, r75.2.2.2.2.1, r75.2.2.2.2.2.1, r75.2.2.2.2.2.2.1, r75.2.2.2.2.2.2.2.1, v77, (2 : Int), (0 : Int), r75.2.2.2.2.2.2.2.2.2.2.2.1, r75.2.2.2.2.2.2.2.2.2.2.2.2.1, r75.2.2.2.2.2.2.2.2.2.2.2.2.2.1, r75.2.2.2.2.2.2.2.2.2.2.2.2.2.2.1, r75.2.2.2.2.2.2.2.2.2.2.2.2.2.2.2.1, r75.2.2.2.2.2.2.2.2.2.2.2.2.2.2.2.2.1, r75.2.2.2.2.2.2.2.2.2.2.2.2.2.2.2.2.2.1, r75.2.2.2.2.2.2.2.2.2.2.2.2.2.2.2.2.2.2.1, r75.2.2.2.2.2.2.2.2.2.2.2.2.2.2.2.2.2.2.2.1, r75.2.2.2.2.2.2.2.2.2.2.2.2.2.2.2.2.2.2.2.2)) fun x => match x with
  | (.inl r87) =>
  some (.inr (.inl r87))
  | (.inr r88) =>
  let v89 : Int := (IntKind.i64.wrap (r88.2.2.2.2.2.2.2.1 + (1 : Int)))
  some (.inl (r88.1, r88.2.1, r88.2.2.1, r88.2.2.2.1, r88.2.2.2.2.1, r88.2.2.2.2.2.1, r88.2.2.2.2.2.2.1, v89, r88.2.2.2.2.2.2.2.2.2.2.2.1, r88.2.2.2.2.2.2.2.2.2.2.2.2.1, r88.2.2.2.2.2.2.2.2.2.2.2.2.2.1, r88.2.2.2.2.2.2.2.2.2.2.2.2.2.2.1, r88.2.2.2.2.2.2.2.2.2.2.2.2.2.2.2.1, r88.2.2.2.2.2.2.2.2.2.2.2.2.2.2.2.2.1, r88.2.2.2.2.2.2.2.2.2.2.2.2.2.2.2.2.2.1))
  else none
  else none
  else none
  else none
  else none
  else none
  else none
  else none
  else none
  else none
  else
  some (.inr (.inr (s0, s1, s2, s3, s4, s5, s6, s7, s8, s9, s10, s11, s12, s13, s14)))
def L3_4 : Int × Int × Int × Int × Bool × (List D23) × Int × Int × Int × Int × Int × Int × Int × Int × Int → Option ((Bool) ⊕ (Int × Int × Int × Int × Bool × (List D23) × Int × Int × Int × Int × Int × Int × Int × Int × Int)) := Lim (fun s => L3_4_r s.1 s.2.1 s.2.2.1 s.2.2.2.1 s.2.2.2.2.1 s.2.2.2.2.2.1 s.2.2.2.2.2.2.1 s.2.2.2.2.2.2.2.1 s.2.2.2.2.2.2.2.2.1 s.2.2.2.2.2.2.2.2.2.1 s.2.2.2.2.2.2.2.2.2.2.1 s.2.2.2.2.2.2.2.2.2.2.2.1 s.2.2.2.2.2.2.2.2.2.2.2.2.1 s.2.2.2.2.2.2.2.2.2.2.2.2.2.1 s.2.2.2.2.2.2.2.2.2.2.2.2.2.2)
def L3_4_sum : Sum := limSum L3_4_sh L3_4_pk (fun s => L3_4_r s.1 s.2.1 s.2.2.1 s.2.2.2.1 s.2.2.2.2.1 s.2.2.2.2.2.1 s.2.2.2.2.2.2.1 s.2.2.2.2.2.2.2.1 s.2.2.2.2.2.2.2.2.1 s.2.2.2.2.2.2.2.2.2.1 s.2.2.2.2.2.2.2.2.2.2.1 s.2.2.2.2.2.2.2.2.2.2.2.1 s.2.2.2.2.2.2.2.2.2.2.2.2.1 s.2.2.2.2.2.2.2.2.2.2.2.2.2.1 s.2.2.2.2.2.2.2.2.2.2.2.2.2.2) L3_4_leave
theorem L3_4_nat : Natural L3_4_sum := natural_lim fun x R K => by
  rcases x with x|x <;> rfl
theorem L3_4_dok : ∀ e st x, e ≠ .normal → L3_4_d e st = some x → ∀ R (K : Cont R), K e st = L3_4_leave x R K := by
  intro e st x _ h R K
  unfold L3_4_d at h
  split at h
  · split at h
    · rename_i s hs; cases h; rw [unSt_some hs]; rfl
    · cases h
  · split at h
    · rename_i s hs; cases h; rw [unSt_some hs]; rfl
    · cases h
  · cases h
def loops3 : Nat → Option (Sum) := fun | 4 => some L3_4_sum | 11 => some L3_11_sum | 19 => some L3_19_sum | 31 => some L3_31_sum | _ => none
theorem loops3_nat : ∀ q f, loops3 q = some f → Natural f := by
  intro q f h
  unfold loops3 at h
  split at h
  · cases h; exact L3_4_nat
  · cases h; exact L3_11_nat
  · cases h; exact L3_19_nat
  · cases h; exact L3_31_nat
  · cases h
noncomputable def L3_4_code : Code := (loopsOf body3).getD 0 .skip
theorem L3_4_round (s0 : Int) (s1 : Int) (s2 : Int) (s3 : Int) (s4 : Bool) (s5 : (List D23)) (s6 : Int) (s7 : Int) (s8 : Int) (s9 : Int) (s10 : Int) (s11 : Int) (s12 : Int) (s13 : Int) (s14 : Int) : ev2 env3 orc3 loops3 L3_4_code (mkSt L3_4_sh (s0, (s1, (s2, (s3, ((), (s4, (s5, (s6, (s7, ((), (s8, (s9, (s10, (s11, (s12, (s13, (s14, ())))))))))))))))))) (back L3_4_sh L3_4_pk L3_4_d) = L3_4_r s0 s1 s2 s3 s4 s5 s6 s7 s8 s9 s10 s11 s12 s13 s14 := by kernel_rfl
theorem L3_4_ok : SumOk env3 orc3 loops3 L3_4_code L3_4_sum := sumOk_lim (un := L3_4_un) loops3_nat (fun _ => rfl) L3_4_dok fun s => L3_4_round s.1 s.2.1 s.2.2.1 s.2.2.2.1 s.2.2.2.2.1 s.2.2.2.2.2.1 s.2.2.2.2.2.2.1 s.2.2.2.2.2.2.2.1 s.2.2.2.2.2.2.2.2.1 s.2.2.2.2.2.2.2.2.2.1 s.2.2.2.2.2.2.2.2.2.2.1 s.2.2.2.2.2.2.2.2.2.2.2.1 s.2.2.2.2.2.2.2.2.2.2.2.2.1 s.2.2.2.2.2.2.2.2.2.2.2.2.2.1 s.2.2.2.2.2.2.2.2.2.2.2.2.2.2
noncomputable def L3_11_code : Code := (loopsOf body3).getD 1 .skip
theorem L3_11_round (s0 : Int) (s1 : Int) (s2 : Int) (s3 : Int) (s4 : Bool) (s5 : (List D23)) (s6 : Int) (s7 : Int) (s8 : (List Int)) (s9 : Int) (s10 : Int) (s11 : Int) (s12 : Int) (s13 : Int) (s14 : Int) (s15 : Int) (s16 : Int) (s17 : Int) (s18 : Int) (s19 : (List D26)) (s20 : Int) : ev2 env3 orc3 loops3 L3_11_code (mkSt L3_11_sh (s0, (s1, (s2, (s3, ((), (s4, ((), (s5, (s6, (s7, (s8, (s9, (s10, ((), (s11, (s12, (s13, (s14, (s15, (s16, (s17, ((), (s18, (s19, (s20, ())))))))))))))))))))))))))) (back L3_11_sh L3_11_pk L3_11_d) = L3_11_r s0 s1 s2 s3 s4 s5 s6 s7 s8 s9 s10 s11 s12 s13 s14 s15 s16 s17 s18 s19 s20 := by kernel_rfl
theorem L3_11_ok : SumOk env3 orc3 loops3 L3_11_code L3_11_sum := sumOk_lim (un := L3_11_un) loops3_nat (fun _ => rfl) L3_11_dok fun s => L3_11_round s.1 s.2.1 s.2.2.1 s.2.2.2.1 s.2.2.2.2.1 s.2.2.2.2.2.1 s.2.2.2.2.2.2.1 s.2.2.2.2.2.2.2.1 s.2.2.2.2.2.2.2.2.1 s.2.2.2.2.2.2.2.2.2.1 s.2.2.2.2.2.2.2.2.2.2.1 s.2.2.2.2.2.2.2.2.2.2.2.1 s.2.2.2.2.2.2.2.2.2.2.2.2.1 s.2.2.2.2.2.2.2.2.2.2.2.2.2.1 s.2.2.2.2.2.2.2.2.2.2.2.2.2.2.1 s.2.2.2.2.2.2.2.2.2.2.2.2.2.2.2.1 s.2.2.2.2.2.2.2.2.2.2.2.2.2.2.2.2.1 s.2.2.2.2.2.2.2.2.2.2.2.2.2.2.2.2.2.1 s.2.2.2.2.2.2.2.2.2.2.2.2.2.2.2.2.2.2.1 s.2.2.2.2.2.2.2.2.2.2.2.2.2.2.2.2.2.2.2.1 s.2.2.2.2.2.2.2.2.2.2.2.2.2.2.2.2.2.2.2.2
noncomputable def L3_19_code : Code := (loopsOf body3).getD 2 .skip
theorem L3_19_round (s0 : Int) (s1 : Int) (s2 : Int) (s3 : Int) (s4 : Bool) (s5 : (List D23)) (s6 : Int) (s7 : Int) (s8 : (List Int)) (s9 : Int) (s10 : Int) (s11 : Int) (s12 : Int) (s13 : Int) (s14 : Int) (s15 : Int) (s16 : Int) (s17 : Int) (s18 : Int) (s19 : (List D26)) (s20 : Int) : ev2 env3 orc3 loops3 L3_19_code (mkSt L3_19_sh (s0, (s1, (s2, (s3, ((), (s4, ((), (s5, (s6, (s7, (s8, (s9, (s10, ((), (s11, (s12, (s13, (s14, (s15, (s16, (s17, ((), (s18, (s19, (s20, ())))))))))))))))))))))))))) (back L3_19_sh L3_19_pk L3_19_d) = L3_19_r s0 s1 s2 s3 s4 s5 s6 s7 s8 s9 s10 s11 s12 s13 s14 s15 s16 s17 s18 s19 s20 := by kernel_rfl
theorem L3_19_ok : SumOk env3 orc3 loops3 L3_19_code L3_19_sum := sumOk_lim (un := L3_19_un) loops3_nat (fun _ => rfl) L3_19_dok fun s => L3_19_round s.1 s.2.1 s.2.2.1 s.2.2.2.1 s.2.2.2.2.1 s.2.2.2.2.2.1 s.2.2.2.2.2.2.1 s.2.2.2.2.2.2.2.1 s.2.2.2.2.2.2.2.2.1 s.2.2.2.2.2.2.2.2.2.1 s.2.2.2.2.2.2.2.2.2.2.1 s.2.2.2.2.2.2.2.2.2.2.2.1 s.2.2.2.2.2.2.2.2.2.2.2.2.1 s.2.2.2.2.2.2.2.2.2.2.2.2.2.1 s.2.2.2.2.2.2.2.2.2.2.2.2.2.2.1 s.2.2.2.2.2.2.2.2.2.2.2.2.2.2.2.1 s.2.2.2.2.2.2.2.2.2.2.2.2.2.2.2.2.1 s.2.2.2.2.2.2.2.2.2.2.2.2.2.2.2.2.2.1 s.2.2.2.2.2.2.2.2.2.2.2.2.2.2.2.2.2.2.1 s.2.2.2.2.2.2.2.2.2.2.2.2.2.2.2.2.2.2.2.1 s.2.2.2.2.2.2.2.2.2.2.2.2.2.2.2.2.2.2.2.2
noncomputable def L3_31_code : Code := (loopsOf body3).getD 3 .skip
theorem L3_31_round (s0 : Int) (s1 : Int) (s2 : Int) (s3 : Int) (s4 : Bool) (s5 : (List D23)) (s6 : Int) (s7 : Int) (s8 : (List Int)) (s9 : Int) (s10 : Int) (s11 : Int) (s12 : Int) (s13 : Int) (s14 : Int) (s15 : Int) (s16 : Int) (s17 : Int) (s18 : Int) (s19 : (List D26)) (s20 : Int) : ev2 env3 orc3 loops3 L3_31_code (mkSt L3_31_sh (s0, (s1, (s2, (s3, ((), (s4, ((), (s5, (s6, (s7, (s8, (s9, (s10, ((), (s11, (s12, (s13, (s14, (s15, (s16, (s17, ((), (s18, (s19, (s20, ())))))))))))))))))))))))))) (back L3_31_sh L3_31_pk L3_31_d) = L3_31_r s0 s1 s2 s3 s4 s5 s6 s7 s8 s9 s10 s11 s12 s13 s14 s15 s16 s17 s18 s19 s20 := by kernel_rfl
theorem L3_31_ok : SumOk env3 orc3 loops3 L3_31_code L3_31_sum := sumOk_lim (un := L3_31_un) loops3_nat (fun _ => rfl) L3_31_dok fun s => L3_31_round s.1 s.2.1 s.2.2.1 s.2.2.2.1 s.2.2.2.2.1 s.2.2.2.2.2.1 s.2.2.2.2.2.2.1 s.2.2.2.2.2.2.2.1 s.2.2.2.2.2.2.2.2.1 s.2.2.2.2.2.2.2.2.2.1 s.2.2.2.2.2.2.2.2.2.2.1 s.2.2.2.2.2.2.2.2.2.2.2.1 s.2.2.2.2.2.2.2.2.2.2.2.2.1 s.2.2.2.2.2.2.2.2.2.2.2.2.2.1 s.2.2.2.2.2.2.2.2.2.2.2.2.2.2.1 s.2.2.2.2.2.2.2.2.2.2.2.2.2.2.2.1 s.2.2.2.2.2.2.2.2.2.2.2.2.2.2.2.2.1 s.2.2.2.2.2.2.2.2.2.2.2.2.2.2.2.2.2.1 s.2.2.2.2.2.2.2.2.2.2.2.2.2.2.2.2.2.2.1 s.2.2.2.2.2.2.2.2.2.2.2.2.2.2.2.2.2.2.2.1 s.2.2.2.2.2.2.2.2.2.2.2.2.2.2.2.2.2.2.2.2
theorem loops3_all : loopsOf body3 = [L3_4_code, L3_11_code, L3_19_code, L3_31_code] := by kernel_rfl
theorem L3_4_key : lookL loops3 (keyOf L3_4_code) = some L3_4_sum := by kernel_rfl
theorem L3_11_key : lookL loops3 (keyOf L3_11_code) = some L3_11_sum := by kernel_rfl
theorem L3_19_key : lookL loops3 (keyOf L3_19_code) = some L3_19_sum := by kernel_rfl
theorem L3_31_key : lookL loops3 (keyOf L3_31_code) = some L3_31_sum := by kernel_rfl
theorem loops3_ok : LoopsOk env3 orc3 loops3 body3 := by
  intro c hc f hf
  rw [loops3_all] at hc
  simp only [List.mem_cons, List.not_mem_nil, or_false] at hc
  rcases hc with rfl | rfl | rfl | rfl
  · rw [L3_4_key] at hf; cases hf; exact L3_4_ok
  · rw [L3_11_key] at hf; cases hf; exact L3_11_ok
  · rw [L3_19_key] at hf; cases hf; exact L3_19_ok
  · rw [L3_31_key] at hf; cases hf; exact L3_31_ok
def G3 (x0 : D23) (x1 : Int) (x2 : (List (List Int))) (x3 : D26) (x4 : Int) (x5 : Int) (x6 : Int) (x7 : Int) : Option (Bool) :=
  bif (P7 ) then
  let v1 : Int := ((List.length x0.2.1 : Nat) : Int)
  let v2 : Int := (if (8 : Int) < v1 then (8 : Int) else v1)
  bif (sliceTest (0 : Int) v2 (List.length x0.2.1)) then
  let v3 : (List D26) := (cut x0.2.1 (0 : Int) v2)
  bif (P8 x1 x2) then
  let q4 : (D23 × Unit) := F8 x1 x2
  let v5 : (List D23) := (List.set (List.set (List.replicate 2 z23) 0 (x0.1, (v3, x0.2.2))) 1 q4.1)
  let v6 : Int := ((List.length v5 : Nat) : Int)
  Option.bind (L3_4 (x4, x5, x6, x7, F7, v5, v6, (0 : Int), x3.1, x3.2.1, x3.2.2.1, x3.2.2.2.1, x3.2.2.2.2.1, x3.2.2.2.2.2.1, x3.2.2.2.2.2.2.1)) fun x => match x with
  | (.inl r90) =>
  some (r90)
  | (.inr r91) =>
  some (r91.2.2.2.2.1)
  else none
  else none
  else none
theorem ev3 (x0 : D23) (x1 : Int) (x2 : (List (List Int))) (x3 : D26) (x4 : Int) (x5 : Int) (x6 : Int) (x7 : Int) : ev2 env3 orc3 loops3 body3 (initSt 0 [⟨t23, x0⟩, ⟨(.int .i64), x1⟩, ⟨(.list (.arr 5 (.int .i64))), x2⟩, ⟨t26, x3⟩, ⟨(.int .i64), x4⟩, ⟨(.int .i64), x5⟩, ⟨(.int .i64), x6⟩, ⟨(.int .i64), x7⟩]) (retT [(16, .dat .bool)] [.bool] fun x => x.1) = G3 x0 x1 x2 x3 x4 x5 x6 x7 := by kernel_rfl
def P3 (x0 : D23) (x1 : Int) (x2 : (List (List Int))) (x3 : D26) (x4 : Int) (x5 : Int) (x6 : Int) (x7 : Int) : Bool := (G3 x0 x1 x2 x3 x4 x5 x6 x7).isSome
def F3 (x0 : D23) (x1 : Int) (x2 : (List (List Int))) (x3 : D26) (x4 : Int) (x5 : Int) (x6 : Int) (x7 : Int) : Bool := (G3 x0 x1 x2 x3 x4 x5 x6 x7).getD default
theorem G3_some (x0 : D23) (x1 : Int) (x2 : (List (List Int))) (x3 : D26) (x4 : Int) (x5 : Int) (x6 : Int) (x7 : Int) (h : P3 x0 x1 x2 x3 x4 x5 x6 x7 = true) : G3 x0 x1 x2 x3 x4 x5 x6 x7 = some (F3 x0 x1 x2 x3 x4 x5 x6 x7) := by
  unfold P3 at h; unfold F3
  cases hg : G3 x0 x1 x2 x3 x4 x5 x6 x7 with
  | none => rw [hg] at h; cases h
  | some r => rfl
theorem P3_of (x0 : D23) (x1 : Int) (x2 : (List (List Int))) (x3 : D26) (x4 : Int) (x5 : Int) (x6 : Int) (x7 : Int) {r : Bool} (h : G3 x0 x1 x2 x3 x4 x5 x6 x7 = some r) : P3 x0 x1 x2 x3 x4 x5 x6 x7 = true := by unfold P3; rw [h]; rfl
theorem F3_of (x0 : D23) (x1 : Int) (x2 : (List (List Int))) (x3 : D26) (x4 : Int) (x5 : Int) (x6 : Int) (x7 : Int) {r : Bool} (h : G3 x0 x1 x2 x3 x4 x5 x6 x7 = some r) : F3 x0 x1 x2 x3 x4 x5 x6 x7 = r := by unfold F3; rw [h]; rfl
def spec3 : Spec := ⟨[t23, (.int .i64), (.list (.arr 5 (.int .i64))), t26, (.int .i64), (.int .i64), (.int .i64), (.int .i64)], [.dat .bool], fun | [a0, a1, a2, a3, a4, a5, a6, a7] => P3 (a0.as t23) (a1.as (.int .i64)) (a2.as (.list (.arr 5 (.int .i64)))) (a3.as t26) (a4.as (.int .i64)) (a5.as (.int .i64)) (a6.as (.int .i64)) (a7.as (.int .i64)) | _ => false, fun | [a0, a1, a2, a3, a4, a5, a6, a7] => [⟨.bool, (F3 (a0.as t23) (a1.as (.int .i64)) (a2.as (.list (.arr 5 (.int .i64)))) (a3.as t26) (a4.as (.int .i64)) (a5.as (.int .i64)) (a6.as (.int .i64)) (a7.as (.int .i64)))⟩] | _ => []⟩
theorem meets3 (hE : EnvOk Try.prog env3) (hm : Try.prog.follows .mixedOrders = true) : Meets Try.prog glob 3 spec3 :=
  meets_of_ev2 (O := orc3) (L := loops3) (c := body3) (slots := [16]) hE hm Try.func3 Try.call3 (by kernel_rfl) (by kernel_rfl) loops3_ok (rangesOk_nil (by kernel_rfl)) (by kernel_rfl) rfl (by decide) (fun ds hds hpre => by
  obtain ⟨x0, ds0, rfl, h0⟩ := datsS hds
  obtain ⟨x1, ds1, rfl, h1⟩ := datsS h0
  obtain ⟨x2, ds2, rfl, h2⟩ := datsS h1
  obtain ⟨x3, ds3, rfl, h3⟩ := datsS h2
  obtain ⟨x4, ds4, rfl, h4⟩ := datsS h3
  obtain ⟨x5, ds5, rfl, h5⟩ := datsS h4
  obtain ⟨x6, ds6, rfl, h6⟩ := datsS h5
  obtain ⟨x7, ds7, rfl, h7⟩ := datsS h6
  have h9 := dats0 h7; subst h9
  exact ev_ret (un := fun r => [⟨.bool, r⟩]) loops3_nat (fun _ => rfl) ((ev3 x0 x1 x2 x3 x4 x5 x6 x7).trans (G3_some x0 x1 x2 x3 x4 x5 x6 x7 hpre)))
def env4 : Env where
  tab := tab
  glob := glob
  spec := fun
    | 7 => some spec7
    | 19 => some spec19
    | 21 => some spec21
    | 23 => some spec23
    | 24 => some spec24
    | _ => none
  spec2 := fun
    | 8, [] => some sp8
    | _, _ => none
def orc4 : Orc := ⟨215, fun _ => none, fun
  | 0 => kp [0, 1] []
  | 1 => kp [0, 1, 5] []
  | 2 => kp [5, 6] [(6, [0, 1, 2])]
  | 3 => kp [5, 6, 7] [(6, [0, 1, 2])]
  | 4 => kp [5, 6, 7, 8] [(6, [0, 1, 2])]
  | 5 => kp [5, 6, 7, 8, 31] [(6, [0, 1, 2])]
  | 6 => kp [5, 6, 7, 8] [(6, [0, 1, 2])]
  | 7 => kp [5, 6, 7, 8, 9, 10] [(6, [0, 1, 2])]
  | 8 => kp [5, 6, 7, 8, 9, 48] [(6, [0, 1, 2])]
  | 9 => kp [4] []
  | 10 => kp [5, 6, 7, 8, 9, 11] [(6, [0, 1, 2])]
  | 11 => kp [5, 6, 7, 8, 9, 11, 12] [(6, [0, 1, 2])]
  | 12 => kp [5, 6, 7, 8, 9, 11, 12, 52] [(6, [0, 1, 2])]
  | 13 => kp [5, 6, 7, 8, 9, 11, 12] [(6, [0, 1, 2])]
  | 14 => kp [5, 6, 7, 8, 9, 11, 12, 13, 14] [(6, [0, 1, 2])]
  | 15 => kp [5, 6, 7, 8, 9, 11, 12, 71] [(6, [0, 1, 2])]
  | 16 => kp [4] []
  | 17 => kp [5, 6, 7, 8, 9, 11, 12] [(6, [0, 1, 2])]
  | 18 => kp [5, 6, 7, 8, 9, 11, 12] [(6, [0, 1, 2])]
  | 19 => kp [5, 6, 7, 8, 91] [(6, [0, 1, 2])]
  | 20 => kp [4] []
  | 21 => kp [5, 6, 7, 15] [(6, [0, 1, 2])]
  | 22 => kp [5, 6, 7, 15, 16] [(6, [0, 1, 2])]
  | 23 => kp [5, 6, 7, 15, 16, 96] [(6, [0, 1, 2])]
  | 24 => kp [5, 6, 7, 15, 16] [(6, [0, 1, 2])]
  | 25 => kp [5, 6, 7, 15, 16, 17, 18] [(6, [0, 1, 2])]
  | 26 => kp [5, 6, 7, 15, 16, 17, 113] [(6, [0, 1, 2])]
  | 27 => kp [4] []
  | 28 => kp [5, 6, 7, 15, 16, 17, 19] [(6, [0, 1, 2])]
  | 29 => kp [5, 6, 7, 15, 16, 17, 19, 20] [(6, [0, 1, 2])]
  | 30 => kp [5, 6, 7, 15, 16, 17, 19, 20, 117] [(6, [0, 1, 2])]
  | 31 => kp [5, 6, 7, 15, 16, 17, 19, 20] [(6, [0, 1, 2])]
  | 32 => kp [5, 6, 7, 15, 16, 17, 19, 20] [(6, [0, 1, 2])]
  | 33 => kp [5, 6, 7, 15, 16, 17, 19, 20] [(6, [0, 1, 2])]
  | 34 => kp [5, 6, 7, 15, 16, 139] [(6, [0, 1, 2])]
  | 35 => kp [4] []
  | 36 => kp [5, 6, 7, 15, 21] [(6, [0, 1, 2])]
  | 37 => kp [5, 6, 7, 15, 21, 144] [(6, [0, 1, 2])]
  | 38 => kp [5, 6, 7, 15, 21] [(6, [0, 1, 2])]
  | 39 => kp [5, 6, 7, 15, 21, 22] [(6, [0, 1, 2]), (22, [0, 1, 2, 3, 4, 5, 6])]
  | 40 => kp [5, 6, 7, 15, 21, 22] [(6, [0, 1, 2]), (22, [0, 1, 2, 3, 4, 5, 6])]
  | 41 => kp [5, 6, 7, 15, 21, 22] [(6, [0, 1, 2]), (22, [0, 1, 2, 3, 4, 5, 6])]
  | 42 => kp [5, 6, 7, 15, 21, 22] [(6, [0, 1, 2]), (22, [0, 1, 2, 3, 4, 5, 6])]
  | 43 => kp [5, 6, 7, 15, 21] [(6, [0, 1, 2])]
  | 44 => kp [4] []
  | _ => [], fun | _ => false⟩
noncomputable def body4 : Code := Try.f4.body.getD .skip
def L4_37_sh : Shape := [(.slot 5, .dat .bool), (.slot 6, .ptr 6 0), (.slot 7, .own 3 (.int .i64)), (.slot 15, .own 3 (.int .i64)), (.slot 21, .dat (.int .i64)), (.box 6, .bx 24 3), (.cell 6 0, .dat (.int .i64)), (.cell 6 1, .dat (.list t26)), (.cell 6 2, .dat (.int .i64))]
def L4_37_x0 : Shape := [(.slot 5, .dat .bool), (.slot 6, .ptr 6 0), (.slot 7, .own 3 (.int .i64)), (.slot 15, .own 3 (.int .i64)), (.slot 21, .dat (.int .i64)), (.box 6, .bx 24 3), (.cell 6 0, .dat (.int .i64)), (.cell 6 1, .dat (.list t26)), (.cell 6 2, .dat (.int .i64))]
def L4_37_pk (s : Tup L4_37_sh) : Bool × (List Int) × (List Int) × Int × Int × (List D26) × Int := (s.1, s.2.2.1, s.2.2.2.1, s.2.2.2.2.1, s.2.2.2.2.2.2.1, s.2.2.2.2.2.2.2.1, s.2.2.2.2.2.2.2.2.1)
def L4_37_un (s : Bool × (List Int) × (List Int) × Int × Int × (List D26) × Int) : Tup L4_37_sh := (s.1, ((), (s.2.1, (s.2.2.1, (s.2.2.2.1, ((), (s.2.2.2.2.1, (s.2.2.2.2.2.1, (s.2.2.2.2.2.2, ())))))))))
def L4_37_leave (x : (Bool × (List Int) × (List Int) × Int × Int × (List D26) × Int)) (R : Type) (K : Cont R) : Option R := match x with
  | a => K (.exit 8) (mkSt L4_37_x0 (a.1, ((), (a.2.1, (a.2.2.1, (a.2.2.2.1, ((), (a.2.2.2.2.1, (a.2.2.2.2.2.1, (a.2.2.2.2.2.2, ()))))))))))
def L4_37_d (e : Exit) (st : St) : Option ((Bool × (List Int) × (List Int) × Int × Int × (List D26) × Int)) := match e with
  | .exit 8 => (match unSt L4_37_x0 st with
    | some s => some (s.1, s.2.2.1, s.2.2.2.1, s.2.2.2.2.1, s.2.2.2.2.2.2.1, s.2.2.2.2.2.2.2.1, s.2.2.2.2.2.2.2.2.1)
    | none => none)
  | _ => none
def L4_37_r (s0 : Bool) (s1 : (List Int)) (s2 : (List Int)) (s3 : Int) (s4 : Int) (s5 : (List D26)) (s6 : Int) : Option ((Bool × (List Int) × (List Int) × Int × Int × (List D26) × Int) ⊕ ((Bool × (List Int) × (List Int) × Int × Int × (List D26) × Int))) :=
  let v50 : Int := ((List.length s5 : Nat) : Int)
  let v51 : Bool := (decide (s3 < v50))
  bif v51 then
  bif (decide (0 ≤ s3) && decide (s3 < List.length s5)) then
  let v52 : D26 := (List.getD s5 (Int.toNat s3) z26)
  bif (decide (0 ≤ v52.2.2.2.1) && decide (v52.2.2.2.1 < (List.length s1))) then
  bif (decide ((Int.toNat v52.2.2.2.1) < List.length s1)) then
  let v53 : Int := (List.getD s1 (Int.toNat v52.2.2.2.1) (0 : Int))
  let v54 : Int := (IntKind.i64.wrap (v53 - v52.2.2.2.2.1))
  bif (decide (0 ≤ v52.2.2.2.1) && decide (v52.2.2.2.1 < (List.length s1))) then
  bif (decide ((Int.toNat v52.2.2.2.1) < List.length s1)) then
  let v55 : (List Int) := (List.set s1 (Int.toNat v52.2.2.2.1) v54)
  bif (decide (0 ≤ v52.2.2.1) && decide (v52.2.2.1 < (List.length v55))) then
  bif (decide ((Int.toNat v52.2.2.1) < List.length v55)) then
  let v56 : Int := (List.getD v55 (Int.toNat v52.2.2.1) (0 : Int))
  let v57 : Int := (IntKind.i64.wrap (v56 + v52.2.2.2.2.1))
  bif (decide (0 ≤ v52.2.2.1) && decide (v52.2.2.1 < (List.length v55))) then
  bif (decide ((Int.toNat v52.2.2.1) < List.length v55)) then
  let v58 : (List Int) := (List.set v55 (Int.toNat v52.2.2.1) v57)
  bif (decide (0 ≤ v52.2.2.2.1) && decide (v52.2.2.2.1 < (List.length s2))) then
  bif (decide ((Int.toNat v52.2.2.2.1) < List.length s2)) then
  let v59 : Int := (List.getD s2 (Int.toNat v52.2.2.2.1) (0 : Int))
  let v60 : Int := (IntKind.i64.wrap (v59 - v52.2.2.2.2.1))
  bif (decide (0 ≤ v52.2.2.2.1) && decide (v52.2.2.2.1 < (List.length s2))) then
  bif (decide ((Int.toNat v52.2.2.2.1) < List.length s2)) then
  let v61 : (List Int) := (List.set s2 (Int.toNat v52.2.2.2.1) v60)
  bif (decide (0 ≤ v52.2.2.1) && decide (v52.2.2.1 < (List.length v61))) then
  bif (decide ((Int.toNat v52.2.2.1) < List.length v61)) then
  let v62 : Int := (List.getD v61 (Int.toNat v52.2.2.1) (0 : Int))
  let v63 : Int := (IntKind.i64.wrap (v62 + v52.2.2.2.2.1))
  bif (decide (0 ≤ v52.2.2.1) && decide (v52.2.2.1 < (List.length v61))) then
  bif (decide ((Int.toNat v52.2.2.1) < List.length v61)) then
  let v64 : (List Int) := (List.set v61 (Int.toNat v52.2.2.1) v63)
  let v65 : Int := (IntKind.i64.wrap (s3 + (1 : Int)))
  some (.inl (s0, v58, v64, v65, s4, s5, s6))
  else none
  else none
  else none
  else none
  else none
  else none
  else none
  else none
  else none
  else none
  else none
  else none
  else none
  else none
  else none
  else none
  else none
  else
  some (.inr (s0, s1, s2, s3, s4, s5, s6))
def L4_37 : Bool × (List Int) × (List Int) × Int × Int × (List D26) × Int → Option ((Bool × (List Int) × (List Int) × Int × Int × (List D26) × Int)) := Lim (fun s => L4_37_r s.1 s.2.1 s.2.2.1 s.2.2.2.1 s.2.2.2.2.1 s.2.2.2.2.2.1 s.2.2.2.2.2.2)
def L4_37_sum : Sum := limSum L4_37_sh L4_37_pk (fun s => L4_37_r s.1 s.2.1 s.2.2.1 s.2.2.2.1 s.2.2.2.2.1 s.2.2.2.2.2.1 s.2.2.2.2.2.2) L4_37_leave
theorem L4_37_nat : Natural L4_37_sum := natural_lim fun x R K => by
  rfl
theorem L4_37_dok : ∀ e st x, e ≠ .normal → L4_37_d e st = some x → ∀ R (K : Cont R), K e st = L4_37_leave x R K := by
  intro e st x _ h R K
  unfold L4_37_d at h
  split at h
  · split at h
    · rename_i s hs; cases h; rw [unSt_some hs]; rfl
    · cases h
  · cases h
def L4_30_sh : Shape := [(.slot 5, .dat .bool), (.slot 6, .ptr 6 0), (.slot 7, .own 3 (.int .i64)), (.slot 15, .own 3 (.int .i64)), (.slot 16, .dat (.int .i64)), (.slot 17, .own 3 (.int .i64)), (.slot 19, .dat (.int .i64)), (.slot 20, .dat (.int .i64)), (.box 6, .bx 24 3), (.cell 6 0, .dat (.int .i64)), (.cell 6 1, .dat (.list t26)), (.cell 6 2, .dat (.int .i64))]
def L4_30_x0 : Shape := [(.slot 5, .dat .bool), (.slot 6, .ptr 6 0), (.slot 7, .own 3 (.int .i64)), (.slot 15, .own 3 (.int .i64)), (.slot 16, .dat (.int .i64)), (.slot 17, .own 3 (.int .i64)), (.slot 19, .dat (.int .i64)), (.slot 20, .dat (.int .i64)), (.box 6, .bx 24 3), (.cell 6 0, .dat (.int .i64)), (.cell 6 1, .dat (.list t26)), (.cell 6 2, .dat (.int .i64))]
def L4_30_pk (s : Tup L4_30_sh) : Bool × (List Int) × (List Int) × Int × (List Int) × Int × Int × Int × (List D26) × Int := (s.1, s.2.2.1, s.2.2.2.1, s.2.2.2.2.1, s.2.2.2.2.2.1, s.2.2.2.2.2.2.1, s.2.2.2.2.2.2.2.1, s.2.2.2.2.2.2.2.2.2.1, s.2.2.2.2.2.2.2.2.2.2.1, s.2.2.2.2.2.2.2.2.2.2.2.1)
def L4_30_un (s : Bool × (List Int) × (List Int) × Int × (List Int) × Int × Int × Int × (List D26) × Int) : Tup L4_30_sh := (s.1, ((), (s.2.1, (s.2.2.1, (s.2.2.2.1, (s.2.2.2.2.1, (s.2.2.2.2.2.1, (s.2.2.2.2.2.2.1, ((), (s.2.2.2.2.2.2.2.1, (s.2.2.2.2.2.2.2.2.1, (s.2.2.2.2.2.2.2.2.2, ()))))))))))))
def L4_30_leave (x : (Bool × (List Int) × (List Int) × Int × (List Int) × Int × Int × Int × (List D26) × Int)) (R : Type) (K : Cont R) : Option R := match x with
  | a => K (.exit 6) (mkSt L4_30_x0 (a.1, ((), (a.2.1, (a.2.2.1, (a.2.2.2.1, (a.2.2.2.2.1, (a.2.2.2.2.2.1, (a.2.2.2.2.2.2.1, ((), (a.2.2.2.2.2.2.2.1, (a.2.2.2.2.2.2.2.2.1, (a.2.2.2.2.2.2.2.2.2, ())))))))))))))
def L4_30_d (e : Exit) (st : St) : Option ((Bool × (List Int) × (List Int) × Int × (List Int) × Int × Int × Int × (List D26) × Int)) := match e with
  | .exit 6 => (match unSt L4_30_x0 st with
    | some s => some (s.1, s.2.2.1, s.2.2.2.1, s.2.2.2.2.1, s.2.2.2.2.2.1, s.2.2.2.2.2.2.1, s.2.2.2.2.2.2.2.1, s.2.2.2.2.2.2.2.2.2.1, s.2.2.2.2.2.2.2.2.2.2.1, s.2.2.2.2.2.2.2.2.2.2.2.1)
    | none => none)
  | _ => none
def L4_30_r (s0 : Bool) (s1 : (List Int)) (s2 : (List Int)) (s3 : Int) (s4 : (List Int)) (s5 : Int) (s6 : Int) (s7 : Int) (s8 : (List D26)) (s9 : Int) : Option ((Bool × (List Int) × (List Int) × Int × (List Int) × Int × Int × Int × (List D26) × Int) ⊕ ((Bool × (List Int) × (List Int) × Int × (List Int) × Int × Int × Int × (List D26) × Int))) :=
  let v37 : Bool := (decide (s6 < s7))
  bif v37 then
  bif (decide (0 ≤ s6) && decide (s6 < (List.length s4))) then
  bif (decide ((Int.toNat s6) < List.length s4)) then
  let v38 : Int := (List.getD s4 (Int.toNat s6) (0 : Int))
  let v39 : Int := (IntKind.i64.wrap (s5 + v38))
  bif (decide (0 ≤ s6) && decide (s6 < (List.length s2))) then
  bif (decide ((Int.toNat s6) < List.length s2)) then
  let v40 : Int := (List.getD s2 (Int.toNat s6) (0 : Int))
  bif (decide (0 ≤ s6) && decide (s6 < (List.length s4))) then
  bif (decide ((Int.toNat s6) < List.length s4)) then
  let v41 : Int := (List.getD s4 (Int.toNat s6) (0 : Int))
  let v42 : Int := (IntKind.i64.wrap (v40 + v41))
  bif (decide (0 ≤ s6) && decide (s6 < (List.length s2))) then
  bif (decide ((Int.toNat s6) < List.length s2)) then
  let v43 : (List Int) := (List.set s2 (Int.toNat s6) v42)
  let v44 : Int := (IntKind.i64.wrap (s6 + (1 : Int)))
  some (.inl (s0, s1, v43, s3, s4, v39, v44, s7, s8, s9))
  else none
  else none
  else none
  else none
  else none
  else none
  else none
  else none
  else
  some (.inr (s0, s1, s2, s3, s4, s5, s6, s7, s8, s9))
def L4_30 : Bool × (List Int) × (List Int) × Int × (List Int) × Int × Int × Int × (List D26) × Int → Option ((Bool × (List Int) × (List Int) × Int × (List Int) × Int × Int × Int × (List D26) × Int)) := Lim (fun s => L4_30_r s.1 s.2.1 s.2.2.1 s.2.2.2.1 s.2.2.2.2.1 s.2.2.2.2.2.1 s.2.2.2.2.2.2.1 s.2.2.2.2.2.2.2.1 s.2.2.2.2.2.2.2.2.1 s.2.2.2.2.2.2.2.2.2)
def L4_30_sum : Sum := limSum L4_30_sh L4_30_pk (fun s => L4_30_r s.1 s.2.1 s.2.2.1 s.2.2.2.1 s.2.2.2.2.1 s.2.2.2.2.2.1 s.2.2.2.2.2.2.1 s.2.2.2.2.2.2.2.1 s.2.2.2.2.2.2.2.2.1 s.2.2.2.2.2.2.2.2.2) L4_30_leave
theorem L4_30_nat : Natural L4_30_sum := natural_lim fun x R K => by
  rfl
theorem L4_30_dok : ∀ e st x, e ≠ .normal → L4_30_d e st = some x → ∀ R (K : Cont R), K e st = L4_30_leave x R K := by
  intro e st x _ h R K
  unfold L4_30_d at h
  split at h
  · split at h
    · rename_i s hs; cases h; rw [unSt_some hs]; rfl
    · cases h
  · cases h
def L4_23_sh : Shape := [(.slot 5, .dat .bool), (.slot 6, .ptr 6 0), (.slot 7, .own 3 (.int .i64)), (.slot 15, .own 3 (.int .i64)), (.slot 16, .dat (.int .i64)), (.box 6, .bx 24 3), (.cell 6 0, .dat (.int .i64)), (.cell 6 1, .dat (.list t26)), (.cell 6 2, .dat (.int .i64))]
def L4_23_x0 : Shape := [(.slot 4, .dat .bool)]
def L4_23_x1 : Shape := [(.slot 5, .dat .bool), (.slot 6, .ptr 6 0), (.slot 7, .own 3 (.int .i64)), (.slot 15, .own 3 (.int .i64)), (.slot 16, .dat (.int .i64)), (.box 6, .bx 24 3), (.cell 6 0, .dat (.int .i64)), (.cell 6 1, .dat (.list t26)), (.cell 6 2, .dat (.int .i64))]
def L4_23_pk (s : Tup L4_23_sh) : Bool × (List Int) × (List Int) × Int × Int × (List D26) × Int := (s.1, s.2.2.1, s.2.2.2.1, s.2.2.2.2.1, s.2.2.2.2.2.2.1, s.2.2.2.2.2.2.2.1, s.2.2.2.2.2.2.2.2.1)
def L4_23_un (s : Bool × (List Int) × (List Int) × Int × Int × (List D26) × Int) : Tup L4_23_sh := (s.1, ((), (s.2.1, (s.2.2.1, (s.2.2.2.1, ((), (s.2.2.2.2.1, (s.2.2.2.2.2.1, (s.2.2.2.2.2.2, ())))))))))
def L4_23_leave (x : (Bool) ⊕ (Bool × (List Int) × (List Int) × Int × Int × (List D26) × Int)) (R : Type) (K : Cont R) : Option R := match x with
  | (.inl a) => K .ret (mkSt L4_23_x0 (a, ()))
  | (.inr a) => K (.exit 4) (mkSt L4_23_x1 (a.1, ((), (a.2.1, (a.2.2.1, (a.2.2.2.1, ((), (a.2.2.2.2.1, (a.2.2.2.2.2.1, (a.2.2.2.2.2.2, ()))))))))))
def L4_23_d (e : Exit) (st : St) : Option ((Bool) ⊕ (Bool × (List Int) × (List Int) × Int × Int × (List D26) × Int)) := match e with
  | .ret => (match unSt L4_23_x0 st with
    | some s => some (.inl s.1)
    | none => none)
  | .exit 4 => (match unSt L4_23_x1 st with
    | some s => some (.inr (s.1, s.2.2.1, s.2.2.2.1, s.2.2.2.2.1, s.2.2.2.2.2.2.1, s.2.2.2.2.2.2.2.1, s.2.2.2.2.2.2.2.2.1))
    | none => none)
  | _ => none
def L4_23_r (s0 : Bool) (s1 : (List Int)) (s2 : (List Int)) (s3 : Int) (s4 : Int) (s5 : (List D26)) (s6 : Int) : Option ((Bool × (List Int) × (List Int) × Int × Int × (List D26) × Int) ⊕ ((Bool) ⊕ (Bool × (List Int) × (List Int) × Int × Int × (List D26) × Int))) :=
  let v31 : Bool := (decide (s3 < (6 : Int)))
  bif v31 then
  bif (P24 (s4, (s5, (s6, ()))) s3) then
  let v32 : ((List Int) × Int) := (F24 (s4, (s5, (s6, ()))) s3)
  let v33 : Bool := (v32.2 != (0 : Int))
  let v34 : Int := (((List.length v32.1) : Nat) : Int)
  let v35 : Bool := (v34 != s4)
  let v36 : Bool := (bif v33 then true else v35)
  bif v36 then
  some (.inr (.inl false))
  else
  Option.bind (L4_30 (s0, s1, s2, s3, v32.1, (0 : Int), (0 : Int), s4, s5, s6)) fun (r45 : Bool × (List Int) × (List Int) × Int × (List Int) × Int × Int × Int × (List D26) × Int) =>
  let v46 : Bool := (r45.2.2.2.2.2.1 != (0 : Int))
  bif v46 then
  some (.inr (.inl false))
  else
  let v47 : Int := (IntKind.i64.wrap (r45.2.2.2.1 + (1 : Int)))
  some (.inl (r45.1, r45.2.1, r45.2.2.1, v47, r45.2.2.2.2.2.2.2.1, r45.2.2.2.2.2.2.2.2.1, r45.2.2.2.2.2.2.2.2.2))
  else none
  else
  some (.inr (.inr (s0, s1, s2, s3, s4, s5, s6)))
def L4_23 : Bool × (List Int) × (List Int) × Int × Int × (List D26) × Int → Option ((Bool) ⊕ (Bool × (List Int) × (List Int) × Int × Int × (List D26) × Int)) := Lim (fun s => L4_23_r s.1 s.2.1 s.2.2.1 s.2.2.2.1 s.2.2.2.2.1 s.2.2.2.2.2.1 s.2.2.2.2.2.2)
def L4_23_sum : Sum := limSum L4_23_sh L4_23_pk (fun s => L4_23_r s.1 s.2.1 s.2.2.1 s.2.2.2.1 s.2.2.2.2.1 s.2.2.2.2.2.1 s.2.2.2.2.2.2) L4_23_leave
theorem L4_23_nat : Natural L4_23_sum := natural_lim fun x R K => by
  rcases x with x|x <;> rfl
theorem L4_23_dok : ∀ e st x, e ≠ .normal → L4_23_d e st = some x → ∀ R (K : Cont R), K e st = L4_23_leave x R K := by
  intro e st x _ h R K
  unfold L4_23_d at h
  split at h
  · split at h
    · rename_i s hs; cases h; rw [unSt_some hs]; rfl
    · cases h
  · split at h
    · rename_i s hs; cases h; rw [unSt_some hs]; rfl
    · cases h
  · cases h
def L4_12_sh : Shape := [(.slot 5, .dat .bool), (.slot 6, .ptr 6 0), (.slot 7, .own 3 (.int .i64)), (.slot 8, .dat (.int .i64)), (.slot 9, .own 3 (.int .i64)), (.slot 11, .dat (.int .i64)), (.slot 12, .dat (.int .i64)), (.box 6, .bx 24 3), (.cell 6 0, .dat (.int .i64)), (.cell 6 1, .dat (.list t26)), (.cell 6 2, .dat (.int .i64))]
def L4_12_x0 : Shape := [(.slot 4, .dat .bool)]
def L4_12_x1 : Shape := [(.slot 5, .dat .bool), (.slot 6, .ptr 6 0), (.slot 7, .own 3 (.int .i64)), (.slot 8, .dat (.int .i64)), (.slot 9, .own 3 (.int .i64)), (.slot 11, .dat (.int .i64)), (.slot 12, .dat (.int .i64)), (.box 6, .bx 24 3), (.cell 6 0, .dat (.int .i64)), (.cell 6 1, .dat (.list t26)), (.cell 6 2, .dat (.int .i64))]
def L4_12_pk (s : Tup L4_12_sh) : Bool × (List Int) × Int × (List Int) × Int × Int × Int × (List D26) × Int := (s.1, s.2.2.1, s.2.2.2.1, s.2.2.2.2.1, s.2.2.2.2.2.1, s.2.2.2.2.2.2.1, s.2.2.2.2.2.2.2.2.1, s.2.2.2.2.2.2.2.2.2.1, s.2.2.2.2.2.2.2.2.2.2.1)
def L4_12_un (s : Bool × (List Int) × Int × (List Int) × Int × Int × Int × (List D26) × Int) : Tup L4_12_sh := (s.1, ((), (s.2.1, (s.2.2.1, (s.2.2.2.1, (s.2.2.2.2.1, (s.2.2.2.2.2.1, ((), (s.2.2.2.2.2.2.1, (s.2.2.2.2.2.2.2.1, (s.2.2.2.2.2.2.2.2, ())))))))))))
def L4_12_leave (x : (Bool) ⊕ (Bool × (List Int) × Int × (List Int) × Int × Int × Int × (List D26) × Int)) (R : Type) (K : Cont R) : Option R := match x with
  | (.inl a) => K .ret (mkSt L4_12_x0 (a, ()))
  | (.inr a) => K (.exit 2) (mkSt L4_12_x1 (a.1, ((), (a.2.1, (a.2.2.1, (a.2.2.2.1, (a.2.2.2.2.1, (a.2.2.2.2.2.1, ((), (a.2.2.2.2.2.2.1, (a.2.2.2.2.2.2.2.1, (a.2.2.2.2.2.2.2.2, ()))))))))))))
def L4_12_d (e : Exit) (st : St) : Option ((Bool) ⊕ (Bool × (List Int) × Int × (List Int) × Int × Int × Int × (List D26) × Int)) := match e with
  | .ret => (match unSt L4_12_x0 st with
    | some s => some (.inl s.1)
    | none => none)
  | .exit 2 => (match unSt L4_12_x1 st with
    | some s => some (.inr (s.1, s.2.2.1, s.2.2.2.1, s.2.2.2.2.1, s.2.2.2.2.2.1, s.2.2.2.2.2.2.1, s.2.2.2.2.2.2.2.2.1, s.2.2.2.2.2.2.2.2.2.1, s.2.2.2.2.2.2.2.2.2.2.1))
    | none => none)
  | _ => none
def L4_12_r (s0 : Bool) (s1 : (List Int)) (s2 : Int) (s3 : (List Int)) (s4 : Int) (s5 : Int) (s6 : Int) (s7 : (List D26)) (s8 : Int) : Option ((Bool × (List Int) × Int × (List Int) × Int × Int × Int × (List D26) × Int) ⊕ ((Bool) ⊕ (Bool × (List Int) × Int × (List Int) × Int × Int × Int × (List D26) × Int))) :=
  let v11 : Bool := (decide (s5 < s6))
  bif v11 then
  bif (P21 (s6, (s7, (s8, ()))) s5 s2) then
  let v12 : (Int × Int) := (F21 (s6, (s7, (s8, ()))) s5 s2)
  let v13 : Bool := (v12.2 != (0 : Int))
  bif ((decide (0 ≤ s5) && decide (s5 < (List.length s3))) || !(!v13 && true)) then
  bif ((decide ((Int.toNat s5) < List.length s3)) || !(!v13 && true)) then
  let v14 : Int := (List.getD s3 (Int.toNat s5) (0 : Int))
  let v15 : Bool := (v12.1 != v14)
  let v16 : Bool := (bif v13 then true else v15)
  bif v16 then
  some (.inr (.inl false))
  else
  bif (decide (0 ≤ s5) && decide (s5 < (List.length s3))) then
  bif (decide ((Int.toNat s5) < List.length s3)) then
  let v17 : Int := (List.getD s3 (Int.toNat s5) (0 : Int))
  let v18 : Int := (IntKind.i64.wrap (s4 + v17))
  bif (decide (0 ≤ s5) && decide (s5 < (List.length s1))) then
  bif (decide ((Int.toNat s5) < List.length s1)) then
  let v19 : Int := (List.getD s1 (Int.toNat s5) (0 : Int))
  bif (decide (0 ≤ s5) && decide (s5 < (List.length s3))) then
  bif (decide ((Int.toNat s5) < List.length s3)) then
  let v20 : Int := (List.getD s3 (Int.toNat s5) (0 : Int))
  let v21 : Int := (IntKind.i64.wrap (v19 + v20))
  bif (decide (0 ≤ s5) && decide (s5 < (List.length s1))) then
  bif (decide ((Int.toNat s5) < List.length s1)) then
  let v22 : (List Int) := (List.set s1 (Int.toNat s5) v21)
  let v23 : Int := (IntKind.i64.wrap (s5 + (1 : Int)))
  some (.inl (s0, v22, s2, s3, v18, v23, s6, s7, s8))
  else none
  else none
  else none
  else none
  else none
  else none
  else none
  else none
  else none
  else none
  else none
  else
  some (.inr (.inr (s0, s1, s2, s3, s4, s5, s6, s7, s8)))
def L4_12 : Bool × (List Int) × Int × (List Int) × Int × Int × Int × (List D26) × Int → Option ((Bool) ⊕ (Bool × (List Int) × Int × (List Int) × Int × Int × Int × (List D26) × Int)) := Lim (fun s => L4_12_r s.1 s.2.1 s.2.2.1 s.2.2.2.1 s.2.2.2.2.1 s.2.2.2.2.2.1 s.2.2.2.2.2.2.1 s.2.2.2.2.2.2.2.1 s.2.2.2.2.2.2.2.2)
def L4_12_sum : Sum := limSum L4_12_sh L4_12_pk (fun s => L4_12_r s.1 s.2.1 s.2.2.1 s.2.2.2.1 s.2.2.2.2.1 s.2.2.2.2.2.1 s.2.2.2.2.2.2.1 s.2.2.2.2.2.2.2.1 s.2.2.2.2.2.2.2.2) L4_12_leave
theorem L4_12_nat : Natural L4_12_sum := natural_lim fun x R K => by
  rcases x with x|x <;> rfl
theorem L4_12_dok : ∀ e st x, e ≠ .normal → L4_12_d e st = some x → ∀ R (K : Cont R), K e st = L4_12_leave x R K := by
  intro e st x _ h R K
  unfold L4_12_d at h
  split at h
  · split at h
    · rename_i s hs; cases h; rw [unSt_some hs]; rfl
    · cases h
  · split at h
    · rename_i s hs; cases h; rw [unSt_some hs]; rfl
    · cases h
  · cases h
def L4_5_sh : Shape := [(.slot 5, .dat .bool), (.slot 6, .ptr 6 0), (.slot 7, .own 3 (.int .i64)), (.slot 8, .dat (.int .i64)), (.box 6, .bx 24 3), (.cell 6 0, .dat (.int .i64)), (.cell 6 1, .dat (.list t26)), (.cell 6 2, .dat (.int .i64))]
def L4_5_x0 : Shape := [(.slot 4, .dat .bool)]
def L4_5_x1 : Shape := [(.slot 5, .dat .bool), (.slot 6, .ptr 6 0), (.slot 7, .own 3 (.int .i64)), (.slot 8, .dat (.int .i64)), (.box 6, .bx 24 3), (.cell 6 0, .dat (.int .i64)), (.cell 6 1, .dat (.list t26)), (.cell 6 2, .dat (.int .i64))]
def L4_5_pk (s : Tup L4_5_sh) : Bool × (List Int) × Int × Int × (List D26) × Int := (s.1, s.2.2.1, s.2.2.2.1, s.2.2.2.2.2.1, s.2.2.2.2.2.2.1, s.2.2.2.2.2.2.2.1)
def L4_5_un (s : Bool × (List Int) × Int × Int × (List D26) × Int) : Tup L4_5_sh := (s.1, ((), (s.2.1, (s.2.2.1, ((), (s.2.2.2.1, (s.2.2.2.2.1, (s.2.2.2.2.2, ()))))))))
def L4_5_leave (x : (Bool) ⊕ (Bool × (List Int) × Int × Int × (List D26) × Int)) (R : Type) (K : Cont R) : Option R := match x with
  | (.inl a) => K .ret (mkSt L4_5_x0 (a, ()))
  | (.inr a) => K (.exit 0) (mkSt L4_5_x1 (a.1, ((), (a.2.1, (a.2.2.1, ((), (a.2.2.2.1, (a.2.2.2.2.1, (a.2.2.2.2.2, ())))))))))
def L4_5_d (e : Exit) (st : St) : Option ((Bool) ⊕ (Bool × (List Int) × Int × Int × (List D26) × Int)) := match e with
  | .ret => (match unSt L4_5_x0 st with
    | some s => some (.inl s.1)
    | none => none)
  | .exit 0 => (match unSt L4_5_x1 st with
    | some s => some (.inr (s.1, s.2.2.1, s.2.2.2.1, s.2.2.2.2.2.1, s.2.2.2.2.2.2.1, s.2.2.2.2.2.2.2.1))
    | none => none)
  | _ => none
def L4_5_r (s0 : Bool) (s1 : (List Int)) (s2 : Int) (s3 : Int) (s4 : (List D26)) (s5 : Int) : Option ((Bool × (List Int) × Int × Int × (List D26) × Int) ⊕ ((Bool) ⊕ (Bool × (List Int) × Int × Int × (List D26) × Int))) :=
  let v5 : Bool := (decide (s2 < (12 : Int)))
  bif v5 then
  bif (P19 (s3, (s4, (s5, ()))) s2) then
  let v6 : ((List Int) × Int) := (F19 (s3, (s4, (s5, ()))) s2)
  let v7 : Bool := (v6.2 != (0 : Int))
  let v8 : Int := (((List.length v6.1) : Nat) : Int)
  let v9 : Bool := (v8 != s3)
  let v10 : Bool := (bif v7 then true else v9)
  bif v10 then
  some (.inr (.inl false))
  else
  Option.bind (L4_12 (s0, s1, s2, v6.1, (0 : Int), (0 : Int), s3, s4, s5)) fun x => match x with
  | (.inl r24) =>
  some (.inr (.inl r24))
  | (.inr r25) =>
  let v26 : Bool := (r25.2.2.2.2.1 != (0 : Int))
  bif v26 then
  some (.inr (.inl false))
  else
  let v27 : Int := (IntKind.i64.wrap (r25.2.2.1 + (1 : Int)))
  some (.inl (r25.1, r25.2.1, v27, r25.2.2.2.2.2.2.1, r25.2.2.2.2.2.2.2.1, r25.2.2.2.2.2.2.2.2))
  else none
  else
  some (.inr (.inr (s0, s1, s2, s3, s4, s5)))
def L4_5 : Bool × (List Int) × Int × Int × (List D26) × Int → Option ((Bool) ⊕ (Bool × (List Int) × Int × Int × (List D26) × Int)) := Lim (fun s => L4_5_r s.1 s.2.1 s.2.2.1 s.2.2.2.1 s.2.2.2.2.1 s.2.2.2.2.2)
def L4_5_sum : Sum := limSum L4_5_sh L4_5_pk (fun s => L4_5_r s.1 s.2.1 s.2.2.1 s.2.2.2.1 s.2.2.2.2.1 s.2.2.2.2.2) L4_5_leave
theorem L4_5_nat : Natural L4_5_sum := natural_lim fun x R K => by
  rcases x with x|x <;> rfl
theorem L4_5_dok : ∀ e st x, e ≠ .normal → L4_5_d e st = some x → ∀ R (K : Cont R), K e st = L4_5_leave x R K := by
  intro e st x _ h R K
  unfold L4_5_d at h
  split at h
  · split at h
    · rename_i s hs; cases h; rw [unSt_some hs]; rfl
    · cases h
  · split at h
    · rename_i s hs; cases h; rw [unSt_some hs]; rfl
    · cases h
  · cases h
def loops4 : Nat → Option (Sum) := fun | 5 => some L4_5_sum | 12 => some L4_12_sum | 23 => some L4_23_sum | 30 => some L4_30_sum | 37 => some L4_37_sum | _ => none
theorem loops4_nat : ∀ q f, loops4 q = some f → Natural f := by
  intro q f h
  unfold loops4 at h
  split at h
  · cases h; exact L4_5_nat
  · cases h; exact L4_12_nat
  · cases h; exact L4_23_nat
  · cases h; exact L4_30_nat
  · cases h; exact L4_37_nat
  · cases h
noncomputable def L4_5_code : Code := (loopsOf body4).getD 0 .skip
theorem L4_5_round (s0 : Bool) (s1 : (List Int)) (s2 : Int) (s3 : Int) (s4 : (List D26)) (s5 : Int) : ev2 env4 orc4 loops4 L4_5_code (mkSt L4_5_sh (s0, ((), (s1, (s2, ((), (s3, (s4, (s5, ()))))))))) (back L4_5_sh L4_5_pk L4_5_d) = L4_5_r s0 s1 s2 s3 s4 s5 := by kernel_rfl
theorem L4_5_ok : SumOk env4 orc4 loops4 L4_5_code L4_5_sum := sumOk_lim (un := L4_5_un) loops4_nat (fun _ => rfl) L4_5_dok fun s => L4_5_round s.1 s.2.1 s.2.2.1 s.2.2.2.1 s.2.2.2.2.1 s.2.2.2.2.2
noncomputable def L4_12_code : Code := (loopsOf body4).getD 1 .skip
theorem L4_12_round (s0 : Bool) (s1 : (List Int)) (s2 : Int) (s3 : (List Int)) (s4 : Int) (s5 : Int) (s6 : Int) (s7 : (List D26)) (s8 : Int) : ev2 env4 orc4 loops4 L4_12_code (mkSt L4_12_sh (s0, ((), (s1, (s2, (s3, (s4, (s5, ((), (s6, (s7, (s8, ())))))))))))) (back L4_12_sh L4_12_pk L4_12_d) = L4_12_r s0 s1 s2 s3 s4 s5 s6 s7 s8 := by kernel_rfl
theorem L4_12_ok : SumOk env4 orc4 loops4 L4_12_code L4_12_sum := sumOk_lim (un := L4_12_un) loops4_nat (fun _ => rfl) L4_12_dok fun s => L4_12_round s.1 s.2.1 s.2.2.1 s.2.2.2.1 s.2.2.2.2.1 s.2.2.2.2.2.1 s.2.2.2.2.2.2.1 s.2.2.2.2.2.2.2.1 s.2.2.2.2.2.2.2.2
noncomputable def L4_23_code : Code := (loopsOf body4).getD 2 .skip
theorem L4_23_round (s0 : Bool) (s1 : (List Int)) (s2 : (List Int)) (s3 : Int) (s4 : Int) (s5 : (List D26)) (s6 : Int) : ev2 env4 orc4 loops4 L4_23_code (mkSt L4_23_sh (s0, ((), (s1, (s2, (s3, ((), (s4, (s5, (s6, ())))))))))) (back L4_23_sh L4_23_pk L4_23_d) = L4_23_r s0 s1 s2 s3 s4 s5 s6 := by kernel_rfl
theorem L4_23_ok : SumOk env4 orc4 loops4 L4_23_code L4_23_sum := sumOk_lim (un := L4_23_un) loops4_nat (fun _ => rfl) L4_23_dok fun s => L4_23_round s.1 s.2.1 s.2.2.1 s.2.2.2.1 s.2.2.2.2.1 s.2.2.2.2.2.1 s.2.2.2.2.2.2
noncomputable def L4_30_code : Code := (loopsOf body4).getD 3 .skip
theorem L4_30_round (s0 : Bool) (s1 : (List Int)) (s2 : (List Int)) (s3 : Int) (s4 : (List Int)) (s5 : Int) (s6 : Int) (s7 : Int) (s8 : (List D26)) (s9 : Int) : ev2 env4 orc4 loops4 L4_30_code (mkSt L4_30_sh (s0, ((), (s1, (s2, (s3, (s4, (s5, (s6, ((), (s7, (s8, (s9, ()))))))))))))) (back L4_30_sh L4_30_pk L4_30_d) = L4_30_r s0 s1 s2 s3 s4 s5 s6 s7 s8 s9 := by kernel_rfl
theorem L4_30_ok : SumOk env4 orc4 loops4 L4_30_code L4_30_sum := sumOk_lim (un := L4_30_un) loops4_nat (fun _ => rfl) L4_30_dok fun s => L4_30_round s.1 s.2.1 s.2.2.1 s.2.2.2.1 s.2.2.2.2.1 s.2.2.2.2.2.1 s.2.2.2.2.2.2.1 s.2.2.2.2.2.2.2.1 s.2.2.2.2.2.2.2.2.1 s.2.2.2.2.2.2.2.2.2
noncomputable def L4_37_code : Code := (loopsOf body4).getD 4 .skip
theorem L4_37_round (s0 : Bool) (s1 : (List Int)) (s2 : (List Int)) (s3 : Int) (s4 : Int) (s5 : (List D26)) (s6 : Int) : ev2 env4 orc4 loops4 L4_37_code (mkSt L4_37_sh (s0, ((), (s1, (s2, (s3, ((), (s4, (s5, (s6, ())))))))))) (back L4_37_sh L4_37_pk L4_37_d) = L4_37_r s0 s1 s2 s3 s4 s5 s6 := by kernel_rfl
theorem L4_37_ok : SumOk env4 orc4 loops4 L4_37_code L4_37_sum := sumOk_lim (un := L4_37_un) loops4_nat (fun _ => rfl) L4_37_dok fun s => L4_37_round s.1 s.2.1 s.2.2.1 s.2.2.2.1 s.2.2.2.2.1 s.2.2.2.2.2.1 s.2.2.2.2.2.2
theorem loops4_all : loopsOf body4 = [L4_5_code, L4_12_code, L4_23_code, L4_30_code, L4_37_code] := by kernel_rfl
theorem L4_5_key : lookL loops4 (keyOf L4_5_code) = some L4_5_sum := by kernel_rfl
theorem L4_12_key : lookL loops4 (keyOf L4_12_code) = some L4_12_sum := by kernel_rfl
theorem L4_23_key : lookL loops4 (keyOf L4_23_code) = some L4_23_sum := by kernel_rfl
theorem L4_30_key : lookL loops4 (keyOf L4_30_code) = some L4_30_sum := by kernel_rfl
theorem L4_37_key : lookL loops4 (keyOf L4_37_code) = some L4_37_sum := by kernel_rfl
theorem loops4_ok : LoopsOk env4 orc4 loops4 body4 := by
  intro c hc f hf
  rw [loops4_all] at hc
  simp only [List.mem_cons, List.not_mem_nil, or_false] at hc
  rcases hc with rfl | rfl | rfl | rfl | rfl
  · rw [L4_5_key] at hf; cases hf; exact L4_5_ok
  · rw [L4_12_key] at hf; cases hf; exact L4_12_ok
  · rw [L4_23_key] at hf; cases hf; exact L4_23_ok
  · rw [L4_30_key] at hf; cases hf; exact L4_30_ok
  · rw [L4_37_key] at hf; cases hf; exact L4_37_ok
def G4 (x0 : Int) (x1 : (List (List Int))) : Option (Bool) :=
  bif (P7 ) then
  bif (P8 x0 x1) then
  let q1 : (D23 × Unit) := F8 x0 x1
  let v2 : (List D26) := ([] : (List D26))
  let v3 : (List D26) := ([] : (List D26))
  bif (decide (0 ≤ q1.1.1) && decide (q1.1.1 ≤ q1.1.1) && decide (q1.1.1 ≤ 100000000000)) then
  let v4 : (List Int) := (List.replicate (Int.toNat q1.1.1) (0 : Int))
  Option.bind (L4_5 (F7, v4, (0 : Int), q1.1.1, q1.1.2.1, q1.1.2.2.1)) fun x => match x with
  | (.inl r28) =>
  some (r28)
  | (.inr r29) =>
  bif (decide (0 ≤ r29.2.2.2.1) && decide (r29.2.2.2.1 ≤ r29.2.2.2.1) && decide (r29.2.2.2.1 ≤ 100000000000)) then
  let v30 : (List Int) := (List.replicate (Int.toNat r29.2.2.2.1) (0 : Int))
  Option.bind (L4_23 (r29.1, r29.2.1, v30, (0 : Int), r29.2.2.2.1, r29.2.2.2.2.1, r29.2.2.2.2.2)) fun x => match x with
  | (.inl r48) =>
  some (r48)
  | (.inr r49) =>
  Option.bind (L4_37 (r49.1, r49.2.1, r49.2.2.1, (0 : Int), r49.2.2.2.2.1, r49.2.2.2.2.2.1, r49.2.2.2.2.2.2)) fun (r66 : Bool × (List Int) × (List Int) × Int × Int × (List D26) × Int) =>
  bif ((decide (0 ≤ r66.2.2.2.2.1) && decide (r66.2.2.2.2.1 ≤ r66.2.2.2.2.1) && decide (r66.2.2.2.2.1 ≤ 100000000000)) || !(r66.1 && true)) then
  let v67 : (List Int) := (List.replicate (Int.toNat r66.2.2.2.2.1) (0 : Int))
  bif ((P23 (List.take (List.length r66.2.1) r66.2.1) v67) || !(r66.1 && true)) then
  let v68 : Bool := (F23 (List.take (List.length r66.2.1) r66.2.1) v67)
  let v69 : Bool := (bif r66.1 then v68 else false)
  bif ((decide (0 ≤ r66.2.2.2.2.1) && decide (r66.2.2.2.2.1 ≤ r66.2.2.2.2.1) && decide (r66.2.2.2.2.1 ≤ 100000000000)) || !(v69 && true)) then
  let v70 : (List Int) := (List.replicate (Int.toNat r66.2.2.2.2.1) (0 : Int))
  bif ((P23 (List.take (List.length r66.2.2.1) r66.2.2.1) v70) || !(v69 && true)) then
  let v71 : Bool := (F23 (List.take (List.length r66.2.2.1) r66.2.2.1) v70)
  let v72 : Bool := (bif v69 then v71 else false)
  some (v72)
  else none
  else none
  else none
  else none
  else none
  else none
  else none
  else none
theorem ev4 (x0 : Int) (x1 : (List (List Int))) : ev2 env4 orc4 loops4 body4 (initSt 0 [⟨(.int .i64), x0⟩, ⟨(.list (.arr 5 (.int .i64))), x1⟩]) (retT [(4, .dat .bool)] [.bool] fun x => x.1) = G4 x0 x1 := by kernel_rfl
def P4 (x0 : Int) (x1 : (List (List Int))) : Bool := (G4 x0 x1).isSome
def F4 (x0 : Int) (x1 : (List (List Int))) : Bool := (G4 x0 x1).getD default
theorem G4_some (x0 : Int) (x1 : (List (List Int))) (h : P4 x0 x1 = true) : G4 x0 x1 = some (F4 x0 x1) := by
  unfold P4 at h; unfold F4
  cases hg : G4 x0 x1 with
  | none => rw [hg] at h; cases h
  | some r => rfl
theorem P4_of (x0 : Int) (x1 : (List (List Int))) {r : Bool} (h : G4 x0 x1 = some r) : P4 x0 x1 = true := by unfold P4; rw [h]; rfl
theorem F4_of (x0 : Int) (x1 : (List (List Int))) {r : Bool} (h : G4 x0 x1 = some r) : F4 x0 x1 = r := by unfold F4; rw [h]; rfl
def spec4 : Spec := ⟨[(.int .i64), (.list (.arr 5 (.int .i64)))], [.dat .bool], fun | [a0, a1] => P4 (a0.as (.int .i64)) (a1.as (.list (.arr 5 (.int .i64)))) | _ => false, fun | [a0, a1] => [⟨.bool, (F4 (a0.as (.int .i64)) (a1.as (.list (.arr 5 (.int .i64)))))⟩] | _ => []⟩
theorem meets4 (hE : EnvOk Try.prog env4) (hm : Try.prog.follows .mixedOrders = true) : Meets Try.prog glob 4 spec4 :=
  meets_of_ev2 (O := orc4) (L := loops4) (c := body4) (slots := [4]) hE hm Try.func4 Try.call4 (by kernel_rfl) (by kernel_rfl) loops4_ok (rangesOk_nil (by kernel_rfl)) (by kernel_rfl) rfl (by decide) (fun ds hds hpre => by
  obtain ⟨x0, ds0, rfl, h0⟩ := datsS hds
  obtain ⟨x1, ds1, rfl, h1⟩ := datsS h0
  have h9 := dats0 h1; subst h9
  exact ev_ret (un := fun r => [⟨.bool, r⟩]) loops4_nat (fun _ => rfl) ((ev4 x0 x1).trans (G4_some x0 x1 hpre)))
def env5 : Env where
  tab := tab
  glob := glob
  spec := fun
    | 7 => some spec7
    | 11 => some spec11
    | 13 => some spec13
    | 14 => some spec14
    | 19 => some spec19
    | 23 => some spec23
    | 26 => some spec26
    | _ => none
  spec2 := fun
    | 8, [] => some sp8
    | 9, [] => some sp9
    | 15, [] => some sp15
    | 17, [] => some sp17
    | _, _ => none
def orc5 : Orc := ⟨204, fun _ => none, fun
  | 0 => kp [0, 1, 2] []
  | 1 => kp [0, 1, 2, 7] []
  | 2 => kp [2, 7, 8] [(8, [0, 1, 2])]
  | 3 => kp [2, 7, 8, 28] [(8, [0, 1, 2])]
  | 4 => kp [6] []
  | 5 => kp [2, 7, 8, 9] [(8, [0, 1, 2])]
  | 6 => kp [2, 7, 8, 9, 36] [(8, [0, 1, 2])]
  | 7 => kp [2, 7, 8, 9] [(8, [0, 1, 2])]
  | 8 => kp [2, 7, 8, 9, 10] [(8, [0, 1, 2]), (10, [0])]
  | 9 => kp [2, 7, 8, 9, 10, 11] [(8, [0, 1, 2]), (10, [0])]
  | 10 => kp [2, 7, 8, 9, 10, 11, 12] [(8, [0, 1, 2]), (10, [0]), (12, [0, 1, 2, 3, 4, 5, 6])]
  | 11 => kp [2, 7, 8, 9, 10, 11, 13, 14, 15] [(8, [0, 1, 2]), (10, [0]), (13, [0, 1, 2])]
  | 12 => kp [2, 7, 8, 9, 10, 11, 13, 14, 15, 16] [(8, [0, 1, 2]), (10, [0]), (13, [0, 1, 2])]
  | 13 => kp [2, 7, 8, 9, 10, 11, 13, 14, 15, 16, 69] [(8, [0, 1, 2]), (10, [0]), (13, [0, 1, 2])]
  | 14 => kp [2, 7, 8, 9, 10, 11, 13, 14, 15, 16, 69, 70] [(8, [0, 1, 2]), (10, [0]), (13, [0, 1, 2])]
  | 15 => kp [2, 7, 8, 9, 13, 15] [(8, [0, 1, 2]), (13, [0, 1, 2])]
  | 16 => kp [2, 7, 8, 9, 13, 15, 16] [(8, [0, 1, 2]), (13, [0, 1, 2])]
  | 17 => kp [2, 7, 8, 9, 13, 14, 15, 16] [(8, [0, 1, 2]), (13, [0, 1, 2])]
  | 18 => kp [2, 7, 8, 9, 10, 13, 14, 15, 16, 94] [(8, [0, 1, 2]), (10, [0]), (13, [0, 1, 2])]
  | 19 => kp [2, 7, 8, 9, 13, 15] [(8, [0, 1, 2]), (13, [0, 1, 2])]
  | 20 => kp [2, 7, 8, 9, 13, 15, 16] [(8, [0, 1, 2]), (13, [0, 1, 2])]
  | 21 => kp [2, 7, 8, 9, 13, 14, 15, 16] [(8, [0, 1, 2]), (13, [0, 1, 2])]
  | 22 => kp [2, 7, 8, 9, 13, 14, 15, 16, 108] [(8, [0, 1, 2]), (13, [0, 1, 2])]
  | 23 => kp [2, 7, 8, 9, 116] [(8, [0, 1, 2])]
  | 24 => kp [6] []
  | 25 => kp [2, 7, 8, 9, 13, 171] [(8, [0, 1, 2]), (13, [0, 1, 2])]
  | 26 => kp [6] []
  | 27 => kp [2, 7, 8, 9, 13, 17] [(8, [0, 1, 2]), (13, [0, 1, 2])]
  | 28 => kp [2, 7, 8, 9, 13, 17, 175] [(8, [0, 1, 2]), (13, [0, 1, 2])]
  | 29 => kp [2, 7, 8, 9, 13, 17] [(8, [0, 1, 2]), (13, [0, 1, 2])]
  | 30 => kp [2, 7, 8, 9, 13, 17, 18, 19] [(8, [0, 1, 2]), (13, [0, 1, 2])]
  | 31 => kp [2, 7, 8, 9, 13, 17, 18, 19, 20, 21] [(8, [0, 1, 2]), (13, [0, 1, 2])]
  | 32 => kp [2, 7, 8, 9, 13, 17, 201] [(8, [0, 1, 2]), (13, [0, 1, 2])]
  | 33 => kp [6] []
  | 34 => kp [2, 7, 8, 9] [(8, [0, 1, 2])]
  | 35 => kp [6] []
  | _ => [], fun | _ => false⟩
noncomputable def body5 : Code := Try.f5.body.getD .skip
def L5_28_sh : Shape := [(.slot 2, .dat (.list (.arr 5 (.int .i64)))), (.slot 7, .dat .bool), (.slot 8, .ptr 8 0), (.slot 9, .dat (.int .i64)), (.slot 13, .ptr 13 0), (.slot 17, .dat (.int .i64)), (.box 8, .bx 24 3), (.cell 8 0, .dat (.int .i64)), (.cell 8 1, .dat (.list t26)), (.cell 8 2, .dat (.int .i64)), (.box 13, .bx 24 3), (.cell 13 0, .dat (.int .i64)), (.cell 13 1, .dat (.list t26)), (.cell 13 2, .dat (.int .i64))]
def L5_28_x0 : Shape := [(.slot 6, .dat .bool)]
def L5_28_x1 : Shape := [(.slot 2, .dat (.list (.arr 5 (.int .i64)))), (.slot 7, .dat .bool), (.slot 8, .ptr 8 0), (.slot 9, .dat (.int .i64)), (.slot 13, .ptr 13 0), (.slot 17, .dat (.int .i64)), (.box 8, .bx 24 3), (.cell 8 0, .dat (.int .i64)), (.cell 8 1, .dat (.list t26)), (.cell 8 2, .dat (.int .i64)), (.box 13, .bx 24 3), (.cell 13 0, .dat (.int .i64)), (.cell 13 1, .dat (.list t26)), (.cell 13 2, .dat (.int .i64))]
def L5_28_pk (s : Tup L5_28_sh) : (List (List Int)) × Bool × Int × Int × Int × (List D26) × Int × Int × (List D26) × Int := (s.1, s.2.1, s.2.2.2.1, s.2.2.2.2.2.1, s.2.2.2.2.2.2.2.1, s.2.2.2.2.2.2.2.2.1, s.2.2.2.2.2.2.2.2.2.1, s.2.2.2.2.2.2.2.2.2.2.2.1, s.2.2.2.2.2.2.2.2.2.2.2.2.1, s.2.2.2.2.2.2.2.2.2.2.2.2.2.1)
def L5_28_un (s : (List (List Int)) × Bool × Int × Int × Int × (List D26) × Int × Int × (List D26) × Int) : Tup L5_28_sh := (s.1, (s.2.1, ((), (s.2.2.1, ((), (s.2.2.2.1, ((), (s.2.2.2.2.1, (s.2.2.2.2.2.1, (s.2.2.2.2.2.2.1, ((), (s.2.2.2.2.2.2.2.1, (s.2.2.2.2.2.2.2.2.1, (s.2.2.2.2.2.2.2.2.2, ()))))))))))))))
def L5_28_leave (x : (Bool) ⊕ ((List (List Int)) × Bool × Int × Int × Int × (List D26) × Int × Int × (List D26) × Int)) (R : Type) (K : Cont R) : Option R := match x with
  | (.inl a) => K .ret (mkSt L5_28_x0 (a, ()))
  | (.inr a) => K (.exit 3) (mkSt L5_28_x1 (a.1, (a.2.1, ((), (a.2.2.1, ((), (a.2.2.2.1, ((), (a.2.2.2.2.1, (a.2.2.2.2.2.1, (a.2.2.2.2.2.2.1, ((), (a.2.2.2.2.2.2.2.1, (a.2.2.2.2.2.2.2.2.1, (a.2.2.2.2.2.2.2.2.2, ())))))))))))))))
def L5_28_d (e : Exit) (st : St) : Option ((Bool) ⊕ ((List (List Int)) × Bool × Int × Int × Int × (List D26) × Int × Int × (List D26) × Int)) := match e with
  | .ret => (match unSt L5_28_x0 st with
    | some s => some (.inl s.1)
    | none => none)
  | .exit 3 => (match unSt L5_28_x1 st with
    | some s => some (.inr (s.1, s.2.1, s.2.2.2.1, s.2.2.2.2.2.1, s.2.2.2.2.2.2.2.1, s.2.2.2.2.2.2.2.2.1, s.2.2.2.2.2.2.2.2.2.1, s.2.2.2.2.2.2.2.2.2.2.2.1, s.2.2.2.2.2.2.2.2.2.2.2.2.1, s.2.2.2.2.2.2.2.2.2.2.2.2.2.1))
    | none => none)
  | _ => none
def L5_28_r (s0 : (List (List Int))) (s1 : Bool) (s2 : Int) (s3 : Int) (s4 : Int) (s5 : (List D26)) (s6 : Int) (s7 : Int) (s8 : (List D26)) (s9 : Int) : Option (((List (List Int)) × Bool × Int × Int × Int × (List D26) × Int × Int × (List D26) × Int) ⊕ ((Bool) ⊕ ((List (List Int)) × Bool × Int × Int × Int × (List D26) × Int × Int × (List D26) × Int))) :=
  let v154 : Bool := (decide (s3 < s6))
  bif v154 then
  bif (P19 (s4, (s5, (s6, ()))) s3) then
  let v155 : ((List Int) × Int) := (F19 (s4, (s5, (s6, ()))) s3)
  bif (P19 (s7, (s8, (s9, ()))) s3) then
  let v156 : ((List Int) × Int) := (F19 (s7, (s8, (s9, ()))) s3)
  let v157 : Bool := (v155.2 != (0 : Int))
  let v158 : Bool := (v156.2 != (0 : Int))
  let v159 : Bool := (bif v157 then true else v158)
  bif ((P23 (List.take (List.length v155.1) v155.1) (List.take (List.length v156.1) v156.1)) || !(!v159 && true)) then
  let v160 : Bool := (F23 (List.take (List.length v155.1) v155.1) (List.take (List.length v156.1) v156.1))
  let v161 : Bool := (!v160)
  let v162 : Bool := (bif v159 then true else v161)
  bif v162 then
  some (.inr (.inl false))
  else
  let v163 : Int := (IntKind.i64.wrap (s3 + (1 : Int)))
  some (.inl (s0, s1, s2, v163, s4, s5, s6, s7, s8, s9))
  else none
  else none
  else none
  else
  some (.inr (.inr (s0, s1, s2, s3, s4, s5, s6, s7, s8, s9)))
def L5_28 : (List (List Int)) × Bool × Int × Int × Int × (List D26) × Int × Int × (List D26) × Int → Option ((Bool) ⊕ ((List (List Int)) × Bool × Int × Int × Int × (List D26) × Int × Int × (List D26) × Int)) := Lim (fun s => L5_28_r s.1 s.2.1 s.2.2.1 s.2.2.2.1 s.2.2.2.2.1 s.2.2.2.2.2.1 s.2.2.2.2.2.2.1 s.2.2.2.2.2.2.2.1 s.2.2.2.2.2.2.2.2.1 s.2.2.2.2.2.2.2.2.2)
def L5_28_sum : Sum := limSum L5_28_sh L5_28_pk (fun s => L5_28_r s.1 s.2.1 s.2.2.1 s.2.2.2.1 s.2.2.2.2.1 s.2.2.2.2.2.1 s.2.2.2.2.2.2.1 s.2.2.2.2.2.2.2.1 s.2.2.2.2.2.2.2.2.1 s.2.2.2.2.2.2.2.2.2) L5_28_leave
theorem L5_28_nat : Natural L5_28_sum := natural_lim fun x R K => by
  rcases x with x|x <;> rfl
theorem L5_28_dok : ∀ e st x, e ≠ .normal → L5_28_d e st = some x → ∀ R (K : Cont R), K e st = L5_28_leave x R K := by
  intro e st x _ h R K
  unfold L5_28_d at h
  split at h
  · split at h
    · rename_i s hs; cases h; rw [unSt_some hs]; rfl
    · cases h
  · split at h
    · rename_i s hs; cases h; rw [unSt_some hs]; rfl
    · cases h
  · cases h
def L5_6_sh : Shape := [(.slot 2, .dat (.list (.arr 5 (.int .i64)))), (.slot 7, .dat .bool), (.slot 8, .ptr 8 0), (.slot 9, .dat (.int .i64)), (.box 8, .bx 24 3), (.cell 8 0, .dat (.int .i64)), (.cell 8 1, .dat (.list t26)), (.cell 8 2, .dat (.int .i64))]
def L5_6_x0 : Shape := [(.slot 6, .dat .bool)]
def L5_6_x1 : Shape := [(.slot 2, .dat (.list (.arr 5 (.int .i64)))), (.slot 7, .dat .bool), (.slot 8, .ptr 8 0), (.slot 9, .dat (.int .i64)), (.box 8, .bx 24 3), (.cell 8 0, .dat (.int .i64)), (.cell 8 1, .dat (.list t26)), (.cell 8 2, .dat (.int .i64))]
def L5_6_pk (s : Tup L5_6_sh) : (List (List Int)) × Bool × Int × Int × (List D26) × Int := (s.1, s.2.1, s.2.2.2.1, s.2.2.2.2.2.1, s.2.2.2.2.2.2.1, s.2.2.2.2.2.2.2.1)
def L5_6_un (s : (List (List Int)) × Bool × Int × Int × (List D26) × Int) : Tup L5_6_sh := (s.1, (s.2.1, ((), (s.2.2.1, ((), (s.2.2.2.1, (s.2.2.2.2.1, (s.2.2.2.2.2, ()))))))))
def L5_6_leave (x : (Bool) ⊕ ((List (List Int)) × Bool × Int × Int × (List D26) × Int)) (R : Type) (K : Cont R) : Option R := match x with
  | (.inl a) => K .ret (mkSt L5_6_x0 (a, ()))
  | (.inr a) => K (.exit 0) (mkSt L5_6_x1 (a.1, (a.2.1, ((), (a.2.2.1, ((), (a.2.2.2.1, (a.2.2.2.2.1, (a.2.2.2.2.2, ())))))))))
def L5_6_d (e : Exit) (st : St) : Option ((Bool) ⊕ ((List (List Int)) × Bool × Int × Int × (List D26) × Int)) := match e with
  | .ret => (match unSt L5_6_x0 st with
    | some s => some (.inl s.1)
    | none => none)
  | .exit 0 => (match unSt L5_6_x1 st with
    | some s => some (.inr (s.1, s.2.1, s.2.2.2.1, s.2.2.2.2.2.1, s.2.2.2.2.2.2.1, s.2.2.2.2.2.2.2.1))
    | none => none)
  | _ => none
def L5_6_r (s0 : (List (List Int))) (s1 : Bool) (s2 : Int) (s3 : Int) (s4 : (List D26)) (s5 : Int) : Option (((List (List Int)) × Bool × Int × Int × (List D26) × Int) ⊕ ((Bool) ⊕ ((List (List Int)) × Bool × Int × Int × (List D26) × Int))) :=
  let v6 : Int := ((List.length s0 : Nat) : Int)
  let v7 : Bool := (decide (s2 < v6))
  let v8 : Bool := (decide (s2 < (8 : Int)))
  let v9 : Bool := (bif v7 then v8 else false)
  bif v9 then
  bif (decide (0 ≤ s2) && decide (s2 < List.length s0)) then
  let v10 : (List Int) := (List.getD s0 (Int.toNat s2) (List.replicate 5 (0 : Int)))
  let v11 : (List Int) := (List.replicate 5 (0 : Int))
  bif (decide (0 ≤ (1 : Int)) && decide ((1 : Int) < (5 : Nat))) then
  bif (decide ((Int.toNat (1 : Int)) < List.length v10)) then
  let v12 : Int := (List.getD v10 (Int.toNat (1 : Int)) (0 : Int))
  bif (P14 v12 (360 : Int)) then
  let v13 : Int := (F14 v12 (360 : Int))
  bif (decide (0 ≤ (2 : Int)) && decide ((2 : Int) < (5 : Nat))) then
  bif (decide ((Int.toNat (2 : Int)) < List.length v10)) then
  let v14 : Int := (List.getD v10 (Int.toNat (2 : Int)) (0 : Int))
  bif (P14 v14 (4 : Int)) then
  let v15 : Int := (F14 v14 (4 : Int))
  bif (decide (0 ≤ (3 : Int)) && decide ((3 : Int) < (5 : Nat))) then
  bif (decide ((Int.toNat (3 : Int)) < List.length v10)) then
  let v16 : Int := (List.getD v10 (Int.toNat (3 : Int)) (0 : Int))
  bif (P14 v16 (4 : Int)) then
  let v17 : Int := (F14 v16 (4 : Int))
  bif (decide (0 ≤ (4 : Int)) && decide ((4 : Int) < (5 : Nat))) then
  bif (decide ((Int.toNat (4 : Int)) < List.length v10)) then
  let v18 : Int := (List.getD v10 (Int.toNat (4 : Int)) (0 : Int))
  bif (P14 v18 (1000 : Int)) then
  let v19 : Int := (F14 v18 (1000 : Int))
  bif (decide (0 ≤ (4 : Int)) && decide ((4 : Int) < (5 : Nat))) then
  bif (decide ((Int.toNat (4 : Int)) < List.length v10)) then
  let v20 : Int := (List.getD v10 (Int.toNat (4 : Int)) (0 : Int))
  bif (P14 v20 (6 : Int)) then
  let v21 : Int := (F14 v20 (6 : Int))
  bif (P9 (s3, (s4, (s5, ()))) ((1 : Int), (v13, (v15, (v17, (v19, (v21, ((-1 : Int), ())))))))) then
  let q22 : (D23 × (Int × (Int × Unit))) := F9 (s3, (s4, (s5, ()))) ((1 : Int), (v13, (v15, (v17, (v19, (v21, ((-1 : Int), ())))))))
  let v23 : (List D26) := ([] : (List D26))
  let v24 : (List D26) := ([] : (List D26))
  bif (decide (0 ≤ (0 : Int)) && decide ((0 : Int) < (5 : Nat))) then
  bif (decide ((Int.toNat (0 : Int)) < List.length v10)) then
  let v25 : Int := (List.getD v10 (Int.toNat (0 : Int)) (0 : Int))
  bif (P14 v25 (4 : Int)) then
  let v26 : Int := (F14 v25 (4 : Int))
  let v27 : Bool := (v26 == (2 : Int))
  bif v27 then
  bif (decide (0 ≤ (2 : Int)) && decide ((2 : Int) < (5 : Nat))) then
  bif (decide ((Int.toNat (2 : Int)) < List.length v10)) then
  let v28 : Int := (List.getD v10 (Int.toNat (2 : Int)) (0 : Int))
  bif (P14 v28 (30 : Int)) then
  let v29 : Int := (F14 v28 (30 : Int))
  bif (decide (0 ≤ (4 : Int)) && decide ((4 : Int) < (5 : Nat))) then
  bif (decide ((Int.toNat (4 : Int)) < List.length v10)) then
  let v30 : Int := (List.getD v10 (Int.toNat (4 : Int)) (0 : Int))
  bif (P14 v30 (1000 : Int)) then
  let v31 : Int := (F14 v30 (1000 : Int))
  bif (P15 (s3, (s4, (s5, ()))) v29 v13 v31) then
  let q32 : (D23 × (Int × Unit)) := F15 (s3, (s4, (s5, ()))) v29 v13 v31
  let v33 : Int := ((List.length q32.1.2.1 : Nat) : Int)
  let v34 : Int := ((List.length s4 : Nat) : Int)
  let v35 : Int := (IntKind.i64.wrap (v33 - v34))
  let v36 : Int := ((List.length s4 : Nat) : Int)
  let v37 : Bool := (q32.2.1 != (0 : Int))
  bif v37 then
  let v38 : Bool := (q32.2.1 != (310 : Int))
  let v39 : (List D26) := ([] : (List D26))
  bif ((P13 q32.1 ((0 : Int), (v39, ((0 : Int), ())))) || !(!v38 && true)) then
  let v40 : Bool := (F13 q32.1 ((0 : Int), (v39, ((0 : Int), ()))))
  let v41 : Bool := (!v40)
  let v42 : Bool := (bif v38 then true else v41)
  bif v42 then
  some (.inr (.inl false))
  else
  let v43 : Int := (IntKind.i64.wrap (s2 + (1 : Int)))
  some (.inl (s0, s1, v43, s3, s4, s5))
  else none
  else
  bif (P11 q32.1) then
  let v44 : Bool := (F11 q32.1)
  let v45 : Bool := (!v44)
  let v46 : Int := ((List.length s4 : Nat) : Int)
  let v47 : Bool := (v36 != v46)
  let v48 : Bool := (bif v45 then true else v47)
  let v49 : Int := ((List.length q32.1.2.1 : Nat) : Int)
  let v50 : Int := ((List.length s4 : Nat) : Int)
  let v51 : Int := (IntKind.i64.wrap (v50 + v35))
  let v52 : Bool := (v49 != v51)
  let v53 : Bool := (bif v48 then true else v52)
  let v54 : Bool := (decide (v35 < (0 : Int)))
  let v55 : Bool := (bif v53 then true else v54)
  let v56 : Bool := (decide (v35 > (2 : Int)))
  let v57 : Bool := (bif v55 then true else v56)
  let v58 : Int := ((List.length s4 : Nat) : Int)
  bif ((sliceTest (0 : Int) v58 (List.length q32.1.2.1)) || !(!v57 && true)) then
  let v59 : (List D26) := (cut q32.1.2.1 (0 : Int) v58)
  bif ((P26 v59 s4) || !(!v57 && true)) then
  let v60 : Bool := (F26 v59 s4)
  let v61 : Bool := (!v60)
  let v62 : Bool := (bif v57 then true else v61)
  let v63 : Bool := (decide (q32.1.2.2.1 < s5))
  let v64 : Bool := (bif v62 then true else v63)
  let v65 : Bool := (q32.1.1 != s3)
  let v66 : Bool := (bif v64 then true else v65)
  bif v66 then
  some (.inr (.inl false))
  else
  Option.bind (L5_28 (s0, s1, s2, (0 : Int), s3, s4, s5, q32.1.1, q32.1.2.1, q32.1.2.2.1)) fun x => match x with
  | (.inl r77) =>
  some (.inr (.inl r77))
  | (.inr r78) =>
  let v79 : Int := (IntKind.i64.wrap (r78.2.2.1 + (1 : Int)))
  some (.inl (r78.1, r78.2.1, v79, r78.2.2.2.2.2.2.2.1, r78.2.2.2.2.2.2.2.2.1, r78.2.2.2.2.2.2.2.2.2))
  else none
  else none
  else none
  else none
  else none
  else none
  else none
  else none
  else none
  else none
  else
  let v80 : Bool := (v26 == (3 : Int))
  bif v80 then
  bif (decide (0 ≤ (1 : Int)) && decide ((1 : Int) < (5 : Nat))) then
  bif (decide ((Int.toNat (1 : Int)) < List.length v10)) then
  let v81 : Int := (List.getD v10 (Int.toNat (1 : Int)) (0 : Int))
  bif (P14 v81 (13 : Int)) then
  let v82 : Int := (F14 v81 (13 : Int))
  bif (P17 (s3, (s4, (s5, ()))) v82) then
  let q83 : (D23 × (Int × Unit)) := F17 (s3, (s4, (s5, ()))) v82
  let v84 : Int := ((List.length s4 : Nat) : Int)
  let v85 : Bool := (q83.2.1 != (0 : Int))
  bif v85 then
  let v86 : Bool := (q83.2.1 != (310 : Int))
  let v87 : (List D26) := ([] : (List D26))
  bif ((P13 q83.1 ((0 : Int), (v87, ((0 : Int), ())))) || !(!v86 && true)) then
  let v88 : Bool := (F13 q83.1 ((0 : Int), (v87, ((0 : Int), ()))))
  let v89 : Bool := (!v88)
  let v90 : Bool := (bif v86 then true else v89)
  bif v90 then
  some (.inr (.inl false))
  else
  let v91 : Int := (IntKind.i64.wrap (s2 + (1 : Int)))
  some (.inl (s0, s1, v91, s3, s4, s5))
  else none
  else
  bif (P11 q83.1) then
  let v92 : Bool := (F11 q83.1)
  let v93 : Bool := (!v92)
  let v94 : Int := ((List.length s4 : Nat) : Int)
  let v95 : Bool := (v84 != v94)
  let v96 : Bool := (bif v93 then true else v95)
  let v97 : Int := ((List.length q83.1.2.1 : Nat) : Int)
  let v98 : Int := ((List.length s4 : Nat) : Int)
  let v99 : Int := (IntKind.i64.wrap (v98 + (0 : Int)))
  let v100 : Bool := (v97 != v99)
  let v101 : Bool := (bif v96 then true else v100)
  let v102 : Bool := (bif v101 then true else false)
  let v103 : Bool := (bif v102 then true else false)
  let v104 : Int := ((List.length s4 : Nat) : Int)
  bif ((sliceTest (0 : Int) v104 (List.length q83.1.2.1)) || !(!v103 && true)) then
  let v105 : (List D26) := (cut q83.1.2.1 (0 : Int) v104)
  bif ((P26 v105 s4) || !(!v103 && true)) then
  let v106 : Bool := (F26 v105 s4)
  let v107 : Bool := (!v106)
  let v108 : Bool := (bif v103 then true else v107)
  let v109 : Bool := (decide (q83.1.2.2.1 < s5))
  let v110 : Bool := (bif v108 then true else v109)
  let v111 : Bool := (q83.1.1 != s3)
  let v112 : Bool := (bif v110 then true else v111)
  bif v112 then
  some (.inr (.inl false))
  else
  Option.bind (L5_28 (s0, s1, s2, (0 : Int), s3, s4, s5, q83.1.1, q83.1.2.1, q83.1.2.2.1)) fun x => match x with
  | (.inl r123) =>
  some (.inr (.inl r123))
  | (.inr r124) =>
  let v125 : Int := (IntKind.i64.wrap (r124.2.2.1 + (1 : Int)))
  some (.inl (r124.1, r124.2.1, v125, r124.2.2.2.2.2.2.2.1, r124.2.2.2.2.2.2.2.2.1, r124.2.2.2.2.2.2.2.2.2))
  else none
  else none
  else none
  else none
  else none
  else none
  else none
  else
  let v126 : Bool := (q22.2.2.1 != (0 : Int))
  bif v126 then
  let v127 : Bool := (q22.2.2.1 != (310 : Int))
  let v128 : (List D26) := ([] : (List D26))
  bif ((P13 q22.1 ((0 : Int), (v128, ((0 : Int), ())))) || !(!v127 && true)) then
  let v129 : Bool := (F13 q22.1 ((0 : Int), (v128, ((0 : Int), ()))))
  let v130 : Bool := (!v129)
  let v131 : Bool := (bif v127 then true else v130)
  bif v131 then
  some (.inr (.inl false))
  else
  let v132 : Int := (IntKind.i64.wrap (s2 + (1 : Int)))
  some (.inl (s0, s1, v132, s3, s4, s5))
  else none
  else
  bif (P11 q22.1) then
  let v133 : Bool := (F11 q22.1)
  let v134 : Bool := (!v133)
  let v135 : Int := ((List.length s4 : Nat) : Int)
  let v136 : Bool := (q22.2.1 != v135)
  let v137 : Bool := (bif v134 then true else v136)
  let v138 : Int := ((List.length q22.1.2.1 : Nat) : Int)
  let v139 : Int := ((List.length s4 : Nat) : Int)
  let v140 : Int := (IntKind.i64.wrap (v139 + (1 : Int)))
  let v141 : Bool := (v138 != v140)
  let v142 : Bool := (bif v137 then true else v141)
  let v143 : Bool := (bif v142 then true else false)
  let v144 : Bool := (bif v143 then true else false)
  let v145 : Int := ((List.length s4 : Nat) : Int)
  bif ((sliceTest (0 : Int) v145 (List.length q22.1.2.1)) || !(!v144 && true)) then
  let v146 : (List D26) := (cut q22.1.2.1 (0 : Int) v145)
  bif ((P26 v146 s4) || !(!v144 && true)) then
  let v147 : Bool := (F26 v146 s4)
  let v148 : Bool := (!v147)
  let v149 : Bool := (bif v144 then true else v148)
  let v150 : Bool := (decide (q22.1.2.2.1 < s5))
  let v151 : Bool := (bif v149 then true else v150)
  let v152 : Bool := (q22.1.1 != s3)
  let v153 : Bool := (bif v151 then true else v152)
  bif v153 then
  some (.inr (.inl false))
  else
  Option.bind (L5_28 (s0, s1, s2, (0 : Int), s3, s4, s5, q22.1.1, q22.1.2.1, q22.1.2.2.1)) fun x => match x with
  | (.inl r164) =>
  some (.inr (.inl r164))
  | (.inr r165) =>
  let v166 : Int := (IntKind.i64.wrap (r165.2.2.1 + (1 : Int)))
  some (.inl (r165.1, r165.2.1, v166, r165.2.2.2.2.2.2.2.1, r165.2.2.2.2.2.2.2.2.1, r165.2.2.2.2.2.2.2.2.2))
  else none
  else none
  else none
  else none
  else none
  else none
  else none
  else none
  else none
  else none
  else none
  else none
  else none
  else none
  else none
  else none
  else none
  else none
  else none
  else none
  else none
  else none
  else none
  else
  some (.inr (.inr (s0, s1, s2, s3, s4, s5)))
def L5_6 : (List (List Int)) × Bool × Int × Int × (List D26) × Int → Option ((Bool) ⊕ ((List (List Int)) × Bool × Int × Int × (List D26) × Int)) := Lim (fun s => L5_6_r s.1 s.2.1 s.2.2.1 s.2.2.2.1 s.2.2.2.2.1 s.2.2.2.2.2)
def L5_6_sum : Sum := limSum L5_6_sh L5_6_pk (fun s => L5_6_r s.1 s.2.1 s.2.2.1 s.2.2.2.1 s.2.2.2.2.1 s.2.2.2.2.2) L5_6_leave
theorem L5_6_nat : Natural L5_6_sum := natural_lim fun x R K => by
  rcases x with x|x <;> rfl
theorem L5_6_dok : ∀ e st x, e ≠ .normal → L5_6_d e st = some x → ∀ R (K : Cont R), K e st = L5_6_leave x R K := by
  intro e st x _ h R K
  unfold L5_6_d at h
  split at h
  · split at h
    · rename_i s hs; cases h; rw [unSt_some hs]; rfl
    · cases h
  · split at h
    · rename_i s hs; cases h; rw [unSt_some hs]; rfl
    · cases h
  · cases h
def loops5 : Nat → Option (Sum) := fun | 6 => some L5_6_sum | 28 => some L5_28_sum | _ => none
theorem loops5_nat : ∀ q f, loops5 q = some f → Natural f := by
  intro q f h
  unfold loops5 at h
  split at h
  · cases h; exact L5_6_nat
  · cases h; exact L5_28_nat
  · cases h
noncomputable def L5_6_code : Code := (loopsOf body5).getD 0 .skip
theorem L5_6_round (s0 : (List (List Int))) (s1 : Bool) (s2 : Int) (s3 : Int) (s4 : (List D26)) (s5 : Int) : ev2 env5 orc5 loops5 L5_6_code (mkSt L5_6_sh (s0, (s1, ((), (s2, ((), (s3, (s4, (s5, ()))))))))) (back L5_6_sh L5_6_pk L5_6_d) = L5_6_r s0 s1 s2 s3 s4 s5 := by kernel_rfl
theorem L5_6_ok : SumOk env5 orc5 loops5 L5_6_code L5_6_sum := sumOk_lim (un := L5_6_un) loops5_nat (fun _ => rfl) L5_6_dok fun s => L5_6_round s.1 s.2.1 s.2.2.1 s.2.2.2.1 s.2.2.2.2.1 s.2.2.2.2.2
noncomputable def L5_28_code : Code := (loopsOf body5).getD 1 .skip
theorem L5_28_round (s0 : (List (List Int))) (s1 : Bool) (s2 : Int) (s3 : Int) (s4 : Int) (s5 : (List D26)) (s6 : Int) (s7 : Int) (s8 : (List D26)) (s9 : Int) : ev2 env5 orc5 loops5 L5_28_code (mkSt L5_28_sh (s0, (s1, ((), (s2, ((), (s3, ((), (s4, (s5, (s6, ((), (s7, (s8, (s9, ()))))))))))))))) (back L5_28_sh L5_28_pk L5_28_d) = L5_28_r s0 s1 s2 s3 s4 s5 s6 s7 s8 s9 := by kernel_rfl
theorem L5_28_ok : SumOk env5 orc5 loops5 L5_28_code L5_28_sum := sumOk_lim (un := L5_28_un) loops5_nat (fun _ => rfl) L5_28_dok fun s => L5_28_round s.1 s.2.1 s.2.2.1 s.2.2.2.1 s.2.2.2.2.1 s.2.2.2.2.2.1 s.2.2.2.2.2.2.1 s.2.2.2.2.2.2.2.1 s.2.2.2.2.2.2.2.2.1 s.2.2.2.2.2.2.2.2.2
theorem loops5_all : loopsOf body5 = [L5_6_code, L5_28_code] := by kernel_rfl
theorem L5_6_key : lookL loops5 (keyOf L5_6_code) = some L5_6_sum := by kernel_rfl
theorem L5_28_key : lookL loops5 (keyOf L5_28_code) = some L5_28_sum := by kernel_rfl
theorem loops5_ok : LoopsOk env5 orc5 loops5 body5 := by
  intro c hc f hf
  rw [loops5_all] at hc
  simp only [List.mem_cons, List.not_mem_nil, or_false] at hc
  rcases hc with rfl | rfl
  · rw [L5_6_key] at hf; cases hf; exact L5_6_ok
  · rw [L5_28_key] at hf; cases hf; exact L5_28_ok
def G5 (x0 : Int) (x1 : (List (List Int))) (x2 : (List (List Int))) : Option (Bool) :=
  bif (P7 ) then
  bif (P8 x0 x1) then
  let q1 : (D23 × Unit) := F8 x0 x1
  let v2 : (List D26) := ([] : (List D26))
  let v3 : (List D26) := ([] : (List D26))
  bif (P11 q1.1) then
  let v4 : Bool := (F11 q1.1)
  let v5 : Bool := (!v4)
  bif v5 then
  some (false)
  else
  Option.bind (L5_6 (x2, F7, (0 : Int), q1.1.1, q1.1.2.1, q1.1.2.2.1)) fun x => match x with
  | (.inl r167) =>
  some (r167)
  | (.inr r168) =>
  some (r168.2.1)
  else none
  else none
  else none
theorem ev5 (x0 : Int) (x1 : (List (List Int))) (x2 : (List (List Int))) : ev2 env5 orc5 loops5 body5 (initSt 0 [⟨(.int .i64), x0⟩, ⟨(.list (.arr 5 (.int .i64))), x1⟩, ⟨(.list (.arr 5 (.int .i64))), x2⟩]) (retT [(6, .dat .bool)] [.bool] fun x => x.1) = G5 x0 x1 x2 := by kernel_rfl
def P5 (x0 : Int) (x1 : (List (List Int))) (x2 : (List (List Int))) : Bool := (G5 x0 x1 x2).isSome
def F5 (x0 : Int) (x1 : (List (List Int))) (x2 : (List (List Int))) : Bool := (G5 x0 x1 x2).getD default
theorem G5_some (x0 : Int) (x1 : (List (List Int))) (x2 : (List (List Int))) (h : P5 x0 x1 x2 = true) : G5 x0 x1 x2 = some (F5 x0 x1 x2) := by
  unfold P5 at h; unfold F5
  cases hg : G5 x0 x1 x2 with
  | none => rw [hg] at h; cases h
  | some r => rfl
theorem P5_of (x0 : Int) (x1 : (List (List Int))) (x2 : (List (List Int))) {r : Bool} (h : G5 x0 x1 x2 = some r) : P5 x0 x1 x2 = true := by unfold P5; rw [h]; rfl
theorem F5_of (x0 : Int) (x1 : (List (List Int))) (x2 : (List (List Int))) {r : Bool} (h : G5 x0 x1 x2 = some r) : F5 x0 x1 x2 = r := by unfold F5; rw [h]; rfl
def spec5 : Spec := ⟨[(.int .i64), (.list (.arr 5 (.int .i64))), (.list (.arr 5 (.int .i64)))], [.dat .bool], fun | [a0, a1, a2] => P5 (a0.as (.int .i64)) (a1.as (.list (.arr 5 (.int .i64)))) (a2.as (.list (.arr 5 (.int .i64)))) | _ => false, fun | [a0, a1, a2] => [⟨.bool, (F5 (a0.as (.int .i64)) (a1.as (.list (.arr 5 (.int .i64)))) (a2.as (.list (.arr 5 (.int .i64)))))⟩] | _ => []⟩
theorem meets5 (hE : EnvOk Try.prog env5) (hm : Try.prog.follows .mixedOrders = true) : Meets Try.prog glob 5 spec5 :=
  meets_of_ev2 (O := orc5) (L := loops5) (c := body5) (slots := [6]) hE hm Try.func5 Try.call5 (by kernel_rfl) (by kernel_rfl) loops5_ok (rangesOk_nil (by kernel_rfl)) (by kernel_rfl) rfl (by decide) (fun ds hds hpre => by
  obtain ⟨x0, ds0, rfl, h0⟩ := datsS hds
  obtain ⟨x1, ds1, rfl, h1⟩ := datsS h0
  obtain ⟨x2, ds2, rfl, h2⟩ := datsS h1
  have h9 := dats0 h2; subst h9
  exact ev_ret (un := fun r => [⟨.bool, r⟩]) loops5_nat (fun _ => rfl) ((ev5 x0 x1 x2).trans (G5_some x0 x1 x2 hpre)))
def env6 : Env where
  tab := tab
  glob := glob
  spec := fun
    | 7 => some spec7
    | 14 => some spec14
    | 19 => some spec19
    | 23 => some spec23
    | 24 => some spec24
    | _ => none
  spec2 := fun
    | 8, [] => some sp8
    | 15, [] => some sp15
    | _, _ => none
def orc6 : Orc := ⟨272, fun _ => none, fun
  | 0 => kp [0, 1, 2, 3, 4] []
  | 1 => kp [0, 1, 2, 3, 4, 11] []
  | 2 => kp [2, 3, 4, 11, 12] [(12, [0, 1, 2])]
  | 3 => kp [2, 3, 4, 11, 12, 40] [(12, [0, 1, 2])]
  | 4 => kp [10] []
  | 5 => kp [3, 4, 11, 12, 13] [(12, [0, 1, 2])]
  | 6 => kp [3, 4, 11, 12, 13, 14] [(12, [0, 1, 2]), (14, [0, 1, 2, 3, 4, 5, 6])]
  | 7 => kp [4, 11, 12, 13, 14, 15] [(12, [0, 1, 2]), (14, [0, 1, 2, 3, 4, 5, 6])]
  | 8 => kp [11, 12, 13, 14, 15, 16] [(12, [0, 1, 2]), (14, [0, 1, 2, 3, 4, 5, 6])]
  | 9 => kp [11, 12, 13, 14, 15, 16, 17] [(12, [0, 1, 2]), (14, [0, 1, 2, 3, 4, 5, 6])]
  | 10 => kp [11, 12, 13, 14, 15, 16, 17, 18] [(12, [0, 1, 2]), (14, [0, 1, 2, 3, 4, 5, 6])]
  | 11 => kp [11, 12, 13, 14, 15, 16, 17, 18, 75] [(12, [0, 1, 2]), (14, [0, 1, 2, 3, 4, 5, 6])]
  | 12 => kp [11, 12, 13, 14, 15, 16, 17, 18] [(12, [0, 1, 2]), (14, [0, 1, 2, 3, 4, 5, 6])]
  | 13 => kp [11, 12, 13, 14, 15, 16, 17, 18] [(12, [0, 1, 2]), (14, [0, 1, 2, 3, 4, 5, 6])]
  | 14 => kp [11, 12, 13, 14, 15, 16, 17, 19, 20] [(12, [0, 1, 2]), (14, [0, 1, 2, 3, 4, 5, 6]), (19, [0, 1, 2])]
  | 15 => kp [11, 12, 13, 14, 15, 16, 19, 20, 107] [(12, [0, 1, 2]), (14, [0, 1, 2, 3, 4, 5, 6]), (19, [0, 1, 2])]
  | 16 => kp [10] []
  | 17 => kp [11, 12, 14, 15, 16, 19, 20, 22] [(12, [0, 1, 2]), (14, [0, 1, 2, 3, 4, 5, 6]), (19, [0, 1, 2])]
  | 18 => kp [11, 12, 14, 15, 16, 19, 126] [(12, [0, 1, 2]), (14, [0, 1, 2, 3, 4, 5, 6]), (19, [0, 1, 2])]
  | 19 => kp [10] []
  | 20 => kp [11, 12, 14, 15, 16, 19, 23] [(12, [0, 1, 2]), (14, [0, 1, 2, 3, 4, 5, 6]), (19, [0, 1, 2])]
  | 21 => kp [11, 12, 14, 15, 16, 19, 23, 128] [(12, [0, 1, 2]), (14, [0, 1, 2, 3, 4, 5, 6]), (19, [0, 1, 2])]
  | 22 => kp [11, 12, 14, 15, 16, 19, 23] [(12, [0, 1, 2]), (14, [0, 1, 2, 3, 4, 5, 6]), (19, [0, 1, 2])]
  | 23 => kp [11, 12, 14, 15, 16, 19, 23, 24, 25] [(12, [0, 1, 2]), (14, [0, 1, 2, 3, 4, 5, 6]), (19, [0, 1, 2])]
  | 24 => kp [11, 12, 14, 15, 16, 19, 23, 24, 25, 26, 27] [(12, [0, 1, 2]), (14, [0, 1, 2, 3, 4, 5, 6]), (19, [0, 1, 2])]
  | 25 => kp [11, 12, 14, 15, 16, 19, 23, 24, 26, 162] [(12, [0, 1, 2]), (14, [0, 1, 2, 3, 4, 5, 6]), (19, [0, 1, 2])]
  | 26 => kp [10] []
  | 27 => kp [11, 12, 14, 15, 16, 19, 23, 24, 26, 166] [(12, [0, 1, 2]), (14, [0, 1, 2, 3, 4, 5, 6]), (19, [0, 1, 2])]
  | 28 => kp [11, 12, 14, 15, 16, 19, 23, 24, 26] [(12, [0, 1, 2]), (14, [0, 1, 2, 3, 4, 5, 6]), (19, [0, 1, 2])]
  | 29 => kp [11, 12, 14, 15, 16, 19, 23, 24, 26] [(12, [0, 1, 2]), (14, [0, 1, 2, 3, 4, 5, 6]), (19, [0, 1, 2])]
  | 30 => kp [11, 12, 14, 15, 16, 19, 23, 198] [(12, [0, 1, 2]), (14, [0, 1, 2, 3, 4, 5, 6]), (19, [0, 1, 2])]
  | 31 => kp [10] []
  | 32 => kp [11, 12, 14, 15, 16, 19, 28] [(12, [0, 1, 2]), (14, [0, 1, 2, 3, 4, 5, 6]), (19, [0, 1, 2])]
  | 33 => kp [11, 12, 14, 15, 16, 19, 28, 200] [(12, [0, 1, 2]), (14, [0, 1, 2, 3, 4, 5, 6]), (19, [0, 1, 2])]
  | 34 => kp [11, 12, 14, 15, 16, 19, 28] [(12, [0, 1, 2]), (14, [0, 1, 2, 3, 4, 5, 6]), (19, [0, 1, 2])]
  | 35 => kp [11, 12, 14, 15, 16, 19, 28, 29, 30] [(12, [0, 1, 2]), (14, [0, 1, 2, 3, 4, 5, 6]), (19, [0, 1, 2])]
  | 36 => kp [11, 12, 14, 15, 16, 19, 28, 29, 30, 31, 32] [(12, [0, 1, 2]), (14, [0, 1, 2, 3, 4, 5, 6]), (19, [0, 1, 2])]
  | 37 => kp [11, 12, 14, 15, 16, 19, 28, 29, 31, 234] [(12, [0, 1, 2]), (14, [0, 1, 2, 3, 4, 5, 6]), (19, [0, 1, 2])]
  | 38 => kp [10] []
  | 39 => kp [11, 12, 14, 15, 16, 19, 28, 29, 31, 238] [(12, [0, 1, 2]), (14, [0, 1, 2, 3, 4, 5, 6]), (19, [0, 1, 2])]
  | 40 => kp [11, 12, 14, 15, 16, 19, 28, 29, 31] [(12, [0, 1, 2]), (14, [0, 1, 2, 3, 4, 5, 6]), (19, [0, 1, 2])]
  | 41 => kp [11, 12, 14, 15, 16, 19, 28, 29, 31] [(12, [0, 1, 2]), (14, [0, 1, 2, 3, 4, 5, 6]), (19, [0, 1, 2])]
  | 42 => kp [11, 12, 14, 15, 16, 19, 28, 270] [(12, [0, 1, 2]), (14, [0, 1, 2, 3, 4, 5, 6]), (19, [0, 1, 2])]
  | 43 => kp [10] []
  | 44 => kp [10] []
  | _ => [], fun | _ => false⟩
noncomputable def body6 : Code := Try.f6.body.getD .skip
def L6_33_sh : Shape := [(.slot 11, .dat .bool), (.slot 12, .ptr 12 0), (.slot 14, .ptr 14 0), (.slot 15, .dat (.int .i64)), (.slot 16, .dat (.int .i64)), (.slot 19, .ptr 19 0), (.slot 28, .dat (.int .i64)), (.box 12, .bx 24 3), (.cell 12 0, .dat (.int .i64)), (.cell 12 1, .dat (.list t26)), (.cell 12 2, .dat (.int .i64)), (.box 14, .bx 27 7), (.cell 14 0, .dat (.int .i64)), (.cell 14 1, .dat (.int .i64)), (.cell 14 2, .dat (.int .i64)), (.cell 14 3, .dat (.int .i64)), (.cell 14 4, .dat (.int .i64)), (.cell 14 5, .dat (.int .i64)), (.cell 14 6, .dat (.int .i64)), (.box 19, .bx 24 3), (.cell 19 0, .dat (.int .i64)), (.cell 19 1, .dat (.list t26)), (.cell 19 2, .dat (.int .i64))]
def L6_33_x0 : Shape := [(.slot 10, .dat .bool)]
def L6_33_x1 : Shape := [(.slot 11, .dat .bool), (.slot 12, .ptr 12 0), (.slot 14, .ptr 14 0), (.slot 15, .dat (.int .i64)), (.slot 16, .dat (.int .i64)), (.slot 19, .ptr 19 0), (.slot 28, .dat (.int .i64)), (.box 12, .bx 24 3), (.cell 12 0, .dat (.int .i64)), (.cell 12 1, .dat (.list t26)), (.cell 12 2, .dat (.int .i64)), (.box 14, .bx 27 7), (.cell 14 0, .dat (.int .i64)), (.cell 14 1, .dat (.int .i64)), (.cell 14 2, .dat (.int .i64)), (.cell 14 3, .dat (.int .i64)), (.cell 14 4, .dat (.int .i64)), (.cell 14 5, .dat (.int .i64)), (.cell 14 6, .dat (.int .i64)), (.box 19, .bx 24 3), (.cell 19 0, .dat (.int .i64)), (.cell 19 1, .dat (.list t26)), (.cell 19 2, .dat (.int .i64))]
def L6_33_pk (s : Tup L6_33_sh) : Bool × Int × Int × Int × Int × (List D26) × Int × Int × Int × Int × Int × Int × Int × Int × Int × (List D26) × Int := (s.1, s.2.2.2.1, s.2.2.2.2.1, s.2.2.2.2.2.2.1, s.2.2.2.2.2.2.2.2.1, s.2.2.2.2.2.2.2.2.2.1, s.2.2.2.2.2.2.2.2.2.2.1, s.2.2.2.2.2.2.2.2.2.2.2.2.1, s.2.2.2.2.2.2.2.2.2.2.2.2.2.1, s.2.2.2.2.2.2.2.2.2.2.2.2.2.2.1, s.2.2.2.2.2.2.2.2.2.2.2.2.2.2.2.1, s.2.2.2.2.2.2.2.2.2.2.2.2.2.2.2.2.1, s.2.2.2.2.2.2.2.2.2.2.2.2.2.2.2.2.2.1, s.2.2.2.2.2.2.2.2.2.2.2.2.2.2.2.2.2.2.1, s.2.2.2.2.2.2.2.2.2.2.2.2.2.2.2.2.2.2.2.2.1, s.2.2.2.2.2.2.2.2.2.2.2.2.2.2.2.2.2.2.2.2.2.1, s.2.2.2.2.2.2.2.2.2.2.2.2.2.2.2.2.2.2.2.2.2.2.1)
def L6_33_un (s : Bool × Int × Int × Int × Int × (List D26) × Int × Int × Int × Int × Int × Int × Int × Int × Int × (List D26) × Int) : Tup L6_33_sh := (s.1, ((), ((), (s.2.1, (s.2.2.1, ((), (s.2.2.2.1, ((), (s.2.2.2.2.1, (s.2.2.2.2.2.1, (s.2.2.2.2.2.2.1, ((), (s.2.2.2.2.2.2.2.1, (s.2.2.2.2.2.2.2.2.1, (s.2.2.2.2.2.2.2.2.2.1, (s.2.2.2.2.2.2.2.2.2.2.1, (s.2.2.2.2.2.2.2.2.2.2.2.1, (s.2.2.2.2.2.2.2.2.2.2.2.2.1, (s.2.2.2.2.2.2.2.2.2.2.2.2.2.1, ((), (s.2.2.2.2.2.2.2.2.2.2.2.2.2.2.1, (s.2.2.2.2.2.2.2.2.2.2.2.2.2.2.2.1, (s.2.2.2.2.2.2.2.2.2.2.2.2.2.2.2.2, ())))))))))))))))))))))))
def L6_33_leave (x : (Bool) ⊕ (Bool × Int × Int × Int × Int × (List D26) × Int × Int × Int × Int × Int × Int × Int × Int × Int × (List D26) × Int)) (R : Type) (K : Cont R) : Option R := match x with
  | (.inl a) => K .ret (mkSt L6_33_x0 (a, ()))
  | (.inr a) => K (.exit 4) (mkSt L6_33_x1 (a.1, ((), ((), (a.2.1, (a.2.2.1, ((), (a.2.2.2.1, ((), (a.2.2.2.2.1, (a.2.2.2.2.2.1, (a.2.2.2.2.2.2.1, ((), (a.2.2.2.2.2.2.2.1, (a.2.2.2.2.2.2.2.2.1, (a.2.2.2.2.2.2.2.2.2.1, (a.2.2.2.2.2.2.2.2.2.2.1, (a.2.2.2.2.2.2.2.2.2.2.2.1, (a.2.2.2.2.2.2.2.2.2.2.2.2.1, (a.2.2.2.2.2.2.2.2.2.2.2.2.2.1, ((), (a.2.2.2.2.2.2.2.2.2.2.2.2.2.2.1, (a.2.2.2.2.2.2.2.2.2.2.2.2.2.2.2.1, (a.2.2.2.2.2.2.2.2.2.2.2.2.2.2.2.2, ()))))))))))))))))))))))))
def L6_33_d (e : Exit) (st : St) : Option ((Bool) ⊕ (Bool × Int × Int × Int × Int × (List D26) × Int × Int × Int × Int × Int × Int × Int × Int × Int × (List D26) × Int)) := match e with
  | .ret => (match unSt L6_33_x0 st with
    | some s => some (.inl s.1)
    | none => none)
  | .exit 4 => (match unSt L6_33_x1 st with
    | some s => some (.inr (s.1, s.2.2.2.1, s.2.2.2.2.1, s.2.2.2.2.2.2.1, s.2.2.2.2.2.2.2.2.1, s.2.2.2.2.2.2.2.2.2.1, s.2.2.2.2.2.2.2.2.2.2.1, s.2.2.2.2.2.2.2.2.2.2.2.2.1, s.2.2.2.2.2.2.2.2.2.2.2.2.2.1, s.2.2.2.2.2.2.2.2.2.2.2.2.2.2.1, s.2.2.2.2.2.2.2.2.2.2.2.2.2.2.2.1, s.2.2.2.2.2.2.2.2.2.2.2.2.2.2.2.2.1, s.2.2.2.2.2.2.2.2.2.2.2.2.2.2.2.2.2.1, s.2.2.2.2.2.2.2.2.2.2.2.2.2.2.2.2.2.2.1, s.2.2.2.2.2.2.2.2.2.2.2.2.2.2.2.2.2.2.2.2.1, s.2.2.2.2.2.2.2.2.2.2.2.2.2.2.2.2.2.2.2.2.2.1, s.2.2.2.2.2.2.2.2.2.2.2.2.2.2.2.2.2.2.2.2.2.2.1))
    | none => none)
  | _ => none
def L6_33_r (s0 : Bool) (s1 : Int) (s2 : Int) (s3 : Int) (s4 : Int) (s5 : (List D26)) (s6 : Int) (s7 : Int) (s8 : Int) (s9 : Int) (s10 : Int) (s11 : Int) (s12 : Int) (s13 : Int) (s14 : Int) (s15 : (List D26)) (s16 : Int) : Option ((Bool × Int × Int × Int × Int × (List D26) × Int × Int × Int × Int × Int × Int × Int × Int × Int × (List D26) × Int) ⊕ ((Bool) ⊕ (Bool × Int × Int × Int × Int × (List D26) × Int × Int × Int × Int × Int × Int × Int × Int × Int × (List D26) × Int))) :=
  let v69 : Bool := (decide (s3 < (12 : Int)))
  bif v69 then
  bif (P19 (s4, (s5, (s6, ()))) s3) then
  let v70 : ((List Int) × Int) := (F19 (s4, (s5, (s6, ()))) s3)
  bif (P19 (s14, (s15, (s16, ()))) s3) then
  let v71 : ((List Int) × Int) := (F19 (s14, (s15, (s16, ()))) s3)
  let v72 : Bool := (v70.2 != (0 : Int))
  let v73 : Bool := (v71.2 != (0 : Int))
  let v74 : Bool := (bif v72 then true else v73)
  let v75 : Int := (((List.length v70.1) : Nat) : Int)
  let v76 : Bool := (v75 != s4)
  let v77 : Bool := (bif v74 then true else v76)
  let v78 : Int := (((List.length v71.1) : Nat) : Int)
  let v79 : Bool := (v78 != s4)
  let v80 : Bool := (bif v77 then true else v79)
  bif v80 then
  some (.inr (.inl false))
  else
  let v81 : Int := (IntKind.i64.wrap (Int.tdiv s1 (30 : Int)))
  let v82 : Bool := (s3 == v81)
  bif v82 then
  bif (decide (0 ≤ s10) && decide (s10 < (List.length v70.1))) then
  bif (decide ((Int.toNat s10) < List.length v70.1)) then
  let v83 : Int := (List.getD v70.1 (Int.toNat s10) (0 : Int))
  let v84 : Int := (IntKind.i64.wrap (v83 - s11))
  let v85 : Int := (IntKind.i64.wrap (v84 + s2))
  bif (decide (0 ≤ s10) && decide (s10 < (List.length v70.1))) then
  bif (decide ((Int.toNat s10) < List.length v70.1)) then
  let v86 : (List Int) := (List.set v70.1 (Int.toNat s10) v85)
  bif (decide (0 ≤ s9) && decide (s9 < (List.length v86))) then
  bif (decide ((Int.toNat s9) < List.length v86)) then
  let v87 : Int := (List.getD v86 (Int.toNat s9) (0 : Int))
  let v88 : Int := (IntKind.i64.wrap (v87 + s11))
  let v89 : Int := (IntKind.i64.wrap (v88 - s2))
  bif (decide (0 ≤ s9) && decide (s9 < (List.length v86))) then
  bif (decide ((Int.toNat s9) < List.length v86)) then
  let v90 : (List Int) := (List.set v86 (Int.toNat s9) v89)
  bif (P23 (List.take (List.length v90) v90) (List.take (List.length v71.1) v71.1)) then
  let v91 : Bool := (F23 (List.take (List.length v90) v90) (List.take (List.length v71.1) v71.1))
  let v92 : Bool := (!v91)
  bif v92 then
  some (.inr (.inl false))
  else
  let v93 : Int := (IntKind.i64.wrap (s3 + (1 : Int)))
  some (.inl (s0, s1, s2, v93, s4, s5, s6, s7, s8, s9, s10, s11, s12, s13, s14, s15, s16))
  else none
  else none
  else none
  else none
  else none
  else none
  else none
  else none
  else none
  else
  bif (P23 (List.take (List.length v70.1) v70.1) (List.take (List.length v71.1) v71.1)) then
  let v94 : Bool := (F23 (List.take (List.length v70.1) v70.1) (List.take (List.length v71.1) v71.1))
  let v95 : Bool := (!v94)
  bif v95 then
  some (.inr (.inl false))
  else
  let v96 : Int := (IntKind.i64.wrap (s3 + (1 : Int)))
  some (.inl (s0, s1, s2, v96, s4, s5, s6, s7, s8, s9, s10, s11, s12, s13, s14, s15, s16))
  else none
  else none
  else none
  else
  some (.inr (.inr (s0, s1, s2, s3, s4, s5, s6, s7, s8, s9, s10, s11, s12, s13, s14, s15, s16)))
def L6_33 : Bool × Int × Int × Int × Int × (List D26) × Int × Int × Int × Int × Int × Int × Int × Int × Int × (List D26) × Int → Option ((Bool) ⊕ (Bool × Int × Int × Int × Int × (List D26) × Int × Int × Int × Int × Int × Int × Int × Int × Int × (List D26) × Int)) := Lim (fun s => L6_33_r s.1 s.2.1 s.2.2.1 s.2.2.2.1 s.2.2.2.2.1 s.2.2.2.2.2.1 s.2.2.2.2.2.2.1 s.2.2.2.2.2.2.2.1 s.2.2.2.2.2.2.2.2.1 s.2.2.2.2.2.2.2.2.2.1 s.2.2.2.2.2.2.2.2.2.2.1 s.2.2.2.2.2.2.2.2.2.2.2.1 s.2.2.2.2.2.2.2.2.2.2.2.2.1 s.2.2.2.2.2.2.2.2.2.2.2.2.2.1 s.2.2.2.2.2.2.2.2.2.2.2.2.2.2.1 s.2.2.2.2.2.2.2.2.2.2.2.2.2.2.2.1 s.2.2.2.2.2.2.2.2.2.2.2.2.2.2.2.2)
def L6_33_sum : Sum := limSum L6_33_sh L6_33_pk (fun s => L6_33_r s.1 s.2.1 s.2.2.1 s.2.2.2.1 s.2.2.2.2.1 s.2.2.2.2.2.1 s.2.2.2.2.2.2.1 s.2.2.2.2.2.2.2.1 s.2.2.2.2.2.2.2.2.1 s.2.2.2.2.2.2.2.2.2.1 s.2.2.2.2.2.2.2.2.2.2.1 s.2.2.2.2.2.2.2.2.2.2.2.1 s.2.2.2.2.2.2.2.2.2.2.2.2.1 s.2.2.2.2.2.2.2.2.2.2.2.2.2.1 s.2.2.2.2.2.2.2.2.2.2.2.2.2.2.1 s.2.2.2.2.2.2.2.2.2.2.2.2.2.2.2.1 s.2.2.2.2.2.2.2.2.2.2.2.2.2.2.2.2) L6_33_leave
theorem L6_33_nat : Natural L6_33_sum := natural_lim fun x R K => by
  rcases x with x|x <;> rfl
theorem L6_33_dok : ∀ e st x, e ≠ .normal → L6_33_d e st = some x → ∀ R (K : Cont R), K e st = L6_33_leave x R K := by
  intro e st x _ h R K
  unfold L6_33_d at h
  split at h
  · split at h
    · rename_i s hs; cases h; rw [unSt_some hs]; rfl
    · cases h
  · split at h
    · rename_i s hs; cases h; rw [unSt_some hs]; rfl
    · cases h
  · cases h
def L6_21_sh : Shape := [(.slot 11, .dat .bool), (.slot 12, .ptr 12 0), (.slot 14, .ptr 14 0), (.slot 15, .dat (.int .i64)), (.slot 16, .dat (.int .i64)), (.slot 19, .ptr 19 0), (.slot 23, .dat (.int .i64)), (.box 12, .bx 24 3), (.cell 12 0, .dat (.int .i64)), (.cell 12 1, .dat (.list t26)), (.cell 12 2, .dat (.int .i64)), (.box 14, .bx 27 7), (.cell 14 0, .dat (.int .i64)), (.cell 14 1, .dat (.int .i64)), (.cell 14 2, .dat (.int .i64)), (.cell 14 3, .dat (.int .i64)), (.cell 14 4, .dat (.int .i64)), (.cell 14 5, .dat (.int .i64)), (.cell 14 6, .dat (.int .i64)), (.box 19, .bx 24 3), (.cell 19 0, .dat (.int .i64)), (.cell 19 1, .dat (.list t26)), (.cell 19 2, .dat (.int .i64))]
def L6_21_x0 : Shape := [(.slot 10, .dat .bool)]
def L6_21_x1 : Shape := [(.slot 11, .dat .bool), (.slot 12, .ptr 12 0), (.slot 14, .ptr 14 0), (.slot 15, .dat (.int .i64)), (.slot 16, .dat (.int .i64)), (.slot 19, .ptr 19 0), (.slot 23, .dat (.int .i64)), (.box 12, .bx 24 3), (.cell 12 0, .dat (.int .i64)), (.cell 12 1, .dat (.list t26)), (.cell 12 2, .dat (.int .i64)), (.box 14, .bx 27 7), (.cell 14 0, .dat (.int .i64)), (.cell 14 1, .dat (.int .i64)), (.cell 14 2, .dat (.int .i64)), (.cell 14 3, .dat (.int .i64)), (.cell 14 4, .dat (.int .i64)), (.cell 14 5, .dat (.int .i64)), (.cell 14 6, .dat (.int .i64)), (.box 19, .bx 24 3), (.cell 19 0, .dat (.int .i64)), (.cell 19 1, .dat (.list t26)), (.cell 19 2, .dat (.int .i64))]
def L6_21_pk (s : Tup L6_21_sh) : Bool × Int × Int × Int × Int × (List D26) × Int × Int × Int × Int × Int × Int × Int × Int × Int × (List D26) × Int := (s.1, s.2.2.2.1, s.2.2.2.2.1, s.2.2.2.2.2.2.1, s.2.2.2.2.2.2.2.2.1, s.2.2.2.2.2.2.2.2.2.1, s.2.2.2.2.2.2.2.2.2.2.1, s.2.2.2.2.2.2.2.2.2.2.2.2.1, s.2.2.2.2.2.2.2.2.2.2.2.2.2.1, s.2.2.2.2.2.2.2.2.2.2.2.2.2.2.1, s.2.2.2.2.2.2.2.2.2.2.2.2.2.2.2.1, s.2.2.2.2.2.2.2.2.2.2.2.2.2.2.2.2.1, s.2.2.2.2.2.2.2.2.2.2.2.2.2.2.2.2.2.1, s.2.2.2.2.2.2.2.2.2.2.2.2.2.2.2.2.2.2.1, s.2.2.2.2.2.2.2.2.2.2.2.2.2.2.2.2.2.2.2.2.1, s.2.2.2.2.2.2.2.2.2.2.2.2.2.2.2.2.2.2.2.2.2.1, s.2.2.2.2.2.2.2.2.2.2.2.2.2.2.2.2.2.2.2.2.2.2.1)
def L6_21_un (s : Bool × Int × Int × Int × Int × (List D26) × Int × Int × Int × Int × Int × Int × Int × Int × Int × (List D26) × Int) : Tup L6_21_sh := (s.1, ((), ((), (s.2.1, (s.2.2.1, ((), (s.2.2.2.1, ((), (s.2.2.2.2.1, (s.2.2.2.2.2.1, (s.2.2.2.2.2.2.1, ((), (s.2.2.2.2.2.2.2.1, (s.2.2.2.2.2.2.2.2.1, (s.2.2.2.2.2.2.2.2.2.1, (s.2.2.2.2.2.2.2.2.2.2.1, (s.2.2.2.2.2.2.2.2.2.2.2.1, (s.2.2.2.2.2.2.2.2.2.2.2.2.1, (s.2.2.2.2.2.2.2.2.2.2.2.2.2.1, ((), (s.2.2.2.2.2.2.2.2.2.2.2.2.2.2.1, (s.2.2.2.2.2.2.2.2.2.2.2.2.2.2.2.1, (s.2.2.2.2.2.2.2.2.2.2.2.2.2.2.2.2, ())))))))))))))))))))))))
def L6_21_leave (x : (Bool) ⊕ (Bool × Int × Int × Int × Int × (List D26) × Int × Int × Int × Int × Int × Int × Int × Int × Int × (List D26) × Int)) (R : Type) (K : Cont R) : Option R := match x with
  | (.inl a) => K .ret (mkSt L6_21_x0 (a, ()))
  | (.inr a) => K (.exit 2) (mkSt L6_21_x1 (a.1, ((), ((), (a.2.1, (a.2.2.1, ((), (a.2.2.2.1, ((), (a.2.2.2.2.1, (a.2.2.2.2.2.1, (a.2.2.2.2.2.2.1, ((), (a.2.2.2.2.2.2.2.1, (a.2.2.2.2.2.2.2.2.1, (a.2.2.2.2.2.2.2.2.2.1, (a.2.2.2.2.2.2.2.2.2.2.1, (a.2.2.2.2.2.2.2.2.2.2.2.1, (a.2.2.2.2.2.2.2.2.2.2.2.2.1, (a.2.2.2.2.2.2.2.2.2.2.2.2.2.1, ((), (a.2.2.2.2.2.2.2.2.2.2.2.2.2.2.1, (a.2.2.2.2.2.2.2.2.2.2.2.2.2.2.2.1, (a.2.2.2.2.2.2.2.2.2.2.2.2.2.2.2.2, ()))))))))))))))))))))))))
def L6_21_d (e : Exit) (st : St) : Option ((Bool) ⊕ (Bool × Int × Int × Int × Int × (List D26) × Int × Int × Int × Int × Int × Int × Int × Int × Int × (List D26) × Int)) := match e with
  | .ret => (match unSt L6_21_x0 st with
    | some s => some (.inl s.1)
    | none => none)
  | .exit 2 => (match unSt L6_21_x1 st with
    | some s => some (.inr (s.1, s.2.2.2.1, s.2.2.2.2.1, s.2.2.2.2.2.2.1, s.2.2.2.2.2.2.2.2.1, s.2.2.2.2.2.2.2.2.2.1, s.2.2.2.2.2.2.2.2.2.2.1, s.2.2.2.2.2.2.2.2.2.2.2.2.1, s.2.2.2.2.2.2.2.2.2.2.2.2.2.1, s.2.2.2.2.2.2.2.2.2.2.2.2.2.2.1, s.2.2.2.2.2.2.2.2.2.2.2.2.2.2.2.1, s.2.2.2.2.2.2.2.2.2.2.2.2.2.2.2.2.1, s.2.2.2.2.2.2.2.2.2.2.2.2.2.2.2.2.2.1, s.2.2.2.2.2.2.2.2.2.2.2.2.2.2.2.2.2.2.1, s.2.2.2.2.2.2.2.2.2.2.2.2.2.2.2.2.2.2.2.2.1, s.2.2.2.2.2.2.2.2.2.2.2.2.2.2.2.2.2.2.2.2.2.1, s.2.2.2.2.2.2.2.2.2.2.2.2.2.2.2.2.2.2.2.2.2.2.1))
    | none => none)
  | _ => none
def L6_21_r (s0 : Bool) (s1 : Int) (s2 : Int) (s3 : Int) (s4 : Int) (s5 : (List D26)) (s6 : Int) (s7 : Int) (s8 : Int) (s9 : Int) (s10 : Int) (s11 : Int) (s12 : Int) (s13 : Int) (s14 : Int) (s15 : (List D26)) (s16 : Int) : Option ((Bool × Int × Int × Int × Int × (List D26) × Int × Int × Int × Int × Int × Int × Int × Int × Int × (List D26) × Int) ⊕ ((Bool) ⊕ (Bool × Int × Int × Int × Int × (List D26) × Int × Int × Int × Int × Int × Int × Int × Int × Int × (List D26) × Int))) :=
  let v40 : Bool := (decide (s3 < (6 : Int)))
  bif v40 then
  bif (P24 (s4, (s5, (s6, ()))) s3) then
  let v41 : ((List Int) × Int) := (F24 (s4, (s5, (s6, ()))) s3)
  bif (P24 (s14, (s15, (s16, ()))) s3) then
  let v42 : ((List Int) × Int) := (F24 (s14, (s15, (s16, ()))) s3)
  let v43 : Bool := (v41.2 != (0 : Int))
  let v44 : Bool := (v42.2 != (0 : Int))
  let v45 : Bool := (bif v43 then true else v44)
  let v46 : Int := (((List.length v41.1) : Nat) : Int)
  let v47 : Bool := (v46 != s4)
  let v48 : Bool := (bif v45 then true else v47)
  let v49 : Int := (((List.length v42.1) : Nat) : Int)
  let v50 : Bool := (v49 != s4)
  let v51 : Bool := (bif v48 then true else v50)
  bif v51 then
  some (.inr (.inl false))
  else
  let v52 : Bool := (s3 == s12)
  bif v52 then
  bif (decide (0 ≤ s10) && decide (s10 < (List.length v41.1))) then
  bif (decide ((Int.toNat s10) < List.length v41.1)) then
  let v53 : Int := (List.getD v41.1 (Int.toNat s10) (0 : Int))
  let v54 : Int := (IntKind.i64.wrap (v53 - s11))
  let v55 : Int := (IntKind.i64.wrap (v54 + s2))
  bif (decide (0 ≤ s10) && decide (s10 < (List.length v41.1))) then
  bif (decide ((Int.toNat s10) < List.length v41.1)) then
  let v56 : (List Int) := (List.set v41.1 (Int.toNat s10) v55)
  bif (decide (0 ≤ s9) && decide (s9 < (List.length v56))) then
  bif (decide ((Int.toNat s9) < List.length v56)) then
  let v57 : Int := (List.getD v56 (Int.toNat s9) (0 : Int))
  let v58 : Int := (IntKind.i64.wrap (v57 + s11))
  let v59 : Int := (IntKind.i64.wrap (v58 - s2))
  bif (decide (0 ≤ s9) && decide (s9 < (List.length v56))) then
  bif (decide ((Int.toNat s9) < List.length v56)) then
  let v60 : (List Int) := (List.set v56 (Int.toNat s9) v59)
  bif (P23 (List.take (List.length v60) v60) (List.take (List.length v42.1) v42.1)) then
  let v61 : Bool := (F23 (List.take (List.length v60) v60) (List.take (List.length v42.1) v42.1))
  let v62 : Bool := (!v61)
  bif v62 then
  some (.inr (.inl false))
  else
  let v63 : Int := (IntKind.i64.wrap (s3 + (1 : Int)))
  some (.inl (s0, s1, s2, v63, s4, s5, s6, s7, s8, s9, s10, s11, s12, s13, s14, s15, s16))
  else none
  else none
  else none
  else none
  else none
  else none
  else none
  else none
  else none
  else
  bif (P23 (List.take (List.length v41.1) v41.1) (List.take (List.length v42.1) v42.1)) then
  let v64 : Bool := (F23 (List.take (List.length v41.1) v41.1) (List.take (List.length v42.1) v42.1))
  let v65 : Bool := (!v64)
  bif v65 then
  some (.inr (.inl false))
  else
  let v66 : Int := (IntKind.i64.wrap (s3 + (1 : Int)))
  some (.inl (s0, s1, s2, v66, s4, s5, s6, s7, s8, s9, s10, s11, s12, s13, s14, s15, s16))
  else none
  else none
  else none
  else
  some (.inr (.inr (s0, s1, s2, s3, s4, s5, s6, s7, s8, s9, s10, s11, s12, s13, s14, s15, s16)))
def L6_21 : Bool × Int × Int × Int × Int × (List D26) × Int × Int × Int × Int × Int × Int × Int × Int × Int × (List D26) × Int → Option ((Bool) ⊕ (Bool × Int × Int × Int × Int × (List D26) × Int × Int × Int × Int × Int × Int × Int × Int × Int × (List D26) × Int)) := Lim (fun s => L6_21_r s.1 s.2.1 s.2.2.1 s.2.2.2.1 s.2.2.2.2.1 s.2.2.2.2.2.1 s.2.2.2.2.2.2.1 s.2.2.2.2.2.2.2.1 s.2.2.2.2.2.2.2.2.1 s.2.2.2.2.2.2.2.2.2.1 s.2.2.2.2.2.2.2.2.2.2.1 s.2.2.2.2.2.2.2.2.2.2.2.1 s.2.2.2.2.2.2.2.2.2.2.2.2.1 s.2.2.2.2.2.2.2.2.2.2.2.2.2.1 s.2.2.2.2.2.2.2.2.2.2.2.2.2.2.1 s.2.2.2.2.2.2.2.2.2.2.2.2.2.2.2.1 s.2.2.2.2.2.2.2.2.2.2.2.2.2.2.2.2)
def L6_21_sum : Sum := limSum L6_21_sh L6_21_pk (fun s => L6_21_r s.1 s.2.1 s.2.2.1 s.2.2.2.1 s.2.2.2.2.1 s.2.2.2.2.2.1 s.2.2.2.2.2.2.1 s.2.2.2.2.2.2.2.1 s.2.2.2.2.2.2.2.2.1 s.2.2.2.2.2.2.2.2.2.1 s.2.2.2.2.2.2.2.2.2.2.1 s.2.2.2.2.2.2.2.2.2.2.2.1 s.2.2.2.2.2.2.2.2.2.2.2.2.1 s.2.2.2.2.2.2.2.2.2.2.2.2.2.1 s.2.2.2.2.2.2.2.2.2.2.2.2.2.2.1 s.2.2.2.2.2.2.2.2.2.2.2.2.2.2.2.1 s.2.2.2.2.2.2.2.2.2.2.2.2.2.2.2.2) L6_21_leave
theorem L6_21_nat : Natural L6_21_sum := natural_lim fun x R K => by
  rcases x with x|x <;> rfl
theorem L6_21_dok : ∀ e st x, e ≠ .normal → L6_21_d e st = some x → ∀ R (K : Cont R), K e st = L6_21_leave x R K := by
  intro e st x _ h R K
  unfold L6_21_d at h
  split at h
  · split at h
    · rename_i s hs; cases h; rw [unSt_some hs]; rfl
    · cases h
  · split at h
    · rename_i s hs; cases h; rw [unSt_some hs]; rfl
    · cases h
  · cases h
def L6_11_sh : Shape := [(.slot 11, .dat .bool), (.slot 12, .ptr 12 0), (.slot 13, .dat (.int .i64)), (.slot 14, .ptr 14 0), (.slot 15, .dat (.int .i64)), (.slot 16, .dat (.int .i64)), (.slot 17, .dat .bool), (.slot 18, .dat (.int .i64)), (.box 12, .bx 24 3), (.cell 12 0, .dat (.int .i64)), (.cell 12 1, .dat (.list t26)), (.cell 12 2, .dat (.int .i64)), (.box 14, .bx 27 7), (.cell 14 0, .dat (.int .i64)), (.cell 14 1, .dat (.int .i64)), (.cell 14 2, .dat (.int .i64)), (.cell 14 3, .dat (.int .i64)), (.cell 14 4, .dat (.int .i64)), (.cell 14 5, .dat (.int .i64)), (.cell 14 6, .dat (.int .i64))]
def L6_11_x0 : Shape := [(.slot 11, .dat .bool), (.slot 12, .ptr 12 0), (.slot 13, .dat (.int .i64)), (.slot 14, .ptr 14 0), (.slot 15, .dat (.int .i64)), (.slot 16, .dat (.int .i64)), (.slot 17, .dat .bool), (.slot 18, .dat (.int .i64)), (.box 12, .bx 24 3), (.cell 12 0, .dat (.int .i64)), (.cell 12 1, .dat (.list t26)), (.cell 12 2, .dat (.int .i64)), (.box 14, .bx 27 7), (.cell 14 0, .dat (.int .i64)), (.cell 14 1, .dat (.int .i64)), (.cell 14 2, .dat (.int .i64)), (.cell 14 3, .dat (.int .i64)), (.cell 14 4, .dat (.int .i64)), (.cell 14 5, .dat (.int .i64)), (.cell 14 6, .dat (.int .i64))]
def L6_11_pk (s : Tup L6_11_sh) : Bool × Int × Int × Int × Bool × Int × Int × (List D26) × Int × Int × Int × Int × Int × Int × Int × Int := (s.1, s.2.2.1, s.2.2.2.2.1, s.2.2.2.2.2.1, s.2.2.2.2.2.2.1, s.2.2.2.2.2.2.2.1, s.2.2.2.2.2.2.2.2.2.1, s.2.2.2.2.2.2.2.2.2.2.1, s.2.2.2.2.2.2.2.2.2.2.2.1, s.2.2.2.2.2.2.2.2.2.2.2.2.2.1, s.2.2.2.2.2.2.2.2.2.2.2.2.2.2.1, s.2.2.2.2.2.2.2.2.2.2.2.2.2.2.2.1, s.2.2.2.2.2.2.2.2.2.2.2.2.2.2.2.2.1, s.2.2.2.2.2.2.2.2.2.2.2.2.2.2.2.2.2.1, s.2.2.2.2.2.2.2.2.2.2.2.2.2.2.2.2.2.2.1, s.2.2.2.2.2.2.2.2.2.2.2.2.2.2.2.2.2.2.2.1)
def L6_11_un (s : Bool × Int × Int × Int × Bool × Int × Int × (List D26) × Int × Int × Int × Int × Int × Int × Int × Int) : Tup L6_11_sh := (s.1, ((), (s.2.1, ((), (s.2.2.1, (s.2.2.2.1, (s.2.2.2.2.1, (s.2.2.2.2.2.1, ((), (s.2.2.2.2.2.2.1, (s.2.2.2.2.2.2.2.1, (s.2.2.2.2.2.2.2.2.1, ((), (s.2.2.2.2.2.2.2.2.2.1, (s.2.2.2.2.2.2.2.2.2.2.1, (s.2.2.2.2.2.2.2.2.2.2.2.1, (s.2.2.2.2.2.2.2.2.2.2.2.2.1, (s.2.2.2.2.2.2.2.2.2.2.2.2.2.1, (s.2.2.2.2.2.2.2.2.2.2.2.2.2.2.1, (s.2.2.2.2.2.2.2.2.2.2.2.2.2.2.2, ()))))))))))))))))))))
def L6_11_leave (x : (Bool × Int × Int × Int × Bool × Int × Int × (List D26) × Int × Int × Int × Int × Int × Int × Int × Int)) (R : Type) (K : Cont R) : Option R := match x with
  | a => K (.exit 0) (mkSt L6_11_x0 (a.1, ((), (a.2.1, ((), (a.2.2.1, (a.2.2.2.1, (a.2.2.2.2.1, (a.2.2.2.2.2.1, ((), (a.2.2.2.2.2.2.1, (a.2.2.2.2.2.2.2.1, (a.2.2.2.2.2.2.2.2.1, ((), (a.2.2.2.2.2.2.2.2.2.1, (a.2.2.2.2.2.2.2.2.2.2.1, (a.2.2.2.2.2.2.2.2.2.2.2.1, (a.2.2.2.2.2.2.2.2.2.2.2.2.1, (a.2.2.2.2.2.2.2.2.2.2.2.2.2.1, (a.2.2.2.2.2.2.2.2.2.2.2.2.2.2.1, (a.2.2.2.2.2.2.2.2.2.2.2.2.2.2.2, ())))))))))))))))))))))
def L6_11_d (e : Exit) (st : St) : Option ((Bool × Int × Int × Int × Bool × Int × Int × (List D26) × Int × Int × Int × Int × Int × Int × Int × Int)) := match e with
  | .exit 0 => (match unSt L6_11_x0 st with
    | some s => some (s.1, s.2.2.1, s.2.2.2.2.1, s.2.2.2.2.2.1, s.2.2.2.2.2.2.1, s.2.2.2.2.2.2.2.1, s.2.2.2.2.2.2.2.2.2.1, s.2.2.2.2.2.2.2.2.2.2.1, s.2.2.2.2.2.2.2.2.2.2.2.1, s.2.2.2.2.2.2.2.2.2.2.2.2.2.1, s.2.2.2.2.2.2.2.2.2.2.2.2.2.2.1, s.2.2.2.2.2.2.2.2.2.2.2.2.2.2.2.1, s.2.2.2.2.2.2.2.2.2.2.2.2.2.2.2.2.1, s.2.2.2.2.2.2.2.2.2.2.2.2.2.2.2.2.2.1, s.2.2.2.2.2.2.2.2.2.2.2.2.2.2.2.2.2.2.1, s.2.2.2.2.2.2.2.2.2.2.2.2.2.2.2.2.2.2.2.1)
    | none => none)
  | _ => none
def L6_11_r (s0 : Bool) (s1 : Int) (s2 : Int) (s3 : Int) (s4 : Bool) (s5 : Int) (s6 : Int) (s7 : (List D26)) (s8 : Int) (s9 : Int) (s10 : Int) (s11 : Int) (s12 : Int) (s13 : Int) (s14 : Int) (s15 : Int) : Option ((Bool × Int × Int × Int × Bool × Int × Int × (List D26) × Int × Int × Int × Int × Int × Int × Int × Int) ⊕ ((Bool × Int × Int × Int × Bool × Int × Int × (List D26) × Int × Int × Int × Int × Int × Int × Int × Int))) :=
  let v18 : Int := ((List.length s7 : Nat) : Int)
  let v19 : Bool := (decide (s5 < v18))
  bif v19 then
  bif ((decide (0 ≤ s5) && decide (s5 < List.length s7)) || !(!s4 && true)) then
  let v20 : D26 := (List.getD s7 (Int.toNat s5) z26)
  let v21 : Bool := (v20.2.2.2.2.2.2.1 == s1)
  let v22 : Bool := (bif s4 then true else v21)
  let v23 : Int := (IntKind.i64.wrap (s5 + (1 : Int)))
  some (.inl (s0, s1, s2, s3, v22, v23, s6, s7, s8, s9, s10, s11, s12, s13, s14, s15))
  else none
  else
  some (.inr (s0, s1, s2, s3, s4, s5, s6, s7, s8, s9, s10, s11, s12, s13, s14, s15))
def L6_11 : Bool × Int × Int × Int × Bool × Int × Int × (List D26) × Int × Int × Int × Int × Int × Int × Int × Int → Option ((Bool × Int × Int × Int × Bool × Int × Int × (List D26) × Int × Int × Int × Int × Int × Int × Int × Int)) := Lim (fun s => L6_11_r s.1 s.2.1 s.2.2.1 s.2.2.2.1 s.2.2.2.2.1 s.2.2.2.2.2.1 s.2.2.2.2.2.2.1 s.2.2.2.2.2.2.2.1 s.2.2.2.2.2.2.2.2.1 s.2.2.2.2.2.2.2.2.2.1 s.2.2.2.2.2.2.2.2.2.2.1 s.2.2.2.2.2.2.2.2.2.2.2.1 s.2.2.2.2.2.2.2.2.2.2.2.2.1 s.2.2.2.2.2.2.2.2.2.2.2.2.2.1 s.2.2.2.2.2.2.2.2.2.2.2.2.2.2.1 s.2.2.2.2.2.2.2.2.2.2.2.2.2.2.2)
def L6_11_sum : Sum := limSum L6_11_sh L6_11_pk (fun s => L6_11_r s.1 s.2.1 s.2.2.1 s.2.2.2.1 s.2.2.2.2.1 s.2.2.2.2.2.1 s.2.2.2.2.2.2.1 s.2.2.2.2.2.2.2.1 s.2.2.2.2.2.2.2.2.1 s.2.2.2.2.2.2.2.2.2.1 s.2.2.2.2.2.2.2.2.2.2.1 s.2.2.2.2.2.2.2.2.2.2.2.1 s.2.2.2.2.2.2.2.2.2.2.2.2.1 s.2.2.2.2.2.2.2.2.2.2.2.2.2.1 s.2.2.2.2.2.2.2.2.2.2.2.2.2.2.1 s.2.2.2.2.2.2.2.2.2.2.2.2.2.2.2) L6_11_leave
theorem L6_11_nat : Natural L6_11_sum := natural_lim fun x R K => by
  rfl
theorem L6_11_dok : ∀ e st x, e ≠ .normal → L6_11_d e st = some x → ∀ R (K : Cont R), K e st = L6_11_leave x R K := by
  intro e st x _ h R K
  unfold L6_11_d at h
  split at h
  · split at h
    · rename_i s hs; cases h; rw [unSt_some hs]; rfl
    · cases h
  · cases h
def loops6 : Nat → Option (Sum) := fun | 11 => some L6_11_sum | 21 => some L6_21_sum | 33 => some L6_33_sum | _ => none
theorem loops6_nat : ∀ q f, loops6 q = some f → Natural f := by
  intro q f h
  unfold loops6 at h
  split at h
  · cases h; exact L6_11_nat
  · cases h; exact L6_21_nat
  · cases h; exact L6_33_nat
  · cases h
noncomputable def L6_11_code : Code := (loopsOf body6).getD 0 .skip
theorem L6_11_round (s0 : Bool) (s1 : Int) (s2 : Int) (s3 : Int) (s4 : Bool) (s5 : Int) (s6 : Int) (s7 : (List D26)) (s8 : Int) (s9 : Int) (s10 : Int) (s11 : Int) (s12 : Int) (s13 : Int) (s14 : Int) (s15 : Int) : ev2 env6 orc6 loops6 L6_11_code (mkSt L6_11_sh (s0, ((), (s1, ((), (s2, (s3, (s4, (s5, ((), (s6, (s7, (s8, ((), (s9, (s10, (s11, (s12, (s13, (s14, (s15, ()))))))))))))))))))))) (back L6_11_sh L6_11_pk L6_11_d) = L6_11_r s0 s1 s2 s3 s4 s5 s6 s7 s8 s9 s10 s11 s12 s13 s14 s15 := by kernel_rfl
theorem L6_11_ok : SumOk env6 orc6 loops6 L6_11_code L6_11_sum := sumOk_lim (un := L6_11_un) loops6_nat (fun _ => rfl) L6_11_dok fun s => L6_11_round s.1 s.2.1 s.2.2.1 s.2.2.2.1 s.2.2.2.2.1 s.2.2.2.2.2.1 s.2.2.2.2.2.2.1 s.2.2.2.2.2.2.2.1 s.2.2.2.2.2.2.2.2.1 s.2.2.2.2.2.2.2.2.2.1 s.2.2.2.2.2.2.2.2.2.2.1 s.2.2.2.2.2.2.2.2.2.2.2.1 s.2.2.2.2.2.2.2.2.2.2.2.2.1 s.2.2.2.2.2.2.2.2.2.2.2.2.2.1 s.2.2.2.2.2.2.2.2.2.2.2.2.2.2.1 s.2.2.2.2.2.2.2.2.2.2.2.2.2.2.2
noncomputable def L6_21_code : Code := (loopsOf body6).getD 1 .skip
theorem L6_21_round (s0 : Bool) (s1 : Int) (s2 : Int) (s3 : Int) (s4 : Int) (s5 : (List D26)) (s6 : Int) (s7 : Int) (s8 : Int) (s9 : Int) (s10 : Int) (s11 : Int) (s12 : Int) (s13 : Int) (s14 : Int) (s15 : (List D26)) (s16 : Int) : ev2 env6 orc6 loops6 L6_21_code (mkSt L6_21_sh (s0, ((), ((), (s1, (s2, ((), (s3, ((), (s4, (s5, (s6, ((), (s7, (s8, (s9, (s10, (s11, (s12, (s13, ((), (s14, (s15, (s16, ())))))))))))))))))))))))) (back L6_21_sh L6_21_pk L6_21_d) = L6_21_r s0 s1 s2 s3 s4 s5 s6 s7 s8 s9 s10 s11 s12 s13 s14 s15 s16 := by kernel_rfl
theorem L6_21_ok : SumOk env6 orc6 loops6 L6_21_code L6_21_sum := sumOk_lim (un := L6_21_un) loops6_nat (fun _ => rfl) L6_21_dok fun s => L6_21_round s.1 s.2.1 s.2.2.1 s.2.2.2.1 s.2.2.2.2.1 s.2.2.2.2.2.1 s.2.2.2.2.2.2.1 s.2.2.2.2.2.2.2.1 s.2.2.2.2.2.2.2.2.1 s.2.2.2.2.2.2.2.2.2.1 s.2.2.2.2.2.2.2.2.2.2.1 s.2.2.2.2.2.2.2.2.2.2.2.1 s.2.2.2.2.2.2.2.2.2.2.2.2.1 s.2.2.2.2.2.2.2.2.2.2.2.2.2.1 s.2.2.2.2.2.2.2.2.2.2.2.2.2.2.1 s.2.2.2.2.2.2.2.2.2.2.2.2.2.2.2.1 s.2.2.2.2.2.2.2.2.2.2.2.2.2.2.2.2
noncomputable def L6_33_code : Code := (loopsOf body6).getD 2 .skip
theorem L6_33_round (s0 : Bool) (s1 : Int) (s2 : Int) (s3 : Int) (s4 : Int) (s5 : (List D26)) (s6 : Int) (s7 : Int) (s8 : Int) (s9 : Int) (s10 : Int) (s11 : Int) (s12 : Int) (s13 : Int) (s14 : Int) (s15 : (List D26)) (s16 : Int) : ev2 env6 orc6 loops6 L6_33_code (mkSt L6_33_sh (s0, ((), ((), (s1, (s2, ((), (s3, ((), (s4, (s5, (s6, ((), (s7, (s8, (s9, (s10, (s11, (s12, (s13, ((), (s14, (s15, (s16, ())))))))))))))))))))))))) (back L6_33_sh L6_33_pk L6_33_d) = L6_33_r s0 s1 s2 s3 s4 s5 s6 s7 s8 s9 s10 s11 s12 s13 s14 s15 s16 := by kernel_rfl
theorem L6_33_ok : SumOk env6 orc6 loops6 L6_33_code L6_33_sum := sumOk_lim (un := L6_33_un) loops6_nat (fun _ => rfl) L6_33_dok fun s => L6_33_round s.1 s.2.1 s.2.2.1 s.2.2.2.1 s.2.2.2.2.1 s.2.2.2.2.2.1 s.2.2.2.2.2.2.1 s.2.2.2.2.2.2.2.1 s.2.2.2.2.2.2.2.2.1 s.2.2.2.2.2.2.2.2.2.1 s.2.2.2.2.2.2.2.2.2.2.1 s.2.2.2.2.2.2.2.2.2.2.2.1 s.2.2.2.2.2.2.2.2.2.2.2.2.1 s.2.2.2.2.2.2.2.2.2.2.2.2.2.1 s.2.2.2.2.2.2.2.2.2.2.2.2.2.2.1 s.2.2.2.2.2.2.2.2.2.2.2.2.2.2.2.1 s.2.2.2.2.2.2.2.2.2.2.2.2.2.2.2.2
theorem loops6_all : loopsOf body6 = [L6_11_code, L6_21_code, L6_33_code] := by kernel_rfl
theorem L6_11_key : lookL loops6 (keyOf L6_11_code) = some L6_11_sum := by kernel_rfl
theorem L6_21_key : lookL loops6 (keyOf L6_21_code) = some L6_21_sum := by kernel_rfl
theorem L6_33_key : lookL loops6 (keyOf L6_33_code) = some L6_33_sum := by kernel_rfl
theorem loops6_ok : LoopsOk env6 orc6 loops6 body6 := by
  intro c hc f hf
  rw [loops6_all] at hc
  simp only [List.mem_cons, List.not_mem_nil, or_false] at hc
  rcases hc with rfl | rfl | rfl
  · rw [L6_11_key] at hf; cases hf; exact L6_11_ok
  · rw [L6_21_key] at hf; cases hf; exact L6_21_ok
  · rw [L6_33_key] at hf; cases hf; exact L6_33_ok
def G6 (x0 : Int) (x1 : (List (List Int))) (x2 : Int) (x3 : Int) (x4 : Int) : Option (Bool) :=
  bif (P7 ) then
  bif (P8 x0 x1) then
  let q1 : (D23 × Unit) := F8 x0 x1
  let v2 : (List D26) := ([] : (List D26))
  let v3 : (List D26) := ([] : (List D26))
  let v4 : Int := ((List.length q1.1.2.1 : Nat) : Int)
  let v5 : Bool := (v4 == (0 : Int))
  bif v5 then
  some (F7)
  else
  let v6 : Int := ((List.length q1.1.2.1 : Nat) : Int)
  bif (P14 x2 v6) then
  let v7 : Int := (F14 x2 v6)
  bif (decide (0 ≤ v7) && decide (v7 < List.length q1.1.2.1)) then
  let v8 : D26 := (List.getD q1.1.2.1 (Int.toNat v7) z26)
  let v9 : Int := ((List.length q1.1.2.1 : Nat) : Int)
  let v10 : Int := (IntKind.i64.wrap (v9 - (1 : Int)))
  bif (decide (0 ≤ v10) && decide (v10 < List.length q1.1.2.1)) then
  let v11 : D26 := (List.getD q1.1.2.1 (Int.toNat v10) z26)
  let v12 : Int := (IntKind.i64.wrap ((30 : Int) * q1.1.2.2.1))
  let v13 : Int := (if v12 > v11.2.1 then v12 else v11.2.1)
  bif (P14 x3 (60 : Int)) then
  let v14 : Int := (F14 x3 (60 : Int))
  let v15 : Int := (IntKind.i64.wrap (v13 + v14))
  let v16 : Int := (if v15 < (359 : Int) then v15 else (359 : Int))
  bif (P14 x4 (1000 : Int)) then
  let v17 : Int := (F14 x4 (1000 : Int))
  Option.bind (L6_11 (F7, v7, v16, v17, false, (0 : Int), q1.1.1, q1.1.2.1, q1.1.2.2.1, v8.1, v8.2.1, v8.2.2.1, v8.2.2.2.1, v8.2.2.2.2.1, v8.2.2.2.2.2.1, v8.2.2.2.2.2.2.1)) fun (r24 : Bool × Int × Int × Int × Bool × Int × Int × (List D26) × Int × Int × Int × Int × Int × Int × Int × Int) =>
  bif (P15 (r24.2.2.2.2.2.2.1, (r24.2.2.2.2.2.2.2.1, (r24.2.2.2.2.2.2.2.2.1, ()))) r24.2.1 r24.2.2.1 r24.2.2.2.1) then
  let q25 : (D23 × (Int × Unit)) := F15 (r24.2.2.2.2.2.2.1, (r24.2.2.2.2.2.2.2.1, (r24.2.2.2.2.2.2.2.2.1, ()))) r24.2.1 r24.2.2.1 r24.2.2.2.1
  let v26 : (List D26) := ([] : (List D26))
  let v27 : (List D26) := ([] : (List D26))
  let v28 : Bool := (r24.2.2.2.2.2.2.2.2.2.1 != (1 : Int))
  let v29 : Bool := (bif v28 then true else r24.2.2.2.2.1)
  let v30 : Bool := (r24.2.2.2.2.2.2.2.2.1 == (12 : Int))
  let v31 : Bool := (bif v29 then true else v30)
  bif v31 then
  let v32 : Bool := (q25.2.1 == (310 : Int))
  let v33 : Bool := (bif r24.1 then v32 else false)
  some (v33)
  else
  bif (P15 q25.1 r24.2.1 r24.2.2.1 r24.2.2.2.1) then
  let q34 : (D23 × (Int × Unit)) := F15 q25.1 r24.2.1 r24.2.2.1 r24.2.2.2.1
  let v35 : (List D26) := ([] : (List D26))
  let v36 : (List D26) := ([] : (List D26))
  let v37 : Bool := (q25.2.1 != (0 : Int))
  let v38 : Bool := (q34.2.1 != (310 : Int))
  let v39 : Bool := (bif v37 then true else v38)
  bif v39 then
  some (false)
  else
  Option.bind (L6_21 (r24.1, r24.2.2.1, r24.2.2.2.1, (0 : Int), r24.2.2.2.2.2.2.1, r24.2.2.2.2.2.2.2.1, r24.2.2.2.2.2.2.2.2.1, r24.2.2.2.2.2.2.2.2.2.1, r24.2.2.2.2.2.2.2.2.2.2.1, r24.2.2.2.2.2.2.2.2.2.2.2.1, r24.2.2.2.2.2.2.2.2.2.2.2.2.1, r24.2.2.2.2.2.2.2.2.2.2.2.2.2.1, r24.2.2.2.2.2.2.2.2.2.2.2.2.2.2.1, r24.2.2.2.2.2.2.2.2.2.2.2.2.2.2.2, q25.1.1, q25.1.2.1, q25.1.2.2.1)) fun x => match x with
  | (.inl r67) =>
  some (r67)
  | (.inr r68) =>
  Option.bind (L6_33 (r68.1, r68.2.1, r68.2.2.1, (0 : Int), r68.2.2.2.2.1, r68.2.2.2.2.2.1, r68.2.2.2.2.2.2.1, r68.2.2.2.2.2.2.2.1, r68.2.2.2.2.2.2.2.2.1, r68.2.2.2.2.2.2.2.2.2.1, r68.2.2.2.2.2.2.2.2.2.2.1, r68.2.2.2.2.2.2.2.2.2.2.2.1, r68.2.2.2.2.2.2.2.2.2.2.2.2.1, r68.2.2.2.2.2.2.2.2.2.2.2.2.2.1, r68.2.2.2.2.2.2.2.2.2.2.2.2.2.2.1, r68.2.2.2.2.2.2.2.2.2.2.2.2.2.2.2.1, r68.2.2.2.2.2.2.2.2.2.2.2.2.2.2.2.2)) fun x => match x with
  | (.inl r97) =>
  some (r97)
  | (.inr r98) =>
  some (r98.1)
  else none
  else none
  else none
  else none
  else none
  else none
  else none
  else none
  else none
theorem ev6 (x0 : Int) (x1 : (List (List Int))) (x2 : Int) (x3 : Int) (x4 : Int) : ev2 env6 orc6 loops6 body6 (initSt 0 [⟨(.int .i64), x0⟩, ⟨(.list (.arr 5 (.int .i64))), x1⟩, ⟨(.int .i64), x2⟩, ⟨(.int .i64), x3⟩, ⟨(.int .i64), x4⟩]) (retT [(10, .dat .bool)] [.bool] fun x => x.1) = G6 x0 x1 x2 x3 x4 := by kernel_rfl
def P6 (x0 : Int) (x1 : (List (List Int))) (x2 : Int) (x3 : Int) (x4 : Int) : Bool := (G6 x0 x1 x2 x3 x4).isSome
def F6 (x0 : Int) (x1 : (List (List Int))) (x2 : Int) (x3 : Int) (x4 : Int) : Bool := (G6 x0 x1 x2 x3 x4).getD default
theorem G6_some (x0 : Int) (x1 : (List (List Int))) (x2 : Int) (x3 : Int) (x4 : Int) (h : P6 x0 x1 x2 x3 x4 = true) : G6 x0 x1 x2 x3 x4 = some (F6 x0 x1 x2 x3 x4) := by
  unfold P6 at h; unfold F6
  cases hg : G6 x0 x1 x2 x3 x4 with
  | none => rw [hg] at h; cases h
  | some r => rfl
theorem P6_of (x0 : Int) (x1 : (List (List Int))) (x2 : Int) (x3 : Int) (x4 : Int) {r : Bool} (h : G6 x0 x1 x2 x3 x4 = some r) : P6 x0 x1 x2 x3 x4 = true := by unfold P6; rw [h]; rfl
theorem F6_of (x0 : Int) (x1 : (List (List Int))) (x2 : Int) (x3 : Int) (x4 : Int) {r : Bool} (h : G6 x0 x1 x2 x3 x4 = some r) : F6 x0 x1 x2 x3 x4 = r := by unfold F6; rw [h]; rfl
def spec6 : Spec := ⟨[(.int .i64), (.list (.arr 5 (.int .i64))), (.int .i64), (.int .i64), (.int .i64)], [.dat .bool], fun | [a0, a1, a2, a3, a4] => P6 (a0.as (.int .i64)) (a1.as (.list (.arr 5 (.int .i64)))) (a2.as (.int .i64)) (a3.as (.int .i64)) (a4.as (.int .i64)) | _ => false, fun | [a0, a1, a2, a3, a4] => [⟨.bool, (F6 (a0.as (.int .i64)) (a1.as (.list (.arr 5 (.int .i64)))) (a2.as (.int .i64)) (a3.as (.int .i64)) (a4.as (.int .i64)))⟩] | _ => []⟩
theorem meets6 (hE : EnvOk Try.prog env6) (hm : Try.prog.follows .mixedOrders = true) : Meets Try.prog glob 6 spec6 :=
  meets_of_ev2 (O := orc6) (L := loops6) (c := body6) (slots := [10]) hE hm Try.func6 Try.call6 (by kernel_rfl) (by kernel_rfl) loops6_ok (rangesOk_nil (by kernel_rfl)) (by kernel_rfl) rfl (by decide) (fun ds hds hpre => by
  obtain ⟨x0, ds0, rfl, h0⟩ := datsS hds
  obtain ⟨x1, ds1, rfl, h1⟩ := datsS h0
  obtain ⟨x2, ds2, rfl, h2⟩ := datsS h1
  obtain ⟨x3, ds3, rfl, h3⟩ := datsS h2
  obtain ⟨x4, ds4, rfl, h4⟩ := datsS h3
  have h9 := dats0 h4; subst h9
  exact ev_ret (un := fun r => [⟨.bool, r⟩]) loops6_nat (fun _ => rfl) ((ev6 x0 x1 x2 x3 x4).trans (G6_some x0 x1 x2 x3 x4 hpre)))
theorem mixed : Try.prog.follows .mixedOrders = true := by kernel_rfl
theorem envOk30 : EnvOk Try.prog env30 := by
  refine ⟨tabOk, fun f S h => ?_, fun f l S h => ?_⟩
  · simp only [env30] at h
    cases h
  · simp only [env30] at h
    cases h
theorem full30 : Meets Try.prog glob 30 spec30 := meets30 envOk30 mixed
theorem envOk31 : EnvOk Try.prog env31 := by
  refine ⟨tabOk, fun f S h => ?_, fun f l S h => ?_⟩
  · simp only [env31] at h
    split at h
    · cases h; exact full30
    · cases h
  · simp only [env31] at h
    cases h
theorem full31 : Meets Try.prog glob 31 spec31 := meets31 envOk31 mixed
theorem envOk12 : EnvOk Try.prog env12 := by
  refine ⟨tabOk, fun f S h => ?_, fun f l S h => ?_⟩
  · simp only [env12] at h
    split at h
    · cases h; exact full30
    · cases h; exact full31
    · cases h
  · simp only [env12] at h
    cases h
theorem full12 : Meets Try.prog glob 12 spec12 := meets12 envOk12 mixed
theorem envOk26 : EnvOk Try.prog env26 := by
  refine ⟨tabOk, fun f S h => ?_, fun f l S h => ?_⟩
  · simp only [env26] at h
    cases h
  · simp only [env26] at h
    cases h
theorem full26 : Meets Try.prog glob 26 spec26 := meets26 envOk26 mixed
theorem envOk13 : EnvOk Try.prog env13 := by
  refine ⟨tabOk, fun f S h => ?_, fun f l S h => ?_⟩
  · simp only [env13] at h
    split at h
    · cases h; exact full26
    · cases h
  · simp only [env13] at h
    cases h
theorem full13 : Meets Try.prog glob 13 spec13 := meets13 envOk13 mixed
theorem envOk23 : EnvOk Try.prog env23 := by
  refine ⟨tabOk, fun f S h => ?_, fun f l S h => ?_⟩
  · simp only [env23] at h
    cases h
  · simp only [env23] at h
    cases h
theorem full23 : Meets Try.prog glob 23 spec23 := meets23 envOk23 mixed
theorem envOk22 : EnvOk Try.prog env22 := by
  refine ⟨tabOk, fun f S h => ?_, fun f l S h => ?_⟩
  · simp only [env22] at h
    split at h
    · cases h; exact full12
    · cases h; exact full30
    · cases h
  · simp only [env22] at h
    cases h
theorem full22 : Meets Try.prog glob 22 spec22 := meets22 envOk22 mixed
theorem envOk20 : EnvOk Try.prog env20 := by
  refine ⟨tabOk, fun f S h => ?_, fun f l S h => ?_⟩
  · simp only [env20] at h
    split at h
    · cases h; exact full12
    · cases h; exact full22
    · cases h
  · simp only [env20] at h
    cases h
theorem full20 : Meets Try.prog glob 20 spec20 := meets20 envOk20 mixed
theorem envOk25 : EnvOk Try.prog env25 := by
  refine ⟨tabOk, fun f S h => ?_, fun f l S h => ?_⟩
  · simp only [env25] at h
    split at h
    · cases h; exact full12
    · cases h; exact full30
    · cases h
  · simp only [env25] at h
    cases h
theorem full25 : Meets Try.prog glob 25 spec25 := meets25 envOk25 mixed
theorem envOk32 : EnvOk Try.prog env32 := by
  refine ⟨tabOk, fun f S h => ?_, fun f l S h => ?_⟩
  · simp only [env32] at h
    cases h
  · simp only [env32] at h
    cases h
theorem full32 : Meets Try.prog glob 32 spec32 := meets32 envOk32 mixed
theorem envOk40 : EnvOk Try.prog env40 := by
  refine ⟨tabOk, fun f S h => ?_, fun f l S h => ?_⟩
  · simp only [env40] at h
    split at h
    · cases h; exact full32
    · cases h
  · simp only [env40] at h
    cases h
theorem full40 : Meets Try.prog glob 40 spec40 := meets40 envOk40 mixed
theorem envOk41 : EnvOk Try.prog env41 := by
  refine ⟨tabOk, fun f S h => ?_, fun f l S h => ?_⟩
  · simp only [env41] at h
    cases h
  · simp only [env41] at h
    cases h
theorem full41 : Meets Try.prog glob 41 spec41 := meets41 envOk41 mixed
theorem envOk38 : EnvOk Try.prog env38 := by
  refine ⟨tabOk, fun f S h => ?_, fun f l S h => ?_⟩
  · simp only [env38] at h
    split at h
    · cases h; exact full40
    · cases h; exact full41
    · cases h
  · simp only [env38] at h
    cases h
theorem full38 : Meets2 Try.prog glob 38 sp38 := meets38 envOk38 mixed
theorem envOk28 : EnvOk Try.prog env28 := by
  refine ⟨tabOk, fun f S h => ?_, fun f l S h => ?_⟩
  · simp only [env28] at h
    split at h
    · cases h; exact full32
    · cases h
  · simp only [env28] at h
    split at h
    · cases h; exact full38
    · cases h
theorem full28 : Meets2 Try.prog glob 28 sp28 := meets28 envOk28 mixed
theorem envOk11 : EnvOk Try.prog env11 := by
  refine ⟨tabOk, fun f S h => ?_, fun f l S h => ?_⟩
  · simp only [env11] at h
    cases h
  · simp only [env11] at h
    split at h
    · cases h; exact full28
    · cases h
theorem full11 : Meets Try.prog glob 11 spec11 := meets11 envOk11 mixed
theorem envOk33 : EnvOk Try.prog env33 := by
  refine ⟨tabOk, fun f S h => ?_, fun f l S h => ?_⟩
  · simp only [env33] at h
    cases h
  · simp only [env33] at h
    cases h
theorem full33 : Meets2 Try.prog glob 33 sp33 := meets33 envOk33 mixed
theorem envOk34 : EnvOk Try.prog env34 := by
  refine ⟨tabOk, fun f S h => ?_, fun f l S h => ?_⟩
  · simp only [env34] at h
    cases h
  · simp only [env34] at h
    cases h
theorem full34 : Meets2 Try.prog glob 34 sp34 := meets34 envOk34 mixed
theorem envOk39 : EnvOk Try.prog env39 := by
  refine ⟨tabOk, fun f S h => ?_, fun f l S h => ?_⟩
  · simp only [env39] at h
    cases h
  · simp only [env39] at h
    split at h
    · cases h; exact full34
    · cases h
theorem fullI39 : IterOk Try.prog glob 39 I39 := iter39 envOk39 mixed
theorem envOk35 : EnvOk Try.prog env35 := by
  refine ⟨tabOk, fun f S h => ?_, fun f l S h => ?_⟩
  · simp only [env35] at h
    cases h
  · simp only [env35] at h
    cases h
theorem full35 : Meets2 Try.prog glob 35 sp35 := meets35 envOk35 mixed
theorem envOk36 : EnvOk Try.prog env36 := by
  refine ⟨tabOk, fun f S h => ?_, fun f l S h => ?_⟩
  · simp only [env36] at h
    cases h
  · simp only [env36] at h
    cases h
theorem full36 : Meets Try.prog glob 36 spec36 := meets36 envOk36 mixed
theorem envOk19 : EnvOk Try.prog env19 := by
  refine ⟨tabOk, fun f S h => ?_, fun f l S h => ?_⟩
  · simp only [env19] at h
    split at h
    · cases h; exact full32
    · cases h; exact full36
    · cases h
  · simp only [env19] at h
    split at h
    · cases h; exact full28
    · cases h; exact full33
    · cases h; exact full35
    · cases h
theorem full19 : Meets Try.prog glob 19 spec19 := meets19 envOk19 mixed fullI39
theorem envOk10033 : EnvOk Try.prog env10033 := by
  refine ⟨tabOk, fun f S h => ?_, fun f l S h => ?_⟩
  · simp only [env10033] at h
    cases h
  · simp only [env10033] at h
    cases h
theorem full10033 : Meets2 Try.prog glob 33 sp10033 := meets10033 envOk10033 mixed
theorem envOk37 : EnvOk Try.prog env37 := by
  refine ⟨tabOk, fun f S h => ?_, fun f l S h => ?_⟩
  · simp only [env37] at h
    cases h
  · simp only [env37] at h
    cases h
theorem full37 : Meets2 Try.prog glob 37 sp37 := meets37 envOk37 mixed
theorem envOk10039 : EnvOk Try.prog env10039 := by
  refine ⟨tabOk, fun f S h => ?_, fun f l S h => ?_⟩
  · simp only [env10039] at h
    cases h
  · simp only [env10039] at h
    split at h
    · cases h; exact full37
    · cases h
theorem fullI10039 : IterOk Try.prog glob 39 I10039 := iter10039 envOk10039 mixed
theorem envOk24 : EnvOk Try.prog env24 := by
  refine ⟨tabOk, fun f S h => ?_, fun f l S h => ?_⟩
  · simp only [env24] at h
    split at h
    · cases h; exact full32
    · cases h; exact full36
    · cases h
  · simp only [env24] at h
    split at h
    · cases h; exact full28
    · cases h; exact full10033
    · cases h; exact full35
    · cases h
theorem full24 : Meets Try.prog glob 24 spec24 := meets24 envOk24 mixed fullI10039
theorem envOk21 : EnvOk Try.prog env21 := by
  refine ⟨tabOk, fun f S h => ?_, fun f l S h => ?_⟩
  · simp only [env21] at h
    split at h
    · cases h; exact full19
    · cases h
  · simp only [env21] at h
    cases h
theorem full21 : Meets Try.prog glob 21 spec21 := meets21 envOk21 mixed
theorem envOk10038 : EnvOk Try.prog env10038 := by
  refine ⟨tabOk, fun f S h => ?_, fun f l S h => ?_⟩
  · simp only [env10038] at h
    split at h
    · cases h; exact full40
    · cases h; exact full41
    · cases h
  · simp only [env10038] at h
    cases h
theorem full10038 : Meets2 Try.prog glob 38 sp10038 := meets10038 envOk10038 mixed
theorem envOk29 : EnvOk Try.prog env29 := by
  refine ⟨tabOk, fun f S h => ?_, fun f l S h => ?_⟩
  · simp only [env29] at h
    cases h
  · simp only [env29] at h
    split at h
    · cases h; exact full10038
    · cases h
theorem full29 : Meets2 Try.prog glob 29 sp29 := meets29 envOk29 mixed
theorem envOk9 : EnvOk Try.prog env9 := by
  refine ⟨tabOk, fun f S h => ?_, fun f l S h => ?_⟩
  · simp only [env9] at h
    cases h
  · simp only [env9] at h
    split at h
    · cases h; exact full28
    · cases h; exact full29
    · cases h
theorem full9 : Meets2 Try.prog glob 9 sp9 := meets9 envOk9 mixed
theorem envOk15 : EnvOk Try.prog env15 := by
  refine ⟨tabOk, fun f S h => ?_, fun f l S h => ?_⟩
  · simp only [env15] at h
    split at h
    · cases h; exact full32
    · cases h
  · simp only [env15] at h
    split at h
    · cases h; exact full28
    · cases h; exact full29
    · cases h
theorem full15 : Meets2 Try.prog glob 15 sp15 := meets15 envOk15 mixed
theorem envOk17 : EnvOk Try.prog env17 := by
  refine ⟨tabOk, fun f S h => ?_, fun f l S h => ?_⟩
  · simp only [env17] at h
    split at h
    · cases h; exact full32
    · cases h
  · simp only [env17] at h
    split at h
    · cases h; exact full28
    · cases h
theorem full17 : Meets2 Try.prog glob 17 sp17 := meets17 envOk17 mixed
theorem envOk7 : EnvOk Try.prog env7 := by
  refine ⟨tabOk, fun f S h => ?_, fun f l S h => ?_⟩
  · simp only [env7] at h
    split at h
    · cases h; exact full11
    · cases h; exact full19
    · cases h; exact full21
    · cases h; exact full23
    · cases h; exact full24
    · cases h
  · simp only [env7] at h
    split at h
    · cases h; exact full9
    · cases h; exact full15
    · cases h; exact full17
    · cases h
theorem full7 : Meets Try.prog glob 7 spec7 := meets7 envOk7 mixed
theorem envOk27 : EnvOk Try.prog env27 := by
  refine ⟨tabOk, fun f S h => ?_, fun f l S h => ?_⟩
  · simp only [env27] at h
    cases h
  · simp only [env27] at h
    cases h
theorem full27 : Meets Try.prog glob 27 spec27 := meets27 envOk27 mixed
theorem envOk10 : EnvOk Try.prog env10 := by
  refine ⟨tabOk, fun f S h => ?_, fun f l S h => ?_⟩
  · simp only [env10] at h
    split at h
    · cases h; exact full12
    · cases h
  · simp only [env10] at h
    cases h
theorem full10 : Meets2 Try.prog glob 10 sp10 := meets10 envOk10 mixed
theorem envOk16 : EnvOk Try.prog env16 := by
  refine ⟨tabOk, fun f S h => ?_, fun f l S h => ?_⟩
  · simp only [env16] at h
    split at h
    · cases h; exact full30
    · cases h
  · simp only [env16] at h
    split at h
    · cases h; exact full10
    · cases h
theorem full16 : Meets2 Try.prog glob 16 sp16 := meets16 envOk16 mixed
theorem envOk18 : EnvOk Try.prog env18 := by
  refine ⟨tabOk, fun f S h => ?_, fun f l S h => ?_⟩
  · simp only [env18] at h
    split at h
    · cases h; exact full12
    · cases h; exact full30
    · cases h
  · simp only [env18] at h
    cases h
theorem full18 : Meets2 Try.prog glob 18 sp18 := meets18 envOk18 mixed
theorem envOk8 : EnvOk Try.prog env8 := by
  refine ⟨tabOk, fun f S h => ?_, fun f l S h => ?_⟩
  · simp only [env8] at h
    split at h
    · cases h; exact full27
    · cases h
  · simp only [env8] at h
    split at h
    · cases h; exact full10
    · cases h; exact full16
    · cases h; exact full18
    · cases h
theorem full8 : Meets2 Try.prog glob 8 sp8 := meets8 envOk8 mixed
theorem envOk14 : EnvOk Try.prog env14 := by
  refine ⟨tabOk, fun f S h => ?_, fun f l S h => ?_⟩
  · simp only [env14] at h
    cases h
  · simp only [env14] at h
    cases h
theorem full14 : Meets Try.prog glob 14 spec14 := meets14 envOk14 mixed
theorem envOk3 : EnvOk Try.prog env3 := by
  refine ⟨tabOk, fun f S h => ?_, fun f l S h => ?_⟩
  · simp only [env3] at h
    split at h
    · cases h; exact full7
    · cases h; exact full11
    · cases h; exact full12
    · cases h; exact full13
    · cases h; exact full14
    · cases h; exact full19
    · cases h; exact full20
    · cases h; exact full21
    · cases h; exact full22
    · cases h; exact full23
    · cases h; exact full24
    · cases h; exact full25
    · cases h
  · simp only [env3] at h
    split at h
    · cases h; exact full8
    · cases h; exact full9
    · cases h; exact full10
    · cases h; exact full15
    · cases h; exact full16
    · cases h; exact full17
    · cases h; exact full18
    · cases h
theorem full3 : Meets Try.prog glob 3 spec3 := meets3 envOk3 mixed
theorem envOk4 : EnvOk Try.prog env4 := by
  refine ⟨tabOk, fun f S h => ?_, fun f l S h => ?_⟩
  · simp only [env4] at h
    split at h
    · cases h; exact full7
    · cases h; exact full19
    · cases h; exact full21
    · cases h; exact full23
    · cases h; exact full24
    · cases h
  · simp only [env4] at h
    split at h
    · cases h; exact full8
    · cases h
theorem full4 : Meets Try.prog glob 4 spec4 := meets4 envOk4 mixed
theorem envOk5 : EnvOk Try.prog env5 := by
  refine ⟨tabOk, fun f S h => ?_, fun f l S h => ?_⟩
  · simp only [env5] at h
    split at h
    · cases h; exact full7
    · cases h; exact full11
    · cases h; exact full13
    · cases h; exact full14
    · cases h; exact full19
    · cases h; exact full23
    · cases h; exact full26
    · cases h
  · simp only [env5] at h
    split at h
    · cases h; exact full8
    · cases h; exact full9
    · cases h; exact full15
    · cases h; exact full17
    · cases h
theorem full5 : Meets Try.prog glob 5 spec5 := meets5 envOk5 mixed
theorem envOk6 : EnvOk Try.prog env6 := by
  refine ⟨tabOk, fun f S h => ?_, fun f l S h => ?_⟩
  · simp only [env6] at h
    split at h
    · cases h; exact full7
    · cases h; exact full14
    · cases h; exact full19
    · cases h; exact full23
    · cases h; exact full24
    · cases h
  · simp only [env6] at h
    split at h
    · cases h; exact full8
    · cases h; exact full15
    · cases h
theorem full6 : Meets Try.prog glob 6 spec6 := meets6 envOk6 mixed
end
end Go.Ev.B
