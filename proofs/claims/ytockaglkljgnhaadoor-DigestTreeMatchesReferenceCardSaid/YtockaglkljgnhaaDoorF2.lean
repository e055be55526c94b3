/- The functions of the program as functions of Lean, with the proofs that they are. -/
import Derived.Test.YtockaglkljgnhaaDoorF1
import Derived.KernelRfl
set_option linter.unusedSimpArgs false
set_option linter.unusedVariables false
set_option linter.deprecated false
namespace Go.Ev.D
open Go Go.Proofs Go.Ev
noncomputable section
def L58_16_r (s0 : (List Int)) (s1 : (List Int)) (s2 : (List Int)) (s3 : (List Int)) (s4 : Int) : Option (((List Int) × (List Int) × (List Int) × (List Int) × Int) ⊕ (((List Int) × (List Int) × (List Int) × (List Int) × Int))) :=
  let v65 : Bool := (decide (s4 < (64 : Int)))
  bif v65 then
  bif (decide (0 ≤ (0 : Int)) && decide ((0 : Int) < (List.length s3))) then
  bif (decide ((Int.toNat (0 : Int)) < List.length s3)) then
  let v66 : Int := (List.getD s3 (Int.toNat (0 : Int)) (0 : Int))
  bif (decide (0 ≤ (4 : Int)) && decide ((4 : Int) < (List.length s3))) then
  bif (decide ((Int.toNat (4 : Int)) < List.length s3)) then
  let v67 : Int := (List.getD s3 (Int.toNat (4 : Int)) (0 : Int))
  bif (decide (0 ≤ (7 : Int)) && decide ((7 : Int) < (List.length s3))) then
  bif (decide ((Int.toNat (7 : Int)) < List.length s3)) then
  let v68 : Int := (List.getD s3 (Int.toNat (7 : Int)) (0 : Int))
  bif (P69 v67 (6 : Int)) then
  let v69 : Int := (F69 v67 (6 : Int))
  bif (P69 v67 (11 : Int)) then
  let v70 : Int := (F69 v67 (11 : Int))
  let v71 : Int := (bits .xor .u32 v69 v70)
  bif (P69 v67 (25 : Int)) then
  let v72 : Int := (F69 v67 (25 : Int))
  let v73 : Int := (bits .xor .u32 v71 v72)
  let v74 : Int := (IntKind.u32.wrap (v68 + v73))
  bif (decide (0 ≤ (5 : Int)) && decide ((5 : Int) < (List.length s3))) then
  bif (decide ((Int.toNat (5 : Int)) < List.length s3)) then
  let v75 : Int := (List.getD s3 (Int.toNat (5 : Int)) (0 : Int))
  let v76 : Int := (bits .and .u32 v67 v75)
  let v77 : Int := (bits .xor .u32 (if IntKind.u32.signed then -1 else IntKind.u32.max) v67)
  bif (decide (0 ≤ (6 : Int)) && decide ((6 : Int) < (List.length s3))) then
  bif (decide ((Int.toNat (6 : Int)) < List.length s3)) then
  let v78 : Int := (List.getD s3 (Int.toNat (6 : Int)) (0 : Int))
  let v79 : Int := (bits .and .u32 v77 v78)
  let v80 : Int := (bits .xor .u32 v76 v79)
  let v81 : Int := (IntKind.u32.wrap (v74 + v80))
  bif (decide (0 ≤ s4) && decide (s4 < List.length s2)) then
  let v82 : Int := (List.getD s2 (Int.toNat s4) (0 : Int))
  let v83 : Int := (IntKind.u32.wrap (v81 + v82))
  bif (decide (0 ≤ s4) && decide (s4 < (List.length s1))) then
  bif (decide ((Int.toNat s4) < List.length s1)) then
  let v84 : Int := (List.getD s1 (Int.toNat s4) (0 : Int))
  let v85 : Int := (IntKind.u32.wrap (v83 + v84))
  bif (P69 v66 (2 : Int)) then
  let v86 : Int := (F69 v66 (2 : Int))
  bif (P69 v66 (13 : Int)) then
  let v87 : Int := (F69 v66 (13 : Int))
  let v88 : Int := (bits .xor .u32 v86 v87)
  bif (P69 v66 (22 : Int)) then
  let v89 : Int := (F69 v66 (22 : Int))
  let v90 : Int := (bits .xor .u32 v88 v89)
  bif (decide (0 ≤ (1 : Int)) && decide ((1 : Int) < (List.length s3))) then
  bif (decide ((Int.toNat (1 : Int)) < List.length s3)) then
  let v91 : Int := (List.getD s3 (Int.toNat (1 : Int)) (0 : Int))
  let v92 : Int := (bits .and .u32 v66 v91)
  bif (decide (0 ≤ (2 : Int)) && decide ((2 : Int) < (List.length s3))) then
  bif (decide ((Int.toNat (2 : Int)) < List.length s3)) then
  let v93 : Int := (List.getD s3 (Int.toNat (2 : Int)) (0 : Int))
  let v94 : Int := (bits .and .u32 v66 v93)
  let v95 : Int := (bits .xor .u32 v92 v94)
  bif (decide (0 ≤ (1 : Int)) && decide ((1 : Int) < (List.length s3))) then
  bif (decide ((Int.toNat (1 : Int)) < List.length s3)) then
  let v96 : Int := (List.getD s3 (Int.toNat (1 : Int)) (0 : Int))
  bif (decide (0 ≤ (2 : Int)) && decide ((2 : Int) < (List.length s3))) then
  bif (decide ((Int.toNat (2 : Int)) < List.length s3)) then
  let v97 : Int := (List.getD s3 (Int.toNat (2 : Int)) (0 : Int))
  let v98 : Int := (bits .and .u32 v96 v97)
  let v99 : Int := (bits .xor .u32 v95 v98)
  let v100 : Int := (IntKind.u32.wrap (v90 + v99))
  let v101 : Int := (IntKind.u32.wrap (v85 + v100))
  bif (decide (0 ≤ (1 : Int)) && decide ((1 : Int) < (List.length s3))) then
  bif (decide ((Int.toNat (1 : Int)) < List.length s3)) then
  let v102 : Int := (List.getD s3 (Int.toNat (1 : Int)) (0 : Int))
  bif (decide (0 ≤ (2 : Int)) && decide ((2 : Int) < (List.length s3))) then
  bif (decide ((Int.toNat (2 : Int)) < List.length s3)) then
  let v103 : Int := (List.getD s3 (Int.toNat (2 : Int)) (0 : Int))
  bif (decide (0 ≤ (3 : Int)) && decide ((3 : Int) < (List.length s3))) then
  bif (decide ((Int.toNat (3 : Int)) < List.length s3)) then
  let v104 : Int := (List.getD s3 (Int.toNat (3 : Int)) (0 : Int))
  let v105 : Int := (IntKind.u32.wrap (v104 + v85))
  bif (decide (0 ≤ (5 : Int)) && decide ((5 : Int) < (List.length s3))) then
  bif (decide ((Int.toNat (5 : Int)) < List.length s3)) then
  let v106 : Int := (List.getD s3 (Int.toNat (5 : Int)) (0 : Int))
  bif (decide (0 ≤ (6 : Int)) && decide ((6 : Int) < (List.length s3))) then
  bif (decide ((Int.toNat (6 : Int)) < List.length s3)) then
  let v107 : Int := (List.getD s3 (Int.toNat (6 : Int)) (0 : Int))
  let v108 : (List Int) := (List.set (List.set (List.set (List.set (List.set (List.set (List.set (List.set (List.replicate 8 (0 : Int)) 0 v101) 1 v66) 2 v102) 3 v103) 4 v105) 5 v67) 6 v106) 7 v107)
  let v109 : Int := (IntKind.i64.wrap (s4 + (1 : Int)))
  some (.inl (s0, s1, s2, v108, v109))
  else none
  else none
  else none
  else none
  else none
  else none
  else none
  else none
  else none
  else none
  else none
  else none
  else none
  else none
  else none
  else none
  else none
  else none
  else none
  else none
  else none
  else none
  else none
  else none
  else none
  else none
  else none
  else none
  else none
  else none
  else none
  else none
  else none
  else none
  else none
  else none
  else none
  else
  some (.inr (s0, s1, s2, s3, s4))
def L58_16 : (List Int) × (List Int) × (List Int) × (List Int) × Int → Option (((List Int) × (List Int) × (List Int) × (List Int) × Int)) := Lim (fun s => L58_16_r s.1 s.2.1 s.2.2.1 s.2.2.2.1 s.2.2.2.2)
def L58_16_sum : Sum := limSum L58_16_sh L58_16_pk (fun s => L58_16_r s.1 s.2.1 s.2.2.1 s.2.2.2.1 s.2.2.2.2) L58_16_leave
theorem L58_16_nat : Natural L58_16_sum := natural_lim fun x R K => by
  rfl
theorem L58_16_dok : ∀ e st x, e ≠ .normal → L58_16_d e st = some x → ∀ R (K : Cont R), K e st = L58_16_leave x R K := by
  intro e st x _ h R K
  unfold L58_16_d at h
  split at h
  · split at h
    · rename_i s hs; cases h; rw [unSt_some hs]; rfl
    · cases h
  · cases h
def L58_7_sh : Shape := [(.slot 0, .dat (.list (.int .u32))), (.slot 5, .own 69 (.int .u32)), (.slot 7, .dat (.int .i64))]
def L58_7_x0 : Shape := [(.slot 0, .dat (.list (.int .u32))), (.slot 5, .own 69 (.int .u32)), (.slot 7, .dat (.int .i64))]
def L58_7_pk (s : Tup L58_7_sh) : (List Int) × (List Int) × Int := (s.1, s.2.1, s.2.2.1)
def L58_7_un (s : (List Int) × (List Int) × Int) : Tup L58_7_sh := (s.1, (s.2.1, (s.2.2, ())))
def L58_7_leave (x : ((List Int) × (List Int) × Int)) (R : Type) (K : Cont R) : Option R := match x with
  | a => K (.exit 2) (mkSt L58_7_x0 (a.1, (a.2.1, (a.2.2, ()))))
def L58_7_d (e : Exit) (st : St) : Option (((List Int) × (List Int) × Int)) := match e with
  | .exit 2 => (match unSt L58_7_x0 st with
    | some s => some (s.1, s.2.1, s.2.2.1)
    | none => none)
  | _ => none
def L58_7_r (s0 : (List Int)) (s1 : (List Int)) (s2 : Int) : Option (((List Int) × (List Int) × Int) ⊕ (((List Int) × (List Int) × Int))) :=
  let v29 : Bool := (decide (s2 < (64 : Int)))
  bif v29 then
  let v30 : Int := (IntKind.i64.wrap (s2 - (15 : Int)))
  bif (decide (0 ≤ v30) && decide (v30 < (List.length s1))) then
  bif (decide ((Int.toNat v30) < List.length s1)) then
  let v31 : Int := (List.getD s1 (Int.toNat v30) (0 : Int))
  bif (P69 v31 (7 : Int)) then
  let v32 : Int := (F69 v31 (7 : Int))
  let v33 : Int := (IntKind.i64.wrap (s2 - (15 : Int)))
  bif (decide (0 ≤ v33) && decide (v33 < (List.length s1))) then
  bif (decide ((Int.toNat v33) < List.length s1)) then
  let v34 : Int := (List.getD s1 (Int.toNat v33) (0 : Int))
  bif (P69 v34 (18 : Int)) then
  let v35 : Int := (F69 v34 (18 : Int))
  let v36 : Int := (bits .xor .u32 v32 v35)
  let v37 : Int := (IntKind.i64.wrap (s2 - (15 : Int)))
  bif (decide (0 ≤ v37) && decide (v37 < (List.length s1))) then
  bif (decide ((Int.toNat v37) < List.length s1)) then
  let v38 : Int := (List.getD s1 (Int.toNat v37) (0 : Int))
  let v39 : Int := (Int.fdiv v38 (2 ^ min (Int.toNat (3 : Int)) (IntKind.u32.bits)))
  let v40 : Int := (bits .xor .u32 v36 v39)
  let v41 : Int := (IntKind.i64.wrap (s2 - (2 : Int)))
  bif (decide (0 ≤ v41) && decide (v41 < (List.length s1))) then
  bif (decide ((Int.toNat v41) < List.length s1)) then
  let v42 : Int := (List.getD s1 (Int.toNat v41) (0 : Int))
  bif (P69 v42 (17 : Int)) then
  let v43 : Int := (F69 v42 (17 : Int))
  let v44 : Int := (IntKind.i64.wrap (s2 - (2 : Int)))
  bif (decide (0 ≤ v44) && decide (v44 < (List.length s1))) then
  bif (decide ((Int.toNat v44) < List.length s1)) then
  let v45 : Int := (List.getD s1 (Int.toNat v44) (0 : Int))
  bif (P69 v45 (19 : Int)) then
  let v46 : Int := (F69 v45 (19 : Int))
  let v47 : Int := (bits .xor .u32 v43 v46)
  let v48 : Int := (IntKind.i64.wrap (s2 - (2 : Int)))
  bif (decide (0 ≤ v48) && decide (v48 < (List.length s1))) then
  bif (decide ((Int.toNat v48) < List.length s1)) then
  let v49 : Int := (List.getD s1 (Int.toNat v48) (0 : Int))
  let v50 : Int := (Int.fdiv v49 (2 ^ min (Int.toNat (10 : Int)) (IntKind.u32.bits)))
  let v51 : Int := (bits .xor .u32 v47 v50)
  let v52 : Int := (IntKind.i64.wrap (s2 - (16 : Int)))
  bif (decide (0 ≤ v52) && decide (v52 < (List.length s1))) then
  bif (decide ((Int.toNat v52) < List.length s1)) then
  let v53 : Int := (List.getD s1 (Int.toNat v52) (0 : Int))
  let v54 : Int := (IntKind.u32.wrap (v53 + v40))
  let v55 : Int := (IntKind.i64.wrap (s2 - (7 : Int)))
  bif (decide (0 ≤ v55) && decide (v55 < (List.length s1))) then
  bif (decide ((Int.toNat v55) < List.length s1)) then
  let v56 : Int := (List.getD s1 (Int.toNat v55) (0 : Int))
  let v57 : Int := (IntKind.u32.wrap (v54 + v56))
  let v58 : Int := (IntKind.u32.wrap (v57 + v51))
  let v59 : (List Int) := (List.set (List.replicate 1 (0 : Int)) 0 v58)
  bif (decide (List.length (List.take (List.length s1) s1) + List.length v59 ≤ 100000000000)) then
  let v60 : (List Int) := ((List.take (List.length s1) s1) ++ v59)
  let v61 : Int := (IntKind.i64.wrap (s2 + (1 : Int)))
  some (.inl (s0, v60, v61))
  else none
  else none
  else none
  else none
  else none
  else none
  else none
  else none
  else none
  else none
  else none
  else none
  else none
  else none
  else none
  else none
  else none
  else none
  else none
  else none
  else none
  else
  some (.inr (s0, s1, s2))
def L58_7 : (List Int) × (List Int) × Int → Option (((List Int) × (List Int) × Int)) := Lim (fun s => L58_7_r s.1 s.2.1 s.2.2)
def L58_7_sum : Sum := limSum L58_7_sh L58_7_pk (fun s => L58_7_r s.1 s.2.1 s.2.2) L58_7_leave
theorem L58_7_nat : Natural L58_7_sum := natural_lim fun x R K => by
  rfl
theorem L58_7_dok : ∀ e st x, e ≠ .normal → L58_7_d e st = some x → ∀ R (K : Cont R), K e st = L58_7_leave x R K := by
  intro e st x _ h R K
  unfold L58_7_d at h
  split at h
  · split at h
    · rename_i s hs; cases h; rw [unSt_some hs]; rfl
    · cases h
  · cases h
def L58_3_sh : Shape := [(.slot 0, .dat (.list (.int .u32))), (.slot 1, .dat (.list (.int .u8))), (.slot 5, .own 69 (.int .u32)), (.slot 6, .dat (.int .i64))]
def L58_3_x0 : Shape := [(.slot 0, .dat (.list (.int .u32))), (.slot 1, .dat (.list (.int .u8))), (.slot 5, .own 69 (.int .u32)), (.slot 6, .dat (.int .i64))]
def L58_3_pk (s : Tup L58_3_sh) : (List Int) × (List Int) × (List Int) × Int := (s.1, s.2.1, s.2.2.1, s.2.2.2.1)
def L58_3_un (s : (List Int) × (List Int) × (List Int) × Int) : Tup L58_3_sh := (s.1, (s.2.1, (s.2.2.1, (s.2.2.2, ()))))
def L58_3_leave (x : ((List Int) × (List Int) × (List Int) × Int)) (R : Type) (K : Cont R) : Option R := match x with
  | a => K (.exit 0) (mkSt L58_3_x0 (a.1, (a.2.1, (a.2.2.1, (a.2.2.2, ())))))
def L58_3_d (e : Exit) (st : St) : Option (((List Int) × (List Int) × (List Int) × Int)) := match e with
  | .exit 0 => (match unSt L58_3_x0 st with
    | some s => some (s.1, s.2.1, s.2.2.1, s.2.2.2.1)
    | none => none)
  | _ => none
def L58_3_r (s0 : (List Int)) (s1 : (List Int)) (s2 : (List Int)) (s3 : Int) : Option (((List Int) × (List Int) × (List Int) × Int) ⊕ (((List Int) × (List Int) × (List Int) × Int))) :=
  let v3 : Bool := (decide (s3 < (16 : Int)))
  bif v3 then
  let v4 : Int := (IntKind.i64.wrap ((4 : Int) * s3))
  bif (decide (0 ≤ v4) && decide (v4 < List.length s1)) then
  let v5 : Int := (List.getD s1 (Int.toNat v4) (0 : Int))
  let v6 : Int := (IntKind.u32.wrap v5)
  let v7 : Int := (IntKind.u32.wrap (v6 * 2 ^ min (Int.toNat (24 : Int)) (IntKind.u32.bits)))
  let v8 : Int := (IntKind.i64.wrap ((4 : Int) * s3))
  let v9 : Int := (IntKind.i64.wrap (v8 + (1 : Int)))
  bif (decide (0 ≤ v9) && decide (v9 < List.length s1)) then
  let v10 : Int := (List.getD s1 (Int.toNat v9) (0 : Int))
  let v11 : Int := (IntKind.u32.wrap v10)
  let v12 : Int := (IntKind.u32.wrap (v11 * 2 ^ min (Int.toNat (16 : Int)) (IntKind.u32.bits)))
  let v13 : Int := (bits .or .u32 v7 v12)
  let v14 : Int := (IntKind.i64.wrap ((4 : Int) * s3))
  let v15 : Int := (IntKind.i64.wrap (v14 + (2 : Int)))
  bif (decide (0 ≤ v15) && decide (v15 < List.length s1)) then
  let v16 : Int := (List.getD s1 (Int.toNat v15) (0 : Int))
  let v17 : Int := (IntKind.u32.wrap v16)
  let v18 : Int := (IntKind.u32.wrap (v17 * 2 ^ min (Int.toNat (8 : Int)) (IntKind.u32.bits)))
  let v19 : Int := (bits .or .u32 v13 v18)
  let v20 : Int := (IntKind.i64.wrap ((4 : Int) * s3))
  let v21 : Int := (IntKind.i64.wrap (v20 + (3 : Int)))
  bif (decide (0 ≤ v21) && decide (v21 < List.length s1)) then
  let v22 : Int := (List.getD s1 (Int.toNat v21) (0 : Int))
  let v23 : Int := (IntKind.u32.wrap v22)
  let v24 : Int := (bits .or .u32 v19 v23)
  let v25 : (List Int) := (List.set (List.replicate 1 (0 : Int)) 0 v24)
  bif (decide (List.length (List.take (List.length s2) s2) + List.length v25 ≤ 100000000000)) then
  let v26 : (List Int) := ((List.take (List.length s2) s2) ++ v25)
  let v27 : Int := (IntKind.i64.wrap (s3 + (1 : Int)))
  some (.inl (s0, s1, v26, v27))
  else none
  else none
  else none
  else none
  else none
  else
  some (.inr (s0, s1, s2, s3))
def L58_3 : (List Int) × (List Int) × (List Int) × Int → Option (((List Int) × (List Int) × (List Int) × Int)) := Lim (fun s => L58_3_r s.1 s.2.1 s.2.2.1 s.2.2.2)
def L58_3_sum : Sum := limSum L58_3_sh L58_3_pk (fun s => L58_3_r s.1 s.2.1 s.2.2.1 s.2.2.2) L58_3_leave
theorem L58_3_nat : Natural L58_3_sum := natural_lim fun x R K => by
  rfl
theorem L58_3_dok : ∀ e st x, e ≠ .normal → L58_3_d e st = some x → ∀ R (K : Cont R), K e st = L58_3_leave x R K := by
  intro e st x _ h R K
  unfold L58_3_d at h
  split at h
  · split at h
    · rename_i s hs; cases h; rw [unSt_some hs]; rfl
    · cases h
  · cases h
def loops58 : Nat → Option (Sum) := fun | 3 => some L58_3_sum | 7 => some L58_7_sum | 16 => some L58_16_sum | 25 => some L58_25_sum | _ => none
theorem loops58_nat : ∀ q f, loops58 q = some f → Natural f := by
  intro q f h
  unfold loops58 at h
  split at h
  · cases h; exact L58_3_nat
  · cases h; exact L58_7_nat
  · cases h; exact L58_16_nat
  · cases h; exact L58_25_nat
  · cases h
noncomputable def L58_3_code : Code := (loopsOf body58).getD 0 .skip
theorem L58_3_round (s0 : (List Int)) (s1 : (List Int)) (s2 : (List Int)) (s3 : Int) : ev2 env58 orc58 loops58 L58_3_code (mkSt L58_3_sh (s0, (s1, (s2, (s3, ()))))) (back L58_3_sh L58_3_pk L58_3_d) = L58_3_r s0 s1 s2 s3 := by kernel_rfl
theorem L58_3_ok : SumOk env58 orc58 loops58 L58_3_code L58_3_sum := sumOk_lim (un := L58_3_un) loops58_nat (fun _ => rfl) L58_3_dok fun s => L58_3_round s.1 s.2.1 s.2.2.1 s.2.2.2
noncomputable def L58_7_code : Code := (loopsOf body58).getD 1 .skip
theorem L58_7_round (s0 : (List Int)) (s1 : (List Int)) (s2 : Int) : ev2 env58 orc58 loops58 L58_7_code (mkSt L58_7_sh (s0, (s1, (s2, ())))) (back L58_7_sh L58_7_pk L58_7_d) = L58_7_r s0 s1 s2 := by kernel_rfl
theorem L58_7_ok : SumOk env58 orc58 loops58 L58_7_code L58_7_sum := sumOk_lim (un := L58_7_un) loops58_nat (fun _ => rfl) L58_7_dok fun s => L58_7_round s.1 s.2.1 s.2.2
noncomputable def L58_16_code : Code := (loopsOf body58).getD 2 .skip
theorem L58_16_round (s0 : (List Int)) (s1 : (List Int)) (s2 : (List Int)) (s3 : (List Int)) (s4 : Int) : ev2 env58 orc58 loops58 L58_16_code (mkSt L58_16_sh (s0, (s1, (s2, (s3, (s4, ())))))) (back L58_16_sh L58_16_pk L58_16_d) = L58_16_r s0 s1 s2 s3 s4 := by kernel_rfl
theorem L58_16_ok : SumOk env58 orc58 loops58 L58_16_code L58_16_sum := sumOk_lim (un := L58_16_un) loops58_nat (fun _ => rfl) L58_16_dok fun s => L58_16_round s.1 s.2.1 s.2.2.1 s.2.2.2.1 s.2.2.2.2
noncomputable def L58_25_code : Code := (loopsOf body58).getD 3 .skip
theorem L58_25_round (s0 : (List Int)) (s1 : (List Int)) (s2 : (List Int)) (s3 : Int) : ev2 env58 orc58 loops58 L58_25_code (mkSt L58_25_sh (s0, (s1, (s2, (s3, ()))))) (back L58_25_sh L58_25_pk L58_25_d) = L58_25_r s0 s1 s2 s3 := by kernel_rfl
theorem L58_25_ok : SumOk env58 orc58 loops58 L58_25_code L58_25_sum := sumOk_lim (un := L58_25_un) loops58_nat (fun _ => rfl) L58_25_dok fun s => L58_25_round s.1 s.2.1 s.2.2.1 s.2.2.2
theorem loops58_all : loopsOf body58 = [L58_3_code, L58_7_code, L58_16_code, L58_25_code] := by kernel_rfl
theorem L58_3_key : lookL loops58 (keyOf L58_3_code) = some L58_3_sum := by kernel_rfl
theorem L58_7_key : lookL loops58 (keyOf L58_7_code) = some L58_7_sum := by kernel_rfl
theorem L58_16_key : lookL loops58 (keyOf L58_16_code) = some L58_16_sum := by kernel_rfl
theorem L58_25_key : lookL loops58 (keyOf L58_25_code) = some L58_25_sum := by kernel_rfl
theorem loops58_ok : LoopsOk env58 orc58 loops58 body58 := by
  intro c hc f hf
  rw [loops58_all] at hc
  simp only [List.mem_cons, List.not_mem_nil, or_false] at hc
  rcases hc with rfl | rfl | rfl | rfl
  · rw [L58_3_key] at hf; cases hf; exact L58_3_ok
  · rw [L58_7_key] at hf; cases hf; exact L58_7_ok
  · rw [L58_16_key] at hf; cases hf; exact L58_16_ok
  · rw [L58_25_key] at hf; cases hf; exact L58_25_ok
def G58 (x0 : (List Int)) (x1 : (List Int)) : Option ((List Int)) :=
  let v1 : (List Int) := ([] : (List Int))
  let v2 : (List Int) := ([] : (List Int))
  Option.bind (L58_3 (x0, x1, v2, (0 : Int))) fun (r28 : (List Int) × (List Int) × (List Int) × Int) =>
  Option.bind (L58_7 (r28.1, r28.2.2.1, (16 : Int))) fun (r62 : (List Int) × (List Int) × Int) =>
  bif (P70 ) then
  let v63 : (List Int) := ([] : (List Int))
  bif (decide (List.length (List.take (List.length v63) v63) + List.length r62.1 ≤ 100000000000)) then
  let v64 : (List Int) := ((List.take (List.length v63) v63) ++ r62.1)
  Option.bind (L58_16 (r62.1, r62.2.1, F70, v64, (0 : Int))) fun (r110 : (List Int) × (List Int) × (List Int) × (List Int) × Int) =>
  let v111 : (List Int) := ([] : (List Int))
  Option.bind (L58_25 (r110.1, r110.2.2.2.1, v111, (0 : Int))) fun (r119 : (List Int) × (List Int) × (List Int) × Int) =>
  let v120 : (List Int) := (List.take (List.length r119.2.2.1) r119.2.2.1)
  some (v120)
  else none
  else none
theorem ev58 (x0 : (List Int)) (x1 : (List Int)) : ev2 env58 orc58 loops58 body58 (initSt 0 [⟨(.list (.int .u32)), x0⟩, ⟨(.list (.int .u8)), x1⟩]) (retT [(4, .dat (.list (.int .u32)))] [(.list (.int .u32))] fun x => x.1) = G58 x0 x1 := by kernel_rfl
def P58 (x0 : (List Int)) (x1 : (List Int)) : Bool := (hold (G58 x0 x1)).isSome
def F58 (x0 : (List Int)) (x1 : (List Int)) : (List Int) := (hold (G58 x0 x1)).getD default
theorem G58_some (x0 : (List Int)) (x1 : (List Int)) (h : P58 x0 x1 = true) : G58 x0 x1 = some (F58 x0 x1) := by
  unfold P58 at h; unfold F58
  rw [hold_eq] at h ⊢
  exact some_getD h
theorem P58_of (x0 : (List Int)) (x1 : (List Int)) {r : (List Int)} (h : G58 x0 x1 = some r) : P58 x0 x1 = true := by unfold P58; rw [hold_eq, h]; rfl
theorem F58_of (x0 : (List Int)) (x1 : (List Int)) {r : (List Int)} (h : G58 x0 x1 = some r) : F58 x0 x1 = r := by unfold F58; rw [hold_eq, h]; rfl
def spec58 : Spec := ⟨[(.list (.int .u32)), (.list (.int .u8))], [.dat (.list (.int .u32))], fun | [a0, a1] => P58 (a0.as (.list (.int .u32))) (a1.as (.list (.int .u8))) | _ => false, fun | [a0, a1] => [⟨(.list (.int .u32)), (F58 (a0.as (.list (.int .u32))) (a1.as (.list (.int .u8))))⟩] | _ => []⟩
theorem meets58 (hE : EnvOk Tryd.prog env58) (hm : Tryd.prog.follows .mixedOrders = true) : Meets Tryd.prog glob 58 spec58 :=
  meets_of_ev2 (O := orc58) (L := loops58) (c := body58) (slots := [4]) hE hm Tryd.func58 Tryd.call58 (by kernel_rfl) (by kernel_rfl) loops58_ok (rangesOk_nil (by kernel_rfl)) (by kernel_rfl) rfl (by decide) (fun ds hds hpre => by
  obtain ⟨x0, ds0, rfl, h0⟩ := datsS hds
  obtain ⟨x1, ds1, rfl, h1⟩ := datsS h0
  have h9 := dats0 h1; subst h9
  exact ev_ret (un := fun r => [⟨(.list (.int .u32)), r⟩]) loops58_nat (fun _ => rfl) ((ev58 x0 x1).trans (G58_some x0 x1 hpre)))
def env33 : Env := {
  tab := tab
  glob := glob
  spec := fun
    | 57 => some spec57
    | 58 => some spec58
    | _ => none }

def orc33 : Orc := ⟨56, fun _ => none, fun
  | 0 => kp [0] []
  | 1 => kp [0, 3] []
  | 2 => kp [3, 4] []
  | 3 => [(.slot 3, .frz)] ++ kp [4, 5] []
  | 4 => kp [3, 4, 5, 14] []
  | 5 => kp [3, 4, 5] []
  | 6 => kp [3, 4, 5] []
  | 7 => kp [3, 6] []
  | 8 => kp [3, 6, 7] []
  | 9 => kp [3, 6, 7, 25] []
  | 10 => kp [3, 6, 7] []
  | 11 => kp [3, 6, 7] []
  | 12 => kp [2] []
  | _ => [], fun | _ => false⟩
noncomputable def body33 : Code := Tryd.f33.body.getD .skip
def L33_9_sh : Shape := [(.slot 3, .dat (.list (.int .u32))), (.slot 6, .own 5 (.int .u8)), (.slot 7, .dat (.int .i64))]
def L33_9_x0 : Shape := [(.slot 3, .dat (.list (.int .u32))), (.slot 6, .own 5 (.int .u8)), (.slot 7, .dat (.int .i64))]
def L33_9_pk (s : Tup L33_9_sh) : (List Int) × (List Int) × Int := (s.1, s.2.1, s.2.2.1)
def L33_9_un (s : (List Int) × (List Int) × Int) : Tup L33_9_sh := (s.1, (s.2.1, (s.2.2, ())))
def L33_9_leave (x : ((List Int) × (List Int) × Int)) (R : Type) (K : Cont R) : Option R := match x with
  | a => K (.exit 2) (mkSt L33_9_x0 (a.1, (a.2.1, (a.2.2, ()))))
def L33_9_d (e : Exit) (st : St) : Option (((List Int) × (List Int) × Int)) := match e with
  | .exit 2 => (match unSt L33_9_x0 st with
    | some s => some (s.1, s.2.1, s.2.2.1)
    | none => none)
  | _ => none
def L33_9_r (s0 : (List Int)) (s1 : (List Int)) (s2 : Int) : Option (((List Int) × (List Int) × Int) ⊕ (((List Int) × (List Int) × Int))) :=
  let v11 : Bool := (decide (s2 < (8 : Int)))
  bif v11 then
  bif (decide (0 ≤ s2) && decide (s2 < List.length s0)) then
  let v12 : Int := (List.getD s0 (Int.toNat s2) (0 : Int))
  let v13 : Int := (Int.fdiv v12 (2 ^ min (Int.toNat (24 : Int)) (IntKind.u32.bits)))
  let v14 : Int := (IntKind.u8.wrap v13)
  bif (decide (0 ≤ s2) && decide (s2 < List.length s0)) then
  let v15 : Int := (List.getD s0 (Int.toNat s2) (0 : Int))
  let v16 : Int := (Int.fdiv v15 (2 ^ min (Int.toNat (16 : Int)) (IntKind.u32.bits)))
  let v17 : Int := (IntKind.u8.wrap v16)
  bif (decide (0 ≤ s2) && decide (s2 < List.length s0)) then
  let v18 : Int := (List.getD s0 (Int.toNat s2) (0 : Int))
  let v19 : Int := (Int.fdiv v18 (2 ^ min (Int.toNat (8 : Int)) (IntKind.u32.bits)))
  let v20 : Int := (IntKind.u8.wrap v19)
  bif (decide (0 ≤ s2) && decide (s2 < List.length s0)) then
  let v21 : Int := (List.getD s0 (Int.toNat s2) (0 : Int))
  let v22 : Int := (IntKind.u8.wrap v21)
  let v23 : (List Int) := (List.set (List.set (List.set (List.set (List.replicate 4 (0 : Int)) 0 v14) 1 v17) 2 v20) 3 v22)
  bif (decide (List.length (List.take (List.length s1) s1) + List.length v23 ≤ 100000000000)) then
  let v24 : (List Int) := ((List.take (List.length s1) s1) ++ v23)
  let v25 : Int := (IntKind.i64.wrap (s2 + (1 : Int)))
  some (.inl (s0, v24, v25))
  else none
  else none
  else none
  else none
  else none
  else
  some (.inr (s0, s1, s2))
def L33_9 : (List Int) × (List Int) × Int → Option (((List Int) × (List Int) × Int)) := Lim (fun s => L33_9_r s.1 s.2.1 s.2.2)
def L33_9_sum : Sum := limSum L33_9_sh L33_9_pk (fun s => L33_9_r s.1 s.2.1 s.2.2) L33_9_leave
theorem L33_9_nat : Natural L33_9_sum := natural_lim fun x R K => by
  rfl
theorem L33_9_dok : ∀ e st x, e ≠ .normal → L33_9_d e st = some x → ∀ R (K : Cont R), K e st = L33_9_leave x R K := by
  intro e st x _ h R K
  unfold L33_9_d at h
  split at h
  · split at h
    · rename_i s hs; cases h; rw [unSt_some hs]; rfl
    · cases h
  · cases h
def L33_4_sh : Shape := [(.slot 3, .dat (.list (.int .u32))), (.slot 4, .dat (.list (.int .u8))), (.slot 5, .dat (.int .i64))]
def L33_4_x0 : Shape := [(.slot 3, .dat (.list (.int .u32))), (.slot 4, .dat (.list (.int .u8))), (.slot 5, .dat (.int .i64))]
def L33_4_pk (s : Tup L33_4_sh) : (List Int) × (List Int) × Int := (s.1, s.2.1, s.2.2.1)
def L33_4_un (s : (List Int) × (List Int) × Int) : Tup L33_4_sh := (s.1, (s.2.1, (s.2.2, ())))
def L33_4_leave (x : ((List Int) × (List Int) × Int)) (R : Type) (K : Cont R) : Option R := match x with
  | a => K (.exit 0) (mkSt L33_4_x0 (a.1, (a.2.1, (a.2.2, ()))))
def L33_4_d (e : Exit) (st : St) : Option (((List Int) × (List Int) × Int)) := match e with
  | .exit 0 => (match unSt L33_4_x0 st with
    | some s => some (s.1, s.2.1, s.2.2.1)
    | none => none)
  | _ => none
def L33_4_r (s0 : (List Int)) (s1 : (List Int)) (s2 : Int) : Option (((List Int) × (List Int) × Int) ⊕ (((List Int) × (List Int) × Int))) :=
  let v3 : Int := ((List.length s1 : Nat) : Int)
  let v4 : Bool := (decide (s2 < v3))
  bif v4 then
  let v5 : Int := (IntKind.i64.wrap (s2 + (64 : Int)))
  bif (sliceTest s2 v5 (List.length s1)) then
  let v6 : (List Int) := (cut s1 s2 v5)
  bif (P58 s0 v6) then
  let v7 : (List Int) := (F58 s0 v6)
  let v8 : Int := (IntKind.i64.wrap (s2 + (64 : Int)))
  some (.inl (v7, s1, v8))
  else none
  else none
  else
  some (.inr (s0, s1, s2))
def L33_4 : (List Int) × (List Int) × Int → Option (((List Int) × (List Int) × Int)) := Lim (fun s => L33_4_r s.1 s.2.1 s.2.2)
def L33_4_sum : Sum := limSum L33_4_sh L33_4_pk (fun s => L33_4_r s.1 s.2.1 s.2.2) L33_4_leave
theorem L33_4_nat : Natural L33_4_sum := natural_lim fun x R K => by
  rfl
theorem L33_4_dok : ∀ e st x, e ≠ .normal → L33_4_d e st = some x → ∀ R (K : Cont R), K e st = L33_4_leave x R K := by
  intro e st x _ h R K
  unfold L33_4_d at h
  split at h
  · split at h
    · rename_i s hs; cases h; rw [unSt_some hs]; rfl
    · cases h
  · cases h
def loops33 : Nat → Option (Sum) := fun | 4 => some L33_4_sum | 9 => some L33_9_sum | _ => none
theorem loops33_nat : ∀ q f, loops33 q = some f → Natural f := by
  intro q f h
  unfold loops33 at h
  split at h
  · cases h; exact L33_4_nat
  · cases h; exact L33_9_nat
  · cases h
noncomputable def L33_4_code : Code := (loopsOf body33).getD 0 .skip
theorem L33_4_round (s0 : (List Int)) (s1 : (List Int)) (s2 : Int) : ev2 env33 orc33 loops33 L33_4_code (mkSt L33_4_sh (s0, (s1, (s2, ())))) (back L33_4_sh L33_4_pk L33_4_d) = L33_4_r s0 s1 s2 := by kernel_rfl
theorem L33_4_ok : SumOk env33 orc33 loops33 L33_4_code L33_4_sum := sumOk_lim (un := L33_4_un) loops33_nat (fun _ => rfl) L33_4_dok fun s => L33_4_round s.1 s.2.1 s.2.2
noncomputable def L33_9_code : Code := (loopsOf body33).getD 1 .skip
theorem L33_9_round (s0 : (List Int)) (s1 : (List Int)) (s2 : Int) : ev2 env33 orc33 loops33 L33_9_code (mkSt L33_9_sh (s0, (s1, (s2, ())))) (back L33_9_sh L33_9_pk L33_9_d) = L33_9_r s0 s1 s2 := by kernel_rfl
theorem L33_9_ok : SumOk env33 orc33 loops33 L33_9_code L33_9_sum := sumOk_lim (un := L33_9_un) loops33_nat (fun _ => rfl) L33_9_dok fun s => L33_9_round s.1 s.2.1 s.2.2
theorem loops33_all : loopsOf body33 = [L33_4_code, L33_9_code] := by kernel_rfl
theorem L33_4_key : lookL loops33 (keyOf L33_4_code) = some L33_4_sum := by kernel_rfl
theorem L33_9_key : lookL loops33 (keyOf L33_9_code) = some L33_9_sum := by kernel_rfl
theorem loops33_ok : LoopsOk env33 orc33 loops33 body33 := by
  intro c hc f hf
  rw [loops33_all] at hc
  simp only [List.mem_cons, List.not_mem_nil, or_false] at hc
  rcases hc with rfl | rfl
  · rw [L33_4_key] at hf; cases hf; exact L33_4_ok
  · rw [L33_9_key] at hf; cases hf; exact L33_9_ok
def G33 (x0 : (List UInt8)) : Option ((List UInt8)) :=
  let v1 : (List Int) := (List.set (List.set (List.set (List.set (List.set (List.set (List.set (List.set (List.replicate 8 (0 : Int)) 0 (1779033703 : Int)) 1 (3144134277 : Int)) 2 (1013904242 : Int)) 3 (2773480762 : Int)) 4 (1359893119 : Int)) 5 (2600822924 : Int)) 6 (528734635 : Int)) 7 (1541459225 : Int))
  bif (P57 x0) then
  let v2 : (List Int) := (F57 x0)
  Option.bind (L33_4 (v1, v2, (0 : Int))) fun (r9 : (List Int) × (List Int) × Int) =>
  let v10 : (List Int) := ([] : (List Int))
  Option.bind (L33_9 (r9.1, v10, (0 : Int))) fun (r26 : (List Int) × (List Int) × Int) =>
  let v27 : (List UInt8) := (List.map (fun (n : Int) => UInt8.ofNat n.toNat) (List.take (List.length r26.2.1) r26.2.1))
  some (v27)
  else none
theorem ev33 (x0 : (List UInt8)) : ev2 env33 orc33 loops33 body33 (initSt 0 [⟨.str, x0⟩]) (retT [(2, .dat .str)] [.str] fun x => x.1) = G33 x0 := by kernel_rfl
def P33 (x0 : (List UInt8)) : Bool := (hold (G33 x0)).isSome
def F33 (x0 : (List UInt8)) : (List UInt8) := (hold (G33 x0)).getD default
theorem G33_some (x0 : (List UInt8)) (h : P33 x0 = true) : G33 x0 = some (F33 x0) := by
  unfold P33 at h; unfold F33
  rw [hold_eq] at h ⊢
  exact some_getD h
theorem P33_of (x0 : (List UInt8)) {r : (List UInt8)} (h : G33 x0 = some r) : P33 x0 = true := by unfold P33; rw [hold_eq, h]; rfl
theorem F33_of (x0 : (List UInt8)) {r : (List UInt8)} (h : G33 x0 = some r) : F33 x0 = r := by unfold F33; rw [hold_eq, h]; rfl
def spec33 : Spec := ⟨[.str], [.dat .str], fun | [a0] => P33 (a0.as .str) | _ => false, fun | [a0] => [⟨.str, (F33 (a0.as .str))⟩] | _ => []⟩
theorem meets33 (hE : EnvOk Tryd.prog env33) (hm : Tryd.prog.follows .mixedOrders = true) : Meets Tryd.prog glob 33 spec33 :=
  meets_of_ev2 (O := orc33) (L := loops33) (c := body33) (slots := [2]) hE hm Tryd.func33 Tryd.call33 (by kernel_rfl) (by kernel_rfl) loops33_ok (rangesOk_nil (by kernel_rfl)) (by kernel_rfl) rfl (by decide) (fun ds hds hpre => by
  obtain ⟨x0, ds0, rfl, h0⟩ := datsS hds
  have h9 := dats0 h0; subst h9
  exact ev_ret (un := fun r => [⟨.str, r⟩]) loops33_nat (fun _ => rfl) ((ev33 x0).trans (G33_some x0 hpre)))
def env34 : Env := {
  tab := tab
  glob := glob
  spec := fun
    | 33 => some spec33
    | _ => none }

def orc34 : Orc := ⟨6, fun _ => none, fun
  | 0 => kp [0] []
  | 1 => kp [2] []
  | _ => [], fun | _ => false⟩
noncomputable def body34 : Code := Tryd.f34.body.getD .skip
def loops34 : Nat → Option (Sum) := fun | _ => none
theorem loops34_nat : ∀ q f, loops34 q = some f → Natural f := by
  intro q f h
  cases h
theorem loops34_ok : LoopsOk env34 orc34 loops34 body34 := loopsOk_nil (by kernel_rfl)
def G34 (x0 : (List UInt8)) : Option ((List UInt8)) :=
  bif (decide (List.length ([0] : List UInt8) + List.length x0 ≤ 9223372036854775807)) then
  let v1 : (List UInt8) := (([0] : List UInt8) ++ x0)
  bif (P33 v1) then
  let v2 : (List UInt8) := (F33 v1)
  some (v2)
  else none
  else none
theorem ev34 (x0 : (List UInt8)) : ev2 env34 orc34 loops34 body34 (initSt 0 [⟨.str, x0⟩]) (retT [(2, .dat .str)] [.str] fun x => x.1) = G34 x0 := by kernel_rfl
def P34 (x0 : (List UInt8)) : Bool := (hold (G34 x0)).isSome
def F34 (x0 : (List UInt8)) : (List UInt8) := (hold (G34 x0)).getD default
theorem G34_some (x0 : (List UInt8)) (h : P34 x0 = true) : G34 x0 = some (F34 x0) := by
  unfold P34 at h; unfold F34
  rw [hold_eq] at h ⊢
  exact some_getD h
theorem P34_of (x0 : (List UInt8)) {r : (List UInt8)} (h : G34 x0 = some r) : P34 x0 = true := by unfold P34; rw [hold_eq, h]; rfl
theorem F34_of (x0 : (List UInt8)) {r : (List UInt8)} (h : G34 x0 = some r) : F34 x0 = r := by unfold F34; rw [hold_eq, h]; rfl
def spec34 : Spec := ⟨[.str], [.dat .str], fun | [a0] => P34 (a0.as .str) | _ => false, fun | [a0] => [⟨.str, (F34 (a0.as .str))⟩] | _ => []⟩
theorem meets34 (hE : EnvOk Tryd.prog env34) (hm : Tryd.prog.follows .mixedOrders = true) : Meets Tryd.prog glob 34 spec34 :=
  meets_of_ev2 (O := orc34) (L := loops34) (c := body34) (slots := [2]) hE hm Tryd.func34 Tryd.call34 (by kernel_rfl) (by kernel_rfl) loops34_ok (rangesOk_nil (by kernel_rfl)) (by kernel_rfl) rfl (by decide) (fun ds hds hpre => by
  obtain ⟨x0, ds0, rfl, h0⟩ := datsS hds
  have h9 := dats0 h0; subst h9
  exact ev_ret (un := fun r => [⟨.str, r⟩]) loops34_nat (fun _ => rfl) ((ev34 x0).trans (G34_some x0 hpre)))
def env35 : Env := {
  tab := tab
  glob := glob
  spec := fun
    | 33 => some spec33
    | _ => none }

def orc35 : Orc := ⟨10, fun _ => none, fun
  | 0 => kp [0, 1] []
  | 1 => kp [4] []
  | _ => [], fun | _ => false⟩
noncomputable def body35 : Code := Tryd.f35.body.getD .skip
def loops35 : Nat → Option (Sum) := fun | _ => none
theorem loops35_nat : ∀ q f, loops35 q = some f → Natural f := by
  intro q f h
  cases h
theorem loops35_ok : LoopsOk env35 orc35 loops35 body35 := loopsOk_nil (by kernel_rfl)
def G35 (x0 : (List UInt8)) (x1 : (List UInt8)) : Option ((List UInt8)) :=
  bif (decide (List.length ([1] : List UInt8) + List.length x0 ≤ 9223372036854775807)) then
  let v1 : (List UInt8) := (([1] : List UInt8) ++ x0)
  bif (decide (List.length v1 + List.length x1 ≤ 9223372036854775807)) then
  let v2 : (List UInt8) := (v1 ++ x1)
  bif (P33 v2) then
  let v3 : (List UInt8) := (F33 v2)
  some (v3)
  else none
  else none
  else none
theorem ev35 (x0 : (List UInt8)) (x1 : (List UInt8)) : ev2 env35 orc35 loops35 body35 (initSt 0 [⟨.str, x0⟩, ⟨.str, x1⟩]) (retT [(4, .dat .str)] [.str] fun x => x.1) = G35 x0 x1 := by kernel_rfl
def P35 (x0 : (List UInt8)) (x1 : (List UInt8)) : Bool := (hold (G35 x0 x1)).isSome
def F35 (x0 : (List UInt8)) (x1 : (List UInt8)) : (List UInt8) := (hold (G35 x0 x1)).getD default
theorem G35_some (x0 : (List UInt8)) (x1 : (List UInt8)) (h : P35 x0 x1 = true) : G35 x0 x1 = some (F35 x0 x1) := by
  unfold P35 at h; unfold F35
  rw [hold_eq] at h ⊢
  exact some_getD h
theorem P35_of (x0 : (List UInt8)) (x1 : (List UInt8)) {r : (List UInt8)} (h : G35 x0 x1 = some r) : P35 x0 x1 = true := by unfold P35; rw [hold_eq, h]; rfl
theorem F35_of (x0 : (List UInt8)) (x1 : (List UInt8)) {r : (List UInt8)} (h : G35 x0 x1 = some r) : F35 x0 x1 = r := by unfold F35; rw [hold_eq, h]; rfl
def spec35 : Spec := ⟨[.str, .str], [.dat .str], fun | [a0, a1] => P35 (a0.as .str) (a1.as .str) | _ => false, fun | [a0, a1] => [⟨.str, (F35 (a0.as .str) (a1.as .str))⟩] | _ => []⟩
theorem meets35 (hE : EnvOk Tryd.prog env35) (hm : Tryd.prog.follows .mixedOrders = true) : Meets Tryd.prog glob 35 spec35 :=
  meets_of_ev2 (O := orc35) (L := loops35) (c := body35) (slots := [4]) hE hm Tryd.func35 Tryd.call35 (by kernel_rfl) (by kernel_rfl) loops35_ok (rangesOk_nil (by kernel_rfl)) (by kernel_rfl) rfl (by decide) (fun ds hds hpre => by
  obtain ⟨x0, ds0, rfl, h0⟩ := datsS hds
  obtain ⟨x1, ds1, rfl, h1⟩ := datsS h0
  have h9 := dats0 h1; subst h9
  exact ev_ret (un := fun r => [⟨.str, r⟩]) loops35_nat (fun _ => rfl) ((ev35 x0 x1).trans (G35_some x0 x1 hpre)))
def specs20 (PR : (List (List UInt8)) → Bool) (FR : (List (List UInt8)) → (List UInt8)) : Spec := ⟨[(.list .str)], [.dat .str], fun | [a0] => PR (a0.as (.list .str)) | _ => false, fun | [a0] => [⟨.str, (FR (a0.as (.list .str)))⟩] | _ => []⟩
def envs20 (PR : (List (List UInt8)) → Bool) (FR : (List (List UInt8)) → (List UInt8)) : Env := {
  tab := tab
  glob := glob
  spec := fun
    | 20 => some (specs20 PR FR)
    | 33 => some spec33
    | 34 => some spec34
    | 35 => some spec35
    | 42 => some spec42
    | _ => none }

def orc20 : Orc := ⟨27, fun _ => none, fun
  | 0 => kp [0] []
  | 1 => kp [0, 6] []
  | 2 => kp [2] []
  | 3 => kp [0, 10] []
  | 4 => kp [2] []
  | 5 => kp [0, 3] []
  | 6 => kp [2] []
  | _ => [], fun | _ => false⟩
noncomputable def body20 : Code := Tryd.f20.body.getD .skip
def loops20 : Nat → Option (Sum) := fun | _ => none
theorem loops20_nat : ∀ q f, loops20 q = some f → Natural f := by
  intro q f h
  cases h
theorem loops20_ok (PR : (List (List UInt8)) → Bool) (FR : (List (List UInt8)) → (List UInt8)) : LoopsOk (envs20 PR FR) orc20 loops20 body20 := loopsOk_nil (by kernel_rfl)
def Gs20 (PR : (List (List UInt8)) → Bool) (FR : (List (List UInt8)) → (List UInt8)) (x0 : (List (List UInt8))) : Option ((List UInt8)) :=
  let v1 : Int := ((List.length x0 : Nat) : Int)
  let v2 : Bool := (v1 == (0 : Int))
  bif v2 then
  bif (P33 ([] : List UInt8)) then
  let v3 : (List UInt8) := (F33 ([] : List UInt8))
  some (v3)
  else none
  else
  let v4 : Int := ((List.length x0 : Nat) : Int)
  let v5 : Bool := (v4 == (1 : Int))
  bif v5 then
  bif (decide (0 ≤ (0 : Int)) && decide ((0 : Int) < List.length x0)) then
  let v6 : (List UInt8) := (List.getD x0 (Int.toNat (0 : Int)) ([] : List UInt8))
  bif (P34 v6) then
  let v7 : (List UInt8) := (F34 v6)
  some (v7)
  else none
  else none
  else
  let v8 : Int := ((List.length x0 : Nat) : Int)
  bif (P42 v8) then
  let v9 : Int := (F42 v8)
  bif (sliceTest (0 : Int) v9 (List.length x0)) then
  let v10 : (List (List UInt8)) := (cut x0 (0 : Int) v9)
  bif (PR v10) then
  let v11 : (List UInt8) := (FR v10)
  bif (sliceTest v9 ((List.length x0 : Nat) : Int) (List.length x0)) then
  let v12 : (List (List UInt8)) := (cut x0 v9 ((List.length x0 : Nat) : Int))
  bif (PR v12) then
  let v13 : (List UInt8) := (FR v12)
  bif (P35 v11 v13) then
  let v14 : (List UInt8) := (F35 v11 v13)
  some (v14)
  else none
  else none
  else none
  else none
  else none
  else none
theorem ev20 (PR : (List (List UInt8)) → Bool) (FR : (List (List UInt8)) → (List UInt8)) (x0 : (List (List UInt8))) : ev2 (envs20 PR FR) orc20 loops20 body20 (initSt 0 [⟨(.list .str), x0⟩]) (retT [(2, .dat .str)] [.str] fun x => x.1) = Gs20 PR FR x0 := by kernel_rfl
def Gn20 : Nat → (List (List UInt8)) → Option (List UInt8)
  | 0, _ => none
  | n + 1, x0 => Gs20 (fun x0 => (Gn20 n x0).isSome) (fun x0 => (Gn20 n x0).getD default) x0
def G20 (x0 : (List (List UInt8))) : Option ((List UInt8)) := Gn20 recDepth x0
def P20 (x0 : (List (List UInt8))) : Bool := (hold (G20 x0)).isSome
def F20 (x0 : (List (List UInt8))) : (List UInt8) := (hold (G20 x0)).getD default
theorem P20_of (x0 : (List (List UInt8))) {r : (List UInt8)} (h : G20 x0 = some r) : P20 x0 = true := by unfold P20; rw [hold_eq, h]; rfl
theorem F20_of (x0 : (List (List UInt8))) {r : (List UInt8)} (h : G20 x0 = some r) : F20 x0 = r := by unfold F20; rw [hold_eq, h]; rfl
def spec20 : Spec := ⟨[(.list .str)], [.dat .str], fun | [a0] => P20 (a0.as (.list .str)) | _ => false, fun | [a0] => [⟨.str, (F20 (a0.as (.list .str)))⟩] | _ => []⟩
theorem meetsn20 (hE : ∀ (PR : (List (List UInt8)) → Bool) (FR : (List (List UInt8)) → (List UInt8)), Meets Tryd.prog glob 20 (specs20 PR FR) → EnvOk Tryd.prog (envs20 PR FR)) (hm : Tryd.prog.follows .mixedOrders = true) : ∀ n, Meets Tryd.prog glob 20 (specs20 (fun x0 => (Gn20 n x0).isSome) (fun x0 => (Gn20 n x0).getD default))
  | 0 => ⟨Tryd.call20, fun w Pr ds args _ _ hds _ hpre => by
    obtain ⟨x0, ds0, rfl, h0⟩ := datsS hds
    have h9 := dats0 h0; subst h9
    cases (show false = true from hpre)⟩
  | n + 1 => meets_of_ev2 (E := envs20 (fun x0 => (Gn20 n x0).isSome) (fun x0 => (Gn20 n x0).getD default)) (O := orc20) (L := loops20) (c := body20) (slots := [2]) (hE _ _ (meetsn20 hE hm n)) hm Tryd.func20 Tryd.call20 (by kernel_rfl) (by kernel_rfl) (loops20_ok _ _) (rangesOk_nil (by kernel_rfl)) (by kernel_rfl) rfl (show 1 ≤ Tryd.f20.ntmps by decide) (fun ds hds hpre => by
    obtain ⟨x0, ds0, rfl, h0⟩ := datsS hds
    have h9 := dats0 h0; subst h9
    exact ev_ret (un := fun r => [⟨.str, r⟩]) loops20_nat (fun _ => rfl) ((ev20 _ _ x0).trans (some_getD (o := Gn20 (n + 1) x0) hpre)))
def specs15 (PR : (List (List UInt8)) → Int → Bool) (FR : (List (List UInt8)) → Int → (List (List UInt8)) × Int) : Spec := ⟨[(.list .str), (.int .i64)], [.own 9 .str, .dat (.int .i64)], fun | [a0, a1] => PR (a0.as (.list .str)) (a1.as (.int .i64)) | _ => false, fun | [a0, a1] => [⟨(.list .str), (FR (a0.as (.list .str)) (a1.as (.int .i64))).1⟩, ⟨(.int .i64), (FR (a0.as (.list .str)) (a1.as (.int .i64))).2⟩] | _ => []⟩
def envs15 (PR : (List (List UInt8)) → Int → Bool) (FR : (List (List UInt8)) → Int → (List (List UInt8)) × Int) : Env := {
  tab := tab
  glob := glob
  spec := fun
    | 15 => some (specs15 PR FR)
    | 20 => some spec20
    | 42 => some spec42
    | _ => none }

def orc15 : Orc := ⟨60, fun _ => none, fun
  | 0 => kp [0, 1] []
  | 1 => kp [0, 1, 18] []
  | 2 => kp [4, 5] []
  | 3 => kp [0, 1, 21] []
  | 4 => kp [4, 5] []
  | 5 => kp [0, 1, 6] []
  | 6 => kp [0, 1, 6, 27] []
  | 7 => kp [0, 6, 7] []
  | 8 => kp [4, 5] []
  | 9 => kp [0, 6, 9] []
  | 10 => kp [4, 5] []
  | _ => [], fun | _ => false⟩
noncomputable def body15 : Code := Tryd.f15.body.getD .skip
def loops15 : Nat → Option (Sum) := fun | _ => none
theorem loops15_nat : ∀ q f, loops15 q = some f → Natural f := by
  intro q f h
  cases h
theorem loops15_ok (PR : (List (List UInt8)) → Int → Bool) (FR : (List (List UInt8)) → Int → (List (List UInt8)) × Int) : LoopsOk (envs15 PR FR) orc15 loops15 body15 := loopsOk_nil (by kernel_rfl)
def Gs15 (PR : (List (List UInt8)) → Int → Bool) (FR : (List (List UInt8)) → Int → (List (List UInt8)) × Int) (x0 : (List (List UInt8))) (x1 : Int) : Option ((List (List UInt8)) × Int) :=
  let v1 : (List (List UInt8)) := ([] : (List (List UInt8)))
  let v2 : Bool := (decide (x1 < (0 : Int)))
  let v3 : Int := ((List.length x0 : Nat) : Int)
  let v4 : Bool := (decide (x1 ≥ v3))
  let v5 : Bool := (bif v2 then true else v4)
  bif v5 then
  let v6 : (List (List UInt8)) := ([] : (List (List UInt8)))
  some (v6, (2 : Int))
  else
  let v7 : Int := ((List.length x0 : Nat) : Int)
  let v8 : Bool := (v7 == (1 : Int))
  bif v8 then
  let v9 : (List (List UInt8)) := ([] : (List (List UInt8)))
  some (v9, (0 : Int))
  else
  let v10 : Int := ((List.length x0 : Nat) : Int)
  bif (P42 v10) then
  let v11 : Int := (F42 v10)
  let v12 : Bool := (decide (x1 < v11))
  bif v12 then
  bif (sliceTest (0 : Int) v11 (List.length x0)) then
  let v13 : (List (List UInt8)) := (cut x0 (0 : Int) v11)
  bif (PR v13 x1) then
  let v14 : ((List (List UInt8)) × Int) := (FR v13 x1)
  bif (sliceTest v11 ((List.length x0 : Nat) : Int) (List.length x0)) then
  let v15 : (List (List UInt8)) := (cut x0 v11 ((List.length x0 : Nat) : Int))
  bif (P20 v15) then
  let v16 : (List UInt8) := (F20 v15)
  let v17 : (List (List UInt8)) := (List.set (List.replicate 1 ([] : List UInt8)) 0 v16)
  bif (decide (List.length (List.take (List.length v14.1) v14.1) + List.length v17 ≤ 100000000000)) then
  let v18 : (List (List UInt8)) := ((List.take (List.length v14.1) v14.1) ++ v17)
  some (v18, (0 : Int))
  else none
  else none
  else none
  else none
  else none
  else
  bif (sliceTest v11 ((List.length x0 : Nat) : Int) (List.length x0)) then
  let v19 : (List (List UInt8)) := (cut x0 v11 ((List.length x0 : Nat) : Int))
  let v20 : Int := (IntKind.i64.wrap (x1 - v11))
  bif (PR v19 v20) then
  let v21 : ((List (List UInt8)) × Int) := (FR v19 v20)
  bif (sliceTest (0 : Int) v11 (List.length x0)) then
  let v22 : (List (List UInt8)) := (cut x0 (0 : Int) v11)
  bif (P20 v22) then
  let v23 : (List UInt8) := (F20 v22)
  let v24 : (List (List UInt8)) := (List.set (List.replicate 1 ([] : List UInt8)) 0 v23)
  bif (decide (List.length (List.take (List.length v21.1) v21.1) + List.length v24 ≤ 100000000000)) then
  let v25 : (List (List UInt8)) := ((List.take (List.length v21.1) v21.1) ++ v24)
  some (v25, (0 : Int))
  else none
  else none
  else none
  else none
  else none
  else none
theorem ev15 (PR : (List (List UInt8)) → Int → Bool) (FR : (List (List UInt8)) → Int → (List (List UInt8)) × Int) (x0 : (List (List UInt8))) (x1 : Int) : ev2 (envs15 PR FR) orc15 loops15 body15 (initSt 0 [⟨(.list .str), x0⟩, ⟨(.int .i64), x1⟩]) (retT [(4, .own 9 .str), (5, .dat (.int .i64))] [(.list .str), (.int .i64)] fun x => (x.1, x.2.1)) = Gs15 PR FR x0 x1 := by kernel_rfl
def Gn15 : Nat → (List (List UInt8)) → Int → Option ((List (List UInt8)) × Int)
  | 0, _, _ => none
  | n + 1, x0, x1 => Gs15 (fun x0 x1 => (Gn15 n x0 x1).isSome) (fun x0 x1 => (Gn15 n x0 x1).getD default) x0 x1
def G15 (x0 : (List (List UInt8))) (x1 : Int) : Option ((List (List UInt8)) × Int) := Gn15 recDepth x0 x1
def P15 (x0 : (List (List UInt8))) (x1 : Int) : Bool := (hold (G15 x0 x1)).isSome
def F15 (x0 : (List (List UInt8))) (x1 : Int) : (List (List UInt8)) × Int := (hold (G15 x0 x1)).getD default
theorem P15_of (x0 : (List (List UInt8))) (x1 : Int) {r : (List (List UInt8)) × Int} (h : G15 x0 x1 = some r) : P15 x0 x1 = true := by unfold P15; rw [hold_eq, h]; rfl
theorem F15_of (x0 : (List (List UInt8))) (x1 : Int) {r : (List (List UInt8)) × Int} (h : G15 x0 x1 = some r) : F15 x0 x1 = r := by unfold F15; rw [hold_eq, h]; rfl
def spec15 : Spec := ⟨[(.list .str), (.int .i64)], [.own 9 .str, .dat (.int .i64)], fun | [a0, a1] => P15 (a0.as (.list .str)) (a1.as (.int .i64)) | _ => false, fun | [a0, a1] => [⟨(.list .str), (F15 (a0.as (.list .str)) (a1.as (.int .i64))).1⟩, ⟨(.int .i64), (F15 (a0.as (.list .str)) (a1.as (.int .i64))).2⟩] | _ => []⟩
theorem meetsn15 (hE : ∀ (PR : (List (List UInt8)) → Int → Bool) (FR : (List (List UInt8)) → Int → (List (List UInt8)) × Int), Meets Tryd.prog glob 15 (specs15 PR FR) → EnvOk Tryd.prog (envs15 PR FR)) (hm : Tryd.prog.follows .mixedOrders = true) : ∀ n, Meets Tryd.prog glob 15 (specs15 (fun x0 x1 => (Gn15 n x0 x1).isSome) (fun x0 x1 => (Gn15 n x0 x1).getD default))
  | 0 => ⟨Tryd.call15, fun w Pr ds args _ _ hds _ hpre => by
    obtain ⟨x0, ds0, rfl, h0⟩ := datsS hds
    obtain ⟨x1, ds1, rfl, h1⟩ := datsS h0
    have h9 := dats0 h1; subst h9
    cases (show false = true from hpre)⟩
  | n + 1 => meets_of_ev2 (E := envs15 (fun x0 x1 => (Gn15 n x0 x1).isSome) (fun x0 x1 => (Gn15 n x0 x1).getD default)) (O := orc15) (L := loops15) (c := body15) (slots := [4, 5]) (hE _ _ (meetsn15 hE hm n)) hm Tryd.func15 Tryd.call15 (by kernel_rfl) (by kernel_rfl) (loops15_ok _ _) (rangesOk_nil (by kernel_rfl)) (by kernel_rfl) rfl (show 2 ≤ Tryd.f15.ntmps by decide) (fun ds hds hpre => by
    obtain ⟨x0, ds0, rfl, h0⟩ := datsS hds
    obtain ⟨x1, ds1, rfl, h1⟩ := datsS h0
    have h9 := dats0 h1; subst h9
    exact ev_ret (un := fun r => [⟨(.list .str), r.1⟩, ⟨(.int .i64), r.2⟩]) loops15_nat (fun _ => rfl) ((ev15 _ _ x0 x1).trans (some_getD (o := Gn15 (n + 1) x0 x1) hpre)))
def specs43 (PR : (List (List UInt8)) → Int → Bool → Bool) (FR : (List (List UInt8)) → Int → Bool → (List (List UInt8))) : Spec := ⟨[(.list .str), (.int .i64), .bool], [.own 9 .str], fun | [a0, a1, a2] => PR (a0.as (.list .str)) (a1.as (.int .i64)) (a2.as .bool) | _ => false, fun | [a0, a1, a2] => [⟨(.list .str), (FR (a0.as (.list .str)) (a1.as (.int .i64)) (a2.as .bool))⟩] | _ => []⟩
def envs43 (PR : (List (List UInt8)) → Int → Bool → Bool) (FR : (List (List UInt8)) → Int → Bool → (List (List UInt8))) : Env := {
  tab := tab
  glob := glob
  spec := fun
    | 20 => some spec20
    | 42 => some spec42
    | 43 => some (specs43 PR FR)
    | _ => none }

def orc43 : Orc := ⟨47, fun _ => none, fun
  | 0 => kp [0, 1, 2] []
  | 1 => kp [0, 1, 2, 11] []
  | 2 => kp [0, 12] []
  | 3 => kp [6] []
  | 4 => kp [6] []
  | 5 => kp [0, 1, 2, 7] []
  | 6 => kp [0, 1, 2, 7, 21] []
  | 7 => kp [6] []
  | 8 => kp [6] []
  | _ => [], fun | _ => false⟩
noncomputable def body43 : Code := Tryd.f43.body.getD .skip
def loops43 : Nat → Option (Sum) := fun | _ => none
theorem loops43_nat : ∀ q f, loops43 q = some f → Natural f := by
  intro q f h
  cases h
theorem loops43_ok (PR : (List (List UInt8)) → Int → Bool → Bool) (FR : (List (List UInt8)) → Int → Bool → (List (List UInt8))) : LoopsOk (envs43 PR FR) orc43 loops43 body43 := loopsOk_nil (by kernel_rfl)
def Gs43 (PR : (List (List UInt8)) → Int → Bool → Bool) (FR : (List (List UInt8)) → Int → Bool → (List (List UInt8))) (x0 : (List (List UInt8))) (x1 : Int) (x2 : Bool) : Option ((List (List UInt8))) :=
  let v1 : (List (List UInt8)) := ([] : (List (List UInt8)))
  let v2 : Int := ((List.length x0 : Nat) : Int)
  let v3 : Bool := (x1 == v2)
  bif v3 then
  bif x2 then
  let v4 : (List (List UInt8)) := ([] : (List (List UInt8)))
  some (v4)
  else
  bif (P20 x0) then
  let v5 : (List UInt8) := (F20 x0)
  let v6 : (List (List UInt8)) := (List.set (List.replicate 1 ([] : List UInt8)) 0 v5)
  some (v6)
  else none
  else
  let v7 : Int := ((List.length x0 : Nat) : Int)
  bif (P42 v7) then
  let v8 : Int := (F42 v7)
  let v9 : Bool := (decide (x1 ≤ v8))
  bif v9 then
  bif (sliceTest (0 : Int) v8 (List.length x0)) then
  let v10 : (List (List UInt8)) := (cut x0 (0 : Int) v8)
  bif (PR v10 x1 x2) then
  let v11 : (List (List UInt8)) := (FR v10 x1 x2)
  bif (sliceTest v8 ((List.length x0 : Nat) : Int) (List.length x0)) then
  let v12 : (List (List UInt8)) := (cut x0 v8 ((List.length x0 : Nat) : Int))
  bif (P20 v12) then
  let v13 : (List UInt8) := (F20 v12)
  let v14 : (List (List UInt8)) := (List.set (List.replicate 1 ([] : List UInt8)) 0 v13)
  bif (decide (List.length (List.take (List.length v11) v11) + List.length v14 ≤ 100000000000)) then
  let v15 : (List (List UInt8)) := ((List.take (List.length v11) v11) ++ v14)
  some (v15)
  else none
  else none
  else none
  else none
  else none
  else
  bif (sliceTest v8 ((List.length x0 : Nat) : Int) (List.length x0)) then
  let v16 : (List (List UInt8)) := (cut x0 v8 ((List.length x0 : Nat) : Int))
  let v17 : Int := (IntKind.i64.wrap (x1 - v8))
  bif (PR v16 v17 false) then
  let v18 : (List (List UInt8)) := (FR v16 v17 false)
  bif (sliceTest (0 : Int) v8 (List.length x0)) then
  let v19 : (List (List UInt8)) := (cut x0 (0 : Int) v8)
  bif (P20 v19) then
  let v20 : (List UInt8) := (F20 v19)
  let v21 : (List (List UInt8)) := (List.set (List.replicate 1 ([] : List UInt8)) 0 v20)
  bif (decide (List.length (List.take (List.length v18) v18) + List.length v21 ≤ 100000000000)) then
  let v22 : (List (List UInt8)) := ((List.take (List.length v18) v18) ++ v21)
  some (v22)
  else none
  else none
  else none
  else none
  else none
  else none
theorem ev43 (PR : (List (List UInt8)) → Int → Bool → Bool) (FR : (List (List UInt8)) → Int → Bool → (List (List UInt8))) (x0 : (List (List UInt8))) (x1 : Int) (x2 : Bool) : ev2 (envs43 PR FR) orc43 loops43 body43 (initSt 0 [⟨(.list .str), x0⟩, ⟨(.int .i64), x1⟩, ⟨.bool, x2⟩]) (retT [(6, .own 9 .str)] [(.list .str)] fun x => x.1) = Gs43 PR FR x0 x1 x2 := by kernel_rfl
def Gn43 : Nat → (List (List UInt8)) → Int → Bool → Option (List (List UInt8))
  | 0, _, _, _ => none
  | n + 1, x0, x1, x2 => Gs43 (fun x0 x1 x2 => (Gn43 n x0 x1 x2).isSome) (fun x0 x1 x2 => (Gn43 n x0 x1 x2).getD default) x0 x1 x2
def G43 (x0 : (List (List UInt8))) (x1 : Int) (x2 : Bool) : Option ((List (List UInt8))) := Gn43 recDepth x0 x1 x2
def P43 (x0 : (List (List UInt8))) (x1 : Int) (x2 : Bool) : Bool := (hold (G43 x0 x1 x2)).isSome
def F43 (x0 : (List (List UInt8))) (x1 : Int) (x2 : Bool) : (List (List UInt8)) := (hold (G43 x0 x1 x2)).getD default
theorem P43_of (x0 : (List (List UInt8))) (x1 : Int) (x2 : Bool) {r : (List (List UInt8))} (h : G43 x0 x1 x2 = some r) : P43 x0 x1 x2 = true := by unfold P43; rw [hold_eq, h]; rfl
theorem F43_of (x0 : (List (List UInt8))) (x1 : Int) (x2 : Bool) {r : (List (List UInt8))} (h : G43 x0 x1 x2 = some r) : F43 x0 x1 x2 = r := by unfold F43; rw [hold_eq, h]; rfl
def spec43 : Spec := ⟨[(.list .str), (.int .i64), .bool], [.own 9 .str], fun | [a0, a1, a2] => P43 (a0.as (.list .str)) (a1.as (.int .i64)) (a2.as .bool) | _ => false, fun | [a0, a1, a2] => [⟨(.list .str), (F43 (a0.as (.list .str)) (a1.as (.int .i64)) (a2.as .bool))⟩] | _ => []⟩
theorem meetsn43 (hE : ∀ (PR : (List (List UInt8)) → Int → Bool → Bool) (FR : (List (List UInt8)) → Int → Bool → (List (List UInt8))), Meets Tryd.prog glob 43 (specs43 PR FR) → EnvOk Tryd.prog (envs43 PR FR)) (hm : Tryd.prog.follows .mixedOrders = true) : ∀ n, Meets Tryd.prog glob 43 (specs43 (fun x0 x1 x2 => (Gn43 n x0 x1 x2).isSome) (fun x0 x1 x2 => (Gn43 n x0 x1 x2).getD default))
  | 0 => ⟨Tryd.call43, fun w Pr ds args _ _ hds _ hpre => by
    obtain ⟨x0, ds0, rfl, h0⟩ := datsS hds
    obtain ⟨x1, ds1, rfl, h1⟩ := datsS h0
    obtain ⟨x2, ds2, rfl, h2⟩ := datsS h1
    have h9 := dats0 h2; subst h9
    cases (show false = true from hpre)⟩
  | n + 1 => meets_of_ev2 (E := envs43 (fun x0 x1 x2 => (Gn43 n x0 x1 x2).isSome) (fun x0 x1 x2 => (Gn43 n x0 x1 x2).getD default)) (O := orc43) (L := loops43) (c := body43) (slots := [6]) (hE _ _ (meetsn43 hE hm n)) hm Tryd.func43 Tryd.call43 (by kernel_rfl) (by kernel_rfl) (loops43_ok _ _) (rangesOk_nil (by kernel_rfl)) (by kernel_rfl) rfl (show 3 ≤ Tryd.f43.ntmps by decide) (fun ds hds hpre => by
    obtain ⟨x0, ds0, rfl, h0⟩ := datsS hds
    obtain ⟨x1, ds1, rfl, h1⟩ := datsS h0
    obtain ⟨x2, ds2, rfl, h2⟩ := datsS h1
    have h9 := dats0 h2; subst h9
    exact ev_ret (un := fun r => [⟨(.list .str), r⟩]) loops43_nat (fun _ => rfl) ((ev43 _ _ x0 x1 x2).trans (some_getD (o := Gn43 (n + 1) x0 x1 x2) hpre)))
def env17 : Env := {
  tab := tab
  glob := glob
  spec := fun
    | 43 => some spec43
    | _ => none }

def orc17 : Orc := ⟨19, fun _ => none, fun
  | 0 => kp [0, 1] []
  | 1 => kp [0, 1, 13] []
  | 2 => kp [4, 5] []
  | 3 => kp [0, 1, 15] []
  | 4 => kp [4, 5] []
  | 5 => kp [4, 5] []
  | _ => [], fun | _ => false⟩
noncomputable def body17 : Code := Tryd.f17.body.getD .skip
def loops17 : Nat → Option (Sum) := fun | _ => none
theorem loops17_nat : ∀ q f, loops17 q = some f → Natural f := by
  intro q f h
  cases h
theorem loops17_ok : LoopsOk env17 orc17 loops17 body17 := loopsOk_nil (by kernel_rfl)
def G17 (x0 : (List (List UInt8))) (x1 : Int) : Option ((List (List UInt8)) × Int) :=
  let v1 : (List (List UInt8)) := ([] : (List (List UInt8)))
  let v2 : Bool := (decide (x1 < (0 : Int)))
  let v3 : Int := ((List.length x0 : Nat) : Int)
  let v4 : Bool := (decide (x1 > v3))
  let v5 : Bool := (bif v2 then true else v4)
  bif v5 then
  let v6 : (List (List UInt8)) := ([] : (List (List UInt8)))
  some (v6, (2 : Int))
  else
  let v7 : Bool := (x1 == (0 : Int))
  bif v7 then
  let v8 : (List (List UInt8)) := ([] : (List (List UInt8)))
  some (v8, (0 : Int))
  else
  bif (P43 x0 x1 true) then
  let v9 : (List (List UInt8)) := (F43 x0 x1 true)
  some (v9, (0 : Int))
  else none
theorem ev17 (x0 : (List (List UInt8))) (x1 : Int) : ev2 env17 orc17 loops17 body17 (initSt 0 [⟨(.list .str), x0⟩, ⟨(.int .i64), x1⟩]) (retT [(4, .dat (.list .str)), (5, .dat (.int .i64))] [(.list .str), (.int .i64)] fun x => (x.1, x.2.1)) = G17 x0 x1 := by kernel_rfl
def P17 (x0 : (List (List UInt8))) (x1 : Int) : Bool := (hold (G17 x0 x1)).isSome
def F17 (x0 : (List (List UInt8))) (x1 : Int) : (List (List UInt8)) × Int := (hold (G17 x0 x1)).getD default
theorem G17_some (x0 : (List (List UInt8))) (x1 : Int) (h : P17 x0 x1 = true) : G17 x0 x1 = some (F17 x0 x1) := by
  unfold P17 at h; unfold F17
  rw [hold_eq] at h ⊢
  exact some_getD h
theorem P17_of (x0 : (List (List UInt8))) (x1 : Int) {r : (List (List UInt8)) × Int} (h : G17 x0 x1 = some r) : P17 x0 x1 = true := by unfold P17; rw [hold_eq, h]; rfl
theorem F17_of (x0 : (List (List UInt8))) (x1 : Int) {r : (List (List UInt8)) × Int} (h : G17 x0 x1 = some r) : F17 x0 x1 = r := by unfold F17; rw [hold_eq, h]; rfl
def spec17 : Spec := ⟨[(.list .str), (.int .i64)], [.dat (.list .str), .dat (.int .i64)], fun | [a0, a1] => P17 (a0.as (.list .str)) (a1.as (.int .i64)) | _ => false, fun | [a0, a1] => [⟨(.list .str), (F17 (a0.as (.list .str)) (a1.as (.int .i64))).1⟩, ⟨(.int .i64), (F17 (a0.as (.list .str)) (a1.as (.int .i64))).2⟩] | _ => []⟩
theorem meets17 (hE : EnvOk Tryd.prog env17) (hm : Tryd.prog.follows .mixedOrders = true) : Meets Tryd.prog glob 17 spec17 :=
  meets_of_ev2 (O := orc17) (L := loops17) (c := body17) (slots := [4, 5]) hE hm Tryd.func17 Tryd.call17 (by kernel_rfl) (by kernel_rfl) loops17_ok (rangesOk_nil (by kernel_rfl)) (by kernel_rfl) rfl (by decide) (fun ds hds hpre => by
  obtain ⟨x0, ds0, rfl, h0⟩ := datsS hds
  obtain ⟨x1, ds1, rfl, h1⟩ := datsS h0
  have h9 := dats0 h1; subst h9
  exact ev_ret (un := fun r => [⟨(.list .str), r.1⟩, ⟨(.int .i64), r.2⟩]) loops17_nat (fun _ => rfl) ((ev17 x0 x1).trans (G17_some x0 x1 hpre)))
def env18 : Env := {
  tab := tab
  glob := glob
  spec := fun
    | _ => none }

def orc18 : Orc := ⟨26, fun _ => none, fun
  | 0 => kp [0, 1] []
  | 1 => kp [0, 1, 10] []
  | 2 => kp [4] []
  | 3 => kp [0, 1, 5] []
  | 4 => kp [0, 1, 5, 14] []
  | 5 => kp [0, 1, 5] []
  | 6 => kp [0, 1, 5, 25] []
  | 7 => kp [4] []
  | 8 => kp [4] []
  | _ => [], fun | _ => false⟩
noncomputable def body18 : Code := Tryd.f18.body.getD .skip
def L18_4_sh : Shape := [(.slot 0, .dat (.list .str)), (.slot 1, .dat (.list .str)), (.slot 5, .dat (.int .i64))]
def L18_4_x0 : Shape := [(.slot 4, .dat .bool)]
def L18_4_x1 : Shape := [(.slot 0, .dat (.list .str)), (.slot 1, .dat (.list .str)), (.slot 5, .dat (.int .i64))]
def L18_4_pk (s : Tup L18_4_sh) : (List (List UInt8)) × (List (List UInt8)) × Int := (s.1, s.2.1, s.2.2.1)
def L18_4_un (s : (List (List UInt8)) × (List (List UInt8)) × Int) : Tup L18_4_sh := (s.1, (s.2.1, (s.2.2, ())))
def L18_4_leave (x : (Bool) ⊕ ((List (List UInt8)) × (List (List UInt8)) × Int)) (R : Type) (K : Cont R) : Option R := match x with
  | (.inl a) => K .ret (mkSt L18_4_x0 (a, ()))
  | (.inr a) => K (.exit 0) (mkSt L18_4_x1 (a.1, (a.2.1, (a.2.2, ()))))
def L18_4_d (e : Exit) (st : St) : Option ((Bool) ⊕ ((List (List UInt8)) × (List (List UInt8)) × Int)) := match e with
  | .ret => (match unSt L18_4_x0 st with
    | some s => some (.inl s.1)
    | none => none)
  | .exit 0 => (match unSt L18_4_x1 st with
    | some s => some (.inr (s.1, s.2.1, s.2.2.1))
    | none => none)
  | _ => none
def L18_4_r (s0 : (List (List UInt8))) (s1 : (List (List UInt8))) (s2 : Int) : Option (((List (List UInt8)) × (List (List UInt8)) × Int) ⊕ ((Bool) ⊕ ((List (List UInt8)) × (List (List UInt8)) × Int))) :=
  let v4 : Int := ((List.length s0 : Nat) : Int)
  let v5 : Bool := (decide (s2 < v4))
  bif v5 then
  bif (decide (0 ≤ s2) && decide (s2 < List.length s0)) then
  let v6 : (List UInt8) := (List.getD s0 (Int.toNat s2) ([] : List UInt8))
  bif (decide (0 ≤ s2) && decide (s2 < List.length s1)) then
  let v7 : (List UInt8) := (List.getD s1 (Int.toNat s2) ([] : List UInt8))
  let v8 : Bool := (!(v6 == v7))
  bif v8 then
  some (.inr (.inl false))
  else
  let v9 : Int := (IntKind.i64.wrap (s2 + (1 : Int)))
  some (.inl (s0, s1, v9))
  else none
  else none
  else
  some (.inr (.inr (s0, s1, s2)))
def L18_4 : (List (List UInt8)) × (List (List UInt8)) × Int → Option ((Bool) ⊕ ((List (List UInt8)) × (List (List UInt8)) × Int)) := Lim (fun s => L18_4_r s.1 s.2.1 s.2.2)
def L18_4_sum : Sum := limSum L18_4_sh L18_4_pk (fun s => L18_4_r s.1 s.2.1 s.2.2) L18_4_leave
theorem L18_4_nat : Natural L18_4_sum := natural_lim fun x R K => by
  rcases x with x|x <;> rfl
theorem L18_4_dok : ∀ e st x, e ≠ .normal → L18_4_d e st = some x → ∀ R (K : Cont R), K e st = L18_4_leave x R K := by
  intro e st x _ h R K
  unfold L18_4_d at h
  split at h
  · split at h
    · rename_i s hs; cases h; rw [unSt_some hs]; rfl
    · cases h
  · split at h
    · rename_i s hs; cases h; rw [unSt_some hs]; rfl
    · cases h
  · cases h
def loops18 : Nat → Option (Sum) := fun | 4 => some L18_4_sum | _ => none
theorem loops18_nat : ∀ q f, loops18 q = some f → Natural f := by
  intro q f h
  unfold loops18 at h
  split at h
  · cases h; exact L18_4_nat
  · cases h
noncomputable def L18_4_code : Code := (loopsOf body18).getD 0 .skip
theorem L18_4_round (s0 : (List (List UInt8))) (s1 : (List (List UInt8))) (s2 : Int) : ev2 env18 orc18 loops18 L18_4_code (mkSt L18_4_sh (s0, (s1, (s2, ())))) (back L18_4_sh L18_4_pk L18_4_d) = L18_4_r s0 s1 s2 := by kernel_rfl
theorem L18_4_ok : SumOk env18 orc18 loops18 L18_4_code L18_4_sum := sumOk_lim (un := L18_4_un) loops18_nat (fun _ => rfl) L18_4_dok fun s => L18_4_round s.1 s.2.1 s.2.2
theorem loops18_all : loopsOf body18 = [L18_4_code] := by kernel_rfl
theorem L18_4_key : lookL loops18 (keyOf L18_4_code) = some L18_4_sum := by kernel_rfl
theorem loops18_ok : LoopsOk env18 orc18 loops18 body18 := by
  intro c hc f hf
  rw [loops18_all] at hc
  simp only [List.mem_cons, List.not_mem_nil, or_false] at hc
  subst hc
  · rw [L18_4_key] at hf; cases hf; exact L18_4_ok
def G18 (x0 : (List (List UInt8))) (x1 : (List (List UInt8))) : Option (Bool) :=
  let v1 : Int := ((List.length x0 : Nat) : Int)
  let v2 : Int := ((List.length x1 : Nat) : Int)
  let v3 : Bool := (v1 != v2)
  bif v3 then
  some (false)
  else
  Option.bind (L18_4 (x0, x1, (0 : Int))) fun x => match x with
  | (.inl r10) =>
  some (r10)
  | (.inr r11) =>
  some (true)
theorem ev18 (x0 : (List (List UInt8))) (x1 : (List (List UInt8))) : ev2 env18 orc18 loops18 body18 (initSt 0 [⟨(.list .str), x0⟩, ⟨(.list .str), x1⟩]) (retT [(4, .dat .bool)] [.bool] fun x => x.1) = G18 x0 x1 := by kernel_rfl
def P18 (x0 : (List (List UInt8))) (x1 : (List (List UInt8))) : Bool := (hold (G18 x0 x1)).isSome
def F18 (x0 : (List (List UInt8))) (x1 : (List (List UInt8))) : Bool := (hold (G18 x0 x1)).getD default
theorem G18_some (x0 : (List (List UInt8))) (x1 : (List (List UInt8))) (h : P18 x0 x1 = true) : G18 x0 x1 = some (F18 x0 x1) := by
  unfold P18 at h; unfold F18
  rw [hold_eq] at h ⊢
  exact some_getD h
theorem P18_of (x0 : (List (List UInt8))) (x1 : (List (List UInt8))) {r : Bool} (h : G18 x0 x1 = some r) : P18 x0 x1 = true := by unfold P18; rw [hold_eq, h]; rfl
theorem F18_of (x0 : (List (List UInt8))) (x1 : (List (List UInt8))) {r : Bool} (h : G18 x0 x1 = some r) : F18 x0 x1 = r := by unfold F18; rw [hold_eq, h]; rfl
def spec18 : Spec := ⟨[(.list .str), (.list .str)], [.dat .bool], fun | [a0, a1] => P18 (a0.as (.list .str)) (a1.as (.list .str)) | _ => false, fun | [a0, a1] => [⟨.bool, (F18 (a0.as (.list .str)) (a1.as (.list .str)))⟩] | _ => []⟩
theorem meets18 (hE : EnvOk Tryd.prog env18) (hm : Tryd.prog.follows .mixedOrders = true) : Meets Tryd.prog glob 18 spec18 :=
  meets_of_ev2 (O := orc18) (L := loops18) (c := body18) (slots := [4]) hE hm Tryd.func18 Tryd.call18 (by kernel_rfl) (by kernel_rfl) loops18_ok (rangesOk_nil (by kernel_rfl)) (by kernel_rfl) rfl (by decide) (fun ds hds hpre => by
  obtain ⟨x0, ds0, rfl, h0⟩ := datsS hds
  obtain ⟨x1, ds1, rfl, h1⟩ := datsS h0
  have h9 := dats0 h1; subst h9
  exact ev_ret (un := fun r => [⟨.bool, r⟩]) loops18_nat (fun _ => rfl) ((ev18 x0 x1).trans (G18_some x0 x1 hpre)))
def env3 : Env := {
  tab := tab
  glob := glob
  spec := fun
    | 12 => some spec12
    | 13 => some spec13
    | 14 => some spec14
    | 15 => some spec15
    | 16 => some spec16
    | 17 => some spec17
    | 18 => some spec18
    | 19 => some spec19
    | 20 => some spec20
    | _ => none }

def orc3 : Orc := ⟨73, fun _ => none, fun
  | 0 => kp [0, 1, 2] []
  | 1 => kp [0, 1, 2, 7] []
  | 2 => kp [0, 1, 2, 7] []
  | 3 => kp [0, 1, 2, 7, 8, 9] []
  | 4 => kp [0, 2, 7, 8, 9, 10, 11] []
  | 5 => kp [0, 2, 7, 8, 9, 10, 11, 12, 13] []
  | 6 => kp [0, 7, 8, 9, 10, 11, 12, 13, 14, 15] []
  | 7 => kp [0, 7, 9, 11, 13, 15, 16] []
  | 8 => kp [6] []
  | _ => [], fun | _ => false⟩
noncomputable def body3 : Code := Tryd.f3.body.getD .skip
def loops3 : Nat → Option (Sum) := fun | _ => none
theorem loops3_nat : ∀ q f, loops3 q = some f → Natural f := by
  intro q f h
  cases h
theorem loops3_ok : LoopsOk env3 orc3 loops3 body3 := loopsOk_nil (by kernel_rfl)
def G3 (x0 : (List (List UInt8))) (x1 : Int) (x2 : Int) : Option (Bool) :=
  bif (P12 ) then
  bif (P13 x0 (40 : Int)) then
  let v1 : (List (List UInt8)) := (F13 x0 (40 : Int))
  bif (P14 v1 x1) then
  let v2 : ((List (List UInt8)) × Int) := (F14 v1 x1)
  bif (P15 v1 x1) then
  let v3 : ((List (List UInt8)) × Int) := (F15 v1 x1)
  bif (P16 v1 x2) then
  let v4 : ((List (List UInt8)) × Int) := (F16 v1 x2)
  bif (P17 v1 x2) then
  let v5 : ((List (List UInt8)) × Int) := (F17 v1 x2)
  bif (P18 v2.1 (List.take (List.length v3.1) v3.1)) then
  let v6 : Bool := (F18 v2.1 (List.take (List.length v3.1) v3.1))
  bif ((P18 v4.1 v5.1) || !(v6 && true)) then
  let v7 : Bool := (F18 v4.1 v5.1)
  let v8 : Bool := (bif v6 then v7 else false)
  let v9 : Bool := (bif F12 then v8 else false)
  let v10 : Bool := (v2.2 == v3.2)
  let v11 : Bool := (bif v9 then v10 else false)
  let v12 : Bool := (v4.2 == v5.2)
  let v13 : Bool := (bif v11 then v12 else false)
  bif ((P19 v1) || !(v13 && true)) then
  let v14 : (List UInt8) := (F19 v1)
  bif ((P20 v1) || !(v13 && true)) then
  let v15 : (List UInt8) := (F20 v1)
  let v16 : Bool := (v14 == v15)
  let v17 : Bool := (bif v13 then v16 else false)
  some (v17)
  else none
  else none
  else none
  else none
  else none
  else none
  else none
  else none
  else none
  else none
theorem ev3 (x0 : (List (List UInt8))) (x1 : Int) (x2 : Int) : ev2 env3 orc3 loops3 body3 (initSt 0 [⟨(.list .str), x0⟩, ⟨(.int .i64), x1⟩, ⟨(.int .i64), x2⟩]) (retT [(6, .dat .bool)] [.bool] fun x => x.1) = G3 x0 x1 x2 := by kernel_rfl
def P3 (x0 : (List (List UInt8))) (x1 : Int) (x2 : Int) : Bool := (hold (G3 x0 x1 x2)).isSome
def F3 (x0 : (List (List UInt8))) (x1 : Int) (x2 : Int) : Bool := (hold (G3 x0 x1 x2)).getD default
theorem G3_some (x0 : (List (List UInt8))) (x1 : Int) (x2 : Int) (h : P3 x0 x1 x2 = true) : G3 x0 x1 x2 = some (F3 x0 x1 x2) := by
  unfold P3 at h; unfold F3
  rw [hold_eq] at h ⊢
  exact some_getD h
theorem P3_of (x0 : (List (List UInt8))) (x1 : Int) (x2 : Int) {r : Bool} (h : G3 x0 x1 x2 = some r) : P3 x0 x1 x2 = true := by unfold P3; rw [hold_eq, h]; rfl
theorem F3_of (x0 : (List (List UInt8))) (x1 : Int) (x2 : Int) {r : Bool} (h : G3 x0 x1 x2 = some r) : F3 x0 x1 x2 = r := by unfold F3; rw [hold_eq, h]; rfl
def spec3 : Spec := ⟨[(.list .str), (.int .i64), (.int .i64)], [.dat .bool], fun | [a0, a1, a2] => P3 (a0.as (.list .str)) (a1.as (.int .i64)) (a2.as (.int .i64)) | _ => false, fun | [a0, a1, a2] => [⟨.bool, (F3 (a0.as (.list .str)) (a1.as (.int .i64)) (a2.as (.int .i64)))⟩] | _ => []⟩
theorem meets3 (hE : EnvOk Tryd.prog env3) (hm : Tryd.prog.follows .mixedOrders = true) : Meets Tryd.prog glob 3 spec3 :=
  meets_of_ev2 (O := orc3) (L := loops3) (c := body3) (slots := [6]) hE hm Tryd.func3 Tryd.call3 (by kernel_rfl) (by kernel_rfl) loops3_ok (rangesOk_nil (by kernel_rfl)) (by kernel_rfl) rfl (by decide) (fun ds hds hpre => by
  obtain ⟨x0, ds0, rfl, h0⟩ := datsS hds
  obtain ⟨x1, ds1, rfl, h1⟩ := datsS h0
  obtain ⟨x2, ds2, rfl, h2⟩ := datsS h1
  have h9 := dats0 h2; subst h9
  exact ev_ret (un := fun r => [⟨.bool, r⟩]) loops3_nat (fun _ => rfl) ((ev3 x0 x1 x2).trans (G3_some x0 x1 x2 hpre)))
theorem mixed : Tryd.prog.follows .mixedOrders = true := by kernel_rfl
theorem envOk72 : EnvOk Tryd.prog env72 := by
  refine ⟨tabOk, fun f S h => ?_, fun f l S h => ?_, fun f fs I h => ?_⟩
  · simp only [env72] at h
    cases h
  · simp only [env72] at h
    cases h
  · simp only [env72] at h
    cases h
theorem full72 : Meets Tryd.prog glob 72 spec72 := meets72 envOk72 mixed
theorem envOk59 : EnvOk Tryd.prog env59 := by
  refine ⟨tabOk, fun f S h => ?_, fun f l S h => ?_, fun f fs I h => ?_⟩
  · simp only [env59] at h
    split at h
    · cases h; exact full72
    · cases h
  · simp only [env59] at h
    cases h
  · simp only [env59] at h
    cases h
theorem full59 : Meets Tryd.prog glob 59 spec59 := meets59 envOk59 mixed
theorem envOk40 : EnvOk Tryd.prog env40 := by
  refine ⟨tabOk, fun f S h => ?_, fun f l S h => ?_, fun f fs I h => ?_⟩
  · simp only [env40] at h
    split at h
    · cases h; exact full59
    · cases h
  · simp only [env40] at h
    cases h
  · simp only [env40] at h
    cases h
theorem full40 : Meets Tryd.prog glob 40 spec40 := meets40 envOk40 mixed
theorem envOk53 : EnvOk Tryd.prog env53 := by
  refine ⟨tabOk, fun f S h => ?_, fun f l S h => ?_, fun f fs I h => ?_⟩
  · simp only [env53] at h
    cases h
  · simp only [env53] at h
    cases h
  · simp only [env53] at h
    cases h
theorem full53 : Meets2 Tryd.prog glob 53 sp53 := meets53 envOk53 mixed
theorem envOk54 : EnvOk Tryd.prog env54 := by
  refine ⟨tabOk, fun f S h => ?_, fun f l S h => ?_, fun f fs I h => ?_⟩
  · simp only [env54] at h
    cases h
  · simp only [env54] at h
    cases h
  · simp only [env54] at h
    cases h
theorem full54 : Meets2 Tryd.prog glob 54 sp54 := meets54 envOk54 mixed
theorem envOk66 : EnvOk Tryd.prog env66 := by
  refine ⟨tabOk, fun f S h => ?_, fun f l S h => ?_, fun f fs I h => ?_⟩
  · simp only [env66] at h
    cases h
  · simp only [env66] at h
    cases h
  · simp only [env66] at h
    cases h
theorem fullI66 : IterOk Tryd.prog glob 66 I66 := iter66 envOk66 mixed
theorem envOk77 : EnvOk Tryd.prog env77 := by
  refine ⟨tabOk, fun f S h => ?_, fun f l S h => ?_, fun f fs I h => ?_⟩
  · simp only [env77] at h
    cases h
  · simp only [env77] at h
    cases h
  · simp only [env77] at h
    cases h
theorem full77 : Meets Tryd.prog glob 77 spec77 := meets77 envOk77 mixed
theorem envOk68 : EnvOk Tryd.prog env68 := by
  refine ⟨tabOk, fun f S h => ?_, fun f l S h => ?_, fun f fs I h => ?_⟩
  · simp only [env68] at h
    split at h
    · cases h; exact full77
    · cases h
  · simp only [env68] at h
    cases h
  · simp only [env68] at h
    cases h
theorem full68 : Meets Tryd.prog glob 68 spec68 := meets68 envOk68 mixed
theorem envOk67 : EnvOk Tryd.prog env67 := by
  refine ⟨tabOk, fun f S h => ?_, fun f l S h => ?_, fun f fs I h => ?_⟩
  · simp only [env67] at h
    split at h
    · cases h; exact full68
    · cases h
  · simp only [env67] at h
    cases h
  · simp only [env67] at h
    cases h
theorem full67 : Meets2 Tryd.prog glob 67 sp67 := meets67 envOk67 mixed
theorem envOk55 : EnvOk Tryd.prog env55 := by
  refine ⟨tabOk, fun f S h => ?_, fun f l S h => ?_, fun f fs I h => ?_⟩
  · simp only [env55] at h
    split at h
    · cases h; exact full68
    · cases h
  · simp only [env55] at h
    split at h
    · cases h; exact full67
    · cases h
  · simp only [env55] at h
    cases h
theorem full55 : Meets2 Tryd.prog glob 55 sp55 := meets55 envOk55 mixed
theorem envOk56 : EnvOk Tryd.prog env56 := by
  refine ⟨tabOk, fun f S h => ?_, fun f l S h => ?_, fun f fs I h => ?_⟩
  · simp only [env56] at h
    cases h
  · simp only [env56] at h
    cases h
  · simp only [env56] at h
    cases h
theorem full56 : Meets Tryd.prog glob 56 spec56 := meets56 envOk56 mixed
theorem envOk30 : EnvOk Tryd.prog env30 := by
  refine ⟨tabOk, fun f S h => ?_, fun f l S h => ?_, fun f fs I h => ?_⟩
  · simp only [env30] at h
    split at h
    · cases h; exact full56
    · cases h
  · simp only [env30] at h
    split at h
    · cases h; exact full54
    · cases h; exact full55
    · cases h
  · simp only [env30] at h
    cases h
theorem full30 : Meets Tryd.prog glob 30 spec30 := meets30 envOk30 mixed fullI66
theorem envOk64 : EnvOk Tryd.prog env64 := by
  refine ⟨tabOk, fun f S h => ?_, fun f l S h => ?_, fun f fs I h => ?_⟩
  · simp only [env64] at h
    split at h
    · cases h; exact full30
    · cases h; exact full65
    · cases h
  · simp only [env64] at h
    cases h
  · simp only [env64] at h
    cases h
theorem full64 : Meets2 Tryd.prog glob 64 sp64 := meets64 envOk64 mixed
theorem envOk29 : EnvOk Tryd.prog env29 := by
  refine ⟨tabOk, fun f S h => ?_, fun f l S h => ?_, fun f fs I h => ?_⟩
  · simp only [env29] at h
    cases h
  · simp only [env29] at h
    split at h
    · cases h; exact full53
    · cases h; exact full64
    · cases h
  · simp only [env29] at h
    cases h
theorem full29 : Meets Tryd.prog glob 29 spec29 := meets29 envOk29 mixed
theorem envOk32 : EnvOk Tryd.prog env32 := by
  refine ⟨tabOk, fun f S h => ?_, fun f l S h => ?_, fun f fs I h => ?_⟩
  · simp only [env32] at h
    cases h
  · simp only [env32] at h
    split at h
    · cases h; exact full53
    · cases h; exact full64
    · cases h
  · simp only [env32] at h
    cases h
theorem full32 : Meets Tryd.prog glob 32 spec32 := meets32 envOk32 mixed
theorem envOk44 : EnvOk Tryd.prog env44 := by
  refine ⟨tabOk, fun f S h => ?_, fun f l S h => ?_, fun f fs I h => ?_⟩
  · simp only [env44] at h
    cases h
  · simp only [env44] at h
    cases h
  · simp only [env44] at h
    cases h
theorem full44 : Meets2 Tryd.prog glob 44 sp44 := meets44 envOk44 mixed
theorem envOk60 : EnvOk Tryd.prog env60 := by
  refine ⟨tabOk, fun f S h => ?_, fun f l S h => ?_, fun f fs I h => ?_⟩
  · simp only [env60] at h
    cases h
  · simp only [env60] at h
    cases h
  · simp only [env60] at h
    cases h
theorem fullI60 : IterOk Tryd.prog glob 60 I60 := iter60 envOk60 mixed
theorem envOk19 : EnvOk Tryd.prog env19 := by
  refine ⟨tabOk, fun f S h => ?_, fun f l S h => ?_, fun f fs I h => ?_⟩
  · simp only [env19] at h
    split at h
    · cases h; exact full29
    · cases h; exact full30
    · cases h; exact full32
    · cases h
  · simp only [env19] at h
    split at h
    · cases h; exact full44
    · cases h
  · simp only [env19] at h
    cases h
theorem full19 : Meets Tryd.prog glob 19 spec19 := meets19 envOk19 mixed fullI60
theorem envOk14 : EnvOk Tryd.prog env14 := by
  refine ⟨tabOk, fun f S h => ?_, fun f l S h => ?_, fun f fs I h => ?_⟩
  · simp only [env14] at h
    split at h
    · cases h; exact full19
    · cases h; exact full40
    · cases h
  · simp only [env14] at h
    cases h
  · simp only [env14] at h
    split at h
    · cases h; exact inOk41
    · cases h
theorem full14 : Meets Tryd.prog glob 14 spec14 := meets14 envOk14 mixed
theorem envOk16 : EnvOk Tryd.prog env16 := by
  refine ⟨tabOk, fun f S h => ?_, fun f l S h => ?_, fun f fs I h => ?_⟩
  · simp only [env16] at h
    split at h
    · cases h; exact full19
    · cases h; exact full40
    · cases h
  · simp only [env16] at h
    cases h
  · simp only [env16] at h
    split at h
    · cases h; exact inOk41
    · cases h
theorem full16 : Meets Tryd.prog glob 16 spec16 := meets16 envOk16 mixed
theorem envOk39 : EnvOk Tryd.prog env39 := by
  refine ⟨tabOk, fun f S h => ?_, fun f l S h => ?_, fun f fs I h => ?_⟩
  · simp only [env39] at h
    cases h
  · simp only [env39] at h
    cases h
  · simp only [env39] at h
    cases h
theorem full39 : Meets Tryd.prog glob 39 spec39 := meets39 envOk39 mixed
theorem envOk51 : EnvOk Tryd.prog env51 := by
  refine ⟨tabOk, fun f S h => ?_, fun f l S h => ?_, fun f fs I h => ?_⟩
  · simp only [env51] at h
    cases h
  · simp only [env51] at h
    cases h
  · simp only [env51] at h
    cases h
theorem full51 : Meets Tryd.prog glob 51 spec51 := meets51 envOk51 mixed
theorem envOk61 : EnvOk Tryd.prog env61 := by
  refine ⟨tabOk, fun f S h => ?_, fun f l S h => ?_, fun f fs I h => ?_⟩
  · simp only [env61] at h
    split at h
    · cases h; exact full51
    · cases h
  · simp only [env61] at h
    cases h
  · simp only [env61] at h
    cases h
theorem full61 : Meets2 Tryd.prog glob 61 sp61 := meets61 envOk61 mixed
theorem envOk73 : EnvOk Tryd.prog env73 := by
  refine ⟨tabOk, fun f S h => ?_, fun f l S h => ?_, fun f fs I h => ?_⟩
  · simp only [env73] at h
    cases h
  · simp only [env73] at h
    split at h
    · cases h; exact full61
    · cases h
  · simp only [env73] at h
    cases h
theorem full73 : Meets2 Tryd.prog glob 73 sp73 := meets73 envOk73 mixed
theorem envOk62 : EnvOk Tryd.prog env62 := by
  refine ⟨tabOk, fun f S h => ?_, fun f l S h => ?_, fun f fs I h => ?_⟩
  · simp only [env62] at h
    cases h
  · simp only [env62] at h
    split at h
    · cases h; exact full73
    · cases h
  · simp only [env62] at h
    cases h
theorem full62 : Meets2 Tryd.prog glob 62 sp62 := meets62 envOk62 mixed
theorem envOk45 : EnvOk Tryd.prog env45 := by
  refine ⟨tabOk, fun f S h => ?_, fun f l S h => ?_, fun f fs I h => ?_⟩
  · simp only [env45] at h
    cases h
  · simp only [env45] at h
    split at h
    · cases h; exact full62
    · cases h
  · simp only [env45] at h
    cases h
theorem full45 : Meets Tryd.prog glob 45 spec45 := meets45 envOk45 mixed
theorem envOk46 : EnvOk Tryd.prog env46 := by
  refine ⟨tabOk, fun f S h => ?_, fun f l S h => ?_, fun f fs I h => ?_⟩
  · simp only [env46] at h
    cases h
  · simp only [env46] at h
    cases h
  · simp only [env46] at h
    cases h
theorem full46 : Meets Tryd.prog glob 46 spec46 := meets46 envOk46 mixed
theorem envOk47 : EnvOk Tryd.prog env47 := by
  refine ⟨tabOk, fun f S h => ?_, fun f l S h => ?_, fun f fs I h => ?_⟩
  · simp only [env47] at h
    cases h
  · simp only [env47] at h
    cases h
  · simp only [env47] at h
    cases h
theorem full47 : Meets2 Tryd.prog glob 47 sp47 := meets47 envOk47 mixed
theorem envOk63 : EnvOk Tryd.prog env63 := by
  refine ⟨tabOk, fun f S h => ?_, fun f l S h => ?_, fun f fs I h => ?_⟩
  · simp only [env63] at h
    cases h
  · simp only [env63] at h
    cases h
  · simp only [env63] at h
    cases h
theorem fullI63 : IterOk Tryd.prog glob 63 I63 := iter63 envOk63 mixed
theorem envOk48 : EnvOk Tryd.prog env48 := by
  refine ⟨tabOk, fun f S h => ?_, fun f l S h => ?_, fun f fs I h => ?_⟩
  · simp only [env48] at h
    split at h
    · cases h; exact full32
    · cases h
  · simp only [env48] at h
    cases h
  · simp only [env48] at h
    cases h
theorem full48 : Meets Tryd.prog glob 48 spec48 := meets48 envOk48 mixed
theorem envOk21 : EnvOk Tryd.prog env21 := by
  refine ⟨tabOk, fun f S h => ?_, fun f l S h => ?_, fun f fs I h => ?_⟩
  · simp only [env21] at h
    split at h
    · cases h; exact full29
    · cases h; exact full40
    · cases h; exact full45
    · cases h; exact full46
    · cases h; exact full48
    · cases h
  · simp only [env21] at h
    split at h
    · cases h; exact full47
    · cases h
  · simp only [env21] at h
    cases h
theorem full21 : Meets Tryd.prog glob 21 spec21 := meets21 envOk21 mixed fullI63
theorem envOk23 : EnvOk Tryd.prog env23 := by
  refine ⟨tabOk, fun f S h => ?_, fun f l S h => ?_, fun f fs I h => ?_⟩
  · simp only [env23] at h
    split at h
    · cases h; exact full30
    · cases h; exact full40
    · cases h; exact full45
    · cases h; exact full46
    · cases h; exact full48
    · cases h; exact full51
    · cases h
  · simp only [env23] at h
    split at h
    · cases h; exact full47
    · cases h
  · simp only [env23] at h
    cases h
theorem full23 : Meets Tryd.prog glob 23 spec23 := meets23 envOk23 mixed fullI63
theorem envOk12 : EnvOk Tryd.prog env12 := by
  refine ⟨tabOk, fun f S h => ?_, fun f l S h => ?_, fun f fs I h => ?_⟩
  · simp only [env12] at h
    split at h
    · cases h; exact full14
    · cases h; exact full16
    · cases h; exact full19
    · cases h; exact full21
    · cases h; exact full23
    · cases h; exact full30
    · cases h; exact full39
    · cases h
  · simp only [env12] at h
    cases h
  · simp only [env12] at h
    cases h
theorem full12 : Meets Tryd.prog glob 12 spec12 := meets12 envOk12 mixed
theorem envOk13 : EnvOk Tryd.prog env13 := by
  refine ⟨tabOk, fun f S h => ?_, fun f l S h => ?_, fun f fs I h => ?_⟩
  · simp only [env13] at h
    cases h
  · simp only [env13] at h
    cases h
  · simp only [env13] at h
    cases h
theorem full13 : Meets Tryd.prog glob 13 spec13 := meets13 envOk13 mixed
theorem envOk42 : EnvOk Tryd.prog env42 := by
  refine ⟨tabOk, fun f S h => ?_, fun f l S h => ?_, fun f fs I h => ?_⟩
  · simp only [env42] at h
    cases h
  · simp only [env42] at h
    cases h
  · simp only [env42] at h
    cases h
theorem full42 : Meets Tryd.prog glob 42 spec42 := meets42 envOk42 mixed
theorem envOk57 : EnvOk Tryd.prog env57 := by
  refine ⟨tabOk, fun f S h => ?_, fun f l S h => ?_, fun f fs I h => ?_⟩
  · simp only [env57] at h
    cases h
  · simp only [env57] at h
    cases h
  · simp only [env57] at h
    cases h
theorem full57 : Meets Tryd.prog glob 57 spec57 := meets57 envOk57 mixed
theorem envOk69 : EnvOk Tryd.prog env69 := by
  refine ⟨tabOk, fun f S h => ?_, fun f l S h => ?_, fun f fs I h => ?_⟩
  · simp only [env69] at h
    cases h
  · simp only [env69] at h
    cases h
  · simp only [env69] at h
    cases h
theorem full69 : Meets Tryd.prog glob 69 spec69 := meets69 envOk69 mixed
theorem envOk70 : EnvOk Tryd.prog env70 := by
  refine ⟨tabOk, fun f S h => ?_, fun f l S h => ?_, fun f fs I h => ?_⟩
  · simp only [env70] at h
    cases h
  · simp only [env70] at h
    cases h
  · simp only [env70] at h
    cases h
theorem full70 : Meets Tryd.prog glob 70 spec70 := meets70 envOk70 mixed
theorem envOk58 : EnvOk Tryd.prog env58 := by
  refine ⟨tabOk, fun f S h => ?_, fun f l S h => ?_, fun f fs I h => ?_⟩
  · simp only [env58] at h
    split at h
    · cases h; exact full69
    · cases h; exact full70
    · cases h
  · simp only [env58] at h
    cases h
  · simp only [env58] at h
    cases h
theorem full58 : Meets Tryd.prog glob 58 spec58 := meets58 envOk58 mixed
theorem envOk33 : EnvOk Tryd.prog env33 := by
  refine ⟨tabOk, fun f S h => ?_, fun f l S h => ?_, fun f fs I h => ?_⟩
  · simp only [env33] at h
    split at h
    · cases h; exact full57
    · cases h; exact full58
    · cases h
  · simp only [env33] at h
    cases h
  · simp only [env33] at h
    cases h
theorem full33 : Meets Tryd.prog glob 33 spec33 := meets33 envOk33 mixed
theorem envOk34 : EnvOk Tryd.prog env34 := by
  refine ⟨tabOk, fun f S h => ?_, fun f l S h => ?_, fun f fs I h => ?_⟩
  · simp only [env34] at h
    split at h
    · cases h; exact full33
    · cases h
  · simp only [env34] at h
    cases h
  · simp only [env34] at h
    cases h
theorem full34 : Meets Tryd.prog glob 34 spec34 := meets34 envOk34 mixed
theorem envOk35 : EnvOk Tryd.prog env35 := by
  refine ⟨tabOk, fun f S h => ?_, fun f l S h => ?_, fun f fs I h => ?_⟩
  · simp only [env35] at h
    split at h
    · cases h; exact full33
    · cases h
  · simp only [env35] at h
    cases h
  · simp only [env35] at h
    cases h
theorem full35 : Meets Tryd.prog glob 35 spec35 := meets35 envOk35 mixed
theorem envOk20 (PR : (List (List UInt8)) → Bool) (FR : (List (List UInt8)) → (List UInt8)) (hself : Meets Tryd.prog glob 20 (specs20 PR FR)) : EnvOk Tryd.prog (envs20 PR FR) := by
  refine ⟨tabOk, fun f S h => ?_, fun f l S h => ?_, fun f fs I h => ?_⟩
  · simp only [envs20] at h
    split at h
    · cases h; exact hself
    · cases h; exact full33
    · cases h; exact full34
    · cases h; exact full35
    · cases h; exact full42
    · cases h
  · simp only [envs20] at h
    cases h
  · simp only [envs20] at h
    cases h
theorem spec20_eq : specs20 (fun x0 => (Gn20 recDepth x0).isSome) (fun x0 => (Gn20 recDepth x0).getD default) = spec20 := by
  unfold spec20 specs20 P20 F20 G20
  first | (simp only [hold_eq]; done) | (simp only [hold_eq]; rfl)
theorem full20 : Meets Tryd.prog glob 20 spec20 := spec20_eq ▸ meetsn20 envOk20 mixed recDepth
theorem envOk15 (PR : (List (List UInt8)) → Int → Bool) (FR : (List (List UInt8)) → Int → (List (List UInt8)) × Int) (hself : Meets Tryd.prog glob 15 (specs15 PR FR)) : EnvOk Tryd.prog (envs15 PR FR) := by
  refine ⟨tabOk, fun f S h => ?_, fun f l S h => ?_, fun f fs I h => ?_⟩
  · simp only [envs15] at h
    split at h
    · cases h; exact hself
    · cases h; exact full20
    · cases h; exact full42
    · cases h
  · simp only [envs15] at h
    cases h
  · simp only [envs15] at h
    cases h
theorem spec15_eq : specs15 (fun x0 x1 => (Gn15 recDepth x0 x1).isSome) (fun x0 x1 => (Gn15 recDepth x0 x1).getD default) = spec15 := by
  unfold spec15 specs15 P15 F15 G15
  first | (simp only [hold_eq]; done) | (simp only [hold_eq]; rfl)
theorem full15 : Meets Tryd.prog glob 15 spec15 := spec15_eq ▸ meetsn15 envOk15 mixed recDepth
theorem envOk43 (PR : (List (List UInt8)) → Int → Bool → Bool) (FR : (List (List UInt8)) → Int → Bool → (List (List UInt8))) (hself : Meets Tryd.prog glob 43 (specs43 PR FR)) : EnvOk Tryd.prog (envs43 PR FR) := by
  refine ⟨tabOk, fun f S h => ?_, fun f l S h => ?_, fun f fs I h => ?_⟩
  · simp only [envs43] at h
    split at h
    · cases h; exact full20
    · cases h; exact full42
    · cases h; exact hself
    · cases h
  · simp only [envs43] at h
    cases h
  · simp only [envs43] at h
    cases h
theorem spec43_eq : specs43 (fun x0 x1 x2 => (Gn43 recDepth x0 x1 x2).isSome) (fun x0 x1 x2 => (Gn43 recDepth x0 x1 x2).getD default) = spec43 := by
  unfold spec43 specs43 P43 F43 G43
  first | (simp only [hold_eq]; done) | (simp only [hold_eq]; rfl)
theorem full43 : Meets Tryd.prog glob 43 spec43 := spec43_eq ▸ meetsn43 envOk43 mixed recDepth
theorem envOk17 : EnvOk Tryd.prog env17 := by
  refine ⟨tabOk, fun f S h => ?_, fun f l S h => ?_, fun f fs I h => ?_⟩
  · simp only [env17] at h
    split at h
    · cases h; exact full43
    · cases h
  · simp only [env17] at h
    cases h
  · simp only [env17] at h
    cases h
theorem full17 : Meets Tryd.prog glob 17 spec17 := meets17 envOk17 mixed
theorem envOk18 : EnvOk Tryd.prog env18 := by
  refine ⟨tabOk, fun f S h => ?_, fun f l S h => ?_, fun f fs I h => ?_⟩
  · simp only [env18] at h
    cases h
  · simp only [env18] at h
    cases h
  · simp only [env18] at h
    cases h
theorem full18 : Meets Tryd.prog glob 18 spec18 := meets18 envOk18 mixed
theorem envOk3 : EnvOk Tryd.prog env3 := by
  refine ⟨tabOk, fun f S h => ?_, fun f l S h => ?_, fun f fs I h => ?_⟩
  · simp only [env3] at h
    split at h
    · cases h; exact full12
    · cases h; exact full13
    · cases h; exact full14
    · cases h; exact full15
    · cases h; exact full16
    · cases h; exact full17
    · cases h; exact full18
    · cases h; exact full19
    · cases h; exact full20
    · cases h
  · simp only [env3] at h
    cases h
  · simp only [env3] at h
    cases h
theorem full3 : Meets Tryd.prog glob 3 spec3 := meets3 envOk3 mixed
end
end Go.Ev.D
