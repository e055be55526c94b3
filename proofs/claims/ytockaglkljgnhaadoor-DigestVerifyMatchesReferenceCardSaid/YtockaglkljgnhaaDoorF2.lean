/- The functions of the program as functions of Lean, with the proofs that they are. -/
import Derived.Test.YtockaglkljgnhaaDoorF1
import Derived.KernelRfl
set_option linter.unusedSimpArgs false
set_option linter.unusedVariables false
set_option linter.deprecated false
namespace Go.Ev.D
open Go Go.Proofs Go.Ev
noncomputable section
def L58_16_r (s0 : (List Int)) (s1 : (List Int)) (s2 : (List Int)) (s3 : (List Int)) (s4 : Int) : Option (((List Int) × (List Int) × (List Int) × (List Int) × Int) ⊕ (((List Int) × (List Int) × (List Int) × (List Int) × Int))) :=
  let v65 : Bool := (decide (s4 < (64 : Int)))
  bif v65 then
  bif (decide (0 ≤ (0 : Int)) && decide ((0 : Int) < (List.length s3))) then
  bif (decide ((Int.toNat (0 : Int)) < List.length s3)) then
  let v66 : Int := (List.getD s3 (Int.toNat (0 : Int)) (0 : Int))
  bif (decide (0 ≤ (4 : Int)) && decide ((4 : Int) < (List.length s3))) then
  bif (decide ((Int.toNat (4 : Int)) < List.length s3)) then
  let v67 : Int := (List.getD s3 (Int.toNat (4 : Int)) (0 : Int))
  bif (decide (0 ≤ (7 : Int)) && decide ((7 : Int) < (List.length s3))) then
  bif (decide ((Int.toNat (7 : Int)) < List.length s3)) then
  let v68 : Int := (List.getD s3 (Int.toNat (7 : Int)) (0 : Int))
  bif (P69 v67 (6 : Int)) then
  let v69 : Int := (F69 v67 (6 : Int))
  bif (P69 v67 (11 : Int)) then
  let v70 : Int := (F69 v67 (11 : Int))
  let v71 : Int := (bits .xor .u32 v69 v70)
  bif (P69 v67 (25 : Int)) then
  let v72 : Int := (F69 v67 (25 : Int))
  let v73 : Int := (bits .xor .u32 v71 v72)
  let v74 : Int := (IntKind.u32.wrap (v68 + v73))
  bif (decide (0 ≤ (5 : Int)) && decide ((5 : Int) < (List.length s3))) then
  bif (decide ((Int.toNat (5 : Int)) < List.length s3)) then
  let v75 : Int := (List.getD s3 (Int.toNat (5 : Int)) (0 : Int))
  let v76 : Int := (bits .and .u32 v67 v75)
  let v77 : Int := (bits .xor .u32 (if IntKind.u32.signed then -1 else IntKind.u32.max) v67)
  bif (decide (0 ≤ (6 : Int)) && decide ((6 : Int) < (List.length s3))) then
  bif (decide ((Int.toNat (6 : Int)) < List.length s3)) then
  let v78 : Int := (List.getD s3 (Int.toNat (6 : Int)) (0 : Int))
  let v79 : Int := (bits .and .u32 v77 v78)
  let v80 : Int := (bits .xor .u32 v76 v79)
  let v81 : Int := (IntKind.u32.wrap (v74 + v80))
  bif (decide (0 ≤ s4) && decide (s4 < List.length s2)) then
  let v82 : Int := (List.getD s2 (Int.toNat s4) (0 : Int))
  let v83 : Int := (IntKind.u32.wrap (v81 + v82))
  bif (decide (0 ≤ s4) && decide (s4 < (List.length s1))) then
  bif (decide ((Int.toNat s4) < List.length s1)) then
  let v84 : Int := (List.getD s1 (Int.toNat s4) (0 : Int))
  let v85 : Int := (IntKind.u32.wrap (v83 + v84))
  bif (P69 v66 (2 : Int)) then
  let v86 : Int := (F69 v66 (2 : Int))
  bif (P69 v66 (13 : Int)) then
  let v87 : Int := (F69 v66 (13 : Int))
  let v88 : Int := (bits .xor .u32 v86 v87)
  bif (P69 v66 (22 : Int)) then
  let v89 : Int := (F69 v66 (22 : Int))
  let v90 : Int := (bits .xor .u32 v88 v89)
  bif (decide (0 ≤ (1 : Int)) && decide ((1 : Int) < (List.length s3))) then
  bif (decide ((Int.toNat (1 : Int)) < List.length s3)) then
  let v91 : Int := (List.getD s3 (Int.toNat (1 : Int)) (0 : Int))
  let v92 : Int := (bits .and .u32 v66 v91)
  bif (decide (0 ≤ (2 : Int)) && decide ((2 : Int) < (List.length s3))) then
  bif (decide ((Int.toNat (2 : Int)) < List.length s3)) then
  let v93 : Int := (List.getD s3 (Int.toNat (2 : Int)) (0 : Int))
  let v94 : Int := (bits .and .u32 v66 v93)
  let v95 : Int := (bits .xor .u32 v92 v94)
  bif (decide (0 ≤ (1 : Int)) && decide ((1 : Int) < (List.length s3))) then
  bif (decide ((Int.toNat (1 : Int)) < List.length s3)) then
  let v96 : Int := (List.getD s3 (Int.toNat (1 : Int)) (0 : Int))
  bif (decide (0 ≤ (2 : Int)) && decide ((2 : Int) < (List.length s3))) then
  bif (decide ((Int.toNat (2 : Int)) < List.length s3)) then
  let v97 : Int := (List.getD s3 (Int.toNat (2 : Int)) (0 : Int))
  let v98 : Int := (bits .and .u32 v96 v97)
  let v99 : Int := (bits .xor .u32 v95 v98)
  let v100 : Int := (IntKind.u32.wrap (v90 + v99))
  let v101 : Int := (IntKind.u32.wrap (v85 + v100))
  bif (decide (0 ≤ (1 : Int)) && decide ((1 : Int) < (List.length s3))) then
  bif (decide ((Int.toNat (1 : Int)) < List.length s3)) then
  let v102 : Int := (List.getD s3 (Int.toNat (1 : Int)) (0 : Int))
  bif (decide (0 ≤ (2 : Int)) && decide ((2 : Int) < (List.length s3))) then
  bif (decide ((Int.toNat (2 : Int)) < List.length s3)) then
  let v103 : Int := (List.getD s3 (Int.toNat (2 : Int)) (0 : Int))
  bif (decide (0 ≤ (3 : Int)) && decide ((3 : Int) < (List.length s3))) then
  bif (decide ((Int.toNat (3 : Int)) < List.length s3)) then
  let v104 : Int := (List.getD s3 (Int.toNat (3 : Int)) (0 : Int))
  let v105 : Int := (IntKind.u32.wrap (v104 + v85))
  bif (decide (0 ≤ (5 : Int)) && decide ((5 : Int) < (List.length s3))) then
  bif (decide ((Int.toNat (5 : Int)) < List.length s3)) then
  let v106 : Int := (List.getD s3 (Int.toNat (5 : Int)) (0 : Int))
  bif (decide (0 ≤ (6 : Int)) && decide ((6 : Int) < (List.length s3))) then
  bif (decide ((Int.toNat (6 : Int)) < List.length s3)) then
  let v107 : Int := (List.getD s3 (Int.toNat (6 : Int)) (0 : Int))
  let v108 : (List Int) := (List.set (List.set (List.set (List.set (List.set (List.set (List.set (List.set (List.replicate 8 (0 : Int)) 0 v101) 1 v66) 2 v102) 3 v103) 4 v105) 5 v67) 6 v106) 7 v107)
  let v109 : Int := (IntKind.i64.wrap (s4 + (1 : Int)))
  some (.inl (s0, s1, s2, v108, v109))
  else none
  else none
  else none
  else none
  else none
  else none
  else none
  else none
  else none
  else none
  else none
  else none
  else none
  else none
  else none
  else none
  else none
  else none
  else none
  else none
  else none
  else none
  else none
  else none
  else none
  else none
  else none
  else none
  else none
  else none
  else none
  else none
  else none
  else none
  else none
  else none
  else none
  else
  some (.inr (s0, s1, s2, s3, s4))
def L58_16 : (List Int) × (List Int) × (List Int) × (List Int) × Int → Option (((List Int) × (List Int) × (List Int) × (List Int) × Int)) := Lim (fun s => L58_16_r s.1 s.2.1 s.2.2.1 s.2.2.2.1 s.2.2.2.2)
def L58_16_sum : Sum := limSum L58_16_sh L58_16_pk (fun s => L58_16_r s.1 s.2.1 s.2.2.1 s.2.2.2.1 s.2.2.2.2) L58_16_leave
theorem L58_16_nat : Natural L58_16_sum := natural_lim fun x R K => by
  rfl
theorem L58_16_dok : ∀ e st x, e ≠ .normal → L58_16_d e st = some x → ∀ R (K : Cont R), K e st = L58_16_leave x R K := by
  intro e st x _ h R K
  unfold L58_16_d at h
  split at h
  · split at h
    · rename_i s hs; cases h; rw [unSt_some hs]; rfl
    · cases h
  · cases h
def L58_7_sh : Shape := [(.slot 0, .dat (.list (.int .u32))), (.slot 5, .own 69 (.int .u32)), (.slot 7, .dat (.int .i64))]
def L58_7_x0 : Shape := [(.slot 0, .dat (.list (.int .u32))), (.slot 5, .own 69 (.int .u32)), (.slot 7, .dat (.int .i64))]
def L58_7_pk (s : Tup L58_7_sh) : (List Int) × (List Int) × Int := (s.1, s.2.1, s.2.2.1)
def L58_7_un (s : (List Int) × (List Int) × Int) : Tup L58_7_sh := (s.1, (s.2.1, (s.2.2, ())))
def L58_7_leave (x : ((List Int) × (List Int) × Int)) (R : Type) (K : Cont R) : Option R := match x with
  | a => K (.exit 2) (mkSt L58_7_x0 (a.1, (a.2.1, (a.2.2, ()))))
def L58_7_d (e : Exit) (st : St) : Option (((List Int) × (List Int) × Int)) := match e with
  | .exit 2 => (match unSt L58_7_x0 st with
    | some s => some (s.1, s.2.1, s.2.2.1)
    | none => none)
  | _ => none
def L58_7_r (s0 : (List Int)) (s1 : (List Int)) (s2 : Int) : Option (((List Int) × (List Int) × Int) ⊕ (((List Int) × (List Int) × Int))) :=
  let v29 : Bool := (decide (s2 < (64 : Int)))
  bif v29 then
  let v30 : Int := (IntKind.i64.wrap (s2 - (15 : Int)))
  bif (decide (0 ≤ v30) && decide (v30 < (List.length s1))) then
  bif (decide ((Int.toNat v30) < List.length s1)) then
  let v31 : Int := (List.getD s1 (Int.toNat v30) (0 : Int))
  bif (P69 v31 (7 : Int)) then
  let v32 : Int := (F69 v31 (7 : Int))
  let v33 : Int := (IntKind.i64.wrap (s2 - (15 : Int)))
  bif (decide (0 ≤ v33) && decide (v33 < (List.length s1))) then
  bif (decide ((Int.toNat v33) < List.length s1)) then
  let v34 : Int := (List.getD s1 (Int.toNat v33) (0 : Int))
  bif (P69 v34 (18 : Int)) then
  let v35 : Int := (F69 v34 (18 : Int))
  let v36 : Int := (bits .xor .u32 v32 v35)
  let v37 : Int := (IntKind.i64.wrap (s2 - (15 : Int)))
  bif (decide (0 ≤ v37) && decide (v37 < (List.length s1))) then
  bif (decide ((Int.toNat v37) < List.length s1)) then
  let v38 : Int := (List.getD s1 (Int.toNat v37) (0 : Int))
  let v39 : Int := (Int.fdiv v38 (2 ^ min (Int.toNat (3 : Int)) (IntKind.u32.bits)))
  let v40 : Int := (bits .xor .u32 v36 v39)
  let v41 : Int := (IntKind.i64.wrap (s2 - (2 : Int)))
  bif (decide (0 ≤ v41) && decide (v41 < (List.length s1))) then
  bif (decide ((Int.toNat v41) < List.length s1)) then
  let v42 : Int := (List.getD s1 (Int.toNat v41) (0 : Int))
  bif (P69 v42 (17 : Int)) then
  let v43 : Int := (F69 v42 (17 : Int))
  let v44 : Int := (IntKind.i64.wrap (s2 - (2 : Int)))
  bif (decide (0 ≤ v44) && decide (v44 < (List.length s1))) then
  bif (decide ((Int.toNat v44) < List.length s1)) then
  let v45 : Int := (List.getD s1 (Int.toNat v44) (0 : Int))
  bif (P69 v45 (19 : Int)) then
  let v46 : Int := (F69 v45 (19 : Int))
  let v47 : Int := (bits .xor .u32 v43 v46)
  let v48 : Int := (IntKind.i64.wrap (s2 - (2 : Int)))
  bif (decide (0 ≤ v48) && decide (v48 < (List.length s1))) then
  bif (decide ((Int.toNat v48) < List.length s1)) then
  let v49 : Int := (List.getD s1 (Int.toNat v48) (0 : Int))
  let v50 : Int := (Int.fdiv v49 (2 ^ min (Int.toNat (10 : Int)) (IntKind.u32.bits)))
  let v51 : Int := (bits .xor .u32 v47 v50)
  let v52 : Int := (IntKind.i64.wrap (s2 - (16 : Int)))
  bif (decide (0 ≤ v52) && decide (v52 < (List.length s1))) then
  bif (decide ((Int.toNat v52) < List.length s1)) then
  let v53 : Int := (List.getD s1 (Int.toNat v52) (0 : Int))
  let v54 : Int := (IntKind.u32.wrap (v53 + v40))
  let v55 : Int := (IntKind.i64.wrap (s2 - (7 : Int)))
  bif (decide (0 ≤ v55) && decide (v55 < (List.length s1))) then
  bif (decide ((Int.toNat v55) < List.length s1)) then
  let v56 : Int := (List.getD s1 (Int.toNat v55) (0 : Int))
  let v57 : Int := (IntKind.u32.wrap (v54 + v56))
  let v58 : Int := (IntKind.u32.wrap (v57 + v51))
  let v59 : (List Int) := (List.set (List.replicate 1 (0 : Int)) 0 v58)
  bif (decide (List.length (List.take (List.length s1) s1) + List.length v59 ≤ 100000000000)) then
  let v60 : (List Int) := ((List.take (List.length s1) s1) ++ v59)
  let v61 : Int := (IntKind.i64.wrap (s2 + (1 : Int)))
  some (.inl (s0, v60, v61))
  else none
  else none
  else none
  else none
  else none
  else none
  else none
  else none
  else none
  else none
  else none
  else none
  else none
  else none
  else none
  else none
  else none
  else none
  else none
  else none
  else none
  else
  some (.inr (s0, s1, s2))
def L58_7 : (List Int) × (List Int) × Int → Option (((List Int) × (List Int) × Int)) := Lim (fun s => L58_7_r s.1 s.2.1 s.2.2)
def L58_7_sum : Sum := limSum L58_7_sh L58_7_pk (fun s => L58_7_r s.1 s.2.1 s.2.2) L58_7_leave
theorem L58_7_nat : Natural L58_7_sum := natural_lim fun x R K => by
  rfl
theorem L58_7_dok : ∀ e st x, e ≠ .normal → L58_7_d e st = some x → ∀ R (K : Cont R), K e st = L58_7_leave x R K := by
  intro e st x _ h R K
  unfold L58_7_d at h
  split at h
  · split at h
    · rename_i s hs; cases h; rw [unSt_some hs]; rfl
    · cases h
  · cases h
def L58_3_sh : Shape := [(.slot 0, .dat (.list (.int .u32))), (.slot 1, .dat (.list (.int .u8))), (.slot 5, .own 69 (.int .u32)), (.slot 6, .dat (.int .i64))]
def L58_3_x0 : Shape := [(.slot 0, .dat (.list (.int .u32))), (.slot 1, .dat (.list (.int .u8))), (.slot 5, .own 69 (.int .u32)), (.slot 6, .dat (.int .i64))]
def L58_3_pk (s : Tup L58_3_sh) : (List Int) × (List Int) × (List Int) × Int := (s.1, s.2.1, s.2.2.1, s.2.2.2.1)
def L58_3_un (s : (List Int) × (List Int) × (List Int) × Int) : Tup L58_3_sh := (s.1, (s.2.1, (s.2.2.1, (s.2.2.2, ()))))
def L58_3_leave (x : ((List Int) × (List Int) × (List Int) × Int)) (R : Type) (K : Cont R) : Option R := match x with
  | a => K (.exit 0) (mkSt L58_3_x0 (a.1, (a.2.1, (a.2.2.1, (a.2.2.2, ())))))
def L58_3_d (e : Exit) (st : St) : Option (((List Int) × (List Int) × (List Int) × Int)) := match e with
  | .exit 0 => (match unSt L58_3_x0 st with
    | some s => some (s.1, s.2.1, s.2.2.1, s.2.2.2.1)
    | none => none)
  | _ => none
def L58_3_r (s0 : (List Int)) (s1 : (List Int)) (s2 : (List Int)) (s3 : Int) : Option (((List Int) × (List Int) × (List Int) × Int) ⊕ (((List Int) × (List Int) × (List Int) × Int))) :=
  let v3 : Bool := (decide (s3 < (16 : Int)))
  bif v3 then
  let v4 : Int := (IntKind.i64.wrap ((4 : Int) * s3))
  bif (decide (0 ≤ v4) && decide (v4 < List.length s1)) then
  let v5 : Int := (List.getD s1 (Int.toNat v4) (0 : Int))
  let v6 : Int := (IntKind.u32.wrap v5)
  let v7 : Int := (IntKind.u32.wrap (v6 * 2 ^ min (Int.toNat (24 : Int)) (IntKind.u32.bits)))
  let v8 : Int := (IntKind.i64.wrap ((4 : Int) * s3))
  let v9 : Int := (IntKind.i64.wrap (v8 + (1 : Int)))
  bif (decide (0 ≤ v9) && decide (v9 < List.length s1)) then
  let v10 : Int := (List.getD s1 (Int.toNat v9) (0 : Int))
  let v11 : Int := (IntKind.u32.wrap v10)
  let v12 : Int := (IntKind.u32.wrap (v11 * 2 ^ min (Int.toNat (16 : Int)) (IntKind.u32.bits)))
  let v13 : Int := (bits .or .u32 v7 v12)
  let v14 : Int := (IntKind.i64.wrap ((4 : Int) * s3))
  let v15 : Int := (IntKind.i64.wrap (v14 + (2 : Int)))
  bif (decide (0 ≤ v15) && decide (v15 < List.length s1)) then
  let v16 : Int := (List.getD s1 (Int.toNat v15) (0 : Int))
  let v17 : Int := (IntKind.u32.wrap v16)
  let v18 : Int := (IntKind.u32.wrap (v17 * 2 ^ min (Int.toNat (8 : Int)) (IntKind.u32.bits)))
  let v19 : Int := (bits .or .u32 v13 v18)
  let v20 : Int := (IntKind.i64.wrap ((4 : Int) * s3))
  let v21 : Int := (IntKind.i64.wrap (v20 + (3 : Int)))
  bif (decide (0 ≤ v21) && decide (v21 < List.length s1)) then
  let v22 : Int := (List.getD s1 (Int.toNat v21) (0 : Int))
  let v23 : Int := (IntKind.u32.wrap v22)
  let v24 : Int := (bits .or .u32 v19 v23)
  let v25 : (List Int) := (List.set (List.replicate 1 (0 : Int)) 0 v24)
  bif (decide (List.length (List.take (List.length s2) s2) + List.length v25 ≤ 100000000000)) then
  let v26 : (List Int) := ((List.take (List.length s2) s2) ++ v25)
  let v27 : Int := (IntKind.i64.wrap (s3 + (1 : Int)))
  some (.inl (s0, s1, v26, v27))
  else none
  else none
  else none
  else none
  else none
  else
  some (.inr (s0, s1, s2, s3))
def L58_3 : (List Int) × (List Int) × (List Int) × Int → Option (((List Int) × (List Int) × (List Int) × Int)) := Lim (fun s => L58_3_r s.1 s.2.1 s.2.2.1 s.2.2.2)
def L58_3_sum : Sum := limSum L58_3_sh L58_3_pk (fun s => L58_3_r s.1 s.2.1 s.2.2.1 s.2.2.2) L58_3_leave
theorem L58_3_nat : Natural L58_3_sum := natural_lim fun x R K => by
  rfl
theorem L58_3_dok : ∀ e st x, e ≠ .normal → L58_3_d e st = some x → ∀ R (K : Cont R), K e st = L58_3_leave x R K := by
  intro e st x _ h R K
  unfold L58_3_d at h
  split at h
  · split at h
    · rename_i s hs; cases h; rw [unSt_some hs]; rfl
    · cases h
  · cases h
def loops58 : Nat → Option (Sum) := fun | 3 => some L58_3_sum | 7 => some L58_7_sum | 16 => some L58_16_sum | 25 => some L58_25_sum | _ => none
theorem loops58_nat : ∀ q f, loops58 q = some f → Natural f := by
  intro q f h
  unfold loops58 at h
  split at h
  · cases h; exact L58_3_nat
  · cases h; exact L58_7_nat
  · cases h; exact L58_16_nat
  · cases h; exact L58_25_nat
  · cases h
noncomputable def L58_3_code : Code := (loopsOf body58).getD 0 .skip
theorem L58_3_round (s0 : (List Int)) (s1 : (List Int)) (s2 : (List Int)) (s3 : Int) : ev2 env58 orc58 loops58 L58_3_code (mkSt L58_3_sh (s0, (s1, (s2, (s3, ()))))) (back L58_3_sh L58_3_pk L58_3_d) = L58_3_r s0 s1 s2 s3 := by kernel_rfl
theorem L58_3_ok : SumOk env58 orc58 loops58 L58_3_code L58_3_sum := sumOk_lim (un := L58_3_un) loops58_nat (fun _ => rfl) L58_3_dok fun s => L58_3_round s.1 s.2.1 s.2.2.1 s.2.2.2
noncomputable def L58_7_code : Code := (loopsOf body58).getD 1 .skip
theorem L58_7_round (s0 : (List Int)) (s1 : (List Int)) (s2 : Int) : ev2 env58 orc58 loops58 L58_7_code (mkSt L58_7_sh (s0, (s1, (s2, ())))) (back L58_7_sh L58_7_pk L58_7_d) = L58_7_r s0 s1 s2 := by kernel_rfl
theorem L58_7_ok : SumOk env58 orc58 loops58 L58_7_code L58_7_sum := sumOk_lim (un := L58_7_un) loops58_nat (fun _ => rfl) L58_7_dok fun s => L58_7_round s.1 s.2.1 s.2.2
noncomputable def L58_16_code : Code := (loopsOf body58).getD 2 .skip
theorem L58_16_round (s0 : (List Int)) (s1 : (List Int)) (s2 : (List Int)) (s3 : (List Int)) (s4 : Int) : ev2 env58 orc58 loops58 L58_16_code (mkSt L58_16_sh (s0, (s1, (s2, (s3, (s4, ())))))) (back L58_16_sh L58_16_pk L58_16_d) = L58_16_r s0 s1 s2 s3 s4 := by kernel_rfl
theorem L58_16_ok : SumOk env58 orc58 loops58 L58_16_code L58_16_sum := sumOk_lim (un := L58_16_un) loops58_nat (fun _ => rfl) L58_16_dok fun s => L58_16_round s.1 s.2.1 s.2.2.1 s.2.2.2.1 s.2.2.2.2
noncomputable def L58_25_code : Code := (loopsOf body58).getD 3 .skip
theorem L58_25_round (s0 : (List Int)) (s1 : (List Int)) (s2 : (List Int)) (s3 : Int) : ev2 env58 orc58 loops58 L58_25_code (mkSt L58_25_sh (s0, (s1, (s2, (s3, ()))))) (back L58_25_sh L58_25_pk L58_25_d) = L58_25_r s0 s1 s2 s3 := by kernel_rfl
theorem L58_25_ok : SumOk env58 orc58 loops58 L58_25_code L58_25_sum := sumOk_lim (un := L58_25_un) loops58_nat (fun _ => rfl) L58_25_dok fun s => L58_25_round s.1 s.2.1 s.2.2.1 s.2.2.2
theorem loops58_all : loopsOf body58 = [L58_3_code, L58_7_code, L58_16_code, L58_25_code] := by kernel_rfl
theorem L58_3_key : lookL loops58 (keyOf L58_3_code) = some L58_3_sum := by kernel_rfl
theorem L58_7_key : lookL loops58 (keyOf L58_7_code) = some L58_7_sum := by kernel_rfl
theorem L58_16_key : lookL loops58 (keyOf L58_16_code) = some L58_16_sum := by kernel_rfl
theorem L58_25_key : lookL loops58 (keyOf L58_25_code) = some L58_25_sum := by kernel_rfl
theorem loops58_ok : LoopsOk env58 orc58 loops58 body58 := by
  intro c hc f hf
  rw [loops58_all] at hc
  simp only [List.mem_cons, List.not_mem_nil, or_false] at hc
  rcases hc with rfl | rfl | rfl | rfl
  · rw [L58_3_key] at hf; cases hf; exact L58_3_ok
  · rw [L58_7_key] at hf; cases hf; exact L58_7_ok
  · rw [L58_16_key] at hf; cases hf; exact L58_16_ok
  · rw [L58_25_key] at hf; cases hf; exact L58_25_ok
def G58 (x0 : (List Int)) (x1 : (List Int)) : Option ((List Int)) :=
  let v1 : (List Int) := ([] : (List Int))
  let v2 : (List Int) := ([] : (List Int))
  Option.bind (L58_3 (x0, x1, v2, (0 : Int))) fun (r28 : (List Int) × (List Int) × (List Int) × Int) =>
  Option.bind (L58_7 (r28.1, r28.2.2.1, (16 : Int))) fun (r62 : (List Int) × (List Int) × Int) =>
  bif (P70 ) then
  let v63 : (List Int) := ([] : (List Int))
  bif (decide (List.length (List.take (List.length v63) v63) + List.length r62.1 ≤ 100000000000)) then
  let v64 : (List Int) := ((List.take (List.length v63) v63) ++ r62.1)
  Option.bind (L58_16 (r62.1, r62.2.1, F70, v64, (0 : Int))) fun (r110 : (List Int) × (List Int) × (List Int) × (List Int) × Int) =>
  let v111 : (List Int) := ([] : (List Int))
  Option.bind (L58_25 (r110.1, r110.2.2.2.1, v111, (0 : Int))) fun (r119 : (List Int) × (List Int) × (List Int) × Int) =>
  let v120 : (List Int) := (List.take (List.length r119.2.2.1) r119.2.2.1)
  some (v120)
  else none
  else none
theorem ev58 (x0 : (List Int)) (x1 : (List Int)) : ev2 env58 orc58 loops58 body58 (initSt 0 [⟨(.list (.int .u32)), x0⟩, ⟨(.list (.int .u8)), x1⟩]) (retT [(4, .dat (.list (.int .u32)))] [(.list (.int .u32))] fun x => x.1) = G58 x0 x1 := by kernel_rfl
def P58 (x0 : (List Int)) (x1 : (List Int)) : Bool := (hold (G58 x0 x1)).isSome
def F58 (x0 : (List Int)) (x1 : (List Int)) : (List Int) := (hold (G58 x0 x1)).getD default
theorem G58_some (x0 : (List Int)) (x1 : (List Int)) (h : P58 x0 x1 = true) : G58 x0 x1 = some (F58 x0 x1) := by
  unfold P58 at h; unfold F58
  rw [hold_eq] at h ⊢
  exact some_getD h
theorem P58_of (x0 : (List Int)) (x1 : (List Int)) {r : (List Int)} (h : G58 x0 x1 = some r) : P58 x0 x1 = true := by unfold P58; rw [hold_eq, h]; rfl
theorem F58_of (x0 : (List Int)) (x1 : (List Int)) {r : (List Int)} (h : G58 x0 x1 = some r) : F58 x0 x1 = r := by unfold F58; rw [hold_eq, h]; rfl
def spec58 : Spec := ⟨[(.list (.int .u32)), (.list (.int .u8))], [.dat (.list (.int .u32))], fun | [a0, a1] => P58 (a0.as (.list (.int .u32))) (a1.as (.list (.int .u8))) | _ => false, fun | [a0, a1] => [⟨(.list (.int .u32)), (F58 (a0.as (.list (.int .u32))) (a1.as (.list (.int .u8))))⟩] | _ => []⟩
theorem meets58 (hE : EnvOk Tryd.prog env58) (hm : Tryd.prog.follows .mixedOrders = true) : Meets Tryd.prog glob 58 spec58 :=
  meets_of_ev2 (O := orc58) (L := loops58) (c := body58) (slots := [4]) hE hm Tryd.func58 Tryd.call58 (by kernel_rfl) (by kernel_rfl) loops58_ok (rangesOk_nil (by kernel_rfl)) (by kernel_rfl) rfl (by decide) (fun ds hds hpre => by
  obtain ⟨x0, ds0, rfl, h0⟩ := datsS hds
  obtain ⟨x1, ds1, rfl, h1⟩ := datsS h0
  have h9 := dats0 h1; subst h9
  exact ev_ret (un := fun r => [⟨(.list (.int .u32)), r⟩]) loops58_nat (fun _ => rfl) ((ev58 x0 x1).trans (G58_some x0 x1 hpre)))
def env33 : Env := {
  tab := tab
  glob := glob
  spec := fun
    | 57 => some spec57
    | 58 => some spec58
    | _ => none }

def orc33 : Orc := ⟨56, fun _ => none, fun
  | 0 => kp [0] []
  | 1 => kp [0, 3] []
  | 2 => kp [3, 4] []
  | 3 => [(.slot 3, .frz)] ++ kp [4, 5] []
  | 4 => kp [3, 4, 5, 14] []
  | 5 => kp [3, 4, 5] []
  | 6 => kp [3, 4, 5] []
  | 7 => kp [3, 6] []
  | 8 => kp [3, 6, 7] []
  | 9 => kp [3, 6, 7, 25] []
  | 10 => kp [3, 6, 7] []
  | 11 => kp [3, 6, 7] []
  | 12 => kp [2] []
  | _ => [], fun | _ => false⟩
noncomputable def body33 : Code := Tryd.f33.body.getD .skip
def L33_9_sh : Shape := [(.slot 3, .dat (.list (.int .u32))), (.slot 6, .own 5 (.int .u8)), (.slot 7, .dat (.int .i64))]
def L33_9_x0 : Shape := [(.slot 3, .dat (.list (.int .u32))), (.slot 6, .own 5 (.int .u8)), (.slot 7, .dat (.int .i64))]
def L33_9_pk (s : Tup L33_9_sh) : (List Int) × (List Int) × Int := (s.1, s.2.1, s.2.2.1)
def L33_9_un (s : (List Int) × (List Int) × Int) : Tup L33_9_sh := (s.1, (s.2.1, (s.2.2, ())))
def L33_9_leave (x : ((List Int) × (List Int) × Int)) (R : Type) (K : Cont R) : Option R := match x with
  | a => K (.exit 2) (mkSt L33_9_x0 (a.1, (a.2.1, (a.2.2, ()))))
def L33_9_d (e : Exit) (st : St) : Option (((List Int) × (List Int) × Int)) := match e with
  | .exit 2 => (match unSt L33_9_x0 st with
    | some s => some (s.1, s.2.1, s.2.2.1)
    | none => none)
  | _ => none
def L33_9_r (s0 : (List Int)) (s1 : (List Int)) (s2 : Int) : Option (((List Int) × (List Int) × Int) ⊕ (((List Int) × (List Int) × Int))) :=
  let v11 : Bool := (decide (s2 < (8 : Int)))
  bif v11 then
  bif (decide (0 ≤ s2) && decide (s2 < List.length s0)) then
  let v12 : Int := (List.getD s0 (Int.toNat s2) (0 : Int))
  let v13 : Int := (Int.fdiv v12 (2 ^ min (Int.toNat (24 : Int)) (IntKind.u32.bits)))
  let v14 : Int := (IntKind.u8.wrap v13)
  bif (decide (0 ≤ s2) && decide (s2 < List.length s0)) then
  let v15 : Int := (List.getD s0 (Int.toNat s2) (0 : Int))
  let v16 : Int := (Int.fdiv v15 (2 ^ min (Int.toNat (16 : Int)) (IntKind.u32.bits)))
  let v17 : Int := (IntKind.u8.wrap v16)
  bif (decide (0 ≤ s2) && decide (s2 < List.length s0)) then
  let v18 : Int := (List.getD s0 (Int.toNat s2) (0 : Int))
  let v19 : Int := (Int.fdiv v18 (2 ^ min (Int.toNat (8 : Int)) (IntKind.u32.bits)))
  let v20 : Int := (IntKind.u8.wrap v19)
  bif (decide (0 ≤ s2) && decide (s2 < List.length s0)) then
  let v21 : Int := (List.getD s0 (Int.toNat s2) (0 : Int))
  let v22 : Int := (IntKind.u8.wrap v21)
  let v23 : (List Int) := (List.set (List.set (List.set (List.set (List.replicate 4 (0 : Int)) 0 v14) 1 v17) 2 v20) 3 v22)
  bif (decide (List.length (List.take (List.length s1) s1) + List.length v23 ≤ 100000000000)) then
  let v24 : (List Int) := ((List.take (List.length s1) s1) ++ v23)
  let v25 : Int := (IntKind.i64.wrap (s2 + (1 : Int)))
  some (.inl (s0, v24, v25))
  else none
  else none
  else none
  else none
  else none
  else
  some (.inr (s0, s1, s2))
def L33_9 : (List Int) × (List Int) × Int → Option (((List Int) × (List Int) × Int)) := Lim (fun s => L33_9_r s.1 s.2.1 s.2.2)
def L33_9_sum : Sum := limSum L33_9_sh L33_9_pk (fun s => L33_9_r s.1 s.2.1 s.2.2) L33_9_leave
theorem L33_9_nat : Natural L33_9_sum := natural_lim fun x R K => by
  rfl
theorem L33_9_dok : ∀ e st x, e ≠ .normal → L33_9_d e st = some x → ∀ R (K : Cont R), K e st = L33_9_leave x R K := by
  intro e st x _ h R K
  unfold L33_9_d at h
  split at h
  · split at h
    · rename_i s hs; cases h; rw [unSt_some hs]; rfl
    · cases h
  · cases h
def L33_4_sh : Shape := [(.slot 3, .dat (.list (.int .u32))), (.slot 4, .dat (.list (.int .u8))), (.slot 5, .dat (.int .i64))]
def L33_4_x0 : Shape := [(.slot 3, .dat (.list (.int .u32))), (.slot 4, .dat (.list (.int .u8))), (.slot 5, .dat (.int .i64))]
def L33_4_pk (s : Tup L33_4_sh) : (List Int) × (List Int) × Int := (s.1, s.2.1, s.2.2.1)
def L33_4_un (s : (List Int) × (List Int) × Int) : Tup L33_4_sh := (s.1, (s.2.1, (s.2.2, ())))
def L33_4_leave (x : ((List Int) × (List Int) × Int)) (R : Type) (K : Cont R) : Option R := match x with
  | a => K (.exit 0) (mkSt L33_4_x0 (a.1, (a.2.1, (a.2.2, ()))))
def L33_4_d (e : Exit) (st : St) : Option (((List Int) × (List Int) × Int)) := match e with
  | .exit 0 => (match unSt L33_4_x0 st with
    | some s => some (s.1, s.2.1, s.2.2.1)
    | none => none)
  | _ => none
def L33_4_r (s0 : (List Int)) (s1 : (List Int)) (s2 : Int) : Option (((List Int) × (List Int) × Int) ⊕ (((List Int) × (List Int) × Int))) :=
  let v3 : Int := ((List.length s1 : Nat) : Int)
  let v4 : Bool := (decide (s2 < v3))
  bif v4 then
  let v5 : Int := (IntKind.i64.wrap (s2 + (64 : Int)))
  bif (sliceTest s2 v5 (List.length s1)) then
  let v6 : (List Int) := (cut s1 s2 v5)
  bif (P58 s0 v6) then
  let v7 : (List Int) := (F58 s0 v6)
  let v8 : Int := (IntKind.i64.wrap (s2 + (64 : Int)))
  some (.inl (v7, s1, v8))
  else none
  else none
  else
  some (.inr (s0, s1, s2))
def L33_4 : (List Int) × (List Int) × Int → Option (((List Int) × (List Int) × Int)) := Lim (fun s => L33_4_r s.1 s.2.1 s.2.2)
def L33_4_sum : Sum := limSum L33_4_sh L33_4_pk (fun s => L33_4_r s.1 s.2.1 s.2.2) L33_4_leave
theorem L33_4_nat : Natural L33_4_sum := natural_lim fun x R K => by
  rfl
theorem L33_4_dok : ∀ e st x, e ≠ .normal → L33_4_d e st = some x → ∀ R (K : Cont R), K e st = L33_4_leave x R K := by
  intro e st x _ h R K
  unfold L33_4_d at h
  split at h
  · split at h
    · rename_i s hs; cases h; rw [unSt_some hs]; rfl
    · cases h
  · cases h
def loops33 : Nat → Option (Sum) := fun | 4 => some L33_4_sum | 9 => some L33_9_sum | _ => none
theorem loops33_nat : ∀ q f, loops33 q = some f → Natural f := by
  intro q f h
  unfold loops33 at h
  split at h
  · cases h; exact L33_4_nat
  · cases h; exact L33_9_nat
  · cases h
noncomputable def L33_4_code : Code := (loopsOf body33).getD 0 .skip
theorem L33_4_round (s0 : (List Int)) (s1 : (List Int)) (s2 : Int) : ev2 env33 orc33 loops33 L33_4_code (mkSt L33_4_sh (s0, (s1, (s2, ())))) (back L33_4_sh L33_4_pk L33_4_d) = L33_4_r s0 s1 s2 := by kernel_rfl
theorem L33_4_ok : SumOk env33 orc33 loops33 L33_4_code L33_4_sum := sumOk_lim (un := L33_4_un) loops33_nat (fun _ => rfl) L33_4_dok fun s => L33_4_round s.1 s.2.1 s.2.2
noncomputable def L33_9_code : Code := (loopsOf body33).getD 1 .skip
theorem L33_9_round (s0 : (List Int)) (s1 : (List Int)) (s2 : Int) : ev2 env33 orc33 loops33 L33_9_code (mkSt L33_9_sh (s0, (s1, (s2, ())))) (back L33_9_sh L33_9_pk L33_9_d) = L33_9_r s0 s1 s2 := by kernel_rfl
theorem L33_9_ok : SumOk env33 orc33 loops33 L33_9_code L33_9_sum := sumOk_lim (un := L33_9_un) loops33_nat (fun _ => rfl) L33_9_dok fun s => L33_9_round s.1 s.2.1 s.2.2
theorem loops33_all : loopsOf body33 = [L33_4_code, L33_9_code] := by kernel_rfl
theorem L33_4_key : lookL loops33 (keyOf L33_4_code) = some L33_4_sum := by kernel_rfl
theorem L33_9_key : lookL loops33 (keyOf L33_9_code) = some L33_9_sum := by kernel_rfl
theorem loops33_ok : LoopsOk env33 orc33 loops33 body33 := by
  intro c hc f hf
  rw [loops33_all] at hc
  simp only [List.mem_cons, List.not_mem_nil, or_false] at hc
  rcases hc with rfl | rfl
  · rw [L33_4_key] at hf; cases hf; exact L33_4_ok
  · rw [L33_9_key] at hf; cases hf; exact L33_9_ok
def G33 (x0 : (List UInt8)) : Option ((List UInt8)) :=
  let v1 : (List Int) := (List.set (List.set (List.set (List.set (List.set (List.set (List.set (List.set (List.replicate 8 (0 : Int)) 0 (1779033703 : Int)) 1 (3144134277 : Int)) 2 (1013904242 : Int)) 3 (2773480762 : Int)) 4 (1359893119 : Int)) 5 (2600822924 : Int)) 6 (528734635 : Int)) 7 (1541459225 : Int))
  bif (P57 x0) then
  let v2 : (List Int) := (F57 x0)
  Option.bind (L33_4 (v1, v2, (0 : Int))) fun (r9 : (List Int) × (List Int) × Int) =>
  let v10 : (List Int) := ([] : (List Int))
  Option.bind (L33_9 (r9.1, v10, (0 : Int))) fun (r26 : (List Int) × (List Int) × Int) =>
  let v27 : (List UInt8) := (List.map (fun (n : Int) => UInt8.ofNat n.toNat) (List.take (List.length r26.2.1) r26.2.1))
  some (v27)
  else none
theorem ev33 (x0 : (List UInt8)) : ev2 env33 orc33 loops33 body33 (initSt 0 [⟨.str, x0⟩]) (retT [(2, .dat .str)] [.str] fun x => x.1) = G33 x0 := by kernel_rfl
def P33 (x0 : (List UInt8)) : Bool := (hold (G33 x0)).isSome
def F33 (x0 : (List UInt8)) : (List UInt8) := (hold (G33 x0)).getD default
theorem G33_some (x0 : (List UInt8)) (h : P33 x0 = true) : G33 x0 = some (F33 x0) := by
  unfold P33 at h; unfold F33
  rw [hold_eq] at h ⊢
  exact some_getD h
theorem P33_of (x0 : (List UInt8)) {r : (List UInt8)} (h : G33 x0 = some r) : P33 x0 = true := by unfold P33; rw [hold_eq, h]; rfl
theorem F33_of (x0 : (List UInt8)) {r : (List UInt8)} (h : G33 x0 = some r) : F33 x0 = r := by unfold F33; rw [hold_eq, h]; rfl
def spec33 : Spec := ⟨[.str], [.dat .str], fun | [a0] => P33 (a0.as .str) | _ => false, fun | [a0] => [⟨.str, (F33 (a0.as .str))⟩] | _ => []⟩
theorem meets33 (hE : EnvOk Tryd.prog env33) (hm : Tryd.prog.follows .mixedOrders = true) : Meets Tryd.prog glob 33 spec33 :=
  meets_of_ev2 (O := orc33) (L := loops33) (c := body33) (slots := [2]) hE hm Tryd.func33 Tryd.call33 (by kernel_rfl) (by kernel_rfl) loops33_ok (rangesOk_nil (by kernel_rfl)) (by kernel_rfl) rfl (by decide) (fun ds hds hpre => by
  obtain ⟨x0, ds0, rfl, h0⟩ := datsS hds
  have h9 := dats0 h0; subst h9
  exact ev_ret (un := fun r => [⟨.str, r⟩]) loops33_nat (fun _ => rfl) ((ev33 x0).trans (G33_some x0 hpre)))
def env34 : Env := {
  tab := tab
  glob := glob
  spec := fun
    | 33 => some spec33
    | _ => none }

def orc34 : Orc := ⟨6, fun _ => none, fun
  | 0 => kp [0] []
  | 1 => kp [2] []
  | _ => [], fun | _ => false⟩
noncomputable def body34 : Code := Tryd.f34.body.getD .skip
def loops34 : Nat → Option (Sum) := fun | _ => none
theorem loops34_nat : ∀ q f, loops34 q = some f → Natural f := by
  intro q f h
  cases h
theorem loops34_ok : LoopsOk env34 orc34 loops34 body34 := loopsOk_nil (by kernel_rfl)
def G34 (x0 : (List UInt8)) : Option ((List UInt8)) :=
  bif (decide (List.length ([0] : List UInt8) + List.length x0 ≤ 9223372036854775807)) then
  let v1 : (List UInt8) := (([0] : List UInt8) ++ x0)
  bif (P33 v1) then
  let v2 : (List UInt8) := (F33 v1)
  some (v2)
  else none
  else none
theorem ev34 (x0 : (List UInt8)) : ev2 env34 orc34 loops34 body34 (initSt 0 [⟨.str, x0⟩]) (retT [(2, .dat .str)] [.str] fun x => x.1) = G34 x0 := by kernel_rfl
def P34 (x0 : (List UInt8)) : Bool := (hold (G34 x0)).isSome
def F34 (x0 : (List UInt8)) : (List UInt8) := (hold (G34 x0)).getD default
theorem G34_some (x0 : (List UInt8)) (h : P34 x0 = true) : G34 x0 = some (F34 x0) := by
  unfold P34 at h; unfold F34
  rw [hold_eq] at h ⊢
  exact some_getD h
theorem P34_of (x0 : (List UInt8)) {r : (List UInt8)} (h : G34 x0 = some r) : P34 x0 = true := by unfold P34; rw [hold_eq, h]; rfl
theorem F34_of (x0 : (List UInt8)) {r : (List UInt8)} (h : G34 x0 = some r) : F34 x0 = r := by unfold F34; rw [hold_eq, h]; rfl
def spec34 : Spec := ⟨[.str], [.dat .str], fun | [a0] => P34 (a0.as .str) | _ => false, fun | [a0] => [⟨.str, (F34 (a0.as .str))⟩] | _ => []⟩
theorem meets34 (hE : EnvOk Tryd.prog env34) (hm : Tryd.prog.follows .mixedOrders = true) : Meets Tryd.prog glob 34 spec34 :=
  meets_of_ev2 (O := orc34) (L := loops34) (c := body34) (slots := [2]) hE hm Tryd.func34 Tryd.call34 (by kernel_rfl) (by kernel_rfl) loops34_ok (rangesOk_nil (by kernel_rfl)) (by kernel_rfl) rfl (by decide) (fun ds hds hpre => by
  obtain ⟨x0, ds0, rfl, h0⟩ := datsS hds
  have h9 := dats0 h0; subst h9
  exact ev_ret (un := fun r => [⟨.str, r⟩]) loops34_nat (fun _ => rfl) ((ev34 x0).trans (G34_some x0 hpre)))
def env35 : Env := {
  tab := tab
  glob := glob
  spec := fun
    | 33 => some spec33
    | _ => none }

def orc35 : Orc := ⟨10, fun _ => none, fun
  | 0 => kp [0, 1] []
  | 1 => kp [4] []
  | _ => [], fun | _ => false⟩
noncomputable def body35 : Code := Tryd.f35.body.getD .skip
def loops35 : Nat → Option (Sum) := fun | _ => none
theorem loops35_nat : ∀ q f, loops35 q = some f → Natural f := by
  intro q f h
  cases h
theorem loops35_ok : LoopsOk env35 orc35 loops35 body35 := loopsOk_nil (by kernel_rfl)
def G35 (x0 : (List UInt8)) (x1 : (List UInt8)) : Option ((List UInt8)) :=
  bif (decide (List.length ([1] : List UInt8) + List.length x0 ≤ 9223372036854775807)) then
  let v1 : (List UInt8) := (([1] : List UInt8) ++ x0)
  bif (decide (List.length v1 + List.length x1 ≤ 9223372036854775807)) then
  let v2 : (List UInt8) := (v1 ++ x1)
  bif (P33 v2) then
  let v3 : (List UInt8) := (F33 v2)
  some (v3)
  else none
  else none
  else none
theorem ev35 (x0 : (List UInt8)) (x1 : (List UInt8)) : ev2 env35 orc35 loops35 body35 (initSt 0 [⟨.str, x0⟩, ⟨.str, x1⟩]) (retT [(4, .dat .str)] [.str] fun x => x.1) = G35 x0 x1 := by kernel_rfl
def P35 (x0 : (List UInt8)) (x1 : (List UInt8)) : Bool := (hold (G35 x0 x1)).isSome
def F35 (x0 : (List UInt8)) (x1 : (List UInt8)) : (List UInt8) := (hold (G35 x0 x1)).getD default
theorem G35_some (x0 : (List UInt8)) (x1 : (List UInt8)) (h : P35 x0 x1 = true) : G35 x0 x1 = some (F35 x0 x1) := by
  unfold P35 at h; unfold F35
  rw [hold_eq] at h ⊢
  exact some_getD h
theorem P35_of (x0 : (List UInt8)) (x1 : (List UInt8)) {r : (List UInt8)} (h : G35 x0 x1 = some r) : P35 x0 x1 = true := by unfold P35; rw [hold_eq, h]; rfl
theorem F35_of (x0 : (List UInt8)) (x1 : (List UInt8)) {r : (List UInt8)} (h : G35 x0 x1 = some r) : F35 x0 x1 = r := by unfold F35; rw [hold_eq, h]; rfl
def spec35 : Spec := ⟨[.str, .str], [.dat .str], fun | [a0, a1] => P35 (a0.as .str) (a1.as .str) | _ => false, fun | [a0, a1] => [⟨.str, (F35 (a0.as .str) (a1.as .str))⟩] | _ => []⟩
theorem meets35 (hE : EnvOk Tryd.prog env35) (hm : Tryd.prog.follows .mixedOrders = true) : Meets Tryd.prog glob 35 spec35 :=
  meets_of_ev2 (O := orc35) (L := loops35) (c := body35) (slots := [4]) hE hm Tryd.func35 Tryd.call35 (by kernel_rfl) (by kernel_rfl) loops35_ok (rangesOk_nil (by kernel_rfl)) (by kernel_rfl) rfl (by decide) (fun ds hds hpre => by
  obtain ⟨x0, ds0, rfl, h0⟩ := datsS hds
  obtain ⟨x1, ds1, rfl, h1⟩ := datsS h0
  have h9 := dats0 h1; subst h9
  exact ev_ret (un := fun r => [⟨.str, r⟩]) loops35_nat (fun _ => rfl) ((ev35 x0 x1).trans (G35_some x0 x1 hpre)))
def env49 : Env := {
  tab := tab
  glob := glob
  spec := fun
    | _ => none }

def orc49 : Orc := ⟨16, fun _ => none, fun
  | 0 => kp [0] []
  | 1 => kp [0, 3] []
  | 2 => kp [0, 3, 7] []
  | 3 => kp [0, 3] []
  | 4 => kp [0, 3, 15] []
  | 5 => kp [2] []
  | 6 => kp [2] []
  | _ => [], fun | _ => false⟩
noncomputable def body49 : Code := Tryd.f49.body.getD .skip
def L49_2_sh : Shape := [(.slot 0, .dat (.list .str)), (.slot 3, .dat (.int .i64))]
def L49_2_x0 : Shape := [(.slot 2, .dat .bool)]
def L49_2_x1 : Shape := [(.slot 0, .dat (.list .str)), (.slot 3, .dat (.int .i64))]
def L49_2_pk (s : Tup L49_2_sh) : (List (List UInt8)) × Int := (s.1, s.2.1)
def L49_2_un (s : (List (List UInt8)) × Int) : Tup L49_2_sh := (s.1, (s.2, ()))
def L49_2_leave (x : (Bool) ⊕ ((List (List UInt8)) × Int)) (R : Type) (K : Cont R) : Option R := match x with
  | (.inl a) => K .ret (mkSt L49_2_x0 (a, ()))
  | (.inr a) => K (.exit 0) (mkSt L49_2_x1 (a.1, (a.2, ())))
def L49_2_d (e : Exit) (st : St) : Option ((Bool) ⊕ ((List (List UInt8)) × Int)) := match e with
  | .ret => (match unSt L49_2_x0 st with
    | some s => some (.inl s.1)
    | none => none)
  | .exit 0 => (match unSt L49_2_x1 st with
    | some s => some (.inr (s.1, s.2.1))
    | none => none)
  | _ => none
def L49_2_r (s0 : (List (List UInt8))) (s1 : Int) : Option (((List (List UInt8)) × Int) ⊕ ((Bool) ⊕ ((List (List UInt8)) × Int))) :=
  let v1 : Int := ((List.length s0 : Nat) : Int)
  let v2 : Bool := (decide (s1 < v1))
  bif v2 then
  bif (decide (0 ≤ s1) && decide (s1 < List.length s0)) then
  let v3 : (List UInt8) := (List.getD s0 (Int.toNat s1) ([] : List UInt8))
  let v4 : Int := ((List.length v3 : Nat) : Int)
  let v5 : Bool := (v4 != (32 : Int))
  bif v5 then
  some (.inr (.inl false))
  else
  let v6 : Int := (IntKind.i64.wrap (s1 + (1 : Int)))
  some (.inl (s0, v6))
  else none
  else
  some (.inr (.inr (s0, s1)))
def L49_2 : (List (List UInt8)) × Int → Option ((Bool) ⊕ ((List (List UInt8)) × Int)) := Lim (fun s => L49_2_r s.1 s.2)
def L49_2_sum : Sum := limSum L49_2_sh L49_2_pk (fun s => L49_2_r s.1 s.2) L49_2_leave
theorem L49_2_nat : Natural L49_2_sum := natural_lim fun x R K => by
  rcases x with x|x <;> rfl
theorem L49_2_dok : ∀ e st x, e ≠ .normal → L49_2_d e st = some x → ∀ R (K : Cont R), K e st = L49_2_leave x R K := by
  intro e st x _ h R K
  unfold L49_2_d at h
  split at h
  · split at h
    · rename_i s hs; cases h; rw [unSt_some hs]; rfl
    · cases h
  · split at h
    · rename_i s hs; cases h; rw [unSt_some hs]; rfl
    · cases h
  · cases h
def loops49 : Nat → Option (Sum) := fun | 2 => some L49_2_sum | _ => none
theorem loops49_nat : ∀ q f, loops49 q = some f → Natural f := by
  intro q f h
  unfold loops49 at h
  split at h
  · cases h; exact L49_2_nat
  · cases h
noncomputable def L49_2_code : Code := (loopsOf body49).getD 0 .skip
theorem L49_2_round (s0 : (List (List UInt8))) (s1 : Int) : ev2 env49 orc49 loops49 L49_2_code (mkSt L49_2_sh (s0, (s1, ()))) (back L49_2_sh L49_2_pk L49_2_d) = L49_2_r s0 s1 := by kernel_rfl
theorem L49_2_ok : SumOk env49 orc49 loops49 L49_2_code L49_2_sum := sumOk_lim (un := L49_2_un) loops49_nat (fun _ => rfl) L49_2_dok fun s => L49_2_round s.1 s.2
theorem loops49_all : loopsOf body49 = [L49_2_code] := by kernel_rfl
theorem L49_2_key : lookL loops49 (keyOf L49_2_code) = some L49_2_sum := by kernel_rfl
theorem loops49_ok : LoopsOk env49 orc49 loops49 body49 := by
  intro c hc f hf
  rw [loops49_all] at hc
  simp only [List.mem_cons, List.not_mem_nil, or_false] at hc
  subst hc
  · rw [L49_2_key] at hf; cases hf; exact L49_2_ok
def G49 (x0 : (List (List UInt8))) : Option (Bool) :=
  Option.bind (L49_2 (x0, (0 : Int))) fun x => match x with
  | (.inl r7) =>
  some (r7)
  | (.inr r8) =>
  some (true)
theorem ev49 (x0 : (List (List UInt8))) : ev2 env49 orc49 loops49 body49 (initSt 0 [⟨(.list .str), x0⟩]) (retT [(2, .dat .bool)] [.bool] fun x => x.1) = G49 x0 := by kernel_rfl
def P49 (x0 : (List (List UInt8))) : Bool := (hold (G49 x0)).isSome
def F49 (x0 : (List (List UInt8))) : Bool := (hold (G49 x0)).getD default
theorem G49_some (x0 : (List (List UInt8))) (h : P49 x0 = true) : G49 x0 = some (F49 x0) := by
  unfold P49 at h; unfold F49
  rw [hold_eq] at h ⊢
  exact some_getD h
theorem P49_of (x0 : (List (List UInt8))) {r : Bool} (h : G49 x0 = some r) : P49 x0 = true := by unfold P49; rw [hold_eq, h]; rfl
theorem F49_of (x0 : (List (List UInt8))) {r : Bool} (h : G49 x0 = some r) : F49 x0 = r := by unfold F49; rw [hold_eq, h]; rfl
def spec49 : Spec := ⟨[(.list .str)], [.dat .bool], fun | [a0] => P49 (a0.as (.list .str)) | _ => false, fun | [a0] => [⟨.bool, (F49 (a0.as (.list .str)))⟩] | _ => []⟩
theorem meets49 (hE : EnvOk Tryd.prog env49) (hm : Tryd.prog.follows .mixedOrders = true) : Meets Tryd.prog glob 49 spec49 :=
  meets_of_ev2 (O := orc49) (L := loops49) (c := body49) (slots := [2]) hE hm Tryd.func49 Tryd.call49 (by kernel_rfl) (by kernel_rfl) loops49_ok (rangesOk_nil (by kernel_rfl)) (by kernel_rfl) rfl (by decide) (fun ds hds hpre => by
  obtain ⟨x0, ds0, rfl, h0⟩ := datsS hds
  have h9 := dats0 h0; subst h9
  exact ev_ret (un := fun r => [⟨.bool, r⟩]) loops49_nat (fun _ => rfl) ((ev49 x0).trans (G49_some x0 hpre)))
def specs50 (PR : Int → Int → (List UInt8) → (List (List UInt8)) → Bool) (FR : Int → Int → (List UInt8) → (List (List UInt8)) → (List UInt8) × Bool) : Spec := ⟨[(.int .i64), (.int .i64), .str, (.list .str)], [.dat .str, .dat .bool], fun | [a0, a1, a2, a3] => PR (a0.as (.int .i64)) (a1.as (.int .i64)) (a2.as .str) (a3.as (.list .str)) | _ => false, fun | [a0, a1, a2, a3] => [⟨.str, (FR (a0.as (.int .i64)) (a1.as (.int .i64)) (a2.as .str) (a3.as (.list .str))).1⟩, ⟨.bool, (FR (a0.as (.int .i64)) (a1.as (.int .i64)) (a2.as .str) (a3.as (.list .str))).2⟩] | _ => []⟩
def envs50 (PR : Int → Int → (List UInt8) → (List (List UInt8)) → Bool) (FR : Int → Int → (List UInt8) → (List (List UInt8)) → (List UInt8) × Bool) : Env := {
  tab := tab
  glob := glob
  spec := fun
    | 34 => some spec34
    | 35 => some spec35
    | 42 => some spec42
    | 50 => some (specs50 PR FR)
    | _ => none }

def orc50 : Orc := ⟨70, fun _ => none, fun
  | 0 => kp [0, 1, 2, 3] []
  | 1 => kp [0, 1, 2, 3, 10] []
  | 2 => kp [0, 1, 2, 3, 10, 20] []
  | 3 => kp [8, 9] []
  | 4 => kp [0, 1, 2, 3, 10, 26] []
  | 5 => kp [8, 9] []
  | 6 => kp [0, 1, 2, 3, 10, 11] []
  | 7 => kp [0, 1, 2, 3, 10, 11, 31] []
  | 8 => kp [3, 10, 12, 13] []
  | 9 => kp [8, 9] []
  | 10 => kp [3, 10, 14, 15] []
  | 11 => kp [8, 9] []
  | _ => [], fun | _ => false⟩
noncomputable def body50 : Code := Tryd.f50.body.getD .skip
def loops50 : Nat → Option (Sum) := fun | _ => none
theorem loops50_nat : ∀ q f, loops50 q = some f → Natural f := by
  intro q f h
  cases h
theorem loops50_ok (PR : Int → Int → (List UInt8) → (List (List UInt8)) → Bool) (FR : Int → Int → (List UInt8) → (List (List UInt8)) → (List UInt8) × Bool) : LoopsOk (envs50 PR FR) orc50 loops50 body50 := loopsOk_nil (by kernel_rfl)
def Gs50 (PR : Int → Int → (List UInt8) → (List (List UInt8)) → Bool) (FR : Int → Int → (List UInt8) → (List (List UInt8)) → (List UInt8) × Bool) (x0 : Int) (x1 : Int) (x2 : (List UInt8)) (x3 : (List (List UInt8))) : Option ((List UInt8) × Bool) :=
  let v1 : Int := ((List.length x3 : Nat) : Int)
  let v2 : Int := (IntKind.i64.wrap (v1 - (1 : Int)))
  let v3 : Bool := (x0 == (1 : Int))
  bif v3 then
  bif (P34 x2) then
  let v4 : (List UInt8) := (F34 x2)
  let v5 : Bool := (decide (v2 < (0 : Int)))
  some (v4, v5)
  else none
  else
  let v6 : Bool := (decide (v2 < (0 : Int)))
  bif v6 then
  some (([] : List UInt8), false)
  else
  bif (P42 x0) then
  let v7 : Int := (F42 x0)
  let v8 : Bool := (decide (x1 < v7))
  bif v8 then
  bif (sliceTest (0 : Int) v2 (List.length x3)) then
  let v9 : (List (List UInt8)) := (cut x3 (0 : Int) v2)
  bif (PR v7 x1 x2 v9) then
  let v10 : ((List UInt8) × Bool) := (FR v7 x1 x2 v9)
  bif (decide (0 ≤ v2) && decide (v2 < List.length x3)) then
  let v11 : (List UInt8) := (List.getD x3 (Int.toNat v2) ([] : List UInt8))
  bif (P35 v10.1 v11) then
  let v12 : (List UInt8) := (F35 v10.1 v11)
  some (v12, v10.2)
  else none
  else none
  else none
  else none
  else
  let v13 : Int := (IntKind.i64.wrap (x0 - v7))
  let v14 : Int := (IntKind.i64.wrap (x1 - v7))
  bif (sliceTest (0 : Int) v2 (List.length x3)) then
  let v15 : (List (List UInt8)) := (cut x3 (0 : Int) v2)
  bif (PR v13 v14 x2 v15) then
  let v16 : ((List UInt8) × Bool) := (FR v13 v14 x2 v15)
  bif (decide (0 ≤ v2) && decide (v2 < List.length x3)) then
  let v17 : (List UInt8) := (List.getD x3 (Int.toNat v2) ([] : List UInt8))
  bif (P35 v17 v16.1) then
  let v18 : (List UInt8) := (F35 v17 v16.1)
  some (v18, v16.2)
  else none
  else none
  else none
  else none
  else none
theorem ev50 (PR : Int → Int → (List UInt8) → (List (List UInt8)) → Bool) (FR : Int → Int → (List UInt8) → (List (List UInt8)) → (List UInt8) × Bool) (x0 : Int) (x1 : Int) (x2 : (List UInt8)) (x3 : (List (List UInt8))) : ev2 (envs50 PR FR) orc50 loops50 body50 (initSt 0 [⟨(.int .i64), x0⟩, ⟨(.int .i64), x1⟩, ⟨.str, x2⟩, ⟨(.list .str), x3⟩]) (retT [(8, .dat .str), (9, .dat .bool)] [.str, .bool] fun x => (x.1, x.2.1)) = Gs50 PR FR x0 x1 x2 x3 := by kernel_rfl
def Gn50 : Nat → Int → Int → (List UInt8) → (List (List UInt8)) → Option ((List UInt8) × Bool)
  | 0, _, _, _, _ => none
  | n + 1, x0, x1, x2, x3 => Gs50 (fun x0 x1 x2 x3 => (Gn50 n x0 x1 x2 x3).isSome) (fun x0 x1 x2 x3 => (Gn50 n x0 x1 x2 x3).getD default) x0 x1 x2 x3
def G50 (x0 : Int) (x1 : Int) (x2 : (List UInt8)) (x3 : (List (List UInt8))) : Option ((List UInt8) × Bool) := Gn50 recDepth x0 x1 x2 x3
def P50 (x0 : Int) (x1 : Int) (x2 : (List UInt8)) (x3 : (List (List UInt8))) : Bool := (hold (G50 x0 x1 x2 x3)).isSome
def F50 (x0 : Int) (x1 : Int) (x2 : (List UInt8)) (x3 : (List (List UInt8))) : (List UInt8) × Bool := (hold (G50 x0 x1 x2 x3)).getD default
theorem P50_of (x0 : Int) (x1 : Int) (x2 : (List UInt8)) (x3 : (List (List UInt8))) {r : (List UInt8) × Bool} (h : G50 x0 x1 x2 x3 = some r) : P50 x0 x1 x2 x3 = true := by unfold P50; rw [hold_eq, h]; rfl
theorem F50_of (x0 : Int) (x1 : Int) (x2 : (List UInt8)) (x3 : (List (List UInt8))) {r : (List UInt8) × Bool} (h : G50 x0 x1 x2 x3 = some r) : F50 x0 x1 x2 x3 = r := by unfold F50; rw [hold_eq, h]; rfl
def spec50 : Spec := ⟨[(.int .i64), (.int .i64), .str, (.list .str)], [.dat .str, .dat .bool], fun | [a0, a1, a2, a3] => P50 (a0.as (.int .i64)) (a1.as (.int .i64)) (a2.as .str) (a3.as (.list .str)) | _ => false, fun | [a0, a1, a2, a3] => [⟨.str, (F50 (a0.as (.int .i64)) (a1.as (.int .i64)) (a2.as .str) (a3.as (.list .str))).1⟩, ⟨.bool, (F50 (a0.as (.int .i64)) (a1.as (.int .i64)) (a2.as .str) (a3.as (.list .str))).2⟩] | _ => []⟩
theorem meetsn50 (hE : ∀ (PR : Int → Int → (List UInt8) → (List (List UInt8)) → Bool) (FR : Int → Int → (List UInt8) → (List (List UInt8)) → (List UInt8) × Bool), Meets Tryd.prog glob 50 (specs50 PR FR) → EnvOk Tryd.prog (envs50 PR FR)) (hm : Tryd.prog.follows .mixedOrders = true) : ∀ n, Meets Tryd.prog glob 50 (specs50 (fun x0 x1 x2 x3 => (Gn50 n x0 x1 x2 x3).isSome) (fun x0 x1 x2 x3 => (Gn50 n x0 x1 x2 x3).getD default))
  | 0 => ⟨Tryd.call50, fun w Pr ds args _ _ hds _ hpre => by
    obtain ⟨x0, ds0, rfl, h0⟩ := datsS hds
    obtain ⟨x1, ds1, rfl, h1⟩ := datsS h0
    obtain ⟨x2, ds2, rfl, h2⟩ := datsS h1
    obtain ⟨x3, ds3, rfl, h3⟩ := datsS h2
    have h9 := dats0 h3; subst h9
    cases (show false = true from hpre)⟩
  | n + 1 => meets_of_ev2 (E := envs50 (fun x0 x1 x2 x3 => (Gn50 n x0 x1 x2 x3).isSome) (fun x0 x1 x2 x3 => (Gn50 n x0 x1 x2 x3).getD default)) (O := orc50) (L := loops50) (c := body50) (slots := [8, 9]) (hE _ _ (meetsn50 hE hm n)) hm Tryd.func50 Tryd.call50 (by kernel_rfl) (by kernel_rfl) (loops50_ok _ _) (rangesOk_nil (by kernel_rfl)) (by kernel_rfl) rfl (show 4 ≤ Tryd.f50.ntmps by decide) (fun ds hds hpre => by
    obtain ⟨x0, ds0, rfl, h0⟩ := datsS hds
    obtain ⟨x1, ds1, rfl, h1⟩ := datsS h0
    obtain ⟨x2, ds2, rfl, h2⟩ := datsS h1
    obtain ⟨x3, ds3, rfl, h3⟩ := datsS h2
    have h9 := dats0 h3; subst h9
    exact ev_ret (un := fun r => [⟨.str, r.1⟩, ⟨.bool, r.2⟩]) loops50_nat (fun _ => rfl) ((ev50 _ _ x0 x1 x2 x3).trans (some_getD (o := Gn50 (n + 1) x0 x1 x2 x3) hpre)))
def env22 : Env := {
  tab := tab
  glob := glob
  spec := fun
    | 49 => some spec49
    | 50 => some spec50
    | _ => none }

def orc22 : Orc := ⟨41, fun _ => none, fun
  | 0 => kp [0, 1, 2, 3, 4] []
  | 1 => kp [0, 1, 2, 3, 4, 11] []
  | 2 => kp [0, 1, 2, 3, 4, 26] []
  | 3 => kp [10] []
  | 4 => kp [0, 12, 13] []
  | 5 => kp [10] []
  | _ => [], fun | _ => false⟩
noncomputable def body22 : Code := Tryd.f22.body.getD .skip
def loops22 : Nat → Option (Sum) := fun | _ => none
theorem loops22_nat : ∀ q f, loops22 q = some f → Natural f := by
  intro q f h
  cases h
theorem loops22_ok : LoopsOk env22 orc22 loops22 body22 := loopsOk_nil (by kernel_rfl)
def G22 (x0 : (List UInt8)) (x1 : Int) (x2 : Int) (x3 : (List UInt8)) (x4 : (List (List UInt8))) : Option (Bool) :=
  bif (P49 x4) then
  let v1 : Bool := (F49 x4)
  let v2 : Bool := (decide (x2 < (0 : Int)))
  let v3 : Bool := (decide (x2 ≥ x1))
  let v4 : Bool := (bif v2 then true else v3)
  let v5 : Bool := (!v1)
  let v6 : Bool := (bif v4 then true else v5)
  bif v6 then
  some (false)
  else
  bif (P50 x1 x2 x3 x4) then
  let v7 : ((List UInt8) × Bool) := (F50 x1 x2 x3 x4)
  let v8 : Bool := (v7.1 == x0)
  let v9 : Bool := (bif v7.2 then v8 else false)
  some (v9)
  else none
  else none
theorem ev22 (x0 : (List UInt8)) (x1 : Int) (x2 : Int) (x3 : (List UInt8)) (x4 : (List (List UInt8))) : ev2 env22 orc22 loops22 body22 (initSt 0 [⟨.str, x0⟩, ⟨(.int .i64), x1⟩, ⟨(.int .i64), x2⟩, ⟨.str, x3⟩, ⟨(.list .str), x4⟩]) (retT [(10, .dat .bool)] [.bool] fun x => x.1) = G22 x0 x1 x2 x3 x4 := by kernel_rfl
def P22 (x0 : (List UInt8)) (x1 : Int) (x2 : Int) (x3 : (List UInt8)) (x4 : (List (List UInt8))) : Bool := (hold (G22 x0 x1 x2 x3 x4)).isSome
def F22 (x0 : (List UInt8)) (x1 : Int) (x2 : Int) (x3 : (List UInt8)) (x4 : (List (List UInt8))) : Bool := (hold (G22 x0 x1 x2 x3 x4)).getD default
theorem G22_some (x0 : (List UInt8)) (x1 : Int) (x2 : Int) (x3 : (List UInt8)) (x4 : (List (List UInt8))) (h : P22 x0 x1 x2 x3 x4 = true) : G22 x0 x1 x2 x3 x4 = some (F22 x0 x1 x2 x3 x4) := by
  unfold P22 at h; unfold F22
  rw [hold_eq] at h ⊢
  exact some_getD h
theorem P22_of (x0 : (List UInt8)) (x1 : Int) (x2 : Int) (x3 : (List UInt8)) (x4 : (List (List UInt8))) {r : Bool} (h : G22 x0 x1 x2 x3 x4 = some r) : P22 x0 x1 x2 x3 x4 = true := by unfold P22; rw [hold_eq, h]; rfl
theorem F22_of (x0 : (List UInt8)) (x1 : Int) (x2 : Int) (x3 : (List UInt8)) (x4 : (List (List UInt8))) {r : Bool} (h : G22 x0 x1 x2 x3 x4 = some r) : F22 x0 x1 x2 x3 x4 = r := by unfold F22; rw [hold_eq, h]; rfl
def spec22 : Spec := ⟨[.str, (.int .i64), (.int .i64), .str, (.list .str)], [.dat .bool], fun | [a0, a1, a2, a3, a4] => P22 (a0.as .str) (a1.as (.int .i64)) (a2.as (.int .i64)) (a3.as .str) (a4.as (.list .str)) | _ => false, fun | [a0, a1, a2, a3, a4] => [⟨.bool, (F22 (a0.as .str) (a1.as (.int .i64)) (a2.as (.int .i64)) (a3.as .str) (a4.as (.list .str)))⟩] | _ => []⟩
theorem meets22 (hE : EnvOk Tryd.prog env22) (hm : Tryd.prog.follows .mixedOrders = true) : Meets Tryd.prog glob 22 spec22 :=
  meets_of_ev2 (O := orc22) (L := loops22) (c := body22) (slots := [10]) hE hm Tryd.func22 Tryd.call22 (by kernel_rfl) (by kernel_rfl) loops22_ok (rangesOk_nil (by kernel_rfl)) (by kernel_rfl) rfl (by decide) (fun ds hds hpre => by
  obtain ⟨x0, ds0, rfl, h0⟩ := datsS hds
  obtain ⟨x1, ds1, rfl, h1⟩ := datsS h0
  obtain ⟨x2, ds2, rfl, h2⟩ := datsS h1
  obtain ⟨x3, ds3, rfl, h3⟩ := datsS h2
  obtain ⟨x4, ds4, rfl, h4⟩ := datsS h3
  have h9 := dats0 h4; subst h9
  exact ev_ret (un := fun r => [⟨.bool, r⟩]) loops22_nat (fun _ => rfl) ((ev22 x0 x1 x2 x3 x4).trans (G22_some x0 x1 x2 x3 x4 hpre)))
def specs52 (PR : (List UInt8) → Int → Int → (List (List UInt8)) → Bool → Bool) (FR : (List UInt8) → Int → Int → (List (List UInt8)) → Bool → (List UInt8) × (List UInt8) × Bool) : Spec := ⟨[.str, (.int .i64), (.int .i64), (.list .str), .bool], [.dat .str, .dat .str, .dat .bool], fun | [a0, a1, a2, a3, a4] => PR (a0.as .str) (a1.as (.int .i64)) (a2.as (.int .i64)) (a3.as (.list .str)) (a4.as .bool) | _ => false, fun | [a0, a1, a2, a3, a4] => [⟨.str, (FR (a0.as .str) (a1.as (.int .i64)) (a2.as (.int .i64)) (a3.as (.list .str)) (a4.as .bool)).1⟩, ⟨.str, (FR (a0.as .str) (a1.as (.int .i64)) (a2.as (.int .i64)) (a3.as (.list .str)) (a4.as .bool)).2.1⟩, ⟨.bool, (FR (a0.as .str) (a1.as (.int .i64)) (a2.as (.int .i64)) (a3.as (.list .str)) (a4.as .bool)).2.2⟩] | _ => []⟩
def envs52 (PR : (List UInt8) → Int → Int → (List (List UInt8)) → Bool → Bool) (FR : (List UInt8) → Int → Int → (List (List UInt8)) → Bool → (List UInt8) × (List UInt8) × Bool) : Env := {
  tab := tab
  glob := glob
  spec := fun
    | 35 => some spec35
    | 42 => some spec42
    | 52 => some (specs52 PR FR)
    | _ => none }

def orc52 : Orc := ⟨95, fun _ => none, fun
  | 0 => kp [0, 1, 2, 3, 4] []
  | 1 => kp [0, 1, 2, 3, 4, 13] []
  | 2 => kp [0, 1, 2, 3, 4, 13, 26] []
  | 3 => kp [0, 3, 13, 27] []
  | 4 => kp [10, 11, 12] []
  | 5 => kp [3, 33] []
  | 6 => kp [10, 11, 12] []
  | 7 => kp [10, 11, 12] []
  | 8 => kp [0, 1, 2, 3, 4, 13, 41] []
  | 9 => kp [10, 11, 12] []
  | 10 => kp [0, 1, 2, 3, 4, 13, 14] []
  | 11 => kp [0, 1, 2, 3, 4, 13, 14, 46] []
  | 12 => kp [3, 13, 15, 16, 17] []
  | 13 => kp [10, 11, 12] []
  | 14 => kp [3, 13, 18, 19, 20] []
  | 15 => kp [10, 11, 12] []
  | _ => [], fun | _ => false⟩
noncomputable def body52 : Code := Tryd.f52.body.getD .skip
def loops52 : Nat → Option (Sum) := fun | _ => none
theorem loops52_nat : ∀ q f, loops52 q = some f → Natural f := by
  intro q f h
  cases h
theorem loops52_ok (PR : (List UInt8) → Int → Int → (List (List UInt8)) → Bool → Bool) (FR : (List UInt8) → Int → Int → (List (List UInt8)) → Bool → (List UInt8) × (List UInt8) × Bool) : LoopsOk (envs52 PR FR) orc52 loops52 body52 := loopsOk_nil (by kernel_rfl)
def Gs52 (PR : (List UInt8) → Int → Int → (List (List UInt8)) → Bool → Bool) (FR : (List UInt8) → Int → Int → (List (List UInt8)) → Bool → (List UInt8) × (List UInt8) × Bool) (x0 : (List UInt8)) (x1 : Int) (x2 : Int) (x3 : (List (List UInt8))) (x4 : Bool) : Option ((List UInt8) × (List UInt8) × Bool) :=
  let v1 : Int := ((List.length x3 : Nat) : Int)
  let v2 : Int := (IntKind.i64.wrap (v1 - (1 : Int)))
  let v3 : Bool := (x1 == x2)
  bif v3 then
  bif x4 then
  let v4 : Bool := (decide (v2 < (0 : Int)))
  some (x0, x0, v4)
  else
  let v5 : Bool := (v2 != (0 : Int))
  bif v5 then
  some (([] : List UInt8), ([] : List UInt8), false)
  else
  bif (decide (0 ≤ (0 : Int)) && decide ((0 : Int) < List.length x3)) then
  let v6 : (List UInt8) := (List.getD x3 (Int.toNat (0 : Int)) ([] : List UInt8))
  bif (decide (0 ≤ (0 : Int)) && decide ((0 : Int) < List.length x3)) then
  let v7 : (List UInt8) := (List.getD x3 (Int.toNat (0 : Int)) ([] : List UInt8))
  some (v6, v7, true)
  else none
  else none
  else
  let v8 : Bool := (decide (v2 < (0 : Int)))
  bif v8 then
  some (([] : List UInt8), ([] : List UInt8), false)
  else
  bif (P42 x2) then
  let v9 : Int := (F42 x2)
  let v10 : Bool := (decide (x1 ≤ v9))
  bif v10 then
  bif (sliceTest (0 : Int) v2 (List.length x3)) then
  let v11 : (List (List UInt8)) := (cut x3 (0 : Int) v2)
  bif (PR x0 x1 v9 v11 x4) then
  let v12 : ((List UInt8) × ((List UInt8) × Bool)) := (FR x0 x1 v9 v11 x4)
  bif (decide (0 ≤ v2) && decide (v2 < List.length x3)) then
  let v13 : (List UInt8) := (List.getD x3 (Int.toNat v2) ([] : List UInt8))
  bif (P35 v12.2.1 v13) then
  let v14 : (List UInt8) := (F35 v12.2.1 v13)
  some (v12.1, v14, v12.2.2)
  else none
  else none
  else none
  else none
  else
  let v15 : Int := (IntKind.i64.wrap (x1 - v9))
  let v16 : Int := (IntKind.i64.wrap (x2 - v9))
  bif (sliceTest (0 : Int) v2 (List.length x3)) then
  let v17 : (List (List UInt8)) := (cut x3 (0 : Int) v2)
  bif (PR x0 v15 v16 v17 false) then
  let v18 : ((List UInt8) × ((List UInt8) × Bool)) := (FR x0 v15 v16 v17 false)
  bif (decide (0 ≤ v2) && decide (v2 < List.length x3)) then
  let v19 : (List UInt8) := (List.getD x3 (Int.toNat v2) ([] : List UInt8))
  bif (P35 v19 v18.1) then
  let v20 : (List UInt8) := (F35 v19 v18.1)
  bif (decide (0 ≤ v2) && decide (v2 < List.length x3)) then
  let v21 : (List UInt8) := (List.getD x3 (Int.toNat v2) ([] : List UInt8))
  bif (P35 v21 v18.2.1) then
  let v22 : (List UInt8) := (F35 v21 v18.2.1)
  some (v20, v22, v18.2.2)
  else none
  else none
  else none
  else none
  else none
  else none
  else none
theorem ev52 (PR : (List UInt8) → Int → Int → (List (List UInt8)) → Bool → Bool) (FR : (List UInt8) → Int → Int → (List (List UInt8)) → Bool → (List UInt8) × (List UInt8) × Bool) (x0 : (List UInt8)) (x1 : Int) (x2 : Int) (x3 : (List (List UInt8))) (x4 : Bool) : ev2 (envs52 PR FR) orc52 loops52 body52 (initSt 0 [⟨.str, x0⟩, ⟨(.int .i64), x1⟩, ⟨(.int .i64), x2⟩, ⟨(.list .str), x3⟩, ⟨.bool, x4⟩]) (retT [(10, .dat .str), (11, .dat .str), (12, .dat .bool)] [.str, .str, .bool] fun x => (x.1, x.2.1, x.2.2.1)) = Gs52 PR FR x0 x1 x2 x3 x4 := by kernel_rfl
def Gn52 : Nat → (List UInt8) → Int → Int → (List (List UInt8)) → Bool → Option ((List UInt8) × (List UInt8) × Bool)
  | 0, _, _, _, _, _ => none
  | n + 1, x0, x1, x2, x3, x4 => Gs52 (fun x0 x1 x2 x3 x4 => (Gn52 n x0 x1 x2 x3 x4).isSome) (fun x0 x1 x2 x3 x4 => (Gn52 n x0 x1 x2 x3 x4).getD default) x0 x1 x2 x3 x4
def G52 (x0 : (List UInt8)) (x1 : Int) (x2 : Int) (x3 : (List (List UInt8))) (x4 : Bool) : Option ((List UInt8) × (List UInt8) × Bool) := Gn52 recDepth x0 x1 x2 x3 x4
def P52 (x0 : (List UInt8)) (x1 : Int) (x2 : Int) (x3 : (List (List UInt8))) (x4 : Bool) : Bool := (hold (G52 x0 x1 x2 x3 x4)).isSome
def F52 (x0 : (List UInt8)) (x1 : Int) (x2 : Int) (x3 : (List (List UInt8))) (x4 : Bool) : (List UInt8) × (List UInt8) × Bool := (hold (G52 x0 x1 x2 x3 x4)).getD default
theorem P52_of (x0 : (List UInt8)) (x1 : Int) (x2 : Int) (x3 : (List (List UInt8))) (x4 : Bool) {r : (List UInt8) × (List UInt8) × Bool} (h : G52 x0 x1 x2 x3 x4 = some r) : P52 x0 x1 x2 x3 x4 = true := by unfold P52; rw [hold_eq, h]; rfl
theorem F52_of (x0 : (List UInt8)) (x1 : Int) (x2 : Int) (x3 : (List (List UInt8))) (x4 : Bool) {r : (List UInt8) × (List UInt8) × Bool} (h : G52 x0 x1 x2 x3 x4 = some r) : F52 x0 x1 x2 x3 x4 = r := by unfold F52; rw [hold_eq, h]; rfl
def spec52 : Spec := ⟨[.str, (.int .i64), (.int .i64), (.list .str), .bool], [.dat .str, .dat .str, .dat .bool], fun | [a0, a1, a2, a3, a4] => P52 (a0.as .str) (a1.as (.int .i64)) (a2.as (.int .i64)) (a3.as (.list .str)) (a4.as .bool) | _ => false, fun | [a0, a1, a2, a3, a4] => [⟨.str, (F52 (a0.as .str) (a1.as (.int .i64)) (a2.as (.int .i64)) (a3.as (.list .str)) (a4.as .bool)).1⟩, ⟨.str, (F52 (a0.as .str) (a1.as (.int .i64)) (a2.as (.int .i64)) (a3.as (.list .str)) (a4.as .bool)).2.1⟩, ⟨.bool, (F52 (a0.as .str) (a1.as (.int .i64)) (a2.as (.int .i64)) (a3.as (.list .str)) (a4.as .bool)).2.2⟩] | _ => []⟩
theorem meetsn52 (hE : ∀ (PR : (List UInt8) → Int → Int → (List (List UInt8)) → Bool → Bool) (FR : (List UInt8) → Int → Int → (List (List UInt8)) → Bool → (List UInt8) × (List UInt8) × Bool), Meets Tryd.prog glob 52 (specs52 PR FR) → EnvOk Tryd.prog (envs52 PR FR)) (hm : Tryd.prog.follows .mixedOrders = true) : ∀ n, Meets Tryd.prog glob 52 (specs52 (fun x0 x1 x2 x3 x4 => (Gn52 n x0 x1 x2 x3 x4).isSome) (fun x0 x1 x2 x3 x4 => (Gn52 n x0 x1 x2 x3 x4).getD default))
  | 0 => ⟨Tryd.call52, fun w Pr ds args _ _ hds _ hpre => by
    obtain ⟨x0, ds0, rfl, h0⟩ := datsS hds
    obtain ⟨x1, ds1, rfl, h1⟩ := datsS h0
    obtain ⟨x2, ds2, rfl, h2⟩ := datsS h1
    obtain ⟨x3, ds3, rfl, h3⟩ := datsS h2
    obtain ⟨x4, ds4, rfl, h4⟩ := datsS h3
    have h9 := dats0 h4; subst h9
    cases (show false = true from hpre)⟩
  | n + 1 => meets_of_ev2 (E := envs52 (fun x0 x1 x2 x3 x4 => (Gn52 n x0 x1 x2 x3 x4).isSome) (fun x0 x1 x2 x3 x4 => (Gn52 n x0 x1 x2 x3 x4).getD default)) (O := orc52) (L := loops52) (c := body52) (slots := [10, 11, 12]) (hE _ _ (meetsn52 hE hm n)) hm Tryd.func52 Tryd.call52 (by kernel_rfl) (by kernel_rfl) (loops52_ok _ _) (rangesOk_nil (by kernel_rfl)) (by kernel_rfl) rfl (show 5 ≤ Tryd.f52.ntmps by decide) (fun ds hds hpre => by
    obtain ⟨x0, ds0, rfl, h0⟩ := datsS hds
    obtain ⟨x1, ds1, rfl, h1⟩ := datsS h0
    obtain ⟨x2, ds2, rfl, h2⟩ := datsS h1
    obtain ⟨x3, ds3, rfl, h3⟩ := datsS h2
    obtain ⟨x4, ds4, rfl, h4⟩ := datsS h3
    have h9 := dats0 h4; subst h9
    exact ev_ret (un := fun r => [⟨.str, r.1⟩, ⟨.str, r.2.1⟩, ⟨.bool, r.2.2⟩]) loops52_nat (fun _ => rfl) ((ev52 _ _ x0 x1 x2 x3 x4).trans (some_getD (o := Gn52 (n + 1) x0 x1 x2 x3 x4) hpre)))
def env24 : Env := {
  tab := tab
  glob := glob
  spec := fun
    | 33 => some spec33
    | 49 => some spec49
    | 52 => some spec52
    | _ => none }

def orc24 : Orc := ⟨79, fun _ => none, fun
  | 0 => kp [0, 1, 2, 3, 4] []
  | 1 => kp [0, 1, 2, 3, 4, 11] []
  | 2 => kp [0, 1, 2, 3, 4, 37] []
  | 3 => kp [10] []
  | 4 => kp [0, 1, 2, 3, 4, 39] []
  | 5 => kp [10] []
  | 6 => kp [0, 1, 2, 3, 4, 50] []
  | 7 => kp [10] []
  | 8 => kp [0, 2, 12, 13, 14] []
  | 9 => kp [10] []
  | _ => [], fun | _ => false⟩
noncomputable def body24 : Code := Tryd.f24.body.getD .skip
def loops24 : Nat → Option (Sum) := fun | _ => none
theorem loops24_nat : ∀ q f, loops24 q = some f → Natural f := by
  intro q f h
  cases h
theorem loops24_ok : LoopsOk env24 orc24 loops24 body24 := loopsOk_nil (by kernel_rfl)
def G24 (x0 : (List UInt8)) (x1 : Int) (x2 : (List UInt8)) (x3 : Int) (x4 : (List (List UInt8))) : Option (Bool) :=
  bif (P49 x4) then
  let v1 : Bool := (F49 x4)
  let v2 : Bool := (decide (x1 < (0 : Int)))
  let v3 : Bool := (decide (x1 > x3))
  let v4 : Bool := (bif v2 then true else v3)
  let v5 : Bool := (!v1)
  let v6 : Bool := (bif v4 then true else v5)
  let v7 : Int := ((List.length x0 : Nat) : Int)
  let v8 : Bool := (v7 != (32 : Int))
  let v9 : Bool := (bif v6 then true else v8)
  let v10 : Int := ((List.length x2 : Nat) : Int)
  let v11 : Bool := (v10 != (32 : Int))
  let v12 : Bool := (bif v9 then true else v11)
  bif v12 then
  some (false)
  else
  let v13 : Bool := (x1 == (0 : Int))
  bif v13 then
  let v14 : Int := ((List.length x4 : Nat) : Int)
  let v15 : Bool := (v14 == (0 : Int))
  bif ((P33 ([] : List UInt8)) || !(v15 && true)) then
  let v16 : (List UInt8) := (F33 ([] : List UInt8))
  let v17 : Bool := (x0 == v16)
  let v18 : Bool := (bif v15 then v17 else false)
  some (v18)
  else none
  else
  let v19 : Bool := (x1 == x3)
  bif v19 then
  let v20 : Int := ((List.length x4 : Nat) : Int)
  let v21 : Bool := (v20 == (0 : Int))
  let v22 : Bool := (x0 == x2)
  let v23 : Bool := (bif v21 then v22 else false)
  some (v23)
  else
  bif (P52 x0 x1 x3 x4 true) then
  let v24 : ((List UInt8) × ((List UInt8) × Bool)) := (F52 x0 x1 x3 x4 true)
  let v25 : Bool := (v24.1 == x0)
  let v26 : Bool := (bif v24.2.2 then v25 else false)
  let v27 : Bool := (v24.2.1 == x2)
  let v28 : Bool := (bif v26 then v27 else false)
  some (v28)
  else none
  else none
theorem ev24 (x0 : (List UInt8)) (x1 : Int) (x2 : (List UInt8)) (x3 : Int) (x4 : (List (List UInt8))) : ev2 env24 orc24 loops24 body24 (initSt 0 [⟨.str, x0⟩, ⟨(.int .i64), x1⟩, ⟨.str, x2⟩, ⟨(.int .i64), x3⟩, ⟨(.list .str), x4⟩]) (retT [(10, .dat .bool)] [.bool] fun x => x.1) = G24 x0 x1 x2 x3 x4 := by kernel_rfl
def P24 (x0 : (List UInt8)) (x1 : Int) (x2 : (List UInt8)) (x3 : Int) (x4 : (List (List UInt8))) : Bool := (hold (G24 x0 x1 x2 x3 x4)).isSome
def F24 (x0 : (List UInt8)) (x1 : Int) (x2 : (List UInt8)) (x3 : Int) (x4 : (List (List UInt8))) : Bool := (hold (G24 x0 x1 x2 x3 x4)).getD default
theorem G24_some (x0 : (List UInt8)) (x1 : Int) (x2 : (List UInt8)) (x3 : Int) (x4 : (List (List UInt8))) (h : P24 x0 x1 x2 x3 x4 = true) : G24 x0 x1 x2 x3 x4 = some (F24 x0 x1 x2 x3 x4) := by
  unfold P24 at h; unfold F24
  rw [hold_eq] at h ⊢
  exact some_getD h
theorem P24_of (x0 : (List UInt8)) (x1 : Int) (x2 : (List UInt8)) (x3 : Int) (x4 : (List (List UInt8))) {r : Bool} (h : G24 x0 x1 x2 x3 x4 = some r) : P24 x0 x1 x2 x3 x4 = true := by unfold P24; rw [hold_eq, h]; rfl
theorem F24_of (x0 : (List UInt8)) (x1 : Int) (x2 : (List UInt8)) (x3 : Int) (x4 : (List (List UInt8))) {r : Bool} (h : G24 x0 x1 x2 x3 x4 = some r) : F24 x0 x1 x2 x3 x4 = r := by unfold F24; rw [hold_eq, h]; rfl
def spec24 : Spec := ⟨[.str, (.int .i64), .str, (.int .i64), (.list .str)], [.dat .bool], fun | [a0, a1, a2, a3, a4] => P24 (a0.as .str) (a1.as (.int .i64)) (a2.as .str) (a3.as (.int .i64)) (a4.as (.list .str)) | _ => false, fun | [a0, a1, a2, a3, a4] => [⟨.bool, (F24 (a0.as .str) (a1.as (.int .i64)) (a2.as .str) (a3.as (.int .i64)) (a4.as (.list .str)))⟩] | _ => []⟩
theorem meets24 (hE : EnvOk Tryd.prog env24) (hm : Tryd.prog.follows .mixedOrders = true) : Meets Tryd.prog glob 24 spec24 :=
  meets_of_ev2 (O := orc24) (L := loops24) (c := body24) (slots := [10]) hE hm Tryd.func24 Tryd.call24 (by kernel_rfl) (by kernel_rfl) loops24_ok (rangesOk_nil (by kernel_rfl)) (by kernel_rfl) rfl (by decide) (fun ds hds hpre => by
  obtain ⟨x0, ds0, rfl, h0⟩ := datsS hds
  obtain ⟨x1, ds1, rfl, h1⟩ := datsS h0
  obtain ⟨x2, ds2, rfl, h2⟩ := datsS h1
  obtain ⟨x3, ds3, rfl, h3⟩ := datsS h2
  obtain ⟨x4, ds4, rfl, h4⟩ := datsS h3
  have h9 := dats0 h4; subst h9
  exact ev_ret (un := fun r => [⟨.bool, r⟩]) loops24_nat (fun _ => rfl) ((ev24 x0 x1 x2 x3 x4).trans (G24_some x0 x1 x2 x3 x4 hpre)))
def env4 : Env := {
  tab := tab
  glob := glob
  spec := fun
    | 12 => some spec12
    | 13 => some spec13
    | 21 => some spec21
    | 22 => some spec22
    | 23 => some spec23
    | 24 => some spec24
    | _ => none }

def orc4 : Orc := ⟨55, fun _ => none, fun
  | 0 => kp [0, 1, 2, 3, 4, 5] []
  | 1 => kp [0, 1, 2, 3, 4, 5, 13] []
  | 2 => kp [0, 1, 2, 3, 4, 5, 13] []
  | 3 => kp [0, 1, 2, 3, 4, 5, 13] []
  | 4 => kp [0, 1, 2, 3, 5, 13, 14] []
  | 5 => kp [12] []
  | _ => [], fun | _ => false⟩
noncomputable def body4 : Code := Tryd.f4.body.getD .skip
def loops4 : Nat → Option (Sum) := fun | _ => none
theorem loops4_nat : ∀ q f, loops4 q = some f → Natural f := by
  intro q f h
  cases h
theorem loops4_ok : LoopsOk env4 orc4 loops4 body4 := loopsOk_nil (by kernel_rfl)
def G4 (x0 : (List UInt8)) (x1 : (List UInt8)) (x2 : Int) (x3 : Int) (x4 : (List UInt8)) (x5 : (List (List UInt8))) : Option (Bool) :=
  bif (P12 ) then
  bif (P13 x5 (70 : Int)) then
  let v1 : (List (List UInt8)) := (F13 x5 (70 : Int))
  let v2 : Int := ((List.length x4 : Nat) : Int)
  let v3 : Int := (if (60 : Int) < v2 then (60 : Int) else v2)
  bif (sliceTest (0 : Int) v3 (List.length x4)) then
  let v4 : (List UInt8) := (cut x4 (0 : Int) v3)
  bif (P21 x1 x2 x3 v4 v1) then
  let v5 : Bool := (F21 x1 x2 x3 v4 v1)
  bif (P22 x1 x2 x3 v4 v1) then
  let v6 : Bool := (F22 x1 x2 x3 v4 v1)
  let v7 : Bool := (eqv .bool v5 v6)
  let v8 : Bool := (bif F12 then v7 else false)
  bif ((P23 x0 x3 x1 x2 v1) || !(v8 && true)) then
  let v9 : Bool := (F23 x0 x3 x1 x2 v1)
  bif ((P24 x0 x3 x1 x2 v1) || !(v8 && true)) then
  let v10 : Bool := (F24 x0 x3 x1 x2 v1)
  let v11 : Bool := (eqv .bool v9 v10)
  let v12 : Bool := (bif v8 then v11 else false)
  some (v12)
  else none
  else none
  else none
  else none
  else none
  else none
  else none
theorem ev4 (x0 : (List UInt8)) (x1 : (List UInt8)) (x2 : Int) (x3 : Int) (x4 : (List UInt8)) (x5 : (List (List UInt8))) : ev2 env4 orc4 loops4 body4 (initSt 0 [⟨.str, x0⟩, ⟨.str, x1⟩, ⟨(.int .i64), x2⟩, ⟨(.int .i64), x3⟩, ⟨.str, x4⟩, ⟨(.list .str), x5⟩]) (retT [(12, .dat .bool)] [.bool] fun x => x.1) = G4 x0 x1 x2 x3 x4 x5 := by kernel_rfl
def P4 (x0 : (List UInt8)) (x1 : (List UInt8)) (x2 : Int) (x3 : Int) (x4 : (List UInt8)) (x5 : (List (List UInt8))) : Bool := (hold (G4 x0 x1 x2 x3 x4 x5)).isSome
def F4 (x0 : (List UInt8)) (x1 : (List UInt8)) (x2 : Int) (x3 : Int) (x4 : (List UInt8)) (x5 : (List (List UInt8))) : Bool := (hold (G4 x0 x1 x2 x3 x4 x5)).getD default
theorem G4_some (x0 : (List UInt8)) (x1 : (List UInt8)) (x2 : Int) (x3 : Int) (x4 : (List UInt8)) (x5 : (List (List UInt8))) (h : P4 x0 x1 x2 x3 x4 x5 = true) : G4 x0 x1 x2 x3 x4 x5 = some (F4 x0 x1 x2 x3 x4 x5) := by
  unfold P4 at h; unfold F4
  rw [hold_eq] at h ⊢
  exact some_getD h
theorem P4_of (x0 : (List UInt8)) (x1 : (List UInt8)) (x2 : Int) (x3 : Int) (x4 : (List UInt8)) (x5 : (List (List UInt8))) {r : Bool} (h : G4 x0 x1 x2 x3 x4 x5 = some r) : P4 x0 x1 x2 x3 x4 x5 = true := by unfold P4; rw [hold_eq, h]; rfl
theorem F4_of (x0 : (List UInt8)) (x1 : (List UInt8)) (x2 : Int) (x3 : Int) (x4 : (List UInt8)) (x5 : (List (List UInt8))) {r : Bool} (h : G4 x0 x1 x2 x3 x4 x5 = some r) : F4 x0 x1 x2 x3 x4 x5 = r := by unfold F4; rw [hold_eq, h]; rfl
def spec4 : Spec := ⟨[.str, .str, (.int .i64), (.int .i64), .str, (.list .str)], [.dat .bool], fun | [a0, a1, a2, a3, a4, a5] => P4 (a0.as .str) (a1.as .str) (a2.as (.int .i64)) (a3.as (.int .i64)) (a4.as .str) (a5.as (.list .str)) | _ => false, fun | [a0, a1, a2, a3, a4, a5] => [⟨.bool, (F4 (a0.as .str) (a1.as .str) (a2.as (.int .i64)) (a3.as (.int .i64)) (a4.as .str) (a5.as (.list .str)))⟩] | _ => []⟩
theorem meets4 (hE : EnvOk Tryd.prog env4) (hm : Tryd.prog.follows .mixedOrders = true) : Meets Tryd.prog glob 4 spec4 :=
  meets_of_ev2 (O := orc4) (L := loops4) (c := body4) (slots := [12]) hE hm Tryd.func4 Tryd.call4 (by kernel_rfl) (by kernel_rfl) loops4_ok (rangesOk_nil (by kernel_rfl)) (by kernel_rfl) rfl (by decide) (fun ds hds hpre => by
  obtain ⟨x0, ds0, rfl, h0⟩ := datsS hds
  obtain ⟨x1, ds1, rfl, h1⟩ := datsS h0
  obtain ⟨x2, ds2, rfl, h2⟩ := datsS h1
  obtain ⟨x3, ds3, rfl, h3⟩ := datsS h2
  obtain ⟨x4, ds4, rfl, h4⟩ := datsS h3
  obtain ⟨x5, ds5, rfl, h5⟩ := datsS h4
  have h9 := dats0 h5; subst h9
  exact ev_ret (un := fun r => [⟨.bool, r⟩]) loops4_nat (fun _ => rfl) ((ev4 x0 x1 x2 x3 x4 x5).trans (G4_some x0 x1 x2 x3 x4 x5 hpre)))
theorem mixed : Tryd.prog.follows .mixedOrders = true := by kernel_rfl
theorem envOk72 : EnvOk Tryd.prog env72 := by
  refine ⟨tabOk, fun f S h => ?_, fun f l S h => ?_, fun f fs I h => ?_⟩
  · simp only [env72] at h
    cases h
  · simp only [env72] at h
    cases h
  · simp only [env72] at h
    cases h
theorem full72 : Meets Tryd.prog glob 72 spec72 := meets72 envOk72 mixed
theorem envOk59 : EnvOk Tryd.prog env59 := by
  refine ⟨tabOk, fun f S h => ?_, fun f l S h => ?_, fun f fs I h => ?_⟩
  · simp only [env59] at h
    split at h
    · cases h; exact full72
    · cases h
  · simp only [env59] at h
    cases h
  · simp only [env59] at h
    cases h
theorem full59 : Meets Tryd.prog glob 59 spec59 := meets59 envOk59 mixed
theorem envOk40 : EnvOk Tryd.prog env40 := by
  refine ⟨tabOk, fun f S h => ?_, fun f l S h => ?_, fun f fs I h => ?_⟩
  · simp only [env40] at h
    split at h
    · cases h; exact full59
    · cases h
  · simp only [env40] at h
    cases h
  · simp only [env40] at h
    cases h
theorem full40 : Meets Tryd.prog glob 40 spec40 := meets40 envOk40 mixed
theorem envOk53 : EnvOk Tryd.prog env53 := by
  refine ⟨tabOk, fun f S h => ?_, fun f l S h => ?_, fun f fs I h => ?_⟩
  · simp only [env53] at h
    cases h
  · simp only [env53] at h
    cases h
  · simp only [env53] at h
    cases h
theorem full53 : Meets2 Tryd.prog glob 53 sp53 := meets53 envOk53 mixed
theorem envOk54 : EnvOk Tryd.prog env54 := by
  refine ⟨tabOk, fun f S h => ?_, fun f l S h => ?_, fun f fs I h => ?_⟩
  · simp only [env54] at h
    cases h
  · simp only [env54] at h
    cases h
  · simp only [env54] at h
    cases h
theorem full54 : Meets2 Tryd.prog glob 54 sp54 := meets54 envOk54 mixed
theorem envOk66 : EnvOk Tryd.prog env66 := by
  refine ⟨tabOk, fun f S h => ?_, fun f l S h => ?_, fun f fs I h => ?_⟩
  · simp only [env66] at h
    cases h
  · simp only [env66] at h
    cases h
  · simp only [env66] at h
    cases h
theorem fullI66 : IterOk Tryd.prog glob 66 I66 := iter66 envOk66 mixed
theorem envOk77 : EnvOk Tryd.prog env77 := by
  refine ⟨tabOk, fun f S h => ?_, fun f l S h => ?_, fun f fs I h => ?_⟩
  · simp only [env77] at h
    cases h
  · simp only [env77] at h
    cases h
  · simp only [env77] at h
    cases h
theorem full77 : Meets Tryd.prog glob 77 spec77 := meets77 envOk77 mixed
theorem envOk68 : EnvOk Tryd.prog env68 := by
  refine ⟨tabOk, fun f S h => ?_, fun f l S h => ?_, fun f fs I h => ?_⟩
  · simp only [env68] at h
    split at h
    · cases h; exact full77
    · cases h
  · simp only [env68] at h
    cases h
  · simp only [env68] at h
    cases h
theorem full68 : Meets Tryd.prog glob 68 spec68 := meets68 envOk68 mixed
theorem envOk67 : EnvOk Tryd.prog env67 := by
  refine ⟨tabOk, fun f S h => ?_, fun f l S h => ?_, fun f fs I h => ?_⟩
  · simp only [env67] at h
    split at h
    · cases h; exact full68
    · cases h
  · simp only [env67] at h
    cases h
  · simp only [env67] at h
    cases h
theorem full67 : Meets2 Tryd.prog glob 67 sp67 := meets67 envOk67 mixed
theorem envOk55 : EnvOk Tryd.prog env55 := by
  refine ⟨tabOk, fun f S h => ?_, fun f l S h => ?_, fun f fs I h => ?_⟩
  · simp only [env55] at h
    split at h
    · cases h; exact full68
    · cases h
  · simp only [env55] at h
    split at h
    · cases h; exact full67
    · cases h
  · simp only [env55] at h
    cases h
theorem full55 : Meets2 Tryd.prog glob 55 sp55 := meets55 envOk55 mixed
theorem envOk56 : EnvOk Tryd.prog env56 := by
  refine ⟨tabOk, fun f S h => ?_, fun f l S h => ?_, fun f fs I h => ?_⟩
  · simp only [env56] at h
    cases h
  · simp only [env56] at h
    cases h
  · simp only [env56] at h
    cases h
theorem full56 : Meets Tryd.prog glob 56 spec56 := meets56 envOk56 mixed
theorem envOk30 : EnvOk Tryd.prog env30 := by
  refine ⟨tabOk, fun f S h => ?_, fun f l S h => ?_, fun f fs I h => ?_⟩
  · simp only [env30] at h
    split at h
    · cases h; exact full56
    · cases h
  · simp only [env30] at h
    split at h
    · cases h; exact full54
    · cases h; exact full55
    · cases h
  · simp only [env30] at h
    cases h
theorem full30 : Meets Tryd.prog glob 30 spec30 := meets30 envOk30 mixed fullI66
theorem envOk64 : EnvOk Tryd.prog env64 := by
  refine ⟨tabOk, fun f S h => ?_, fun f l S h => ?_, fun f fs I h => ?_⟩
  · simp only [env64] at h
    split at h
    · cases h; exact full30
    · cases h; exact full65
    · cases h
  · simp only [env64] at h
    cases h
  · simp only [env64] at h
    cases h
theorem full64 : Meets2 Tryd.prog glob 64 sp64 := meets64 envOk64 mixed
theorem envOk29 : EnvOk Tryd.prog env29 := by
  refine ⟨tabOk, fun f S h => ?_, fun f l S h => ?_, fun f fs I h => ?_⟩
  · simp only [env29] at h
    cases h
  · simp only [env29] at h
    split at h
    · cases h; exact full53
    · cases h; exact full64
    · cases h
  · simp only [env29] at h
    cases h
theorem full29 : Meets Tryd.prog glob 29 spec29 := meets29 envOk29 mixed
theorem envOk32 : EnvOk Tryd.prog env32 := by
  refine ⟨tabOk, fun f S h => ?_, fun f l S h => ?_, fun f fs I h => ?_⟩
  · simp only [env32] at h
    cases h
  · simp only [env32] at h
    split at h
    · cases h; exact full53
    · cases h; exact full64
    · cases h
  · simp only [env32] at h
    cases h
theorem full32 : Meets Tryd.prog glob 32 spec32 := meets32 envOk32 mixed
theorem envOk44 : EnvOk Tryd.prog env44 := by
  refine ⟨tabOk, fun f S h => ?_, fun f l S h => ?_, fun f fs I h => ?_⟩
  · simp only [env44] at h
    cases h
  · simp only [env44] at h
    cases h
  · simp only [env44] at h
    cases h
theorem full44 : Meets2 Tryd.prog glob 44 sp44 := meets44 envOk44 mixed
theorem envOk60 : EnvOk Tryd.prog env60 := by
  refine ⟨tabOk, fun f S h => ?_, fun f l S h => ?_, fun f fs I h => ?_⟩
  · simp only [env60] at h
    cases h
  · simp only [env60] at h
    cases h
  · simp only [env60] at h
    cases h
theorem fullI60 : IterOk Tryd.prog glob 60 I60 := iter60 envOk60 mixed
theorem envOk19 : EnvOk Tryd.prog env19 := by
  refine ⟨tabOk, fun f S h => ?_, fun f l S h => ?_, fun f fs I h => ?_⟩
  · simp only [env19] at h
    split at h
    · cases h; exact full29
    · cases h; exact full30
    · cases h; exact full32
    · cases h
  · simp only [env19] at h
    split at h
    · cases h; exact full44
    · cases h
  · simp only [env19] at h
    cases h
theorem full19 : Meets Tryd.prog glob 19 spec19 := meets19 envOk19 mixed fullI60
theorem envOk14 : EnvOk Tryd.prog env14 := by
  refine ⟨tabOk, fun f S h => ?_, fun f l S h => ?_, fun f fs I h => ?_⟩
  · simp only [env14] at h
    split at h
    · cases h; exact full19
    · cases h; exact full40
    · cases h
  · simp only [env14] at h
    cases h
  · simp only [env14] at h
    split at h
    · cases h; exact inOk41
    · cases h
theorem full14 : Meets Tryd.prog glob 14 spec14 := meets14 envOk14 mixed
theorem envOk16 : EnvOk Tryd.prog env16 := by
  refine ⟨tabOk, fun f S h => ?_, fun f l S h => ?_, fun f fs I h => ?_⟩
  · simp only [env16] at h
    split at h
    · cases h; exact full19
    · cases h; exact full40
    · cases h
  · simp only [env16] at h
    cases h
  · simp only [env16] at h
    split at h
    · cases h; exact inOk41
    · cases h
theorem full16 : Meets Tryd.prog glob 16 spec16 := meets16 envOk16 mixed
theorem envOk39 : EnvOk Tryd.prog env39 := by
  refine ⟨tabOk, fun f S h => ?_, fun f l S h => ?_, fun f fs I h => ?_⟩
  · simp only [env39] at h
    cases h
  · simp only [env39] at h
    cases h
  · simp only [env39] at h
    cases h
theorem full39 : Meets Tryd.prog glob 39 spec39 := meets39 envOk39 mixed
theorem envOk51 : EnvOk Tryd.prog env51 := by
  refine ⟨tabOk, fun f S h => ?_, fun f l S h => ?_, fun f fs I h => ?_⟩
  · simp only [env51] at h
    cases h
  · simp only [env51] at h
    cases h
  · simp only [env51] at h
    cases h
theorem full51 : Meets Tryd.prog glob 51 spec51 := meets51 envOk51 mixed
theorem envOk61 : EnvOk Tryd.prog env61 := by
  refine ⟨tabOk, fun f S h => ?_, fun f l S h => ?_, fun f fs I h => ?_⟩
  · simp only [env61] at h
    split at h
    · cases h; exact full51
    · cases h
  · simp only [env61] at h
    cases h
  · simp only [env61] at h
    cases h
theorem full61 : Meets2 Tryd.prog glob 61 sp61 := meets61 envOk61 mixed
theorem envOk73 : EnvOk Tryd.prog env73 := by
  refine ⟨tabOk, fun f S h => ?_, fun f l S h => ?_, fun f fs I h => ?_⟩
  · simp only [env73] at h
    cases h
  · simp only [env73] at h
    split at h
    · cases h; exact full61
    · cases h
  · simp only [env73] at h
    cases h
theorem full73 : Meets2 Tryd.prog glob 73 sp73 := meets73 envOk73 mixed
theorem envOk62 : EnvOk Tryd.prog env62 := by
  refine ⟨tabOk, fun f S h => ?_, fun f l S h => ?_, fun f fs I h => ?_⟩
  · simp only [env62] at h
    cases h
  · simp only [env62] at h
    split at h
    · cases h; exact full73
    · cases h
  · simp only [env62] at h
    cases h
theorem full62 : Meets2 Tryd.prog glob 62 sp62 := meets62 envOk62 mixed
theorem envOk45 : EnvOk Tryd.prog env45 := by
  refine ⟨tabOk, fun f S h => ?_, fun f l S h => ?_, fun f fs I h => ?_⟩
  · simp only [env45] at h
    cases h
  · simp only [env45] at h
    split at h
    · cases h; exact full62
    · cases h
  · simp only [env45] at h
    cases h
theorem full45 : Meets Tryd.prog glob 45 spec45 := meets45 envOk45 mixed
theorem envOk46 : EnvOk Tryd.prog env46 := by
  refine ⟨tabOk, fun f S h => ?_, fun f l S h => ?_, fun f fs I h => ?_⟩
  · simp only [env46] at h
    cases h
  · simp only [env46] at h
    cases h
  · simp only [env46] at h
    cases h
theorem full46 : Meets Tryd.prog glob 46 spec46 := meets46 envOk46 mixed
theorem envOk47 : EnvOk Tryd.prog env47 := by
  refine ⟨tabOk, fun f S h => ?_, fun f l S h => ?_, fun f fs I h => ?_⟩
  · simp only [env47] at h
    cases h
  · simp only [env47] at h
    cases h
  · simp only [env47] at h
    cases h
theorem full47 : Meets2 Tryd.prog glob 47 sp47 := meets47 envOk47 mixed
theorem envOk63 : EnvOk Tryd.prog env63 := by
  refine ⟨tabOk, fun f S h => ?_, fun f l S h => ?_, fun f fs I h => ?_⟩
  · simp only [env63] at h
    cases h
  · simp only [env63] at h
    cases h
  · simp only [env63] at h
    cases h
theorem fullI63 : IterOk Tryd.prog glob 63 I63 := iter63 envOk63 mixed
theorem envOk48 : EnvOk Tryd.prog env48 := by
  refine ⟨tabOk, fun f S h => ?_, fun f l S h => ?_, fun f fs I h => ?_⟩
  · simp only [env48] at h
    split at h
    · cases h; exact full32
    · cases h
  · simp only [env48] at h
    cases h
  · simp only [env48] at h
    cases h
theorem full48 : Meets Tryd.prog glob 48 spec48 := meets48 envOk48 mixed
theorem envOk21 : EnvOk Tryd.prog env21 := by
  refine ⟨tabOk, fun f S h => ?_, fun f l S h => ?_, fun f fs I h => ?_⟩
  · simp only [env21] at h
    split at h
    · cases h; exact full29
    · cases h; exact full40
    · cases h; exact full45
    · cases h; exact full46
    · cases h; exact full48
    · cases h
  · simp only [env21] at h
    split at h
    · cases h; exact full47
    · cases h
  · simp only [env21] at h
    cases h
theorem full21 : Meets Tryd.prog glob 21 spec21 := meets21 envOk21 mixed fullI63
theorem envOk23 : EnvOk Tryd.prog env23 := by
  refine ⟨tabOk, fun f S h => ?_, fun f l S h => ?_, fun f fs I h => ?_⟩
  · simp only [env23] at h
    split at h
    · cases h; exact full30
    · cases h; exact full40
    · cases h; exact full45
    · cases h; exact full46
    · cases h; exact full48
    · cases h; exact full51
    · cases h
  · simp only [env23] at h
    split at h
    · cases h; exact full47
    · cases h
  · simp only [env23] at h
    cases h
theorem full23 : Meets Tryd.prog glob 23 spec23 := meets23 envOk23 mixed fullI63
theorem envOk12 : EnvOk Tryd.prog env12 := by
  refine ⟨tabOk, fun f S h => ?_, fun f l S h => ?_, fun f fs I h => ?_⟩
  · simp only [env12] at h
    split at h
    · cases h; exact full14
    · cases h; exact full16
    · cases h; exact full19
    · cases h; exact full21
    · cases h; exact full23
    · cases h; exact full30
    · cases h; exact full39
    · cases h
  · simp only [env12] at h
    cases h
  · simp only [env12] at h
    cases h
theorem full12 : Meets Tryd.prog glob 12 spec12 := meets12 envOk12 mixed
theorem envOk13 : EnvOk Tryd.prog env13 := by
  refine ⟨tabOk, fun f S h => ?_, fun f l S h => ?_, fun f fs I h => ?_⟩
  · simp only [env13] at h
    cases h
  · simp only [env13] at h
    cases h
  · simp only [env13] at h
    cases h
theorem full13 : Meets Tryd.prog glob 13 spec13 := meets13 envOk13 mixed
theorem envOk42 : EnvOk Tryd.prog env42 := by
  refine ⟨tabOk, fun f S h => ?_, fun f l S h => ?_, fun f fs I h => ?_⟩
  · simp only [env42] at h
    cases h
  · simp only [env42] at h
    cases h
  · simp only [env42] at h
    cases h
theorem full42 : Meets Tryd.prog glob 42 spec42 := meets42 envOk42 mixed
theorem envOk57 : EnvOk Tryd.prog env57 := by
  refine ⟨tabOk, fun f S h => ?_, fun f l S h => ?_, fun f fs I h => ?_⟩
  · simp only [env57] at h
    cases h
  · simp only [env57] at h
    cases h
  · simp only [env57] at h
    cases h
theorem full57 : Meets Tryd.prog glob 57 spec57 := meets57 envOk57 mixed
theorem envOk69 : EnvOk Tryd.prog env69 := by
  refine ⟨tabOk, fun f S h => ?_, fun f l S h => ?_, fun f fs I h => ?_⟩
  · simp only [env69] at h
    cases h
  · simp only [env69] at h
    cases h
  · simp only [env69] at h
    cases h
theorem full69 : Meets Tryd.prog glob 69 spec69 := meets69 envOk69 mixed
theorem envOk70 : EnvOk Tryd.prog env70 := by
  refine ⟨tabOk, fun f S h => ?_, fun f l S h => ?_, fun f fs I h => ?_⟩
  · simp only [env70] at h
    cases h
  · simp only [env70] at h
    cases h
  · simp only [env70] at h
    cases h
theorem full70 : Meets Tryd.prog glob 70 spec70 := meets70 envOk70 mixed
theorem envOk58 : EnvOk Tryd.prog env58 := by
  refine ⟨tabOk, fun f S h => ?_, fun f l S h => ?_, fun f fs I h => ?_⟩
  · simp only [env58] at h
    split at h
    · cases h; exact full69
    · cases h; exact full70
    · cases h
  · simp only [env58] at h
    cases h
  · simp only [env58] at h
    cases h
theorem full58 : Meets Tryd.prog glob 58 spec58 := meets58 envOk58 mixed
theorem envOk33 : EnvOk Tryd.prog env33 := by
  refine ⟨tabOk, fun f S h => ?_, fun f l S h => ?_, fun f fs I h => ?_⟩
  · simp only [env33] at h
    split at h
    · cases h; exact full57
    · cases h; exact full58
    · cases h
  · simp only [env33] at h
    cases h
  · simp only [env33] at h
    cases h
theorem full33 : Meets Tryd.prog glob 33 spec33 := meets33 envOk33 mixed
theorem envOk34 : EnvOk Tryd.prog env34 := by
  refine ⟨tabOk, fun f S h => ?_, fun f l S h => ?_, fun f fs I h => ?_⟩
  · simp only [env34] at h
    split at h
    · cases h; exact full33
    · cases h
  · simp only [env34] at h
    cases h
  · simp only [env34] at h
    cases h
theorem full34 : Meets Tryd.prog glob 34 spec34 := meets34 envOk34 mixed
theorem envOk35 : EnvOk Tryd.prog env35 := by
  refine ⟨tabOk, fun f S h => ?_, fun f l S h => ?_, fun f fs I h => ?_⟩
  · simp only [env35] at h
    split at h
    · cases h; exact full33
    · cases h
  · simp only [env35] at h
    cases h
  · simp only [env35] at h
    cases h
theorem full35 : Meets Tryd.prog glob 35 spec35 := meets35 envOk35 mixed
theorem envOk49 : EnvOk Tryd.prog env49 := by
  refine ⟨tabOk, fun f S h => ?_, fun f l S h => ?_, fun f fs I h => ?_⟩
  · simp only [env49] at h
    cases h
  · simp only [env49] at h
    cases h
  · simp only [env49] at h
    cases h
theorem full49 : Meets Tryd.prog glob 49 spec49 := meets49 envOk49 mixed
theorem envOk50 (PR : Int → Int → (List UInt8) → (List (List UInt8)) → Bool) (FR : Int → Int → (List UInt8) → (List (List UInt8)) → (List UInt8) × Bool) (hself : Meets Tryd.prog glob 50 (specs50 PR FR)) : EnvOk Tryd.prog (envs50 PR FR) := by
  refine ⟨tabOk, fun f S h => ?_, fun f l S h => ?_, fun f fs I h => ?_⟩
  · simp only [envs50] at h
    split at h
    · cases h; exact full34
    · cases h; exact full35
    · cases h; exact full42
    · cases h; exact hself
    · cases h
  · simp only [envs50] at h
    cases h
  · simp only [envs50] at h
    cases h
theorem spec50_eq : specs50 (fun x0 x1 x2 x3 => (Gn50 recDepth x0 x1 x2 x3).isSome) (fun x0 x1 x2 x3 => (Gn50 recDepth x0 x1 x2 x3).getD default) = spec50 := by
  unfold spec50 specs50 P50 F50 G50
  first | (simp only [hold_eq]; done) | (simp only [hold_eq]; rfl)
theorem full50 : Meets Tryd.prog glob 50 spec50 := spec50_eq ▸ meetsn50 envOk50 mixed recDepth
theorem envOk22 : EnvOk Tryd.prog env22 := by
  refine ⟨tabOk, fun f S h => ?_, fun f l S h => ?_, fun f fs I h => ?_⟩
  · simp only [env22] at h
    split at h
    · cases h; exact full49
    · cases h; exact full50
    · cases h
  · simp only [env22] at h
    cases h
  · simp only [env22] at h
    cases h
theorem full22 : Meets Tryd.prog glob 22 spec22 := meets22 envOk22 mixed
theorem envOk52 (PR : (List UInt8) → Int → Int → (List (List UInt8)) → Bool → Bool) (FR : (List UInt8) → Int → Int → (List (List UInt8)) → Bool → (List UInt8) × (List UInt8) × Bool) (hself : Meets Tryd.prog glob 52 (specs52 PR FR)) : EnvOk Tryd.prog (envs52 PR FR) := by
  refine ⟨tabOk, fun f S h => ?_, fun f l S h => ?_, fun f fs I h => ?_⟩
  · simp only [envs52] at h
    split at h
    · cases h; exact full35
    · cases h; exact full42
    · cases h; exact hself
    · cases h
  · simp only [envs52] at h
    cases h
  · simp only [envs52] at h
    cases h
theorem spec52_eq : specs52 (fun x0 x1 x2 x3 x4 => (Gn52 recDepth x0 x1 x2 x3 x4).isSome) (fun x0 x1 x2 x3 x4 => (Gn52 recDepth x0 x1 x2 x3 x4).getD default) = spec52 := by
  unfold spec52 specs52 P52 F52 G52
  first | (simp only [hold_eq]; done) | (simp only [hold_eq]; rfl)
theorem full52 : Meets Tryd.prog glob 52 spec52 := spec52_eq ▸ meetsn52 envOk52 mixed recDepth
theorem envOk24 : EnvOk Tryd.prog env24 := by
  refine ⟨tabOk, fun f S h => ?_, fun f l S h => ?_, fun f fs I h => ?_⟩
  · simp only [env24] at h
    split at h
    · cases h; exact full33
    · cases h; exact full49
    · cases h; exact full52
    · cases h
  · simp only [env24] at h
    cases h
  · simp only [env24] at h
    cases h
theorem full24 : Meets Tryd.prog glob 24 spec24 := meets24 envOk24 mixed
theorem envOk4 : EnvOk Tryd.prog env4 := by
  refine ⟨tabOk, fun f S h => ?_, fun f l S h => ?_, fun f fs I h => ?_⟩
  · simp only [env4] at h
    split at h
    · cases h; exact full12
    · cases h; exact full13
    · cases h; exact full21
    · cases h; exact full22
    · cases h; exact full23
    · cases h; exact full24
    · cases h
  · simp only [env4] at h
    cases h
  · simp only [env4] at h
    cases h
theorem full4 : Meets Tryd.prog glob 4 spec4 := meets4 envOk4 mixed
end
end Go.Ev.D
