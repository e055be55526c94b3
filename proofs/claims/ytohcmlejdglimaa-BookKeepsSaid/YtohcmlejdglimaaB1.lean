/- Texts for the proofs of this seat: the functions of the program as functions of Lean, with the proofs that they are. -/
import Derived.Test.YtohcmlejdglimaaEv4
import Derived.Test.YtohcmlejdglimaaProg
import Derived.KernelRfl
set_option linter.unusedSimpArgs false
set_option linter.unusedVariables false
namespace Go.Ev.B
open Go Go.Proofs Go.Ev
noncomputable section
abbrev D13 : Type := ((List UInt8) × (Int × Unit))
abbrev t13 : Ty := (.pair .str (.pair (.int .u64) .unit))
abbrev z13 : D13 := (([] : List UInt8), ((0 : Int), ()))
abbrev D7 : Type := (Int × (Int × (Bool × (Int × Unit))))
abbrev t7 : Ty := (.pair (.int .i64) (.pair (.int .i64) (.pair .bool (.pair (.int .u8) .unit))))
abbrev z7 : D7 := ((0 : Int), ((0 : Int), (false, ((0 : Int), ()))))
abbrev D26 : Type := (Int × (Int × (Int × (Int × (Int × (Int × (Int × Unit)))))))
abbrev t26 : Ty := (.pair (.int .i64) (.pair (.int .i64) (.pair (.int .i64) (.pair (.int .i64) (.pair (.int .i64) (.pair (.int .i64) (.pair (.int .i64) .unit)))))))
abbrev z26 : D26 := ((0 : Int), ((0 : Int), ((0 : Int), ((0 : Int), ((0 : Int), ((0 : Int), ((0 : Int), ())))))))
abbrev D23 : Type := (Int × ((List D26) × (Int × Unit)))
abbrev t23 : Ty := (.pair (.int .i64) (.pair (.list t26) (.pair (.int .i64) .unit)))
abbrev z23 : D23 := ((0 : Int), (([] : (List D26)), ((0 : Int), ())))
abbrev D57 : Type := (D23 × ((List Bool) × Unit))
abbrev t57 : Ty := (.pair t23 (.pair (.arr 200 .bool) .unit))
abbrev z57 : D57 := (z23, ((List.replicate 200 false), ()))
def tab : Tab := ⟨fun
  | 2 => some (.int .i64)
  | 3 => some (.int .i64)
  | 4 => some .bool
  | 5 => some (.int .u8)
  | 6 => some (.int .u8)
  | 7 => some t7
  | 8 => some t7
  | 9 => some .str
  | 10 => some .str
  | 11 => some .str
  | 12 => some (.int .u64)
  | 13 => some t13
  | 14 => some t13
  | 21 => some (.int .i32)
  | 22 => some (.list t26)
  | 23 => some t23
  | 24 => some t23
  | 25 => some (.list (.arr 5 (.int .i64)))
  | 26 => some t26
  | 27 => some t26
  | 30 => some (.list t23)
  | 31 => some (.int .i64)
  | 37 => some (.list (.int .i64))
  | 48 => some (.arr 5 (.int .i64))
  | 56 => some (.arr 200 .bool)
  | 57 => some t57
  | 58 => some t57
  | 60 => some (.list .bool)
  | 62 => some (.arr 12 (.int .i64))
  | 63 => some (.arr 12 (.int .i64))
  | 78 => some (.int .u32)
  | 79 => some (.int .u8)
  | 80 => some (.int .u8)
  | 83 => some (.int .i32)
  | 84 => some (.int .i32)
  | _ => none, fun
  | 22 => some 27
  | 25 => some 48
  | 30 => some 24
  | 37 => some 3
  | 60 => some 4
  | _ => none, fun | 4 | 27 | 63 => true | _ => false, fun
  | 22 => [(0, 27, t26)]
  | 23 => [(1, 27, t26)]
  | 24 => [(1, 27, t26)]
  | 25 => [(0, 48, (.arr 5 (.int .i64)))]
  | 30 => [(0, 24, t23)]
  | 37 => [(0, 3, (.int .i64))]
  | 57 => [(1, 27, t26)]
  | 58 => [(1, 27, t26)]
  | 60 => [(0, 4, .bool)]
  | _ => [], fun
  | 1 => some false
  | 15 => some true
  | 16 => some true
  | 17 => some true
  | 28 => some false
  | 29 => some false
  | 33 => some false
  | 34 => some false
  | 35 => some false
  | 36 => some false
  | 39 => some false
  | 40 => some false
  | 42 => some false
  | 44 => some false
  | 45 => some false
  | 46 => some false
  | 47 => some false
  | 49 => some false
  | 50 => some false
  | 51 => some false
  | 52 => some true
  | 54 => some false
  | 55 => some false
  | 59 => some false
  | 61 => some false
  | 64 => some false
  | 65 => some false
  | 66 => some false
  | 67 => some false
  | 68 => some false
  | 69 => some true
  | 70 => some false
  | 71 => some false
  | 77 => some false
  | 81 => some false
  | 82 => some true
  | _ => none⟩
def glob : Nat → Option Dat := fun _ => none
theorem tyOk2 : TyOk Try.prog tab 2 (.int .i64) := ⟨Try.underlying2, by kernel_rfl⟩
theorem tyOk3 : TyOk Try.prog tab 3 (.int .i64) := ⟨Try.underlying3, by kernel_rfl⟩
theorem tyOk4 : TyOk Try.prog tab 4 .bool := ⟨Try.underlying4, by kernel_rfl⟩
theorem tyOk5 : TyOk Try.prog tab 5 (.int .u8) := ⟨Try.underlying5, by kernel_rfl⟩
theorem tyOk6 : TyOk Try.prog tab 6 (.int .u8) := ⟨Try.underlying6, by kernel_rfl⟩
theorem tyOk7 : TyOk Try.prog tab 7 t7 := ⟨⟨_, Try.underlying7, (And.intro rfl (And.intro rfl (And.intro rfl (And.intro rfl (And.intro rfl (And.intro rfl (And.intro rfl (And.intro rfl trivial))))))))⟩, by kernel_rfl⟩
theorem tyOk8 : TyOk Try.prog tab 8 t7 := ⟨⟨_, Try.underlying8, (And.intro rfl (And.intro rfl (And.intro rfl (And.intro rfl (And.intro rfl (And.intro rfl (And.intro rfl (And.intro rfl trivial))))))))⟩, by kernel_rfl⟩
theorem tyOk9 : TyOk Try.prog tab 9 .str := ⟨Try.underlying9, by kernel_rfl⟩
theorem tyOk10 : TyOk Try.prog tab 10 .str := ⟨Try.underlying10, by kernel_rfl⟩
theorem tyOk11 : TyOk Try.prog tab 11 .str := ⟨Try.underlying11, by kernel_rfl⟩
theorem tyOk12 : TyOk Try.prog tab 12 (.int .u64) := ⟨Try.underlying12, by kernel_rfl⟩
theorem tyOk13 : TyOk Try.prog tab 13 t13 := ⟨⟨_, Try.underlying13, (And.intro rfl (And.intro rfl (And.intro rfl (And.intro rfl trivial))))⟩, by kernel_rfl⟩
theorem tyOk14 : TyOk Try.prog tab 14 t13 := ⟨⟨_, Try.underlying14, (And.intro rfl (And.intro rfl (And.intro rfl (And.intro rfl trivial))))⟩, by kernel_rfl⟩
theorem tyOk21 : TyOk Try.prog tab 21 (.int .i32) := ⟨Try.underlying21, by kernel_rfl⟩
theorem tyOk22 : TyOk Try.prog tab 22 (.list t26) := ⟨⟨27, Try.underlying22, rfl, rfl, by decide, Try.t27.bytes, Nat.le_of_ble_eq_true (by kernel_rfl), by kernel_rfl⟩, by kernel_rfl⟩
theorem tyOk23 : TyOk Try.prog tab 23 t23 := ⟨⟨_, Try.underlying23, (And.intro rfl (And.intro rfl (And.intro rfl (And.intro rfl (And.intro rfl (And.intro rfl trivial))))))⟩, by kernel_rfl⟩
theorem tyOk24 : TyOk Try.prog tab 24 t23 := ⟨⟨_, Try.underlying24, (And.intro rfl (And.intro rfl (And.intro rfl (And.intro rfl (And.intro rfl (And.intro rfl trivial))))))⟩, by kernel_rfl⟩
theorem tyOk25 : TyOk Try.prog tab 25 (.list (.arr 5 (.int .i64))) := ⟨⟨48, Try.underlying25, rfl, rfl, by decide, Try.t48.bytes, Nat.le_of_ble_eq_true (by kernel_rfl), by kernel_rfl⟩, by kernel_rfl⟩
theorem tyOk26 : TyOk Try.prog tab 26 t26 := ⟨⟨_, Try.underlying26, (And.intro rfl (And.intro rfl (And.intro rfl (And.intro rfl (And.intro rfl (And.intro rfl (And.intro rfl (And.intro rfl (And.intro rfl (And.intro rfl (And.intro rfl (And.intro rfl (And.intro rfl (And.intro rfl trivial))))))))))))))⟩, by kernel_rfl⟩
theorem tyOk27 : TyOk Try.prog tab 27 t26 := ⟨⟨_, Try.underlying27, (And.intro rfl (And.intro rfl (And.intro rfl (And.intro rfl (And.intro rfl (And.intro rfl (And.intro rfl (And.intro rfl (And.intro rfl (And.intro rfl (And.intro rfl (And.intro rfl (And.intro rfl (And.intro rfl trivial))))))))))))))⟩, by kernel_rfl⟩
theorem tyOk30 : TyOk Try.prog tab 30 (.list t23) := ⟨⟨24, Try.underlying30, rfl, rfl, by decide, Try.t24.bytes, Nat.le_of_ble_eq_true (by kernel_rfl), by kernel_rfl⟩, by kernel_rfl⟩
theorem tyOk31 : TyOk Try.prog tab 31 (.int .i64) := ⟨Try.underlying31, by kernel_rfl⟩
theorem tyOk37 : TyOk Try.prog tab 37 (.list (.int .i64)) := ⟨⟨3, Try.underlying37, rfl, rfl, by decide, Try.t3.bytes, Nat.le_of_ble_eq_true (by kernel_rfl), by kernel_rfl⟩, by kernel_rfl⟩
theorem tyOk48 : TyOk Try.prog tab 48 (.arr 5 (.int .i64)) := ⟨⟨3, Try.underlying48, rfl, by decide, by kernel_rfl⟩, by kernel_rfl⟩
theorem tyOk56 : TyOk Try.prog tab 56 (.arr 200 .bool) := ⟨⟨4, Try.underlying56, rfl, by decide, by kernel_rfl⟩, by kernel_rfl⟩
theorem tyOk57 : TyOk Try.prog tab 57 t57 := ⟨⟨_, Try.underlying57, (And.intro rfl (And.intro rfl (And.intro rfl (And.intro rfl trivial))))⟩, by kernel_rfl⟩
theorem tyOk58 : TyOk Try.prog tab 58 t57 := ⟨⟨_, Try.underlying58, (And.intro rfl (And.intro rfl (And.intro rfl (And.intro rfl trivial))))⟩, by kernel_rfl⟩
theorem tyOk60 : TyOk Try.prog tab 60 (.list .bool) := ⟨⟨4, Try.underlying60, rfl, rfl, by decide, Try.t4.bytes, Nat.le_of_ble_eq_true (by kernel_rfl), by kernel_rfl⟩, by kernel_rfl⟩
theorem tyOk62 : TyOk Try.prog tab 62 (.arr 12 (.int .i64)) := ⟨⟨3, Try.underlying62, rfl, by decide, by kernel_rfl⟩, by kernel_rfl⟩
theorem tyOk63 : TyOk Try.prog tab 63 (.arr 12 (.int .i64)) := ⟨⟨3, Try.underlying63, rfl, by decide, by kernel_rfl⟩, by kernel_rfl⟩
theorem tyOk78 : TyOk Try.prog tab 78 (.int .u32) := ⟨Try.underlying78, by kernel_rfl⟩
theorem tyOk79 : TyOk Try.prog tab 79 (.int .u8) := ⟨Try.underlying79, by kernel_rfl⟩
theorem tyOk80 : TyOk Try.prog tab 80 (.int .u8) := ⟨Try.underlying80, by kernel_rfl⟩
theorem tyOk83 : TyOk Try.prog tab 83 (.int .i32) := ⟨Try.underlying83, by kernel_rfl⟩
theorem tyOk84 : TyOk Try.prog tab 84 (.int .i32) := ⟨Try.underlying84, by kernel_rfl⟩
theorem eqOk27 : EqOk Try.prog 27 t26 := eqOk_agg (by kernel_rfl) rfl (by decide) (by kernel_rfl)
theorem eqOk63 : EqOk Try.prog 63 (.arr 12 (.int .i64)) := eqOk_agg (by kernel_rfl) rfl (by decide) (by kernel_rfl)
theorem refOk1 : RefOk Try.prog 1 false := ⟨by kernel_rfl, _, Try.underlying1, trivial⟩
theorem refOk15 : RefOk Try.prog 15 true := ⟨by kernel_rfl, _, Try.underlying15, trivial⟩
theorem refOk16 : RefOk Try.prog 16 true := ⟨by kernel_rfl, _, Try.underlying16, trivial⟩
theorem refOk17 : RefOk Try.prog 17 true := ⟨by kernel_rfl, _, Try.underlying17, trivial⟩
theorem refOk28 : RefOk Try.prog 28 false := ⟨by kernel_rfl, _, Try.underlying28, trivial⟩
theorem refOk29 : RefOk Try.prog 29 false := ⟨by kernel_rfl, _, Try.underlying29, trivial⟩
theorem refOk33 : RefOk Try.prog 33 false := ⟨by kernel_rfl, _, Try.underlying33, trivial⟩
theorem refOk34 : RefOk Try.prog 34 false := ⟨by kernel_rfl, _, Try.underlying34, trivial⟩
theorem refOk35 : RefOk Try.prog 35 false := ⟨by kernel_rfl, _, Try.underlying35, trivial⟩
theorem refOk36 : RefOk Try.prog 36 false := ⟨by kernel_rfl, _, Try.underlying36, trivial⟩
theorem refOk39 : RefOk Try.prog 39 false := ⟨by kernel_rfl, _, Try.underlying39, trivial⟩
theorem refOk40 : RefOk Try.prog 40 false := ⟨by kernel_rfl, _, Try.underlying40, trivial⟩
theorem refOk42 : RefOk Try.prog 42 false := ⟨by kernel_rfl, _, Try.underlying42, trivial⟩
theorem refOk44 : RefOk Try.prog 44 false := ⟨by kernel_rfl, _, Try.underlying44, trivial⟩
theorem refOk45 : RefOk Try.prog 45 false := ⟨by kernel_rfl, _, Try.underlying45, trivial⟩
theorem refOk46 : RefOk Try.prog 46 false := ⟨by kernel_rfl, _, Try.underlying46, trivial⟩
theorem refOk47 : RefOk Try.prog 47 false := ⟨by kernel_rfl, _, Try.underlying47, trivial⟩
theorem refOk49 : RefOk Try.prog 49 false := ⟨by kernel_rfl, _, Try.underlying49, trivial⟩
theorem refOk50 : RefOk Try.prog 50 false := ⟨by kernel_rfl, _, Try.underlying50, trivial⟩
theorem refOk51 : RefOk Try.prog 51 false := ⟨by kernel_rfl, _, Try.underlying51, trivial⟩
theorem refOk52 : RefOk Try.prog 52 true := ⟨by kernel_rfl, _, Try.underlying52, trivial⟩
theorem refOk54 : RefOk Try.prog 54 false := ⟨by kernel_rfl, _, Try.underlying54, trivial⟩
theorem refOk55 : RefOk Try.prog 55 false := ⟨by kernel_rfl, _, Try.underlying55, trivial⟩
theorem refOk59 : RefOk Try.prog 59 false := ⟨by kernel_rfl, _, Try.underlying59, trivial⟩
theorem refOk61 : RefOk Try.prog 61 false := ⟨by kernel_rfl, _, Try.underlying61, trivial⟩
theorem refOk64 : RefOk Try.prog 64 false := ⟨by kernel_rfl, _, Try.underlying64, trivial⟩
theorem refOk65 : RefOk Try.prog 65 false := ⟨by kernel_rfl, _, Try.underlying65, trivial⟩
theorem refOk66 : RefOk Try.prog 66 false := ⟨by kernel_rfl, _, Try.underlying66, trivial⟩
theorem refOk67 : RefOk Try.prog 67 false := ⟨by kernel_rfl, _, Try.underlying67, trivial⟩
theorem refOk68 : RefOk Try.prog 68 false := ⟨by kernel_rfl, _, Try.underlying68, trivial⟩
theorem refOk69 : RefOk Try.prog 69 true := ⟨by kernel_rfl, _, Try.underlying69, trivial⟩
theorem refOk70 : RefOk Try.prog 70 false := ⟨by kernel_rfl, _, Try.underlying70, trivial⟩
theorem refOk71 : RefOk Try.prog 71 false := ⟨by kernel_rfl, _, Try.underlying71, trivial⟩
theorem refOk77 : RefOk Try.prog 77 false := ⟨by kernel_rfl, _, Try.underlying77, trivial⟩
theorem refOk81 : RefOk Try.prog 81 false := ⟨by kernel_rfl, _, Try.underlying81, trivial⟩
theorem refOk82 : RefOk Try.prog 82 true := ⟨by kernel_rfl, _, Try.underlying82, trivial⟩
theorem tabOk : TabOk Try.prog tab := by
  refine ⟨fun id t h => ?_, fun id t h he => ?_, fun id b h => ?_⟩
  · unfold tab at h
    dsimp only at h
    split at h
    · cases h; exact tyOk2
    · cases h; exact tyOk3
    · cases h; exact tyOk4
    · cases h; exact tyOk5
    · cases h; exact tyOk6
    · cases h; exact tyOk7
    · cases h; exact tyOk8
    · cases h; exact tyOk9
    · cases h; exact tyOk10
    · cases h; exact tyOk11
    · cases h; exact tyOk12
    · cases h; exact tyOk13
    · cases h; exact tyOk14
    · cases h; exact tyOk21
    · cases h; exact tyOk22
    · cases h; exact tyOk23
    · cases h; exact tyOk24
    · cases h; exact tyOk25
    · cases h; exact tyOk26
    · cases h; exact tyOk27
    · cases h; exact tyOk30
    · cases h; exact tyOk31
    · cases h; exact tyOk37
    · cases h; exact tyOk48
    · cases h; exact tyOk56
    · cases h; exact tyOk57
    · cases h; exact tyOk58
    · cases h; exact tyOk60
    · cases h; exact tyOk62
    · cases h; exact tyOk63
    · cases h; exact tyOk78
    · cases h; exact tyOk79
    · cases h; exact tyOk80
    · cases h; exact tyOk83
    · cases h; exact tyOk84
    · cases h
  · unfold tab at he
    dsimp only at he
    split at he
    · cases h; exact eqOk_bool Try.underlying4
    · cases h; exact eqOk27
    · cases h; exact eqOk63
    · cases he
  · unfold tab at h
    dsimp only at h
    split at h
    · cases h; exact refOk1
    · cases h; exact refOk15
    · cases h; exact refOk16
    · cases h; exact refOk17
    · cases h; exact refOk28
    · cases h; exact refOk29
    · cases h; exact refOk33
    · cases h; exact refOk34
    · cases h; exact refOk35
    · cases h; exact refOk36
    · cases h; exact refOk39
    · cases h; exact refOk40
    · cases h; exact refOk42
    · cases h; exact refOk44
    · cases h; exact refOk45
    · cases h; exact refOk46
    · cases h; exact refOk47
    · cases h; exact refOk49
    · cases h; exact refOk50
    · cases h; exact refOk51
    · cases h; exact refOk52
    · cases h; exact refOk54
    · cases h; exact refOk55
    · cases h; exact refOk59
    · cases h; exact refOk61
    · cases h; exact refOk64
    · cases h; exact refOk65
    · cases h; exact refOk66
    · cases h; exact refOk67
    · cases h; exact refOk68
    · cases h; exact refOk69
    · cases h; exact refOk70
    · cases h; exact refOk71
    · cases h; exact refOk77
    · cases h; exact refOk81
    · cases h; exact refOk82
    · cases h
def env30 : Env where
  tab := tab
  glob := glob
  spec := fun
    | _ => none
def orc30 : Orc := ⟨15, fun _ => none, fun
  | 0 => kp [0, 1, 2] []
  | 1 => kp [6] []
  | _ => [], fun | _ => false⟩
noncomputable def body30 : Code := Try.f30.body.getD .skip
def loops30 : Nat → Option (Sum) := fun | _ => none
theorem loops30_nat : ∀ q f, loops30 q = some f → Natural f := by
  intro q f h
  cases h
theorem loops30_ok : LoopsOk env30 orc30 loops30 body30 := loopsOk_nil (by kernel_rfl)
def G30 (x0 : Int) (x1 : Int) (x2 : Int) : Option (Bool) :=
  let v1 : Bool := (decide (x0 ≥ x1))
  let v2 : Bool := (decide (x0 ≤ x2))
  let v3 : Bool := (bif v1 then v2 else false)
  some (v3)
theorem ev30 (x0 : Int) (x1 : Int) (x2 : Int) : ev2 env30 orc30 loops30 body30 (initSt 0 [⟨(.int .i64), x0⟩, ⟨(.int .i64), x1⟩, ⟨(.int .i64), x2⟩]) (retT [(6, .dat .bool)] [.bool] fun x => x.1) = G30 x0 x1 x2 := by kernel_rfl
def P30 (x0 : Int) (x1 : Int) (x2 : Int) : Bool := (G30 x0 x1 x2).isSome
def F30 (x0 : Int) (x1 : Int) (x2 : Int) : Bool := (G30 x0 x1 x2).getD default
theorem G30_some (x0 : Int) (x1 : Int) (x2 : Int) (h : P30 x0 x1 x2 = true) : G30 x0 x1 x2 = some (F30 x0 x1 x2) := by
  unfold P30 at h; unfold F30
  cases hg : G30 x0 x1 x2 with
  | none => rw [hg] at h; cases h
  | some r => rfl
theorem P30_of (x0 : Int) (x1 : Int) (x2 : Int) {r : Bool} (h : G30 x0 x1 x2 = some r) : P30 x0 x1 x2 = true := by unfold P30; rw [h]; rfl
theorem F30_of (x0 : Int) (x1 : Int) (x2 : Int) {r : Bool} (h : G30 x0 x1 x2 = some r) : F30 x0 x1 x2 = r := by unfold F30; rw [h]; rfl
def spec30 : Spec := ⟨[(.int .i64), (.int .i64), (.int .i64)], [.dat .bool], fun | [a0, a1, a2] => P30 (a0.as (.int .i64)) (a1.as (.int .i64)) (a2.as (.int .i64)) | _ => false, fun | [a0, a1, a2] => [⟨.bool, (F30 (a0.as (.int .i64)) (a1.as (.int .i64)) (a2.as (.int .i64)))⟩] | _ => []⟩
theorem meets30 (hE : EnvOk Try.prog env30) (hm : Try.prog.follows .mixedOrders = true) : Meets Try.prog glob 30 spec30 :=
  meets_of_ev2 (O := orc30) (L := loops30) (c := body30) (slots := [6]) hE hm Try.func30 Try.call30 (by kernel_rfl) (by kernel_rfl) loops30_ok (rangesOk_nil (by kernel_rfl)) (by kernel_rfl) rfl (by decide) (fun ds hds hpre => by
  obtain ⟨x0, ds0, rfl, h0⟩ := datsS hds
  obtain ⟨x1, ds1, rfl, h1⟩ := datsS h0
  obtain ⟨x2, ds2, rfl, h2⟩ := datsS h1
  have h9 := dats0 h2; subst h9
  exact ev_ret (un := fun r => [⟨.bool, r⟩]) loops30_nat (fun _ => rfl) ((ev30 x0 x1 x2).trans (G30_some x0 x1 x2 hpre)))
def env31 : Env where
  tab := tab
  glob := glob
  spec := fun
    | 30 => some spec30
    | _ => none
def orc31 : Orc := ⟨58, fun _ => none, fun
  | 0 => kp [1, 2] [(2, [0, 1, 2, 3, 4, 5, 6])]
  | 1 => kp [2, 43] [(2, [0, 1, 2, 3, 4, 5, 6])]
  | 2 => kp [4] []
  | 3 => kp [2, 46] [(2, [0, 1, 2, 3, 4, 5, 6])]
  | 4 => kp [4] []
  | 5 => kp [4] []
  | _ => [], fun | _ => false⟩
noncomputable def body31 : Code := Try.f31.body.getD .skip
def loops31 : Nat → Option (Sum) := fun | _ => none
theorem loops31_nat : ∀ q f, loops31 q = some f → Natural f := by
  intro q f h
  cases h
theorem loops31_ok : LoopsOk env31 orc31 loops31 body31 := loopsOk_nil (by kernel_rfl)
def G31 (x0 : D26) (x1 : Int) : Option (Bool) :=
  bif (P30 x0.2.1 (0 : Int) (359 : Int)) then
  let v1 : Bool := (F30 x0.2.1 (0 : Int) (359 : Int))
  let v2 : Bool := (!v1)
  let v3 : Int := (IntKind.i64.wrap (x1 - (1 : Int)))
  bif ((P30 x0.2.2.1 (0 : Int) v3) || !(!v2 && true)) then
  let v4 : Bool := (F30 x0.2.2.1 (0 : Int) v3)
  let v5 : Bool := (!v4)
  let v6 : Bool := (bif v2 then true else v5)
  let v7 : Int := (IntKind.i64.wrap (x1 - (1 : Int)))
  bif ((P30 x0.2.2.2.1 (0 : Int) v7) || !(!v6 && true)) then
  let v8 : Bool := (F30 x0.2.2.2.1 (0 : Int) v7)
  let v9 : Bool := (!v8)
  let v10 : Bool := (bif v6 then true else v9)
  let v11 : Bool := (x0.2.2.1 == x0.2.2.2.1)
  let v12 : Bool := (bif v10 then true else v11)
  bif ((P30 x0.2.2.2.2.1 (1 : Int) (1000000000 : Int)) || !(!v12 && true)) then
  let v13 : Bool := (F30 x0.2.2.2.2.1 (1 : Int) (1000000000 : Int))
  let v14 : Bool := (!v13)
  let v15 : Bool := (bif v12 then true else v14)
  bif ((P30 x0.2.2.2.2.2.1 (0 : Int) (999 : Int)) || !(!v15 && true)) then
  let v16 : Bool := (F30 x0.2.2.2.2.2.1 (0 : Int) (999 : Int))
  let v17 : Bool := (!v16)
  let v18 : Bool := (bif v15 then true else v17)
  bif v18 then
  some (false)
  else
  let v19 : Bool := (x0.1 == (1 : Int))
  bif v19 then
  let v20 : Bool := (x0.2.2.2.2.2.2.1 == (-1 : Int))
  some (v20)
  else
  let v21 : Bool := (x0.1 == (2 : Int))
  bif ((P30 x0.2.2.2.2.2.2.1 (0 : Int) (199 : Int)) || !(v21 && true)) then
  let v22 : Bool := (F30 x0.2.2.2.2.2.2.1 (0 : Int) (199 : Int))
  let v23 : Bool := (bif v21 then v22 else false)
  some (v23)
  else none
  else none
  else none
  else none
  else none
  else none
theorem ev31 (x0 : D26) (x1 : Int) : ev2 env31 orc31 loops31 body31 (initSt 0 [⟨t26, x0⟩, ⟨(.int .i64), x1⟩]) (retT [(4, .dat .bool)] [.bool] fun x => x.1) = G31 x0 x1 := by kernel_rfl
def P31 (x0 : D26) (x1 : Int) : Bool := (G31 x0 x1).isSome
def F31 (x0 : D26) (x1 : Int) : Bool := (G31 x0 x1).getD default
theorem G31_some (x0 : D26) (x1 : Int) (h : P31 x0 x1 = true) : G31 x0 x1 = some (F31 x0 x1) := by
  unfold P31 at h; unfold F31
  cases hg : G31 x0 x1 with
  | none => rw [hg] at h; cases h
  | some r => rfl
theorem P31_of (x0 : D26) (x1 : Int) {r : Bool} (h : G31 x0 x1 = some r) : P31 x0 x1 = true := by unfold P31; rw [h]; rfl
theorem F31_of (x0 : D26) (x1 : Int) {r : Bool} (h : G31 x0 x1 = some r) : F31 x0 x1 = r := by unfold F31; rw [h]; rfl
def spec31 : Spec := ⟨[t26, (.int .i64)], [.dat .bool], fun | [a0, a1] => P31 (a0.as t26) (a1.as (.int .i64)) | _ => false, fun | [a0, a1] => [⟨.bool, (F31 (a0.as t26) (a1.as (.int .i64)))⟩] | _ => []⟩
theorem meets31 (hE : EnvOk Try.prog env31) (hm : Try.prog.follows .mixedOrders = true) : Meets Try.prog glob 31 spec31 :=
  meets_of_ev2 (O := orc31) (L := loops31) (c := body31) (slots := [4]) hE hm Try.func31 Try.call31 (by kernel_rfl) (by kernel_rfl) loops31_ok (rangesOk_nil (by kernel_rfl)) (by kernel_rfl) rfl (by decide) (fun ds hds hpre => by
  obtain ⟨x0, ds0, rfl, h0⟩ := datsS hds
  obtain ⟨x1, ds1, rfl, h1⟩ := datsS h0
  have h9 := dats0 h1; subst h9
  exact ev_ret (un := fun r => [⟨.bool, r⟩]) loops31_nat (fun _ => rfl) ((ev31 x0 x1).trans (G31_some x0 x1 hpre)))
def env12 : Env where
  tab := tab
  glob := glob
  spec := fun
    | 30 => some spec30
    | 31 => some spec31
    | _ => none
def orc12 : Orc := ⟨115, fun _ => none, fun
  | 0 => kp [1] [(1, [0, 1, 2])]
  | 1 => kp [1, 22] [(1, [0, 1, 2])]
  | 2 => kp [2] []
  | 3 => kp [1, 3] [(1, [0, 1, 2])]
  | 4 => kp [1, 3, 4] [(1, [0, 1, 2])]
  | 5 => kp [1, 3, 4, 31] [(1, [0, 1, 2])]
  | 6 => kp [1, 3, 4] [(1, [0, 1, 2])]
  | 7 => kp [1, 3, 4, 5] [(1, [0, 1, 2]), (5, [0, 1, 2, 3, 4, 5, 6])]
  | 8 => kp [1, 3, 4, 5, 59] [(1, [0, 1, 2]), (5, [0, 1, 2, 3, 4, 5, 6])]
  | 9 => kp [2] []
  | 10 => kp [1, 3, 4, 5, 62] [(1, [0, 1, 2]), (5, [0, 1, 2, 3, 4, 5, 6])]
  | 11 => kp [1, 3, 4, 5, 73] [(1, [0, 1, 2]), (5, [0, 1, 2, 3, 4, 5, 6])]
  | 12 => kp [2] []
  | 13 => kp [1, 3, 4, 5, 6] [(1, [0, 1, 2]), (5, [0, 1, 2, 3, 4, 5, 6]), (6, [0, 1, 2, 3, 4, 5, 6])]
  | 14 => kp [1, 3, 4, 5, 110] [(1, [0, 1, 2]), (5, [0, 1, 2, 3, 4, 5, 6])]
  | 15 => kp [2] []
  | 16 => kp [1, 3, 4] [(1, [0, 1, 2])]
  | 17 => kp [2] []
  | _ => [], fun | _ => false⟩
noncomputable def body12 : Code := Try.f12.body.getD .skip
def L12_5_sh : Shape := [(.slot 1, .ptr 1 0), (.slot 3, .own 4 .bool), (.slot 4, .dat (.int .i64)), (.box 1, .bx 24 3), (.cell 1 0, .dat (.int .i64)), (.cell 1 1, .dat (.list t26)), (.cell 1 2, .dat (.int .i64))]
def L12_5_x0 : Shape := [(.slot 2, .dat .bool)]
def L12_5_x1 : Shape := [(.slot 1, .ptr 1 0), (.slot 3, .own 4 .bool), (.slot 4, .dat (.int .i64)), (.box 1, .bx 24 3), (.cell 1 0, .dat (.int .i64)), (.cell 1 1, .dat (.list t26)), (.cell 1 2, .dat (.int .i64))]
def L12_5_pk (s : Tup L12_5_sh) : (List Bool) × Int × Int × (List D26) × Int := (s.2.1, s.2.2.1, s.2.2.2.2.1, s.2.2.2.2.2.1, s.2.2.2.2.2.2.1)
def L12_5_un (s : (List Bool) × Int × Int × (List D26) × Int) : Tup L12_5_sh := ((), (s.1, (s.2.1, ((), (s.2.2.1, (s.2.2.2.1, (s.2.2.2.2, ())))))))
def L12_5_leave (x : (Bool) ⊕ ((List Bool) × Int × Int × (List D26) × Int)) (R : Type) (K : Cont R) : Option R := match x with
  | (.inl a) => K .ret (mkSt L12_5_x0 (a, ()))
  | (.inr a) => K (.exit 0) (mkSt L12_5_x1 ((), (a.1, (a.2.1, ((), (a.2.2.1, (a.2.2.2.1, (a.2.2.2.2, ()))))))))
def L12_5_d (e : Exit) (st : St) : Option ((Bool) ⊕ ((List Bool) × Int × Int × (List D26) × Int)) := match e with
  | .ret => (match unSt L12_5_x0 st with
    | some s => some (.inl s.1)
    | none => none)
  | .exit 0 => (match unSt L12_5_x1 st with
    | some s => some (.inr (s.2.1, s.2.2.1, s.2.2.2.2.1, s.2.2.2.2.2.1, s.2.2.2.2.2.2.1))
    | none => none)
  | _ => none
def L12_5_r (s0 : (List Bool)) (s1 : Int) (s2 : Int) (s3 : (List D26)) (s4 : Int) : Option (((List Bool) × Int × Int × (List D26) × Int) ⊕ ((Bool) ⊕ ((List Bool) × Int × Int × (List D26) × Int))) :=
  let v11 : Int := ((List.length s3 : Nat) : Int)
  let v12 : Bool := (decide (s1 < v11))
  bif v12 then
  bif (decide (0 ≤ s1) && decide (s1 < List.length s3)) then
  let v13 : D26 := (List.getD s3 (Int.toNat s1) z26)
  bif (P31 v13 s2) then
  let v14 : Bool := (F31 v13 s2)
  let v15 : Bool := (!v14)
  let v16 : Bool := (decide (s1 > (0 : Int)))
  let v17 : Int := (IntKind.i64.wrap (s1 - (1 : Int)))
  bif ((decide (0 ≤ v17) && decide (v17 < List.length s3)) || !(v16 && (!v15 && true))) then
  let v18 : D26 := (List.getD s3 (Int.toNat v17) z26)
  let v19 : Bool := (decide (v13.2.1 < v18.2.1))
  let v20 : Bool := (bif v16 then v19 else false)
  let v21 : Bool := (bif v15 then true else v20)
  bif v21 then
  some (.inr (.inl false))
  else
  let v22 : Bool := (v13.1 == (1 : Int))
  bif v22 then
  let v23 : Int := (IntKind.i64.wrap (s1 + (1 : Int)))
  some (.inl (s0, v23, s2, s3, s4))
  else
  let v24 : Bool := (decide (v13.2.2.2.2.2.2.1 ≥ s1))
  bif ((decide (0 ≤ v13.2.2.2.2.2.2.1) && decide (v13.2.2.2.2.2.2.1 < (List.length s0))) || !(!v24 && true)) then
  bif ((decide ((Int.toNat v13.2.2.2.2.2.2.1) < List.length s0)) || !(!v24 && true)) then
  let v25 : Bool := (List.getD s0 (Int.toNat v13.2.2.2.2.2.2.1) false)
  let v26 : Bool := (bif v24 then true else v25)
  bif v26 then
  some (.inr (.inl false))
  else
  bif (decide (0 ≤ v13.2.2.2.2.2.2.1) && decide (v13.2.2.2.2.2.2.1 < List.length s3)) then
  let v27 : D26 := (List.getD s3 (Int.toNat v13.2.2.2.2.2.2.1) z26)
  let v28 : Bool := (v27.1 != (1 : Int))
  let v29 : Bool := (v13.2.2.1 != v27.2.2.2.1)
  let v30 : Bool := (bif v28 then true else v29)
  let v31 : Bool := (v13.2.2.2.1 != v27.2.2.1)
  let v32 : Bool := (bif v30 then true else v31)
  let v33 : Bool := (v13.2.2.2.2.1 != v27.2.2.2.2.1)
  let v34 : Bool := (bif v32 then true else v33)
  let v35 : Bool := (v13.2.2.2.2.2.1 != v27.2.2.2.2.2.1)
  let v36 : Bool := (bif v34 then true else v35)
  bif v36 then
  some (.inr (.inl false))
  else
  bif (decide (0 ≤ v13.2.2.2.2.2.2.1) && decide (v13.2.2.2.2.2.2.1 < (List.length s0))) then
  bif (decide ((Int.toNat v13.2.2.2.2.2.2.1) < List.length s0)) then
  let v37 : (List Bool) := (List.set s0 (Int.toNat v13.2.2.2.2.2.2.1) true)
  let v38 : Int := (IntKind.i64.wrap (s1 + (1 : Int)))
  some (.inl (v37, v38, s2, s3, s4))
  else none
  else none
  else none
  else none
  else none
  else none
  else none
  else none
  else
  some (.inr (.inr (s0, s1, s2, s3, s4)))
def L12_5 : (List Bool) × Int × Int × (List D26) × Int → Option ((Bool) ⊕ ((List Bool) × Int × Int × (List D26) × Int)) := Lim (fun s => L12_5_r s.1 s.2.1 s.2.2.1 s.2.2.2.1 s.2.2.2.2)
def L12_5_sum : Sum := limSum L12_5_sh L12_5_pk (fun s => L12_5_r s.1 s.2.1 s.2.2.1 s.2.2.2.1 s.2.2.2.2) L12_5_leave
theorem L12_5_nat : Natural L12_5_sum := natural_lim fun x R K => by
  rcases x with x|x <;> rfl
theorem L12_5_dok : ∀ e st x, e ≠ .normal → L12_5_d e st = some x → ∀ R (K : Cont R), K e st = L12_5_leave x R K := by
  intro e st x _ h R K
  unfold L12_5_d at h
  split at h
  · split at h
    · rename_i s hs; cases h; rw [unSt_some hs]; rfl
    · cases h
  · split at h
    · rename_i s hs; cases h; rw [unSt_some hs]; rfl
    · cases h
  · cases h
def loops12 : Nat → Option (Sum) := fun | 5 => some L12_5_sum | _ => none
theorem loops12_nat : ∀ q f, loops12 q = some f → Natural f := by
  intro q f h
  unfold loops12 at h
  split at h
  · cases h; exact L12_5_nat
  · cases h
noncomputable def L12_5_code : Code := (loopsOf body12).getD 0 .skip
theorem L12_5_round (s0 : (List Bool)) (s1 : Int) (s2 : Int) (s3 : (List D26)) (s4 : Int) : ev2 env12 orc12 loops12 L12_5_code (mkSt L12_5_sh ((), (s0, (s1, ((), (s2, (s3, (s4, ())))))))) (back L12_5_sh L12_5_pk L12_5_d) = L12_5_r s0 s1 s2 s3 s4 := by kernel_rfl
theorem L12_5_ok : SumOk env12 orc12 loops12 L12_5_code L12_5_sum := sumOk_lim (un := L12_5_un) loops12_nat (fun _ => rfl) L12_5_dok fun s => L12_5_round s.1 s.2.1 s.2.2.1 s.2.2.2.1 s.2.2.2.2
theorem loops12_all : loopsOf body12 = [L12_5_code] := by kernel_rfl
theorem L12_5_key : lookL loops12 (keyOf L12_5_code) = some L12_5_sum := by kernel_rfl
theorem loops12_ok : LoopsOk env12 orc12 loops12 body12 := by
  intro c hc f hf
  rw [loops12_all] at hc
  simp only [List.mem_cons, List.not_mem_nil, or_false] at hc
  subst hc
  · rw [L12_5_key] at hf; cases hf; exact L12_5_ok
def G12 (x0 : D23) : Option (Bool) :=
  bif (P30 x0.1 (2 : Int) (12 : Int)) then
  let v1 : Bool := (F30 x0.1 (2 : Int) (12 : Int))
  let v2 : Bool := (!v1)
  bif ((P30 x0.2.2.1 (0 : Int) (12 : Int)) || !(!v2 && true)) then
  let v3 : Bool := (F30 x0.2.2.1 (0 : Int) (12 : Int))
  let v4 : Bool := (!v3)
  let v5 : Bool := (bif v2 then true else v4)
  let v6 : Int := ((List.length x0.2.1 : Nat) : Int)
  let v7 : Bool := (decide (v6 > (200 : Int)))
  let v8 : Bool := (bif v5 then true else v7)
  bif v8 then
  some (false)
  else
  let v9 : Int := ((List.length x0.2.1 : Nat) : Int)
  bif (decide (0 ≤ v9) && decide (v9 ≤ v9) && decide (v9 ≤ 100000000000)) then
  let v10 : (List Bool) := (List.replicate (Int.toNat v9) false)
  Option.bind (L12_5 (v10, (0 : Int), x0.1, x0.2.1, x0.2.2.1)) fun x => match x with
  | (.inl r39) =>
  some (r39)
  | (.inr r40) =>
  some (true)
  else none
  else none
  else none
theorem ev12 (x0 : D23) : ev2 env12 orc12 loops12 body12 (initSt 0 [⟨t23, x0⟩]) (retT [(2, .dat .bool)] [.bool] fun x => x.1) = G12 x0 := by kernel_rfl
def P12 (x0 : D23) : Bool := (G12 x0).isSome
def F12 (x0 : D23) : Bool := (G12 x0).getD default
theorem G12_some (x0 : D23) (h : P12 x0 = true) : G12 x0 = some (F12 x0) := by
  unfold P12 at h; unfold F12
  cases hg : G12 x0 with
  | none => rw [hg] at h; cases h
  | some r => rfl
theorem P12_of (x0 : D23) {r : Bool} (h : G12 x0 = some r) : P12 x0 = true := by unfold P12; rw [h]; rfl
theorem F12_of (x0 : D23) {r : Bool} (h : G12 x0 = some r) : F12 x0 = r := by unfold F12; rw [h]; rfl
def spec12 : Spec := ⟨[t23], [.dat .bool], fun | [a0] => P12 (a0.as t23) | _ => false, fun | [a0] => [⟨.bool, (F12 (a0.as t23))⟩] | _ => []⟩
theorem meets12 (hE : EnvOk Try.prog env12) (hm : Try.prog.follows .mixedOrders = true) : Meets Try.prog glob 12 spec12 :=
  meets_of_ev2 (O := orc12) (L := loops12) (c := body12) (slots := [2]) hE hm Try.func12 Try.call12 (by kernel_rfl) (by kernel_rfl) loops12_ok (rangesOk_nil (by kernel_rfl)) (by kernel_rfl) rfl (by decide) (fun ds hds hpre => by
  obtain ⟨x0, ds0, rfl, h0⟩ := datsS hds
  have h9 := dats0 h0; subst h9
  exact ev_ret (un := fun r => [⟨.bool, r⟩]) loops12_nat (fun _ => rfl) ((ev12 x0).trans (G12_some x0 hpre)))
def env26 : Env where
  tab := tab
  glob := glob
  spec := fun
    | _ => none
def orc26 : Orc := ⟨26, fun _ => none, fun
  | 0 => kp [0, 1] []
  | 1 => kp [0, 1, 10] []
  | 2 => kp [4] []
  | 3 => kp [0, 1, 5] []
  | 4 => kp [0, 1, 5, 14] []
  | 5 => kp [0, 1, 5] []
  | 6 => kp [0, 1, 5, 25] []
  | 7 => kp [4] []
  | 8 => kp [4] []
  | _ => [], fun | _ => false⟩
noncomputable def body26 : Code := Try.f26.body.getD .skip
def L26_4_sh : Shape := [(.slot 0, .dat (.list t26)), (.slot 1, .dat (.list t26)), (.slot 5, .dat (.int .i64))]
def L26_4_x0 : Shape := [(.slot 4, .dat .bool)]
def L26_4_x1 : Shape := [(.slot 0, .dat (.list t26)), (.slot 1, .dat (.list t26)), (.slot 5, .dat (.int .i64))]
def L26_4_pk (s : Tup L26_4_sh) : (List D26) × (List D26) × Int := (s.1, s.2.1, s.2.2.1)
def L26_4_un (s : (List D26) × (List D26) × Int) : Tup L26_4_sh := (s.1, (s.2.1, (s.2.2, ())))
def L26_4_leave (x : (Bool) ⊕ ((List D26) × (List D26) × Int)) (R : Type) (K : Cont R) : Option R := match x with
  | (.inl a) => K .ret (mkSt L26_4_x0 (a, ()))
  | (.inr a) => K (.exit 0) (mkSt L26_4_x1 (a.1, (a.2.1, (a.2.2, ()))))
def L26_4_d (e : Exit) (st : St) : Option ((Bool) ⊕ ((List D26) × (List D26) × Int)) := match e with
  | .ret => (match unSt L26_4_x0 st with
    | some s => some (.inl s.1)
    | none => none)
  | .exit 0 => (match unSt L26_4_x1 st with
    | some s => some (.inr (s.1, s.2.1, s.2.2.1))
    | none => none)
  | _ => none
def L26_4_r (s0 : (List D26)) (s1 : (List D26)) (s2 : Int) : Option (((List D26) × (List D26) × Int) ⊕ ((Bool) ⊕ ((List D26) × (List D26) × Int))) :=
  let v4 : Int := ((List.length s0 : Nat) : Int)
  let v5 : Bool := (decide (s2 < v4))
  bif v5 then
  bif (decide (0 ≤ s2) && decide (s2 < List.length s0)) then
  let v6 : D26 := (List.getD s0 (Int.toNat s2) z26)
  bif (decide (0 ≤ s2) && decide (s2 < List.length s1)) then
  let v7 : D26 := (List.getD s1 (Int.toNat s2) z26)
  let v8 : Bool := (!(eqv t26 v6 v7))
  bif v8 then
  some (.inr (.inl false))
  else
  let v9 : Int := (IntKind.i64.wrap (s2 + (1 : Int)))
  some (.inl (s0, s1, v9))
  else none
  else none
  else
  some (.inr (.inr (s0, s1, s2)))
def L26_4 : (List D26) × (List D26) × Int → Option ((Bool) ⊕ ((List D26) × (List D26) × Int)) := Lim (fun s => L26_4_r s.1 s.2.1 s.2.2)
def L26_4_sum : Sum := limSum L26_4_sh L26_4_pk (fun s => L26_4_r s.1 s.2.1 s.2.2) L26_4_leave
theorem L26_4_nat : Natural L26_4_sum := natural_lim fun x R K => by
  rcases x with x|x <;> rfl
theorem L26_4_dok : ∀ e st x, e ≠ .normal → L26_4_d e st = some x → ∀ R (K : Cont R), K e st = L26_4_leave x R K := by
  intro e st x _ h R K
  unfold L26_4_d at h
  split at h
  · split at h
    · rename_i s hs; cases h; rw [unSt_some hs]; rfl
    · cases h
  · split at h
    · rename_i s hs; cases h; rw [unSt_some hs]; rfl
    · cases h
  · cases h
def loops26 : Nat → Option (Sum) := fun | 4 => some L26_4_sum | _ => none
theorem loops26_nat : ∀ q f, loops26 q = some f → Natural f := by
  intro q f h
  unfold loops26 at h
  split at h
  · cases h; exact L26_4_nat
  · cases h
noncomputable def L26_4_code : Code := (loopsOf body26).getD 0 .skip
theorem L26_4_round (s0 : (List D26)) (s1 : (List D26)) (s2 : Int) : ev2 env26 orc26 loops26 L26_4_code (mkSt L26_4_sh (s0, (s1, (s2, ())))) (back L26_4_sh L26_4_pk L26_4_d) = L26_4_r s0 s1 s2 := by kernel_rfl
theorem L26_4_ok : SumOk env26 orc26 loops26 L26_4_code L26_4_sum := sumOk_lim (un := L26_4_un) loops26_nat (fun _ => rfl) L26_4_dok fun s => L26_4_round s.1 s.2.1 s.2.2
theorem loops26_all : loopsOf body26 = [L26_4_code] := by kernel_rfl
theorem L26_4_key : lookL loops26 (keyOf L26_4_code) = some L26_4_sum := by kernel_rfl
theorem loops26_ok : LoopsOk env26 orc26 loops26 body26 := by
  intro c hc f hf
  rw [loops26_all] at hc
  simp only [List.mem_cons, List.not_mem_nil, or_false] at hc
  subst hc
  · rw [L26_4_key] at hf; cases hf; exact L26_4_ok
def G26 (x0 : (List D26)) (x1 : (List D26)) : Option (Bool) :=
  let v1 : Int := ((List.length x0 : Nat) : Int)
  let v2 : Int := ((List.length x1 : Nat) : Int)
  let v3 : Bool := (v1 != v2)
  bif v3 then
  some (false)
  else
  Option.bind (L26_4 (x0, x1, (0 : Int))) fun x => match x with
  | (.inl r10) =>
  some (r10)
  | (.inr r11) =>
  some (true)
theorem ev26 (x0 : (List D26)) (x1 : (List D26)) : ev2 env26 orc26 loops26 body26 (initSt 0 [⟨(.list t26), x0⟩, ⟨(.list t26), x1⟩]) (retT [(4, .dat .bool)] [.bool] fun x => x.1) = G26 x0 x1 := by kernel_rfl
def P26 (x0 : (List D26)) (x1 : (List D26)) : Bool := (G26 x0 x1).isSome
def F26 (x0 : (List D26)) (x1 : (List D26)) : Bool := (G26 x0 x1).getD default
theorem G26_some (x0 : (List D26)) (x1 : (List D26)) (h : P26 x0 x1 = true) : G26 x0 x1 = some (F26 x0 x1) := by
  unfold P26 at h; unfold F26
  cases hg : G26 x0 x1 with
  | none => rw [hg] at h; cases h
  | some r => rfl
theorem P26_of (x0 : (List D26)) (x1 : (List D26)) {r : Bool} (h : G26 x0 x1 = some r) : P26 x0 x1 = true := by unfold P26; rw [h]; rfl
theorem F26_of (x0 : (List D26)) (x1 : (List D26)) {r : Bool} (h : G26 x0 x1 = some r) : F26 x0 x1 = r := by unfold F26; rw [h]; rfl
def spec26 : Spec := ⟨[(.list t26), (.list t26)], [.dat .bool], fun | [a0, a1] => P26 (a0.as (.list t26)) (a1.as (.list t26)) | _ => false, fun | [a0, a1] => [⟨.bool, (F26 (a0.as (.list t26)) (a1.as (.list t26)))⟩] | _ => []⟩
theorem meets26 (hE : EnvOk Try.prog env26) (hm : Try.prog.follows .mixedOrders = true) : Meets Try.prog glob 26 spec26 :=
  meets_of_ev2 (O := orc26) (L := loops26) (c := body26) (slots := [4]) hE hm Try.func26 Try.call26 (by kernel_rfl) (by kernel_rfl) loops26_ok (rangesOk_nil (by kernel_rfl)) (by kernel_rfl) rfl (by decide) (fun ds hds hpre => by
  obtain ⟨x0, ds0, rfl, h0⟩ := datsS hds
  obtain ⟨x1, ds1, rfl, h1⟩ := datsS h0
  have h9 := dats0 h1; subst h9
  exact ev_ret (un := fun r => [⟨.bool, r⟩]) loops26_nat (fun _ => rfl) ((ev26 x0 x1).trans (G26_some x0 x1 hpre)))
def env13 : Env where
  tab := tab
  glob := glob
  spec := fun
    | 26 => some spec26
    | _ => none
def orc13 : Orc := ⟨24, fun _ => none, fun
  | 0 => kp [2, 3] [(2, [0, 1, 2]), (3, [0, 1, 2])]
  | 1 => kp [4] []
  | _ => [], fun | _ => false⟩
noncomputable def body13 : Code := Try.f13.body.getD .skip
def loops13 : Nat → Option (Sum) := fun | _ => none
theorem loops13_nat : ∀ q f, loops13 q = some f → Natural f := by
  intro q f h
  cases h
theorem loops13_ok : LoopsOk env13 orc13 loops13 body13 := loopsOk_nil (by kernel_rfl)
def G13 (x0 : D23) (x1 : D23) : Option (Bool) :=
  let v1 : Bool := (x0.1 == x1.1)
  let v2 : Bool := (x0.2.2.1 == x1.2.2.1)
  let v3 : Bool := (bif v1 then v2 else false)
  bif ((P26 x0.2.1 x1.2.1) || !(v3 && true)) then
  let v4 : Bool := (F26 x0.2.1 x1.2.1)
  let v5 : Bool := (bif v3 then v4 else false)
  some (v5)
  else none
theorem ev13 (x0 : D23) (x1 : D23) : ev2 env13 orc13 loops13 body13 (initSt 0 [⟨t23, x0⟩, ⟨t23, x1⟩]) (retT [(4, .dat .bool)] [.bool] fun x => x.1) = G13 x0 x1 := by kernel_rfl
def P13 (x0 : D23) (x1 : D23) : Bool := (G13 x0 x1).isSome
def F13 (x0 : D23) (x1 : D23) : Bool := (G13 x0 x1).getD default
theorem G13_some (x0 : D23) (x1 : D23) (h : P13 x0 x1 = true) : G13 x0 x1 = some (F13 x0 x1) := by
  unfold P13 at h; unfold F13
  cases hg : G13 x0 x1 with
  | none => rw [hg] at h; cases h
  | some r => rfl
theorem P13_of (x0 : D23) (x1 : D23) {r : Bool} (h : G13 x0 x1 = some r) : P13 x0 x1 = true := by unfold P13; rw [h]; rfl
theorem F13_of (x0 : D23) (x1 : D23) {r : Bool} (h : G13 x0 x1 = some r) : F13 x0 x1 = r := by unfold F13; rw [h]; rfl
def spec13 : Spec := ⟨[t23, t23], [.dat .bool], fun | [a0, a1] => P13 (a0.as t23) (a1.as t23) | _ => false, fun | [a0, a1] => [⟨.bool, (F13 (a0.as t23) (a1.as t23))⟩] | _ => []⟩
theorem meets13 (hE : EnvOk Try.prog env13) (hm : Try.prog.follows .mixedOrders = true) : Meets Try.prog glob 13 spec13 :=
  meets_of_ev2 (O := orc13) (L := loops13) (c := body13) (slots := [4]) hE hm Try.func13 Try.call13 (by kernel_rfl) (by kernel_rfl) loops13_ok (rangesOk_nil (by kernel_rfl)) (by kernel_rfl) rfl (by decide) (fun ds hds hpre => by
  obtain ⟨x0, ds0, rfl, h0⟩ := datsS hds
  obtain ⟨x1, ds1, rfl, h1⟩ := datsS h0
  have h9 := dats0 h1; subst h9
  exact ev_ret (un := fun r => [⟨.bool, r⟩]) loops13_nat (fun _ => rfl) ((ev13 x0 x1).trans (G13_some x0 x1 hpre)))
def env23 : Env where
  tab := tab
  glob := glob
  spec := fun
    | _ => none
def orc23 : Orc := ⟨26, fun _ => none, fun
  | 0 => kp [0, 1] []
  | 1 => kp [0, 1, 10] []
  | 2 => kp [4] []
  | 3 => kp [0, 1, 5] []
  | 4 => kp [0, 1, 5, 14] []
  | 5 => kp [0, 1, 5] []
  | 6 => kp [0, 1, 5, 25] []
  | 7 => kp [4] []
  | 8 => kp [4] []
  | _ => [], fun | _ => false⟩
noncomputable def body23 : Code := Try.f23.body.getD .skip
def L23_4_sh : Shape := [(.slot 0, .dat (.list (.int .i64))), (.slot 1, .dat (.list (.int .i64))), (.slot 5, .dat (.int .i64))]
def L23_4_x0 : Shape := [(.slot 4, .dat .bool)]
def L23_4_x1 : Shape := [(.slot 0, .dat (.list (.int .i64))), (.slot 1, .dat (.list (.int .i64))), (.slot 5, .dat (.int .i64))]
def L23_4_pk (s : Tup L23_4_sh) : (List Int) × (List Int) × Int := (s.1, s.2.1, s.2.2.1)
def L23_4_un (s : (List Int) × (List Int) × Int) : Tup L23_4_sh := (s.1, (s.2.1, (s.2.2, ())))
def L23_4_leave (x : (Bool) ⊕ ((List Int) × (List Int) × Int)) (R : Type) (K : Cont R) : Option R := match x with
  | (.inl a) => K .ret (mkSt L23_4_x0 (a, ()))
  | (.inr a) => K (.exit 0) (mkSt L23_4_x1 (a.1, (a.2.1, (a.2.2, ()))))
def L23_4_d (e : Exit) (st : St) : Option ((Bool) ⊕ ((List Int) × (List Int) × Int)) := match e with
  | .ret => (match unSt L23_4_x0 st with
    | some s => some (.inl s.1)
    | none => none)
  | .exit 0 => (match unSt L23_4_x1 st with
    | some s => some (.inr (s.1, s.2.1, s.2.2.1))
    | none => none)
  | _ => none
def L23_4_r (s0 : (List Int)) (s1 : (List Int)) (s2 : Int) : Option (((List Int) × (List Int) × Int) ⊕ ((Bool) ⊕ ((List Int) × (List Int) × Int))) :=
  let v4 : Int := ((List.length s0 : Nat) : Int)
  let v5 : Bool := (decide (s2 < v4))
  bif v5 then
  bif (decide (0 ≤ s2) && decide (s2 < List.length s0)) then
  let v6 : Int := (List.getD s0 (Int.toNat s2) (0 : Int))
  bif (decide (0 ≤ s2) && decide (s2 < List.length s1)) then
  let v7 : Int := (List.getD s1 (Int.toNat s2) (0 : Int))
  let v8 : Bool := (v6 != v7)
  bif v8 then
  some (.inr (.inl false))
  else
  let v9 : Int := (IntKind.i64.wrap (s2 + (1 : Int)))
  some (.inl (s0, s1, v9))
  else none
  else none
  else
  some (.inr (.inr (s0, s1, s2)))
def L23_4 : (List Int) × (List Int) × Int → Option ((Bool) ⊕ ((List Int) × (List Int) × Int)) := Lim (fun s => L23_4_r s.1 s.2.1 s.2.2)
def L23_4_sum : Sum := limSum L23_4_sh L23_4_pk (fun s => L23_4_r s.1 s.2.1 s.2.2) L23_4_leave
theorem L23_4_nat : Natural L23_4_sum := natural_lim fun x R K => by
  rcases x with x|x <;> rfl
theorem L23_4_dok : ∀ e st x, e ≠ .normal → L23_4_d e st = some x → ∀ R (K : Cont R), K e st = L23_4_leave x R K := by
  intro e st x _ h R K
  unfold L23_4_d at h
  split at h
  · split at h
    · rename_i s hs; cases h; rw [unSt_some hs]; rfl
    · cases h
  · split at h
    · rename_i s hs; cases h; rw [unSt_some hs]; rfl
    · cases h
  · cases h
def loops23 : Nat → Option (Sum) := fun | 4 => some L23_4_sum | _ => none
theorem loops23_nat : ∀ q f, loops23 q = some f → Natural f := by
  intro q f h
  unfold loops23 at h
  split at h
  · cases h; exact L23_4_nat
  · cases h
noncomputable def L23_4_code : Code := (loopsOf body23).getD 0 .skip
theorem L23_4_round (s0 : (List Int)) (s1 : (List Int)) (s2 : Int) : ev2 env23 orc23 loops23 L23_4_code (mkSt L23_4_sh (s0, (s1, (s2, ())))) (back L23_4_sh L23_4_pk L23_4_d) = L23_4_r s0 s1 s2 := by kernel_rfl
theorem L23_4_ok : SumOk env23 orc23 loops23 L23_4_code L23_4_sum := sumOk_lim (un := L23_4_un) loops23_nat (fun _ => rfl) L23_4_dok fun s => L23_4_round s.1 s.2.1 s.2.2
theorem loops23_all : loopsOf body23 = [L23_4_code] := by kernel_rfl
theorem L23_4_key : lookL loops23 (keyOf L23_4_code) = some L23_4_sum := by kernel_rfl
theorem loops23_ok : LoopsOk env23 orc23 loops23 body23 := by
  intro c hc f hf
  rw [loops23_all] at hc
  simp only [List.mem_cons, List.not_mem_nil, or_false] at hc
  subst hc
  · rw [L23_4_key] at hf; cases hf; exact L23_4_ok
def G23 (x0 : (List Int)) (x1 : (List Int)) : Option (Bool) :=
  let v1 : Int := ((List.length x0 : Nat) : Int)
  let v2 : Int := ((List.length x1 : Nat) : Int)
  let v3 : Bool := (v1 != v2)
  bif v3 then
  some (false)
  else
  Option.bind (L23_4 (x0, x1, (0 : Int))) fun x => match x with
  | (.inl r10) =>
  some (r10)
  | (.inr r11) =>
  some (true)
theorem ev23 (x0 : (List Int)) (x1 : (List Int)) : ev2 env23 orc23 loops23 body23 (initSt 0 [⟨(.list (.int .i64)), x0⟩, ⟨(.list (.int .i64)), x1⟩]) (retT [(4, .dat .bool)] [.bool] fun x => x.1) = G23 x0 x1 := by kernel_rfl
def P23 (x0 : (List Int)) (x1 : (List Int)) : Bool := (G23 x0 x1).isSome
def F23 (x0 : (List Int)) (x1 : (List Int)) : Bool := (G23 x0 x1).getD default
theorem G23_some (x0 : (List Int)) (x1 : (List Int)) (h : P23 x0 x1 = true) : G23 x0 x1 = some (F23 x0 x1) := by
  unfold P23 at h; unfold F23
  cases hg : G23 x0 x1 with
  | none => rw [hg] at h; cases h
  | some r => rfl
theorem P23_of (x0 : (List Int)) (x1 : (List Int)) {r : Bool} (h : G23 x0 x1 = some r) : P23 x0 x1 = true := by unfold P23; rw [h]; rfl
theorem F23_of (x0 : (List Int)) (x1 : (List Int)) {r : Bool} (h : G23 x0 x1 = some r) : F23 x0 x1 = r := by unfold F23; rw [h]; rfl
def spec23 : Spec := ⟨[(.list (.int .i64)), (.list (.int .i64))], [.dat .bool], fun | [a0, a1] => P23 (a0.as (.list (.int .i64))) (a1.as (.list (.int .i64))) | _ => false, fun | [a0, a1] => [⟨.bool, (F23 (a0.as (.list (.int .i64))) (a1.as (.list (.int .i64))))⟩] | _ => []⟩
theorem meets23 (hE : EnvOk Try.prog env23) (hm : Try.prog.follows .mixedOrders = true) : Meets Try.prog glob 23 spec23 :=
  meets_of_ev2 (O := orc23) (L := loops23) (c := body23) (slots := [4]) hE hm Try.func23 Try.call23 (by kernel_rfl) (by kernel_rfl) loops23_ok (rangesOk_nil (by kernel_rfl)) (by kernel_rfl) rfl (by decide) (fun ds hds hpre => by
  obtain ⟨x0, ds0, rfl, h0⟩ := datsS hds
  obtain ⟨x1, ds1, rfl, h1⟩ := datsS h0
  have h9 := dats0 h1; subst h9
  exact ev_ret (un := fun r => [⟨.bool, r⟩]) loops23_nat (fun _ => rfl) ((ev23 x0 x1).trans (G23_some x0 x1 hpre)))
def env22 : Env where
  tab := tab
  glob := glob
  spec := fun
    | 12 => some spec12
    | 30 => some spec30
    | _ => none
def orc22 : Orc := ⟨61, fun _ => none, fun
  | 0 => kp [1, 2, 3] [(3, [0, 1, 2])]
  | 1 => kp [1, 2, 3, 26] [(3, [0, 1, 2])]
  | 2 => kp [6, 7] []
  | 3 => kp [1, 2, 3, 8] [(3, [0, 1, 2])]
  | 4 => kp [1, 2, 3, 8, 9] [(3, [0, 1, 2])]
  | 5 => kp [1, 2, 3, 8, 9, 31] [(3, [0, 1, 2])]
  | 6 => kp [1, 2, 3, 8, 9] [(3, [0, 1, 2])]
  | 7 => kp [1, 2, 3, 8, 9, 10] [(3, [0, 1, 2]), (10, [0, 1, 2, 3, 4, 5, 6])]
  | 8 => kp [1, 2, 3, 8, 9, 10, 43] [(3, [0, 1, 2]), (10, [0, 1, 2, 3, 4, 5, 6])]
  | 9 => kp [1, 2, 3, 8, 9, 10, 47] [(3, [0, 1, 2]), (10, [0, 1, 2, 3, 4, 5, 6])]
  | 10 => kp [1, 2, 3, 8, 9, 10] [(3, [0, 1, 2]), (10, [0, 1, 2, 3, 4, 5, 6])]
  | 11 => kp [1, 2, 3, 8, 9, 10, 55] [(3, [0, 1, 2]), (10, [0, 1, 2, 3, 4, 5, 6])]
  | 12 => kp [1, 2, 3, 8, 9] [(3, [0, 1, 2])]
  | 13 => kp [6, 7] []
  | _ => [], fun | _ => false⟩
noncomputable def body22 : Code := Try.f22.body.getD .skip
def L22_5_sh : Shape := [(.slot 1, .dat (.int .i64)), (.slot 2, .dat (.int .i64)), (.slot 3, .ptr 3 0), (.slot 8, .dat (.int .i64)), (.slot 9, .dat (.int .i64)), (.box 3, .bx 24 3), (.cell 3 0, .dat (.int .i64)), (.cell 3 1, .dat (.list t26)), (.cell 3 2, .dat (.int .i64))]
def L22_5_x0 : Shape := [(.slot 1, .dat (.int .i64)), (.slot 2, .dat (.int .i64)), (.slot 3, .ptr 3 0), (.slot 8, .dat (.int .i64)), (.slot 9, .dat (.int .i64)), (.box 3, .bx 24 3), (.cell 3 0, .dat (.int .i64)), (.cell 3 1, .dat (.list t26)), (.cell 3 2, .dat (.int .i64))]
def L22_5_pk (s : Tup L22_5_sh) : Int × Int × Int × Int × Int × (List D26) × Int := (s.1, s.2.1, s.2.2.2.1, s.2.2.2.2.1, s.2.2.2.2.2.2.1, s.2.2.2.2.2.2.2.1, s.2.2.2.2.2.2.2.2.1)
def L22_5_un (s : Int × Int × Int × Int × Int × (List D26) × Int) : Tup L22_5_sh := (s.1, (s.2.1, ((), (s.2.2.1, (s.2.2.2.1, ((), (s.2.2.2.2.1, (s.2.2.2.2.2.1, (s.2.2.2.2.2.2, ())))))))))
def L22_5_leave (x : (Int × Int × Int × Int × Int × (List D26) × Int)) (R : Type) (K : Cont R) : Option R := match x with
  | a => K (.exit 0) (mkSt L22_5_x0 (a.1, (a.2.1, ((), (a.2.2.1, (a.2.2.2.1, ((), (a.2.2.2.2.1, (a.2.2.2.2.2.1, (a.2.2.2.2.2.2, ()))))))))))
def L22_5_d (e : Exit) (st : St) : Option ((Int × Int × Int × Int × Int × (List D26) × Int)) := match e with
  | .exit 0 => (match unSt L22_5_x0 st with
    | some s => some (s.1, s.2.1, s.2.2.2.1, s.2.2.2.2.1, s.2.2.2.2.2.2.1, s.2.2.2.2.2.2.2.1, s.2.2.2.2.2.2.2.2.1)
    | none => none)
  | _ => none
def L22_5_r (s0 : Int) (s1 : Int) (s2 : Int) (s3 : Int) (s4 : Int) (s5 : (List D26)) (s6 : Int) : Option ((Int × Int × Int × Int × Int × (List D26) × Int) ⊕ ((Int × Int × Int × Int × Int × (List D26) × Int))) :=
  let v10 : Int := ((List.length s5 : Nat) : Int)
  let v11 : Bool := (decide (s3 < v10))
  bif v11 then
  bif (decide (0 ≤ s3) && decide (s3 < List.length s5)) then
  let v12 : D26 := (List.getD s5 (Int.toNat s3) z26)
  let v13 : Int := (IntKind.i64.wrap (Int.tdiv v12.2.1 (30 : Int)))
  let v14 : Bool := (v13 != s1)
  bif v14 then
  let v15 : Int := (IntKind.i64.wrap (s3 + (1 : Int)))
  some (.inl (s0, s1, s2, v15, s4, s5, s6))
  else
  let v16 : Bool := (v12.2.2.2.1 == s0)
  bif v16 then
  let v17 : Int := (IntKind.i64.wrap (s2 + v12.2.2.2.2.1))
  let v18 : Bool := (v12.2.2.1 == s0)
  bif v18 then
  let v19 : Int := (IntKind.i64.wrap (v17 - v12.2.2.2.2.1))
  let v20 : Int := (IntKind.i64.wrap (s3 + (1 : Int)))
  some (.inl (s0, s1, v19, v20, s4, s5, s6))
  else
  let v21 : Int := (IntKind.i64.wrap (s3 + (1 : Int)))
  some (.inl (s0, s1, v17, v21, s4, s5, s6))
  else
  let v22 : Bool := (v12.2.2.1 == s0)
  bif v22 then
  let v23 : Int := (IntKind.i64.wrap (s2 - v12.2.2.2.2.1))
  let v24 : Int := (IntKind.i64.wrap (s3 + (1 : Int)))
  some (.inl (s0, s1, v23, v24, s4, s5, s6))
  else
  let v25 : Int := (IntKind.i64.wrap (s3 + (1 : Int)))
  some (.inl (s0, s1, s2, v25, s4, s5, s6))
  else none
  else
  some (.inr (s0, s1, s2, s3, s4, s5, s6))
def L22_5 : Int × Int × Int × Int × Int × (List D26) × Int → Option ((Int × Int × Int × Int × Int × (List D26) × Int)) := Lim (fun s => L22_5_r s.1 s.2.1 s.2.2.1 s.2.2.2.1 s.2.2.2.2.1 s.2.2.2.2.2.1 s.2.2.2.2.2.2)
def L22_5_sum : Sum := limSum L22_5_sh L22_5_pk (fun s => L22_5_r s.1 s.2.1 s.2.2.1 s.2.2.2.1 s.2.2.2.2.1 s.2.2.2.2.2.1 s.2.2.2.2.2.2) L22_5_leave
theorem L22_5_nat : Natural L22_5_sum := natural_lim fun x R K => by
  rfl
theorem L22_5_dok : ∀ e st x, e ≠ .normal → L22_5_d e st = some x → ∀ R (K : Cont R), K e st = L22_5_leave x R K := by
  intro e st x _ h R K
  unfold L22_5_d at h
  split at h
  · split at h
    · rename_i s hs; cases h; rw [unSt_some hs]; rfl
    · cases h
  · cases h
def loops22 : Nat → Option (Sum) := fun | 5 => some L22_5_sum | _ => none
theorem loops22_nat : ∀ q f, loops22 q = some f → Natural f := by
  intro q f h
  unfold loops22 at h
  split at h
  · cases h; exact L22_5_nat
  · cases h
noncomputable def L22_5_code : Code := (loopsOf body22).getD 0 .skip
theorem L22_5_round (s0 : Int) (s1 : Int) (s2 : Int) (s3 : Int) (s4 : Int) (s5 : (List D26)) (s6 : Int) : ev2 env22 orc22 loops22 L22_5_code (mkSt L22_5_sh (s0, (s1, ((), (s2, (s3, ((), (s4, (s5, (s6, ())))))))))) (back L22_5_sh L22_5_pk L22_5_d) = L22_5_r s0 s1 s2 s3 s4 s5 s6 := by kernel_rfl
theorem L22_5_ok : SumOk env22 orc22 loops22 L22_5_code L22_5_sum := sumOk_lim (un := L22_5_un) loops22_nat (fun _ => rfl) L22_5_dok fun s => L22_5_round s.1 s.2.1 s.2.2.1 s.2.2.2.1 s.2.2.2.2.1 s.2.2.2.2.2.1 s.2.2.2.2.2.2
theorem loops22_all : loopsOf body22 = [L22_5_code] := by kernel_rfl
theorem L22_5_key : lookL loops22 (keyOf L22_5_code) = some L22_5_sum := by kernel_rfl
theorem loops22_ok : LoopsOk env22 orc22 loops22 body22 := by
  intro c hc f hf
  rw [loops22_all] at hc
  simp only [List.mem_cons, List.not_mem_nil, or_false] at hc
  subst hc
  · rw [L22_5_key] at hf; cases hf; exact L22_5_ok
def G22 (x0 : D23) (x1 : Int) (x2 : Int) : Option (Int × Int) :=
  bif (P12 x0) then
  let v1 : Bool := (F12 x0)
  let v2 : Bool := (!v1)
  let v3 : Int := (IntKind.i64.wrap (x0.1 - (1 : Int)))
  bif ((P30 x1 (0 : Int) v3) || !(!v2 && true)) then
  let v4 : Bool := (F30 x1 (0 : Int) v3)
  let v5 : Bool := (!v4)
  let v6 : Bool := (bif v2 then true else v5)
  bif ((P30 x2 (0 : Int) (11 : Int)) || !(!v6 && true)) then
  let v7 : Bool := (F30 x2 (0 : Int) (11 : Int))
  let v8 : Bool := (!v7)
  let v9 : Bool := (bif v6 then true else v8)
  bif v9 then
  some ((0 : Int), (310 : Int))
  else
  Option.bind (L22_5 (x1, x2, (0 : Int), (0 : Int), x0.1, x0.2.1, x0.2.2.1)) fun (r26 : Int × Int × Int × Int × Int × (List D26) × Int) =>
  some (r26.2.2.1, (0 : Int))
  else none
  else none
  else none
theorem ev22 (x0 : D23) (x1 : Int) (x2 : Int) : ev2 env22 orc22 loops22 body22 (initSt 0 [⟨t23, x0⟩, ⟨(.int .i64), x1⟩, ⟨(.int .i64), x2⟩]) (retT [(6, .dat (.int .i64)), (7, .dat (.int .i64))] [(.int .i64), (.int .i64)] fun x => (x.1, x.2.1)) = G22 x0 x1 x2 := by kernel_rfl
def P22 (x0 : D23) (x1 : Int) (x2 : Int) : Bool := (G22 x0 x1 x2).isSome
def F22 (x0 : D23) (x1 : Int) (x2 : Int) : Int × Int := (G22 x0 x1 x2).getD default
theorem G22_some (x0 : D23) (x1 : Int) (x2 : Int) (h : P22 x0 x1 x2 = true) : G22 x0 x1 x2 = some (F22 x0 x1 x2) := by
  unfold P22 at h; unfold F22
  cases hg : G22 x0 x1 x2 with
  | none => rw [hg] at h; cases h
  | some r => rfl
theorem P22_of (x0 : D23) (x1 : Int) (x2 : Int) {r : Int × Int} (h : G22 x0 x1 x2 = some r) : P22 x0 x1 x2 = true := by unfold P22; rw [h]; rfl
theorem F22_of (x0 : D23) (x1 : Int) (x2 : Int) {r : Int × Int} (h : G22 x0 x1 x2 = some r) : F22 x0 x1 x2 = r := by unfold F22; rw [h]; rfl
def spec22 : Spec := ⟨[t23, (.int .i64), (.int .i64)], [.dat (.int .i64), .dat (.int .i64)], fun | [a0, a1, a2] => P22 (a0.as t23) (a1.as (.int .i64)) (a2.as (.int .i64)) | _ => false, fun | [a0, a1, a2] => [⟨(.int .i64), (F22 (a0.as t23) (a1.as (.int .i64)) (a2.as (.int .i64))).1⟩, ⟨(.int .i64), (F22 (a0.as t23) (a1.as (.int .i64)) (a2.as (.int .i64))).2⟩] | _ => []⟩
theorem meets22 (hE : EnvOk Try.prog env22) (hm : Try.prog.follows .mixedOrders = true) : Meets Try.prog glob 22 spec22 :=
  meets_of_ev2 (O := orc22) (L := loops22) (c := body22) (slots := [6, 7]) hE hm Try.func22 Try.call22 (by kernel_rfl) (by kernel_rfl) loops22_ok (rangesOk_nil (by kernel_rfl)) (by kernel_rfl) rfl (by decide) (fun ds hds hpre => by
  obtain ⟨x0, ds0, rfl, h0⟩ := datsS hds
  obtain ⟨x1, ds1, rfl, h1⟩ := datsS h0
  obtain ⟨x2, ds2, rfl, h2⟩ := datsS h1
  have h9 := dats0 h2; subst h9
  exact ev_ret (un := fun r => [⟨(.int .i64), r.1⟩, ⟨(.int .i64), r.2⟩]) loops22_nat (fun _ => rfl) ((ev22 x0 x1 x2).trans (G22_some x0 x1 x2 hpre)))
def env20 : Env where
  tab := tab
  glob := glob
  spec := fun
    | 12 => some spec12
    | 22 => some spec22
    | _ => none
def orc20 : Orc := ⟨34, fun _ => none, fun
  | 0 => kp [1, 2] [(2, [0, 1, 2])]
  | 1 => kp [1, 2, 12] [(2, [0, 1, 2])]
  | 2 => kp [4, 5] []
  | 3 => kp [1, 2, 6] [(2, [0, 1, 2])]
  | 4 => kp [1, 2, 6, 7] [(2, [0, 1, 2])]
  | 5 => kp [1, 2, 6, 7, 16] [(2, [0, 1, 2])]
  | 6 => kp [1, 2, 6, 7] [(2, [0, 1, 2])]
  | 7 => kp [1, 2, 6, 7, 8, 9] [(2, [0, 1, 2])]
  | 8 => kp [1, 2, 6, 7, 8, 9, 27] [(2, [0, 1, 2])]
  | 9 => kp [4, 5] []
  | 10 => kp [1, 2, 6, 7] [(2, [0, 1, 2])]
  | 11 => kp [4, 5] []
  | _ => [], fun | _ => false⟩
noncomputable def body20 : Code := Try.f20.body.getD .skip
def L20_5_sh : Shape := [(.slot 1, .dat (.int .i64)), (.slot 2, .ptr 2 0), (.slot 6, .own 3 (.int .i64)), (.slot 7, .dat (.int .i64)), (.box 2, .bx 24 3), (.cell 2 0, .dat (.int .i64)), (.cell 2 1, .dat (.list t26)), (.cell 2 2, .dat (.int .i64))]
def L20_5_x0 : Shape := [(.slot 4, .own 3 (.int .i64)), (.slot 5, .dat (.int .i64))]
def L20_5_x1 : Shape := [(.slot 1, .dat (.int .i64)), (.slot 2, .ptr 2 0), (.slot 6, .own 3 (.int .i64)), (.slot 7, .dat (.int .i64)), (.box 2, .bx 24 3), (.cell 2 0, .dat (.int .i64)), (.cell 2 1, .dat (.list t26)), (.cell 2 2, .dat (.int .i64))]
def L20_5_pk (s : Tup L20_5_sh) : Int × (List Int) × Int × Int × (List D26) × Int := (s.1, s.2.2.1, s.2.2.2.1, s.2.2.2.2.2.1, s.2.2.2.2.2.2.1, s.2.2.2.2.2.2.2.1)
def L20_5_un (s : Int × (List Int) × Int × Int × (List D26) × Int) : Tup L20_5_sh := (s.1, ((), (s.2.1, (s.2.2.1, ((), (s.2.2.2.1, (s.2.2.2.2.1, (s.2.2.2.2.2, ()))))))))
def L20_5_leave (x : ((List Int) × Int) ⊕ (Int × (List Int) × Int × Int × (List D26) × Int)) (R : Type) (K : Cont R) : Option R := match x with
  | (.inl a) => K .ret (mkSt L20_5_x0 (a.1, (a.2, ())))
  | (.inr a) => K (.exit 0) (mkSt L20_5_x1 (a.1, ((), (a.2.1, (a.2.2.1, ((), (a.2.2.2.1, (a.2.2.2.2.1, (a.2.2.2.2.2, ())))))))))
def L20_5_d (e : Exit) (st : St) : Option (((List Int) × Int) ⊕ (Int × (List Int) × Int × Int × (List D26) × Int)) := match e with
  | .ret => (match unSt L20_5_x0 st with
    | some s => some (.inl (s.1, s.2.1))
    | none => none)
  | .exit 0 => (match unSt L20_5_x1 st with
    | some s => some (.inr (s.1, s.2.2.1, s.2.2.2.1, s.2.2.2.2.2.1, s.2.2.2.2.2.2.1, s.2.2.2.2.2.2.2.1))
    | none => none)
  | _ => none
def L20_5_r (s0 : Int) (s1 : (List Int)) (s2 : Int) (s3 : Int) (s4 : (List D26)) (s5 : Int) : Option ((Int × (List Int) × Int × Int × (List D26) × Int) ⊕ (((List Int) × Int) ⊕ (Int × (List Int) × Int × Int × (List D26) × Int))) :=
  let v6 : Bool := (decide (s2 < s3))
  bif v6 then
  bif (P22 (s3, (s4, (s5, ()))) s2 s0) then
  let v7 : (Int × Int) := (F22 (s3, (s4, (s5, ()))) s2 s0)
  let v8 : Bool := (v7.2 != (0 : Int))
  bif v8 then
  let v9 : (List Int) := ([] : (List Int))
  some (.inr (.inl (v9, v7.2)))
  else
  let v10 : (List Int) := (List.set (List.replicate 1 (0 : Int)) 0 v7.1)
  bif (decide (List.length (List.take (List.length s1) s1) + List.length v10 ≤ 100000000000)) then
  let v11 : (List Int) := ((List.take (List.length s1) s1) ++ v10)
  let v12 : Int := (IntKind.i64.wrap (s2 + (1 : Int)))
  some (.inl (s0, v11, v12, s3, s4, s5))
  else none
  else none
  else
  some (.inr (.inr (s0, s1, s2, s3, s4, s5)))
def L20_5 : Int × (List Int) × Int × Int × (List D26) × Int → Option (((List Int) × Int) ⊕ (Int × (List Int) × Int × Int × (List D26) × Int)) := Lim (fun s => L20_5_r s.1 s.2.1 s.2.2.1 s.2.2.2.1 s.2.2.2.2.1 s.2.2.2.2.2)
def L20_5_sum : Sum := limSum L20_5_sh L20_5_pk (fun s => L20_5_r s.1 s.2.1 s.2.2.1 s.2.2.2.1 s.2.2.2.2.1 s.2.2.2.2.2) L20_5_leave
theorem L20_5_nat : Natural L20_5_sum := natural_lim fun x R K => by
  rcases x with x|x <;> rfl
theorem L20_5_dok : ∀ e st x, e ≠ .normal → L20_5_d e st = some x → ∀ R (K : Cont R), K e st = L20_5_leave x R K := by
  intro e st x _ h R K
  unfold L20_5_d at h
  split at h
  · split at h
    · rename_i s hs; cases h; rw [unSt_some hs]; rfl
    · cases h
  · split at h
    · rename_i s hs; cases h; rw [unSt_some hs]; rfl
    · cases h
  · cases h
def loops20 : Nat → Option (Sum) := fun | 5 => some L20_5_sum | _ => none
theorem loops20_nat : ∀ q f, loops20 q = some f → Natural f := by
  intro q f h
  unfold loops20 at h
  split at h
  · cases h; exact L20_5_nat
  · cases h
noncomputable def L20_5_code : Code := (loopsOf body20).getD 0 .skip
theorem L20_5_round (s0 : Int) (s1 : (List Int)) (s2 : Int) (s3 : Int) (s4 : (List D26)) (s5 : Int) : ev2 env20 orc20 loops20 L20_5_code (mkSt L20_5_sh (s0, ((), (s1, (s2, ((), (s3, (s4, (s5, ()))))))))) (back L20_5_sh L20_5_pk L20_5_d) = L20_5_r s0 s1 s2 s3 s4 s5 := by kernel_rfl
theorem L20_5_ok : SumOk env20 orc20 loops20 L20_5_code L20_5_sum := sumOk_lim (un := L20_5_un) loops20_nat (fun _ => rfl) L20_5_dok fun s => L20_5_round s.1 s.2.1 s.2.2.1 s.2.2.2.1 s.2.2.2.2.1 s.2.2.2.2.2
theorem loops20_all : loopsOf body20 = [L20_5_code] := by kernel_rfl
theorem L20_5_key : lookL loops20 (keyOf L20_5_code) = some L20_5_sum := by kernel_rfl
theorem loops20_ok : LoopsOk env20 orc20 loops20 body20 := by
  intro c hc f hf
  rw [loops20_all] at hc
  simp only [List.mem_cons, List.not_mem_nil, or_false] at hc
  subst hc
  · rw [L20_5_key] at hf; cases hf; exact L20_5_ok
def G20 (x0 : D23) (x1 : Int) : Option ((List Int) × Int) :=
  let v1 : (List Int) := ([] : (List Int))
  bif (P12 x0) then
  let v2 : Bool := (F12 x0)
  let v3 : Bool := (!v2)
  bif v3 then
  let v4 : (List Int) := ([] : (List Int))
  some (v4, (310 : Int))
  else
  let v5 : (List Int) := ([] : (List Int))
  Option.bind (L20_5 (x1, v5, (0 : Int), x0.1, x0.2.1, x0.2.2.1)) fun x => match x with
  | (.inl r13) =>
  some (r13.1, r13.2)
  | (.inr r14) =>
  let v15 : (List Int) := (List.take (List.length r14.2.1) r14.2.1)
  some (v15, (0 : Int))
  else none
theorem ev20 (x0 : D23) (x1 : Int) : ev2 env20 orc20 loops20 body20 (initSt 0 [⟨t23, x0⟩, ⟨(.int .i64), x1⟩]) (retT [(4, .dat (.list (.int .i64))), (5, .dat (.int .i64))] [(.list (.int .i64)), (.int .i64)] fun x => (x.1, x.2.1)) = G20 x0 x1 := by kernel_rfl
def P20 (x0 : D23) (x1 : Int) : Bool := (G20 x0 x1).isSome
def F20 (x0 : D23) (x1 : Int) : (List Int) × Int := (G20 x0 x1).getD default
theorem G20_some (x0 : D23) (x1 : Int) (h : P20 x0 x1 = true) : G20 x0 x1 = some (F20 x0 x1) := by
  unfold P20 at h; unfold F20
  cases hg : G20 x0 x1 with
  | none => rw [hg] at h; cases h
  | some r => rfl
theorem P20_of (x0 : D23) (x1 : Int) {r : (List Int) × Int} (h : G20 x0 x1 = some r) : P20 x0 x1 = true := by unfold P20; rw [h]; rfl
theorem F20_of (x0 : D23) (x1 : Int) {r : (List Int) × Int} (h : G20 x0 x1 = some r) : F20 x0 x1 = r := by unfold F20; rw [h]; rfl
def spec20 : Spec := ⟨[t23, (.int .i64)], [.dat (.list (.int .i64)), .dat (.int .i64)], fun | [a0, a1] => P20 (a0.as t23) (a1.as (.int .i64)) | _ => false, fun | [a0, a1] => [⟨(.list (.int .i64)), (F20 (a0.as t23) (a1.as (.int .i64))).1⟩, ⟨(.int .i64), (F20 (a0.as t23) (a1.as (.int .i64))).2⟩] | _ => []⟩
theorem meets20 (hE : EnvOk Try.prog env20) (hm : Try.prog.follows .mixedOrders = true) : Meets Try.prog glob 20 spec20 :=
  meets_of_ev2 (O := orc20) (L := loops20) (c := body20) (slots := [4, 5]) hE hm Try.func20 Try.call20 (by kernel_rfl) (by kernel_rfl) loops20_ok (rangesOk_nil (by kernel_rfl)) (by kernel_rfl) rfl (by decide) (fun ds hds hpre => by
  obtain ⟨x0, ds0, rfl, h0⟩ := datsS hds
  obtain ⟨x1, ds1, rfl, h1⟩ := datsS h0
  have h9 := dats0 h1; subst h9
  exact ev_ret (un := fun r => [⟨(.list (.int .i64)), r.1⟩, ⟨(.int .i64), r.2⟩]) loops20_nat (fun _ => rfl) ((ev20 x0 x1).trans (G20_some x0 x1 hpre)))
def env25 : Env where
  tab := tab
  glob := glob
  spec := fun
    | 12 => some spec12
    | 30 => some spec30
    | _ => none
def orc25 : Orc := ⟨89, fun _ => none, fun
  | 0 => kp [1, 2] [(2, [0, 1, 2])]
  | 1 => kp [1, 2, 18] [(2, [0, 1, 2])]
  | 2 => kp [4, 5] []
  | 3 => kp [1, 2, 6] [(2, [0, 1, 2])]
  | 4 => kp [1, 2, 6, 7] [(2, [0, 1, 2])]
  | 5 => kp [1, 2, 6, 7, 26] [(2, [0, 1, 2])]
  | 6 => kp [1, 2, 6, 7] [(2, [0, 1, 2])]
  | 7 => kp [1, 2, 6, 7, 8] [(2, [0, 1, 2]), (8, [0, 1, 2, 3, 4, 5, 6])]
  | 8 => kp [1, 2, 6, 7, 8, 9] [(2, [0, 1, 2]), (8, [0, 1, 2, 3, 4, 5, 6])]
  | 9 => kp [1, 2, 6, 7, 8, 9, 10] [(2, [0, 1, 2]), (8, [0, 1, 2, 3, 4, 5, 6])]
  | 10 => kp [1, 2, 6, 7, 8, 9, 10, 49] [(2, [0, 1, 2]), (8, [0, 1, 2, 3, 4, 5, 6])]
  | 11 => kp [1, 2, 6, 7, 8, 9, 10] [(2, [0, 1, 2]), (8, [0, 1, 2, 3, 4, 5, 6])]
  | 12 => kp [1, 2, 6, 7, 8, 9, 10] [(2, [0, 1, 2]), (8, [0, 1, 2, 3, 4, 5, 6])]
  | 13 => kp [1, 2, 6, 7, 8, 63] [(2, [0, 1, 2]), (8, [0, 1, 2, 3, 4, 5, 6])]
  | 14 => kp [1, 2, 6, 7, 8] [(2, [0, 1, 2]), (8, [0, 1, 2, 3, 4, 5, 6])]
  | 15 => kp [1, 2, 6, 7] [(2, [0, 1, 2])]
  | 16 => kp [4, 5] []
  | _ => [], fun | _ => false⟩
noncomputable def body25 : Code := Try.f25.body.getD .skip
def L25_10_sh : Shape := [(.slot 1, .dat (.int .i64)), (.slot 2, .ptr 2 0), (.slot 6, .own 3 (.int .i64)), (.slot 7, .dat (.int .i64)), (.slot 8, .ptr 8 0), (.slot 9, .dat .bool), (.slot 10, .dat (.int .i64)), (.box 2, .bx 24 3), (.cell 2 0, .dat (.int .i64)), (.cell 2 1, .dat (.list t26)), (.cell 2 2, .dat (.int .i64)), (.box 8, .bx 27 7), (.cell 8 0, .dat (.int .i64)), (.cell 8 1, .dat (.int .i64)), (.cell 8 2, .dat (.int .i64)), (.cell 8 3, .dat (.int .i64)), (.cell 8 4, .dat (.int .i64)), (.cell 8 5, .dat (.int .i64)), (.cell 8 6, .dat (.int .i64))]
def L25_10_x0 : Shape := [(.slot 1, .dat (.int .i64)), (.slot 2, .ptr 2 0), (.slot 6, .own 3 (.int .i64)), (.slot 7, .dat (.int .i64)), (.slot 8, .ptr 8 0), (.slot 9, .dat .bool), (.slot 10, .dat (.int .i64)), (.box 2, .bx 24 3), (.cell 2 0, .dat (.int .i64)), (.cell 2 1, .dat (.list t26)), (.cell 2 2, .dat (.int .i64)), (.box 8, .bx 27 7), (.cell 8 0, .dat (.int .i64)), (.cell 8 1, .dat (.int .i64)), (.cell 8 2, .dat (.int .i64)), (.cell 8 3, .dat (.int .i64)), (.cell 8 4, .dat (.int .i64)), (.cell 8 5, .dat (.int .i64)), (.cell 8 6, .dat (.int .i64))]
def L25_10_pk (s : Tup L25_10_sh) : Int × (List Int) × Int × Bool × Int × Int × (List D26) × Int × Int × Int × Int × Int × Int × Int × Int := (s.1, s.2.2.1, s.2.2.2.1, s.2.2.2.2.2.1, s.2.2.2.2.2.2.1, s.2.2.2.2.2.2.2.2.1, s.2.2.2.2.2.2.2.2.2.1, s.2.2.2.2.2.2.2.2.2.2.1, s.2.2.2.2.2.2.2.2.2.2.2.2.1, s.2.2.2.2.2.2.2.2.2.2.2.2.2.1, s.2.2.2.2.2.2.2.2.2.2.2.2.2.2.1, s.2.2.2.2.2.2.2.2.2.2.2.2.2.2.2.1, s.2.2.2.2.2.2.2.2.2.2.2.2.2.2.2.2.1, s.2.2.2.2.2.2.2.2.2.2.2.2.2.2.2.2.2.1, s.2.2.2.2.2.2.2.2.2.2.2.2.2.2.2.2.2.2.1)
def L25_10_un (s : Int × (List Int) × Int × Bool × Int × Int × (List D26) × Int × Int × Int × Int × Int × Int × Int × Int) : Tup L25_10_sh := (s.1, ((), (s.2.1, (s.2.2.1, ((), (s.2.2.2.1, (s.2.2.2.2.1, ((), (s.2.2.2.2.2.1, (s.2.2.2.2.2.2.1, (s.2.2.2.2.2.2.2.1, ((), (s.2.2.2.2.2.2.2.2.1, (s.2.2.2.2.2.2.2.2.2.1, (s.2.2.2.2.2.2.2.2.2.2.1, (s.2.2.2.2.2.2.2.2.2.2.2.1, (s.2.2.2.2.2.2.2.2.2.2.2.2.1, (s.2.2.2.2.2.2.2.2.2.2.2.2.2.1, (s.2.2.2.2.2.2.2.2.2.2.2.2.2.2, ())))))))))))))))))))
def L25_10_leave (x : (Int × (List Int) × Int × Bool × Int × Int × (List D26) × Int × Int × Int × Int × Int × Int × Int × Int)) (R : Type) (K : Cont R) : Option R := match x with
  | a => K (.exit 2) (mkSt L25_10_x0 (a.1, ((), (a.2.1, (a.2.2.1, ((), (a.2.2.2.1, (a.2.2.2.2.1, ((), (a.2.2.2.2.2.1, (a.2.2.2.2.2.2.1, (a.2.2.2.2.2.2.2.1, ((), (a.2.2.2.2.2.2.2.2.1, (a.2.2.2.2.2.2.2.2.2.1, (a.2.2.2.2.2.2.2.2.2.2.1, (a.2.2.2.2.2.2.2.2.2.2.2.1, (a.2.2.2.2.2.2.2.2.2.2.2.2.1, (a.2.2.2.2.2.2.2.2.2.2.2.2.2.1, (a.2.2.2.2.2.2.2.2.2.2.2.2.2.2, ()))))))))))))))))))))
def L25_10_d (e : Exit) (st : St) : Option ((Int × (List Int) × Int × Bool × Int × Int × (List D26) × Int × Int × Int × Int × Int × Int × Int × Int)) := match e with
  | .exit 2 => (match unSt L25_10_x0 st with
    | some s => some (s.1, s.2.2.1, s.2.2.2.1, s.2.2.2.2.2.1, s.2.2.2.2.2.2.1, s.2.2.2.2.2.2.2.2.1, s.2.2.2.2.2.2.2.2.2.1, s.2.2.2.2.2.2.2.2.2.2.1, s.2.2.2.2.2.2.2.2.2.2.2.2.1, s.2.2.2.2.2.2.2.2.2.2.2.2.2.1, s.2.2.2.2.2.2.2.2.2.2.2.2.2.2.1, s.2.2.2.2.2.2.2.2.2.2.2.2.2.2.2.1, s.2.2.2.2.2.2.2.2.2.2.2.2.2.2.2.2.1, s.2.2.2.2.2.2.2.2.2.2.2.2.2.2.2.2.2.1, s.2.2.2.2.2.2.2.2.2.2.2.2.2.2.2.2.2.2.1)
    | none => none)
  | _ => none
def L25_10_r (s0 : Int) (s1 : (List Int)) (s2 : Int) (s3 : Bool) (s4 : Int) (s5 : Int) (s6 : (List D26)) (s7 : Int) (s8 : Int) (s9 : Int) (s10 : Int) (s11 : Int) (s12 : Int) (s13 : Int) (s14 : Int) : Option ((Int × (List Int) × Int × Bool × Int × Int × (List D26) × Int × Int × Int × Int × Int × Int × Int × Int) ⊕ ((Int × (List Int) × Int × Bool × Int × Int × (List D26) × Int × Int × Int × Int × Int × Int × Int × Int))) :=
  let v16 : Int := ((List.length s6 : Nat) : Int)
  let v17 : Bool := (decide (s4 < v16))
  bif v17 then
  bif ((decide (0 ≤ s4) && decide (s4 < List.length s6)) || !(s3 && true)) then
  let v18 : D26 := (List.getD s6 (Int.toNat s4) z26)
  let v19 : Bool := (v18.2.2.2.2.2.2.1 != s2)
  let v20 : Bool := (bif s3 then v19 else false)
  let v21 : Int := (IntKind.i64.wrap (s4 + (1 : Int)))
  some (.inl (s0, s1, s2, v20, v21, s5, s6, s7, s8, s9, s10, s11, s12, s13, s14))
  else none
  else
  some (.inr (s0, s1, s2, s3, s4, s5, s6, s7, s8, s9, s10, s11, s12, s13, s14))
def L25_10 : Int × (List Int) × Int × Bool × Int × Int × (List D26) × Int × Int × Int × Int × Int × Int × Int × Int → Option ((Int × (List Int) × Int × Bool × Int × Int × (List D26) × Int × Int × Int × Int × Int × Int × Int × Int)) := Lim (fun s => L25_10_r s.1 s.2.1 s.2.2.1 s.2.2.2.1 s.2.2.2.2.1 s.2.2.2.2.2.1 s.2.2.2.2.2.2.1 s.2.2.2.2.2.2.2.1 s.2.2.2.2.2.2.2.2.1 s.2.2.2.2.2.2.2.2.2.1 s.2.2.2.2.2.2.2.2.2.2.1 s.2.2.2.2.2.2.2.2.2.2.2.1 s.2.2.2.2.2.2.2.2.2.2.2.2.1 s.2.2.2.2.2.2.2.2.2.2.2.2.2.1 s.2.2.2.2.2.2.2.2.2.2.2.2.2.2)
def L25_10_sum : Sum := limSum L25_10_sh L25_10_pk (fun s => L25_10_r s.1 s.2.1 s.2.2.1 s.2.2.2.1 s.2.2.2.2.1 s.2.2.2.2.2.1 s.2.2.2.2.2.2.1 s.2.2.2.2.2.2.2.1 s.2.2.2.2.2.2.2.2.1 s.2.2.2.2.2.2.2.2.2.1 s.2.2.2.2.2.2.2.2.2.2.1 s.2.2.2.2.2.2.2.2.2.2.2.1 s.2.2.2.2.2.2.2.2.2.2.2.2.1 s.2.2.2.2.2.2.2.2.2.2.2.2.2.1 s.2.2.2.2.2.2.2.2.2.2.2.2.2.2) L25_10_leave
theorem L25_10_nat : Natural L25_10_sum := natural_lim fun x R K => by
  rfl
theorem L25_10_dok : ∀ e st x, e ≠ .normal → L25_10_d e st = some x → ∀ R (K : Cont R), K e st = L25_10_leave x R K := by
  intro e st x _ h R K
  unfold L25_10_d at h
  split at h
  · split at h
    · rename_i s hs; cases h; rw [unSt_some hs]; rfl
    · cases h
  · cases h
def L25_5_sh : Shape := [(.slot 1, .dat (.int .i64)), (.slot 2, .ptr 2 0), (.slot 6, .own 3 (.int .i64)), (.slot 7, .dat (.int .i64)), (.box 2, .bx 24 3), (.cell 2 0, .dat (.int .i64)), (.cell 2 1, .dat (.list t26)), (.cell 2 2, .dat (.int .i64))]
def L25_5_x0 : Shape := [(.slot 1, .dat (.int .i64)), (.slot 2, .ptr 2 0), (.slot 6, .own 3 (.int .i64)), (.slot 7, .dat (.int .i64)), (.box 2, .bx 24 3), (.cell 2 0, .dat (.int .i64)), (.cell 2 1, .dat (.list t26)), (.cell 2 2, .dat (.int .i64))]
def L25_5_pk (s : Tup L25_5_sh) : Int × (List Int) × Int × Int × (List D26) × Int := (s.1, s.2.2.1, s.2.2.2.1, s.2.2.2.2.2.1, s.2.2.2.2.2.2.1, s.2.2.2.2.2.2.2.1)
def L25_5_un (s : Int × (List Int) × Int × Int × (List D26) × Int) : Tup L25_5_sh := (s.1, ((), (s.2.1, (s.2.2.1, ((), (s.2.2.2.1, (s.2.2.2.2.1, (s.2.2.2.2.2, ()))))))))
def L25_5_leave (x : (Int × (List Int) × Int × Int × (List D26) × Int)) (R : Type) (K : Cont R) : Option R := match x with
  | a => K (.exit 0) (mkSt L25_5_x0 (a.1, ((), (a.2.1, (a.2.2.1, ((), (a.2.2.2.1, (a.2.2.2.2.1, (a.2.2.2.2.2, ())))))))))
def L25_5_d (e : Exit) (st : St) : Option ((Int × (List Int) × Int × Int × (List D26) × Int)) := match e with
  | .exit 0 => (match unSt L25_5_x0 st with
    | some s => some (s.1, s.2.2.1, s.2.2.2.1, s.2.2.2.2.2.1, s.2.2.2.2.2.2.1, s.2.2.2.2.2.2.2.1)
    | none => none)
  | _ => none
def L25_5_r (s0 : Int) (s1 : (List Int)) (s2 : Int) (s3 : Int) (s4 : (List D26)) (s5 : Int) : Option ((Int × (List Int) × Int × Int × (List D26) × Int) ⊕ ((Int × (List Int) × Int × Int × (List D26) × Int))) :=
  let v9 : Int := ((List.length s4 : Nat) : Int)
  let v10 : Bool := (decide (s2 < v9))
  bif v10 then
  bif (decide (0 ≤ s2) && decide (s2 < List.length s4)) then
  let v11 : D26 := (List.getD s4 (Int.toNat s2) z26)
  let v12 : Bool := (v11.1 == (1 : Int))
  let v13 : Bool := (v11.2.2.2.2.2.1 == s0)
  let v14 : Bool := (bif v12 then v13 else false)
  let v15 : Int := (IntKind.i64.wrap (s2 + (1 : Int)))
  Option.bind (L25_10 (s0, s1, s2, v14, v15, s3, s4, s5, v11.1, v11.2.1, v11.2.2.1, v11.2.2.2.1, v11.2.2.2.2.1, v11.2.2.2.2.2.1, v11.2.2.2.2.2.2.1)) fun (r22 : Int × (List Int) × Int × Bool × Int × Int × (List D26) × Int × Int × Int × Int × Int × Int × Int × Int) =>
  bif r22.2.2.2.1 then
  bif (decide (0 ≤ r22.2.2.2.2.2.2.2.2.2.2.2.1) && decide (r22.2.2.2.2.2.2.2.2.2.2.2.1 < (List.length r22.2.1))) then
  bif (decide ((Int.toNat r22.2.2.2.2.2.2.2.2.2.2.2.1) < List.length r22.2.1)) then
  let v23 : Int := (List.getD r22.2.1 (Int.toNat r22.2.2.2.2.2.2.2.2.2.2.2.1) (0 : Int))
  let v24 : Int := (IntKind.i64.wrap (v23 + r22.2.2.2.2.2.2.2.2.2.2.2.2.1))
  bif (decide (0 ≤ r22.2.2.2.2.2.2.2.2.2.2.2.1) && decide (r22.2.2.2.2.2.2.2.2.2.2.2.1 < (List.length r22.2.1))) then
  bif (decide ((Int.toNat r22.2.2.2.2.2.2.2.2.2.2.2.1) < List.length r22.2.1)) then
  let v25 : (List Int) := (List.set r22.2.1 (Int.toNat r22.2.2.2.2.2.2.2.2.2.2.2.1) v24)
  bif (decide (0 ≤ r22.2.2.2.2.2.2.2.2.2.2.1) && decide (r22.2.2.2.2.2.2.2.2.2.2.1 < (List.length v25))) then
  bif (decide ((Int.toNat r22.2.2.2.2.2.2.2.2.2.2.1) < List.length v25)) then
  let v26 : Int := (List.getD v25 (Int.toNat r22.2.2.2.2.2.2.2.2.2.2.1) (0 : Int))
  let v27 : Int := (IntKind.i64.wrap (v26 - r22.2.2.2.2.2.2.2.2.2.2.2.2.1))
  bif (decide (0 ≤ r22.2.2.2.2.2.2.2.2.2.2.1) && decide (r22.2.2.2.2.2.2.2.2.2.2.1 < (List.length v25))) then
  bif (decide ((Int.toNat r22.2.2.2.2.2.2.2.2.2.2.1) < List.length v25)) then
  let v28 : (List Int) := (List.set v25 (Int.toNat r22.2.2.2.2.2.2.2.2.2.2.1) v27)
  let v29 : Int := (IntKind.i64.wrap (r22.2.2.1 + (1 : Int)))
  some (.inl (r22.1, v28, v29, r22.2.2.2.2.2.1, r22.2.2.2.2.2.2.1, r22.2.2.2.2.2.2.2.1))
  else none
  else none
  else none
  else none
  else none
  else none
  else none
  else none
  else
  let v30 : Int := (IntKind.i64.wrap (r22.2.2.1 + (1 : Int)))
  some (.inl (r22.1, r22.2.1, v30, r22.2.2.2.2.2.1, r22.2.2.2.2.2.2.1, r22.2.2.2.2.2.2.2.1))
  else none
  else
  some (.inr (s0, s1, s2, s3, s4, s5))
def L25_5 : Int × (List Int) × Int × Int × (List D26) × Int → Option ((Int × (List Int) × Int × Int × (List D26) × Int)) := Lim (fun s => L25_5_r s.1 s.2.1 s.2.2.1 s.2.2.2.1 s.2.2.2.2.1 s.2.2.2.2.2)
def L25_5_sum : Sum := limSum L25_5_sh L25_5_pk (fun s => L25_5_r s.1 s.2.1 s.2.2.1 s.2.2.2.1 s.2.2.2.2.1 s.2.2.2.2.2) L25_5_leave
theorem L25_5_nat : Natural L25_5_sum := natural_lim fun x R K => by
  rfl
theorem L25_5_dok : ∀ e st x, e ≠ .normal → L25_5_d e st = some x → ∀ R (K : Cont R), K e st = L25_5_leave x R K := by
  intro e st x _ h R K
  unfold L25_5_d at h
  split at h
  · split at h
    · rename_i s hs; cases h; rw [unSt_some hs]; rfl
    · cases h
  · cases h
def loops25 : Nat → Option (Sum) := fun | 5 => some L25_5_sum | 10 => some L25_10_sum | _ => none
theorem loops25_nat : ∀ q f, loops25 q = some f → Natural f := by
  intro q f h
  unfold loops25 at h
  split at h
  · cases h; exact L25_5_nat
  · cases h; exact L25_10_nat
  · cases h
noncomputable def L25_5_code : Code := (loopsOf body25).getD 0 .skip
theorem L25_5_round (s0 : Int) (s1 : (List Int)) (s2 : Int) (s3 : Int) (s4 : (List D26)) (s5 : Int) : ev2 env25 orc25 loops25 L25_5_code (mkSt L25_5_sh (s0, ((), (s1, (s2, ((), (s3, (s4, (s5, ()))))))))) (back L25_5_sh L25_5_pk L25_5_d) = L25_5_r s0 s1 s2 s3 s4 s5 := by kernel_rfl
theorem L25_5_ok : SumOk env25 orc25 loops25 L25_5_code L25_5_sum := sumOk_lim (un := L25_5_un) loops25_nat (fun _ => rfl) L25_5_dok fun s => L25_5_round s.1 s.2.1 s.2.2.1 s.2.2.2.1 s.2.2.2.2.1 s.2.2.2.2.2
noncomputable def L25_10_code : Code := (loopsOf body25).getD 1 .skip
theorem L25_10_round (s0 : Int) (s1 : (List Int)) (s2 : Int) (s3 : Bool) (s4 : Int) (s5 : Int) (s6 : (List D26)) (s7 : Int) (s8 : Int) (s9 : Int) (s10 : Int) (s11 : Int) (s12 : Int) (s13 : Int) (s14 : Int) : ev2 env25 orc25 loops25 L25_10_code (mkSt L25_10_sh (s0, ((), (s1, (s2, ((), (s3, (s4, ((), (s5, (s6, (s7, ((), (s8, (s9, (s10, (s11, (s12, (s13, (s14, ())))))))))))))))))))) (back L25_10_sh L25_10_pk L25_10_d) = L25_10_r s0 s1 s2 s3 s4 s5 s6 s7 s8 s9 s10 s11 s12 s13 s14 := by kernel_rfl
theorem L25_10_ok : SumOk env25 orc25 loops25 L25_10_code L25_10_sum := sumOk_lim (un := L25_10_un) loops25_nat (fun _ => rfl) L25_10_dok fun s => L25_10_round s.1 s.2.1 s.2.2.1 s.2.2.2.1 s.2.2.2.2.1 s.2.2.2.2.2.1 s.2.2.2.2.2.2.1 s.2.2.2.2.2.2.2.1 s.2.2.2.2.2.2.2.2.1 s.2.2.2.2.2.2.2.2.2.1 s.2.2.2.2.2.2.2.2.2.2.1 s.2.2.2.2.2.2.2.2.2.2.2.1 s.2.2.2.2.2.2.2.2.2.2.2.2.1 s.2.2.2.2.2.2.2.2.2.2.2.2.2.1 s.2.2.2.2.2.2.2.2.2.2.2.2.2.2
theorem loops25_all : loopsOf body25 = [L25_5_code, L25_10_code] := by kernel_rfl
theorem L25_5_key : lookL loops25 (keyOf L25_5_code) = some L25_5_sum := by kernel_rfl
theorem L25_10_key : lookL loops25 (keyOf L25_10_code) = some L25_10_sum := by kernel_rfl
theorem loops25_ok : LoopsOk env25 orc25 loops25 body25 := by
  intro c hc f hf
  rw [loops25_all] at hc
  simp only [List.mem_cons, List.not_mem_nil, or_false] at hc
  rcases hc with rfl | rfl
  · rw [L25_5_key] at hf; cases hf; exact L25_5_ok
  · rw [L25_10_key] at hf; cases hf; exact L25_10_ok
def G25 (x0 : D23) (x1 : Int) : Option ((List Int) × Int) :=
  let v1 : (List Int) := ([] : (List Int))
  bif (P12 x0) then
  let v2 : Bool := (F12 x0)
  let v3 : Bool := (!v2)
  bif ((P30 x1 (0 : Int) (999 : Int)) || !(!v3 && true)) then
  let v4 : Bool := (F30 x1 (0 : Int) (999 : Int))
  let v5 : Bool := (!v4)
  let v6 : Bool := (bif v3 then true else v5)
  bif v6 then
  let v7 : (List Int) := ([] : (List Int))
  some (v7, (310 : Int))
  else
  bif (decide (0 ≤ x0.1) && decide (x0.1 ≤ x0.1) && decide (x0.1 ≤ 100000000000)) then
  let v8 : (List Int) := (List.replicate (Int.toNat x0.1) (0 : Int))
  Option.bind (L25_5 (x1, v8, (0 : Int), x0.1, x0.2.1, x0.2.2.1)) fun (r31 : Int × (List Int) × Int × Int × (List D26) × Int) =>
  let v32 : (List Int) := (List.take (List.length r31.2.1) r31.2.1)
  some (v32, (0 : Int))
  else none
  else none
  else none
theorem ev25 (x0 : D23) (x1 : Int) : ev2 env25 orc25 loops25 body25 (initSt 0 [⟨t23, x0⟩, ⟨(.int .i64), x1⟩]) (retT [(4, .dat (.list (.int .i64))), (5, .dat (.int .i64))] [(.list (.int .i64)), (.int .i64)] fun x => (x.1, x.2.1)) = G25 x0 x1 := by kernel_rfl
def P25 (x0 : D23) (x1 : Int) : Bool := (G25 x0 x1).isSome
def F25 (x0 : D23) (x1 : Int) : (List Int) × Int := (G25 x0 x1).getD default
theorem G25_some (x0 : D23) (x1 : Int) (h : P25 x0 x1 = true) : G25 x0 x1 = some (F25 x0 x1) := by
  unfold P25 at h; unfold F25
  cases hg : G25 x0 x1 with
  | none => rw [hg] at h; cases h
  | some r => rfl
theorem P25_of (x0 : D23) (x1 : Int) {r : (List Int) × Int} (h : G25 x0 x1 = some r) : P25 x0 x1 = true := by unfold P25; rw [h]; rfl
theorem F25_of (x0 : D23) (x1 : Int) {r : (List Int) × Int} (h : G25 x0 x1 = some r) : F25 x0 x1 = r := by unfold F25; rw [h]; rfl
def spec25 : Spec := ⟨[t23, (.int .i64)], [.dat (.list (.int .i64)), .dat (.int .i64)], fun | [a0, a1] => P25 (a0.as t23) (a1.as (.int .i64)) | _ => false, fun | [a0, a1] => [⟨(.list (.int .i64)), (F25 (a0.as t23) (a1.as (.int .i64))).1⟩, ⟨(.int .i64), (F25 (a0.as t23) (a1.as (.int .i64))).2⟩] | _ => []⟩
theorem meets25 (hE : EnvOk Try.prog env25) (hm : Try.prog.follows .mixedOrders = true) : Meets Try.prog glob 25 spec25 :=
  meets_of_ev2 (O := orc25) (L := loops25) (c := body25) (slots := [4, 5]) hE hm Try.func25 Try.call25 (by kernel_rfl) (by kernel_rfl) loops25_ok (rangesOk_nil (by kernel_rfl)) (by kernel_rfl) rfl (by decide) (fun ds hds hpre => by
  obtain ⟨x0, ds0, rfl, h0⟩ := datsS hds
  obtain ⟨x1, ds1, rfl, h1⟩ := datsS h0
  have h9 := dats0 h1; subst h9
  exact ev_ret (un := fun r => [⟨(.list (.int .i64)), r.1⟩, ⟨(.int .i64), r.2⟩]) loops25_nat (fun _ => rfl) ((ev25 x0 x1).trans (G25_some x0 x1 hpre)))
def env32 : Env where
  tab := tab
  glob := glob
  spec := fun
    | _ => none
def orc32 : Orc := ⟨15, fun _ => none, fun
  | 0 => kp [0, 1, 2] []
  | 1 => kp [6] []
  | _ => [], fun | _ => false⟩
noncomputable def body32 : Code := Try.f32.body.getD .skip
def loops32 : Nat → Option (Sum) := fun | _ => none
theorem loops32_nat : ∀ q f, loops32 q = some f → Natural f := by
  intro q f h
  cases h
theorem loops32_ok : LoopsOk env32 orc32 loops32 body32 := loopsOk_nil (by kernel_rfl)
def G32 (x0 : Int) (x1 : Int) (x2 : Int) : Option (Bool) :=
  let v1 : Bool := (decide (x1 ≤ x0))
  let v2 : Bool := (decide (x0 ≤ x2))
  let v3 : Bool := (bif v1 then v2 else false)
  some (v3)
theorem ev32 (x0 : Int) (x1 : Int) (x2 : Int) : ev2 env32 orc32 loops32 body32 (initSt 0 [⟨(.int .i64), x0⟩, ⟨(.int .i64), x1⟩, ⟨(.int .i64), x2⟩]) (retT [(6, .dat .bool)] [.bool] fun x => x.1) = G32 x0 x1 x2 := by kernel_rfl
def P32 (x0 : Int) (x1 : Int) (x2 : Int) : Bool := (G32 x0 x1 x2).isSome
def F32 (x0 : Int) (x1 : Int) (x2 : Int) : Bool := (G32 x0 x1 x2).getD default
theorem G32_some (x0 : Int) (x1 : Int) (x2 : Int) (h : P32 x0 x1 x2 = true) : G32 x0 x1 x2 = some (F32 x0 x1 x2) := by
  unfold P32 at h; unfold F32
  cases hg : G32 x0 x1 x2 with
  | none => rw [hg] at h; cases h
  | some r => rfl
theorem P32_of (x0 : Int) (x1 : Int) (x2 : Int) {r : Bool} (h : G32 x0 x1 x2 = some r) : P32 x0 x1 x2 = true := by unfold P32; rw [h]; rfl
theorem F32_of (x0 : Int) (x1 : Int) (x2 : Int) {r : Bool} (h : G32 x0 x1 x2 = some r) : F32 x0 x1 x2 = r := by unfold F32; rw [h]; rfl
def spec32 : Spec := ⟨[(.int .i64), (.int .i64), (.int .i64)], [.dat .bool], fun | [a0, a1, a2] => P32 (a0.as (.int .i64)) (a1.as (.int .i64)) (a2.as (.int .i64)) | _ => false, fun | [a0, a1, a2] => [⟨.bool, (F32 (a0.as (.int .i64)) (a1.as (.int .i64)) (a2.as (.int .i64)))⟩] | _ => []⟩
theorem meets32 (hE : EnvOk Try.prog env32) (hm : Try.prog.follows .mixedOrders = true) : Meets Try.prog glob 32 spec32 :=
  meets_of_ev2 (O := orc32) (L := loops32) (c := body32) (slots := [6]) hE hm Try.func32 Try.call32 (by kernel_rfl) (by kernel_rfl) loops32_ok (rangesOk_nil (by kernel_rfl)) (by kernel_rfl) rfl (by decide) (fun ds hds hpre => by
  obtain ⟨x0, ds0, rfl, h0⟩ := datsS hds
  obtain ⟨x1, ds1, rfl, h1⟩ := datsS h0
  obtain ⟨x2, ds2, rfl, h2⟩ := datsS h1
  have h9 := dats0 h2; subst h9
  exact ev_ret (un := fun r => [⟨.bool, r⟩]) loops32_nat (fun _ => rfl) ((ev32 x0 x1 x2).trans (G32_some x0 x1 x2 hpre)))
def env40 : Env where
  tab := tab
  glob := glob
  spec := fun
    | 32 => some spec32
    | _ => none
def orc40 : Orc := ⟨50, fun _ => none, fun
  | 0 => kp [1, 2] [(2, [0, 1, 2, 3, 4, 5, 6])]
  | 1 => kp [1, 2, 5] [(2, [0, 1, 2, 3, 4, 5, 6])]
  | 2 => kp [1, 2, 5] [(2, [0, 1, 2, 3, 4, 5, 6])]
  | 3 => kp [2, 5] [(2, [0, 1, 2, 3, 4, 5, 6])]
  | 4 => kp [2, 5] [(2, [0, 1, 2, 3, 4, 5, 6])]
  | 5 => kp [2, 5] [(2, [0, 1, 2, 3, 4, 5, 6])]
  | 6 => kp [2, 5] [(2, [0, 1, 2, 3, 4, 5, 6])]
  | 7 => kp [4] []
  | 8 => kp [2, 35] [(2, [0, 1, 2, 3, 4, 5, 6])]
  | 9 => kp [4] []
  | 10 => kp [4] []
  | _ => [], fun | 5 => true | _ => false⟩
noncomputable def body40 : Code := Try.f40.body.getD .skip
def loops40 : Nat → Option (Sum) := fun | _ => none
theorem loops40_nat : ∀ q f, loops40 q = some f → Natural f := by
  intro q f h
  cases h
theorem loops40_ok : LoopsOk env40 orc40 loops40 body40 := loopsOk_nil (by kernel_rfl)
def G40 (x0 : D26) (x1 : Int) : Option (Bool) :=
  bif (P32 x0.2.1 (0 : Int) (359 : Int)) then
  let v1 : Bool := (F32 x0.2.1 (0 : Int) (359 : Int))
  let v2 : Bool := (!v1)
  bif v2 then
  some (false)
  else
  let v3 : Int := (IntKind.i64.wrap (x1 - (1 : Int)))
  bif (P32 x0.2.2.1 (0 : Int) v3) then
  let v4 : Bool := (F32 x0.2.2.1 (0 : Int) v3)
  let v5 : Bool := (!v4)
  bif v5 then
  some (false)
  else
  let v6 : Int := (IntKind.i64.wrap (x1 - (1 : Int)))
  bif (P32 x0.2.2.2.1 (0 : Int) v6) then
  let v7 : Bool := (F32 x0.2.2.2.1 (0 : Int) v6)
  let v8 : Bool := (!v7)
  bif v8 then
  some (false)
  else
  let v9 : Bool := (x0.2.2.1 == x0.2.2.2.1)
  bif v9 then
  some (false)
  else
  bif (P32 x0.2.2.2.2.1 (1 : Int) (1000000000 : Int)) then
  let v10 : Bool := (F32 x0.2.2.2.2.1 (1 : Int) (1000000000 : Int))
  let v11 : Bool := (!v10)
  bif v11 then
  some (false)
  else
  bif (P32 x0.2.2.2.2.2.1 (0 : Int) (999 : Int)) then
  let v12 : Bool := (F32 x0.2.2.2.2.2.1 (0 : Int) (999 : Int))
  let v13 : Bool := (!v12)
  bif v13 then
  some (false)
  else
  let v14 : Bool := (x0.1 == (1 : Int))
  bif v14 then
  let v15 : Bool := (x0.2.2.2.2.2.2.1 == (-1 : Int))
  some (v15)
  else
  let v16 : Bool := (x0.1 == (2 : Int))
  bif ((P32 x0.2.2.2.2.2.2.1 (0 : Int) (199 : Int)) || !(v16 && true)) then
  let v17 : Bool := (F32 x0.2.2.2.2.2.2.1 (0 : Int) (199 : Int))
  let v18 : Bool := (bif v16 then v17 else false)
  some (v18)
  else none
  else none
  else none
  else none
  else none
  else none
theorem ev40 (x0 : D26) (x1 : Int) : ev2 env40 orc40 loops40 body40 (initSt 0 [⟨t26, x0⟩, ⟨(.int .i64), x1⟩]) (retT [(4, .dat .bool)] [.bool] fun x => x.1) = G40 x0 x1 := by kernel_rfl
def P40 (x0 : D26) (x1 : Int) : Bool := (G40 x0 x1).isSome
def F40 (x0 : D26) (x1 : Int) : Bool := (G40 x0 x1).getD default
theorem G40_some (x0 : D26) (x1 : Int) (h : P40 x0 x1 = true) : G40 x0 x1 = some (F40 x0 x1) := by
  unfold P40 at h; unfold F40
  cases hg : G40 x0 x1 with
  | none => rw [hg] at h; cases h
  | some r => rfl
theorem P40_of (x0 : D26) (x1 : Int) {r : Bool} (h : G40 x0 x1 = some r) : P40 x0 x1 = true := by unfold P40; rw [h]; rfl
theorem F40_of (x0 : D26) (x1 : Int) {r : Bool} (h : G40 x0 x1 = some r) : F40 x0 x1 = r := by unfold F40; rw [h]; rfl
def spec40 : Spec := ⟨[t26, (.int .i64)], [.dat .bool], fun | [a0, a1] => P40 (a0.as t26) (a1.as (.int .i64)) | _ => false, fun | [a0, a1] => [⟨.bool, (F40 (a0.as t26) (a1.as (.int .i64)))⟩] | _ => []⟩
theorem meets40 (hE : EnvOk Try.prog env40) (hm : Try.prog.follows .mixedOrders = true) : Meets Try.prog glob 40 spec40 :=
  meets_of_ev2 (O := orc40) (L := loops40) (c := body40) (slots := [4]) hE hm Try.func40 Try.call40 (by kernel_rfl) (by kernel_rfl) loops40_ok (rangesOk_nil (by kernel_rfl)) (by kernel_rfl) rfl (by decide) (fun ds hds hpre => by
  obtain ⟨x0, ds0, rfl, h0⟩ := datsS hds
  obtain ⟨x1, ds1, rfl, h1⟩ := datsS h0
  have h9 := dats0 h1; subst h9
  exact ev_ret (un := fun r => [⟨.bool, r⟩]) loops40_nat (fun _ => rfl) ((ev40 x0 x1).trans (G40_some x0 x1 hpre)))
def env41 : Env where
  tab := tab
  glob := glob
  spec := fun
    | _ => none
def orc41 : Orc := ⟨36, fun _ => none, fun
  | 0 => kp [2, 3] [(2, [0, 1, 2, 3, 4, 5, 6]), (3, [0, 1, 2, 3, 4, 5, 6])]
  | 1 => kp [4] []
  | _ => [], fun | _ => false⟩
noncomputable def body41 : Code := Try.f41.body.getD .skip
def loops41 : Nat → Option (Sum) := fun | _ => none
theorem loops41_nat : ∀ q f, loops41 q = some f → Natural f := by
  intro q f h
  cases h
theorem loops41_ok : LoopsOk env41 orc41 loops41 body41 := loopsOk_nil (by kernel_rfl)
def G41 (x0 : D26) (x1 : D26) : Option (Bool) :=
  let v1 : Bool := (x1.1 == (1 : Int))
  let v2 : Bool := (x0.2.2.1 == x1.2.2.2.1)
  let v3 : Bool := (bif v1 then v2 else false)
  let v4 : Bool := (x0.2.2.2.1 == x1.2.2.1)
  let v5 : Bool := (bif v3 then v4 else false)
  let v6 : Bool := (x0.2.2.2.2.1 == x1.2.2.2.2.1)
  let v7 : Bool := (bif v5 then v6 else false)
  let v8 : Bool := (x0.2.2.2.2.2.1 == x1.2.2.2.2.2.1)
  let v9 : Bool := (bif v7 then v8 else false)
  some (v9)
theorem ev41 (x0 : D26) (x1 : D26) : ev2 env41 orc41 loops41 body41 (initSt 0 [⟨t26, x0⟩, ⟨t26, x1⟩]) (retT [(4, .dat .bool)] [.bool] fun x => x.1) = G41 x0 x1 := by kernel_rfl
def P41 (x0 : D26) (x1 : D26) : Bool := (G41 x0 x1).isSome
def F41 (x0 : D26) (x1 : D26) : Bool := (G41 x0 x1).getD default
theorem G41_some (x0 : D26) (x1 : D26) (h : P41 x0 x1 = true) : G41 x0 x1 = some (F41 x0 x1) := by
  unfold P41 at h; unfold F41
  cases hg : G41 x0 x1 with
  | none => rw [hg] at h; cases h
  | some r => rfl
theorem P41_of (x0 : D26) (x1 : D26) {r : Bool} (h : G41 x0 x1 = some r) : P41 x0 x1 = true := by unfold P41; rw [h]; rfl
theorem F41_of (x0 : D26) (x1 : D26) {r : Bool} (h : G41 x0 x1 = some r) : F41 x0 x1 = r := by unfold F41; rw [h]; rfl
def spec41 : Spec := ⟨[t26, t26], [.dat .bool], fun | [a0, a1] => P41 (a0.as t26) (a1.as t26) | _ => false, fun | [a0, a1] => [⟨.bool, (F41 (a0.as t26) (a1.as t26))⟩] | _ => []⟩
theorem meets41 (hE : EnvOk Try.prog env41) (hm : Try.prog.follows .mixedOrders = true) : Meets Try.prog glob 41 spec41 :=
  meets_of_ev2 (O := orc41) (L := loops41) (c := body41) (slots := [4]) hE hm Try.func41 Try.call41 (by kernel_rfl) (by kernel_rfl) loops41_ok (rangesOk_nil (by kernel_rfl)) (by kernel_rfl) rfl (by decide) (fun ds hds hpre => by
  obtain ⟨x0, ds0, rfl, h0⟩ := datsS hds
  obtain ⟨x1, ds1, rfl, h1⟩ := datsS h0
  have h9 := dats0 h1; subst h9
  exact ev_ret (un := fun r => [⟨.bool, r⟩]) loops41_nat (fun _ => rfl) ((ev41 x0 x1).trans (G41_some x0 x1 hpre)))
def pin38 : Shape := [(.slot 0, .ptr 50000 0), (.slot 1, .dat t26), (.box 50000, .bx 58 203), (.cell 50000 0, .dat (.int .i64)), (.cell 50000 1, .own 27 t26), (.cell 50000 2, .dat (.int .i64)), (.cell 50000 3, .dat (.arr 200 .bool))]
def pout38 : Shape := [(.slot 0, .dat .bool), (.box 50000, .bx 58 203), (.cell 50000 0, .dat (.int .i64)), (.cell 50000 1, .own 27 t26), (.cell 50000 2, .dat (.int .i64)), (.cell 50000 3, .dat (.arr 200 .bool))]
def env38 : Env where
  tab := tab
  glob := glob
  spec := fun
    | 40 => some spec40
    | 41 => some spec41
    | _ => none
def orc38 : Orc := ⟨91, fun _ => none, fun
  | 0 => kp [0, 3] [(3, [0, 1, 2, 3, 4, 5, 6]), (50000, [0, 1, 2, 3])]
  | 1 => kp [0, 3, 5] [(3, [0, 1, 2, 3, 4, 5, 6]), (50000, [0, 1, 2, 3])]
  | 2 => kp [0, 3, 5, 42] [(3, [0, 1, 2, 3, 4, 5, 6]), (50000, [0, 1, 2, 3])]
  | 3 => kp [4] [(50000, [0, 1, 2, 3])]
  | 4 => kp [0, 3, 5, 45] [(3, [0, 1, 2, 3, 4, 5, 6]), (50000, [0, 1, 2, 3])]
  | 5 => kp [0, 3, 72] [(3, [0, 1, 2, 3, 4, 5, 6]), (50000, [0, 1, 2, 3])]
  | 6 => kp [4] [(50000, [0, 1, 2, 3])]
  | 7 => kp [0, 3] [(3, [0, 1, 2, 3, 4, 5, 6]), (50000, [0, 1, 2, 3])]
  | 8 => kp [] [(50000, [0, 1, 2, 3])]
  | 9 => kp [4] [(50000, [0, 1, 2, 3])]
  | _ => [], fun | _ => false⟩
noncomputable def body38 : Code := Try.f38.body.getD .skip
def loops38 : Nat → Option (Sum) := fun | _ => none
theorem loops38_nat : ∀ q f, loops38 q = some f → Natural f := by
  intro q f h
  cases h
theorem loops38_ok : LoopsOk env38 orc38 loops38 body38 := loopsOk_nil (by kernel_rfl)
def G38 (x0 : D26) (x1 : Int) (x2 : (List D26)) (x3 : Int) (x4 : (List Bool)) : Option (Bool × (Unit × (Int × ((List D26) × (Int × ((List Bool) × Unit)))))) :=
  let v1 : Int := (((List.length x2) : Nat) : Int)
  let v2 : Bool := (decide (v1 ≥ (200 : Int)))
  bif ((P40 x0 x1) || !(!v2 && true)) then
  let v3 : Bool := (F40 x0 x1)
  let v4 : Bool := (!v3)
  let v5 : Bool := (bif v2 then true else v4)
  let v6 : Bool := (decide (v1 > (0 : Int)))
  let v7 : Int := (IntKind.i64.wrap (v1 - (1 : Int)))
  bif ((decide (0 ≤ v7) && decide (v7 < (List.length x2))) || !(v6 && (!v5 && true))) then
  bif ((decide ((Int.toNat v7) < List.length x2)) || !(v6 && (!v5 && true))) then
  let v8 : Int := ((List.getD x2 (Int.toNat v7) z26).2).1
  let v9 : Bool := (decide (x0.2.1 < v8))
  let v10 : Bool := (bif v6 then v9 else false)
  let v11 : Bool := (bif v5 then true else v10)
  bif v11 then
  some (false, ((), (x1, (x2, (x3, (x4, ()))))))
  else
  let v12 : Bool := (x0.1 == (2 : Int))
  bif v12 then
  let v13 : Bool := (decide (x0.2.2.2.2.2.2.1 ≥ v1))
  bif ((decide (0 ≤ x0.2.2.2.2.2.2.1) && decide (x0.2.2.2.2.2.2.1 < (200 : Nat))) || !(!v13 && true)) then
  bif ((decide ((Int.toNat x0.2.2.2.2.2.2.1) < List.length x4)) || !(!v13 && true)) then
  let v14 : Bool := (List.getD x4 (Int.toNat x0.2.2.2.2.2.2.1) false)
  let v15 : Bool := (bif v13 then true else v14)
  bif ((decide (0 ≤ x0.2.2.2.2.2.2.1) && decide (x0.2.2.2.2.2.2.1 < (List.length x2))) || !(!v15 && true)) then
  bif ((decide ((Int.toNat x0.2.2.2.2.2.2.1) < List.length x2)) || !(!v15 && true)) then
  let v16 : D26 := (List.getD x2 (Int.toNat x0.2.2.2.2.2.2.1) z26)
  bif ((P41 x0 v16) || !(!v15 && true)) then
  let v17 : Bool := (F41 x0 v16)
  let v18 : Bool := (!v17)
  let v19 : Bool := (bif v15 then true else v18)
  bif v19 then
  some (false, ((), (x1, (x2, (x3, (x4, ()))))))
  else
  bif (decide (0 ≤ x0.2.2.2.2.2.2.1) && decide (x0.2.2.2.2.2.2.1 < (200 : Nat))) then
  bif (decide ((Int.toNat x0.2.2.2.2.2.2.1) < List.length x4)) then
  let v20 : (List Bool) := (List.set x4 (Int.toNat x0.2.2.2.2.2.2.1) true)
  let v21 : (List D26) := (List.set (List.replicate 1 z26) 0 x0)
  bif (decide (List.length (List.take (List.length x2) x2) + List.length v21 ≤ 100000000000)) then
  let v22 : (List D26) := ((List.take (List.length x2) x2) ++ v21)
  some (true, ((), (x1, (v22, (x3, (v20, ()))))))
  else none
  else none
  else none
  else none
  else none
  else none
  else none
  else none
  else
  let v23 : (List D26) := (List.set (List.replicate 1 z26) 0 x0)
  bif (decide (List.length (List.take (List.length x2) x2) + List.length v23 ≤ 100000000000)) then
  let v24 : (List D26) := ((List.take (List.length x2) x2) ++ v23)
  some (true, ((), (x1, (v24, (x3, (x4, ()))))))
  else none
  else none
  else none
  else none
def P38 (x0 : D26) (x1 : Int) (x2 : (List D26)) (x3 : Int) (x4 : (List Bool)) : Bool := (G38 x0 x1 x2 x3 x4).isSome
def F38 (x0 : D26) (x1 : Int) (x2 : (List D26)) (x3 : Int) (x4 : (List Bool)) : (Bool × (Unit × (Int × ((List D26) × (Int × ((List Bool) × Unit)))))) := (G38 x0 x1 x2 x3 x4).getD (Tup.zero pout38)
theorem P38_of (x0 : D26) (x1 : Int) (x2 : (List D26)) (x3 : Int) (x4 : (List Bool)) {r : (Bool × (Unit × (Int × ((List D26) × (Int × ((List Bool) × Unit))))))} (h : G38 x0 x1 x2 x3 x4 = some r) : P38 x0 x1 x2 x3 x4 = true := by unfold P38; rw [h]; rfl
theorem F38_of (x0 : D26) (x1 : Int) (x2 : (List D26)) (x3 : Int) (x4 : (List Bool)) {r : (Bool × (Unit × (Int × ((List D26) × (Int × ((List Bool) × Unit))))))} (h : G38 x0 x1 x2 x3 x4 = some r) : F38 x0 x1 x2 x3 x4 = r := by unfold F38; rw [h]; rfl
theorem ev38 (x0 : D26) (x1 : Int) (x2 : (List D26)) (x3 : Int) (x4 : (List Bool)) : ev2 env38 orc38 loops38 body38 (mkSt pin38 ((), (x0, ((), (x1, (x2, (x3, (x4, ())))))))) (retK3 env38 [.slot 4] pout38) = G38 x0 x1 x2 x3 x4 := by kernel_rfl
def sp38 : Spec2 := ⟨pin38, pout38, fun s => G38 s.2.1 s.2.2.2.1 s.2.2.2.2.1 s.2.2.2.2.2.1 s.2.2.2.2.2.2.1⟩
theorem fit38 : Fit Try.f38 [.slot 4] sp38 := ⟨by kernel_rfl, by kernel_rfl, by kernel_rfl, by kernel_rfl, by kernel_rfl, by decide, by decide, by decide⟩
theorem meets38 (hE : EnvOk Try.prog env38) (hm : Try.prog.follows .mixedOrders = true) : Meets2 Try.prog glob 38 sp38 :=
  meets2_of_ev2 (O := orc38) (L := loops38) (c := body38) (rs := [.slot 4]) hE (fun _ => rfl) hm Try.func38 Try.call38 (by kernel_rfl) (by kernel_rfl) loops38_ok (rangesOk_nil (by kernel_rfl)) fit38 (fun s o h => (ev38 s.2.1 s.2.2.2.1 s.2.2.2.2.1 s.2.2.2.2.2.1 s.2.2.2.2.2.2.1).trans h)
def pin28 : Shape := [(.slot 0, .dat t23)]
def pout28 : Shape := [(.slot 0, .mptr 13 0), (.slot 1, .dat .bool), (.box 13, .bx 58 203), (.cell 13 0, .dat (.int .i64)), (.cell 13 1, .own 27 t26), (.cell 13 2, .dat (.int .i64)), (.cell 13 3, .dat (.arr 200 .bool))]
def env28 : Env where
  tab := tab
  glob := glob
  spec := fun
    | 32 => some spec32
    | _ => none
  spec2 := fun
    | 38, [] => some sp38
    | _, _ => none
def orc28 : Orc := ⟨35, fun _ => none, fun
  | 0 => kp [1] [(1, [0, 1, 2])]
  | 1 => kp [1, 4] [(1, [0, 1, 2]), (13, [0, 1, 2, 3])]
  | 2 => kp [1, 4, 15, 16, 17] [(1, [0, 1, 2]), (13, [0, 1, 2, 3])]
  | 3 => kp [1, 4, 15, 16, 17, 18] [(1, [0, 1, 2]), (13, [0, 1, 2, 3])]
  | 4 => kp [1, 4, 6, 15, 16, 17] [(1, [0, 1, 2]), (6, [0, 1, 2, 3, 4, 5, 6]), (13, [0, 1, 2, 3])]
  | 5 => kp [1, 4, 15, 16, 17, 24] [(1, [0, 1, 2]), (13, [0, 1, 2, 3])]
  | 6 => kp [2, 3] [(13, [0, 1, 2, 3])]
  | 7 => kp [1, 4, 15, 16, 17] [(1, [0, 1, 2]), (13, [0, 1, 2, 3])]
  | 8 => kp [2, 3] [(13, [0, 1, 2, 3])]
  | _ => [], fun | _ => false⟩
noncomputable def body28 : Code := Try.f28.body.getD .skip
def L28_3_sh : Shape := [(.slot 1, .ptr 1 0), (.slot 4, .ptr 13 0), (.slot 15, .dat (.list t26)), (.slot 16, .dat (.int .i64)), (.slot 17, .dat (.int .i64)), (.box 1, .bx 24 3), (.cell 1 0, .dat (.int .i64)), (.cell 1 1, .dat (.list t26)), (.cell 1 2, .dat (.int .i64)), (.box 13, .bx 58 203), (.cell 13 0, .dat (.int .i64)), (.cell 13 1, .own 27 t26), (.cell 13 2, .dat (.int .i64)), (.cell 13 3, .dat (.arr 200 .bool))]
def L28_3_x0 : Shape := [(.slot 2, .nilp), (.slot 3, .dat .bool), (.box 13, .bx 58 203), (.cell 13 0, .dat (.int .i64)), (.cell 13 1, .own 27 t26), (.cell 13 2, .dat (.int .i64)), (.cell 13 3, .dat (.arr 200 .bool))]
def L28_3_x1 : Shape := [(.slot 1, .ptr 1 0), (.slot 4, .ptr 13 0), (.slot 15, .dat (.list t26)), (.slot 16, .dat (.int .i64)), (.slot 17, .dat (.int .i64)), (.box 1, .bx 24 3), (.cell 1 0, .dat (.int .i64)), (.cell 1 1, .dat (.list t26)), (.cell 1 2, .dat (.int .i64)), (.box 13, .bx 58 203), (.cell 13 0, .dat (.int .i64)), (.cell 13 1, .own 27 t26), (.cell 13 2, .dat (.int .i64)), (.cell 13 3, .dat (.arr 200 .bool))]
def L28_3_pk (s : Tup L28_3_sh) : (List D26) × Int × Int × Int × (List D26) × Int × Int × (List D26) × Int × (List Bool) := (s.2.2.1, s.2.2.2.1, s.2.2.2.2.1, s.2.2.2.2.2.2.1, s.2.2.2.2.2.2.2.1, s.2.2.2.2.2.2.2.2.1, s.2.2.2.2.2.2.2.2.2.2.1, s.2.2.2.2.2.2.2.2.2.2.2.1, s.2.2.2.2.2.2.2.2.2.2.2.2.1, s.2.2.2.2.2.2.2.2.2.2.2.2.2.1)
def L28_3_un (s : (List D26) × Int × Int × Int × (List D26) × Int × Int × (List D26) × Int × (List Bool)) : Tup L28_3_sh := ((), ((), (s.1, (s.2.1, (s.2.2.1, ((), (s.2.2.2.1, (s.2.2.2.2.1, (s.2.2.2.2.2.1, ((), (s.2.2.2.2.2.2.1, (s.2.2.2.2.2.2.2.1, (s.2.2.2.2.2.2.2.2.1, (s.2.2.2.2.2.2.2.2.2, ()))))))))))))))
def L28_3_leave (x : (Bool × Int × (List D26) × Int × (List Bool)) ⊕ ((List D26) × Int × Int × Int × (List D26) × Int × Int × (List D26) × Int × (List Bool))) (R : Type) (K : Cont R) : Option R := match x with
  | (.inl a) => K .ret (mkSt L28_3_x0 ((), (a.1, ((), (a.2.1, (a.2.2.1, (a.2.2.2.1, (a.2.2.2.2, ()))))))))
  | (.inr a) => K (.exit 0) (mkSt L28_3_x1 ((), ((), (a.1, (a.2.1, (a.2.2.1, ((), (a.2.2.2.1, (a.2.2.2.2.1, (a.2.2.2.2.2.1, ((), (a.2.2.2.2.2.2.1, (a.2.2.2.2.2.2.2.1, (a.2.2.2.2.2.2.2.2.1, (a.2.2.2.2.2.2.2.2.2, ())))))))))))))))
def L28_3_d (e : Exit) (st : St) : Option ((Bool × Int × (List D26) × Int × (List Bool)) ⊕ ((List D26) × Int × Int × Int × (List D26) × Int × Int × (List D26) × Int × (List Bool))) := match e with
  | .ret => (match unSt L28_3_x0 st with
    | some s => some (.inl (s.2.1, s.2.2.2.1, s.2.2.2.2.1, s.2.2.2.2.2.1, s.2.2.2.2.2.2.1))
    | none => none)
  | .exit 0 => (match unSt L28_3_x1 st with
    | some s => some (.inr (s.2.2.1, s.2.2.2.1, s.2.2.2.2.1, s.2.2.2.2.2.2.1, s.2.2.2.2.2.2.2.1, s.2.2.2.2.2.2.2.2.1, s.2.2.2.2.2.2.2.2.2.2.1, s.2.2.2.2.2.2.2.2.2.2.2.1, s.2.2.2.2.2.2.2.2.2.2.2.2.1, s.2.2.2.2.2.2.2.2.2.2.2.2.2.1))
    | none => none)
  | _ => none
def L28_3_r (s0 : (List D26)) (s1 : Int) (s2 : Int) (s3 : Int) (s4 : (List D26)) (s5 : Int) (s6 : Int) (s7 : (List D26)) (s8 : Int) (s9 : (List Bool)) : Option (((List D26) × Int × Int × Int × (List D26) × Int × Int × (List D26) × Int × (List Bool)) ⊕ ((Bool × Int × (List D26) × Int × (List Bool)) ⊕ ((List D26) × Int × Int × Int × (List D26) × Int × Int × (List D26) × Int × (List Bool)))) :=
  let v5 : Bool := (decide (s2 < s1))
  bif v5 then
  bif (decide (0 ≤ s2) && decide (s2 < List.length s0)) then
  let v6 : D26 := (List.getD s0 (Int.toNat s2) z26)
  bif (P38 v6 s6 s7 s8 s9) then
  let q7 : (Bool × (Unit × (Int × ((List D26) × (Int × ((List Bool) × Unit)))))) := F38 v6 s6 s7 s8 s9
  let v8 : Bool := (!q7.1)
  bif v8 then
  some (.inr (.inl (false, q7.2.2.1, q7.2.2.2.1, q7.2.2.2.2.1, q7.2.2.2.2.2.1)))
  else
  let v9 : Int := (IntKind.i64.wrap (s2 + (1 : Int)))
  some (.inl (s0, s1, v9, s3, s4, s5, q7.2.2.1, q7.2.2.2.1, q7.2.2.2.2.1, q7.2.2.2.2.2.1))
  else none
  else none
  else
  some (.inr (.inr (s0, s1, s2, s3, s4, s5, s6, s7, s8, s9)))
def L28_3 : (List D26) × Int × Int × Int × (List D26) × Int × Int × (List D26) × Int × (List Bool) → Option ((Bool × Int × (List D26) × Int × (List Bool)) ⊕ ((List D26) × Int × Int × Int × (List D26) × Int × Int × (List D26) × Int × (List Bool))) := Lim (fun s => L28_3_r s.1 s.2.1 s.2.2.1 s.2.2.2.1 s.2.2.2.2.1 s.2.2.2.2.2.1 s.2.2.2.2.2.2.1 s.2.2.2.2.2.2.2.1 s.2.2.2.2.2.2.2.2.1 s.2.2.2.2.2.2.2.2.2)
def L28_3_sum : Sum := limSum L28_3_sh L28_3_pk (fun s => L28_3_r s.1 s.2.1 s.2.2.1 s.2.2.2.1 s.2.2.2.2.1 s.2.2.2.2.2.1 s.2.2.2.2.2.2.1 s.2.2.2.2.2.2.2.1 s.2.2.2.2.2.2.2.2.1 s.2.2.2.2.2.2.2.2.2) L28_3_leave
theorem L28_3_nat : Natural L28_3_sum := natural_lim fun x R K => by
  rcases x with x|x <;> rfl
theorem L28_3_dok : ∀ e st x, e ≠ .normal → L28_3_d e st = some x → ∀ R (K : Cont R), K e st = L28_3_leave x R K := by
  intro e st x _ h R K
  unfold L28_3_d at h
  split at h
  · split at h
    · rename_i s hs; cases h; rw [unSt_some hs]; rfl
    · cases h
  · split at h
    · rename_i s hs; cases h; rw [unSt_some hs]; rfl
    · cases h
  · cases h
def loops28 : Nat → Option (Sum) := fun | 3 => some L28_3_sum | _ => none
theorem loops28_nat : ∀ q f, loops28 q = some f → Natural f := by
  intro q f h
  unfold loops28 at h
  split at h
  · cases h; exact L28_3_nat
  · cases h
noncomputable def L28_3_code : Code := (loopsOf body28).getD 0 .skip
theorem L28_3_round (s0 : (List D26)) (s1 : Int) (s2 : Int) (s3 : Int) (s4 : (List D26)) (s5 : Int) (s6 : Int) (s7 : (List D26)) (s8 : Int) (s9 : (List Bool)) : ev2 env28 orc28 loops28 L28_3_code (mkSt L28_3_sh ((), ((), (s0, (s1, (s2, ((), (s3, (s4, (s5, ((), (s6, (s7, (s8, (s9, ()))))))))))))))) (back L28_3_sh L28_3_pk L28_3_d) = L28_3_r s0 s1 s2 s3 s4 s5 s6 s7 s8 s9 := by kernel_rfl
theorem L28_3_ok : SumOk env28 orc28 loops28 L28_3_code L28_3_sum := sumOk_lim (un := L28_3_un) loops28_nat (fun _ => rfl) L28_3_dok fun s => L28_3_round s.1 s.2.1 s.2.2.1 s.2.2.2.1 s.2.2.2.2.1 s.2.2.2.2.2.1 s.2.2.2.2.2.2.1 s.2.2.2.2.2.2.2.1 s.2.2.2.2.2.2.2.2.1 s.2.2.2.2.2.2.2.2.2
theorem loops28_all : loopsOf body28 = [L28_3_code] := by kernel_rfl
theorem L28_3_key : lookL loops28 (keyOf L28_3_code) = some L28_3_sum := by kernel_rfl
theorem loops28_ok : LoopsOk env28 orc28 loops28 body28 := by
  intro c hc f hf
  rw [loops28_all] at hc
  simp only [List.mem_cons, List.not_mem_nil, or_false] at hc
  subst hc
  · rw [L28_3_key] at hf; cases hf; exact L28_3_ok
def G28 (x0 : D23) : Option (Bool × (Bool × (Unit × (Int × ((List D26) × (Int × ((List Bool) × Unit))))))) :=
  let v1 : (List D26) := ([] : (List D26))
  let v2 : (List Bool) := (List.replicate 200 false)
  let v3 : (List D26) := ([] : (List D26))
  let v4 : Int := ((List.length x0.2.1 : Nat) : Int)
  Option.bind (L28_3 (x0.2.1, v4, (0 : Int), x0.1, x0.2.1, x0.2.2.1, x0.1, v3, x0.2.2.1, v2)) fun x => match x with
  | (.inl r10) =>
  some (false, (r10.1, ((), (r10.2.1, (r10.2.2.1, (r10.2.2.2.1, (r10.2.2.2.2, ())))))))
  | (.inr r11) =>
  bif (P32 r11.2.2.2.1 (2 : Int) (12 : Int)) then
  let v12 : Bool := (F32 r11.2.2.2.1 (2 : Int) (12 : Int))
  bif ((P32 r11.2.2.2.2.2.1 (0 : Int) (12 : Int)) || !(v12 && true)) then
  let v13 : Bool := (F32 r11.2.2.2.2.2.1 (0 : Int) (12 : Int))
  let v14 : Bool := (bif v12 then v13 else false)
  some (true, (v14, ((), (r11.2.2.2.2.2.2.1, (r11.2.2.2.2.2.2.2.1, (r11.2.2.2.2.2.2.2.2.1, (r11.2.2.2.2.2.2.2.2.2, ())))))))
  else none
  else none
def P28 (x0 : D23) : Bool := (G28 x0).isSome
def F28 (x0 : D23) : (Bool × (Bool × (Unit × (Int × ((List D26) × (Int × ((List Bool) × Unit))))))) := (G28 x0).getD (Tup.zero pout28)
theorem P28_of (x0 : D23) {r : (Bool × (Bool × (Unit × (Int × ((List D26) × (Int × ((List Bool) × Unit)))))))} (h : G28 x0 = some r) : P28 x0 = true := by unfold P28; rw [h]; rfl
theorem F28_of (x0 : D23) {r : (Bool × (Bool × (Unit × (Int × ((List D26) × (Int × ((List Bool) × Unit)))))))} (h : G28 x0 = some r) : F28 x0 = r := by unfold F28; rw [h]; rfl
theorem ev28 (x0 : D23) : ev2 env28 orc28 loops28 body28 (mkSt pin28 (x0, ())) (retK3 env28 [.slot 2, .slot 3] pout28) = G28 x0 := by kernel_rfl
def sp28 : Spec2 := ⟨pin28, pout28, fun s => G28 s.1⟩
theorem fit28 : Fit Try.f28 [.slot 2, .slot 3] sp28 := ⟨by kernel_rfl, by kernel_rfl, by kernel_rfl, by kernel_rfl, by kernel_rfl, by decide, by decide, by decide⟩
theorem meets28 (hE : EnvOk Try.prog env28) (hm : Try.prog.follows .mixedOrders = true) : Meets2 Try.prog glob 28 sp28 :=
  meets2_of_ev2 (O := orc28) (L := loops28) (c := body28) (rs := [.slot 2, .slot 3]) hE (fun _ => rfl) hm Try.func28 Try.call28 (by kernel_rfl) (by kernel_rfl) loops28_ok (rangesOk_nil (by kernel_rfl)) fit28 (fun s o h => (ev28 s.1).trans h)
def env11 : Env where
  tab := tab
  glob := glob
  spec := fun
    | _ => none
  spec2 := fun
    | 28, [] => some sp28
    | _, _ => none
def orc11 : Orc := ⟨11, fun _ => none, fun
  | 0 => kp [1] [(1, [0, 1, 2])]
  | 1 => kp [4] []
  | 2 => kp [2] []
  | _ => [], fun | _ => false⟩
noncomputable def body11 : Code := Try.f11.body.getD .skip
def loops11 : Nat → Option (Sum) := fun | _ => none
theorem loops11_nat : ∀ q f, loops11 q = some f → Natural f := by
  intro q f h
  cases h
theorem loops11_ok : LoopsOk env11 orc11 loops11 body11 := loopsOk_nil (by kernel_rfl)
def G11 (x0 : D23) : Option (Bool) :=
  bif (P28 x0) then
  let q1 : (Bool × (Bool × (Unit × (Int × ((List D26) × (Int × ((List Bool) × Unit))))))) := F28 x0
  some (q1.2.1)
  else none
theorem ev11 (x0 : D23) : ev2 env11 orc11 loops11 body11 (initSt 0 [⟨t23, x0⟩]) (retT [(2, .dat .bool)] [.bool] fun x => x.1) = G11 x0 := by kernel_rfl
def P11 (x0 : D23) : Bool := (G11 x0).isSome
def F11 (x0 : D23) : Bool := (G11 x0).getD default
theorem G11_some (x0 : D23) (h : P11 x0 = true) : G11 x0 = some (F11 x0) := by
  unfold P11 at h; unfold F11
  cases hg : G11 x0 with
  | none => rw [hg] at h; cases h
  | some r => rfl
theorem P11_of (x0 : D23) {r : Bool} (h : G11 x0 = some r) : P11 x0 = true := by unfold P11; rw [h]; rfl
theorem F11_of (x0 : D23) {r : Bool} (h : G11 x0 = some r) : F11 x0 = r := by unfold F11; rw [h]; rfl
def spec11 : Spec := ⟨[t23], [.dat .bool], fun | [a0] => P11 (a0.as t23) | _ => false, fun | [a0] => [⟨.bool, (F11 (a0.as t23))⟩] | _ => []⟩
theorem meets11 (hE : EnvOk Try.prog env11) (hm : Try.prog.follows .mixedOrders = true) : Meets Try.prog glob 11 spec11 :=
  meets_of_ev2 (O := orc11) (L := loops11) (c := body11) (slots := [2]) hE hm Try.func11 Try.call11 (by kernel_rfl) (by kernel_rfl) loops11_ok (rangesOk_nil (by kernel_rfl)) (by kernel_rfl) rfl (by decide) (fun ds hds hpre => by
  obtain ⟨x0, ds0, rfl, h0⟩ := datsS hds
  have h9 := dats0 h0; subst h9
  exact ev_ret (un := fun r => [⟨.bool, r⟩]) loops11_nat (fun _ => rfl) ((ev11 x0).trans (G11_some x0 hpre)))
def pin33 : Shape := [(.slot 0, .mptr 50000 0), (.slot 1, .fn 34 [50001]), (.box 50000, .bx 58 203), (.cell 50000 0, .dat (.int .i64)), (.cell 50000 1, .own 27 t26), (.cell 50000 2, .dat (.int .i64)), (.cell 50000 3, .dat (.arr 200 .bool)), (.box 50001, .bx 3 1), (.cell 50001 0, .dat (.int .i64))]
def pout33 : Shape := [(.slot 0, .fn 39 [2, 3]), (.box 50000, .bx 58 203), (.cell 50000 0, .dat (.int .i64)), (.cell 50000 1, .own 27 t26), (.cell 50000 2, .dat (.int .i64)), (.cell 50000 3, .dat (.arr 200 .bool)), (.box 50001, .bx 3 1), (.cell 50001 0, .dat (.int .i64)), (.box 2, .bx 52 1), (.cell 2 0, .mptr 50000 0), (.box 3, .bx 66 1), (.cell 3 0, .fn 34 [50001])]
def env33 : Env where
  tab := tab
  glob := glob
  spec := fun
    | _ => none
def orc33 : Orc := ⟨6, fun _ => none, fun
  | 0 => kp [2, 3] [(2, [0]), (3, [0]), (50000, [0, 1, 2, 3]), (50001, [0])]
  | 1 => kp [4] [(2, [0]), (3, [0]), (50000, [0, 1, 2, 3]), (50001, [0])]
  | _ => [], fun | _ => false⟩
noncomputable def body33 : Code := Try.f33.body.getD .skip
def loops33 : Nat → Option (Sum) := fun | _ => none
theorem loops33_nat : ∀ q f, loops33 q = some f → Natural f := by
  intro q f h
  cases h
theorem loops33_ok : LoopsOk env33 orc33 loops33 body33 := loopsOk_nil (by kernel_rfl)
def G33 (x0 : Bool) (x1 : Int) (x2 : (List D26)) (x3 : Int) (x4 : (List Bool)) (x5 : Int) : Option (Unit × (Unit × (Int × ((List D26) × (Int × ((List Bool) × (Unit × (Int × (Unit × (Bool × (Unit × (Unit × Unit)))))))))))) :=
  some ((), ((), (x1, (x2, (x3, (x4, ((), (x5, ((), (x0, ((), ((), ()))))))))))))
def P33 (x0 : Bool) (x1 : Int) (x2 : (List D26)) (x3 : Int) (x4 : (List Bool)) (x5 : Int) : Bool := (G33 x0 x1 x2 x3 x4 x5).isSome
def F33 (x0 : Bool) (x1 : Int) (x2 : (List D26)) (x3 : Int) (x4 : (List Bool)) (x5 : Int) : (Unit × (Unit × (Int × ((List D26) × (Int × ((List Bool) × (Unit × (Int × (Unit × (Bool × (Unit × (Unit × Unit)))))))))))) := (G33 x0 x1 x2 x3 x4 x5).getD (Tup.zero pout33)
theorem P33_of (x0 : Bool) (x1 : Int) (x2 : (List D26)) (x3 : Int) (x4 : (List Bool)) (x5 : Int) {r : (Unit × (Unit × (Int × ((List D26) × (Int × ((List Bool) × (Unit × (Int × (Unit × (Bool × (Unit × (Unit × Unit))))))))))))} (h : G33 x0 x1 x2 x3 x4 x5 = some r) : P33 x0 x1 x2 x3 x4 x5 = true := by unfold P33; rw [h]; rfl
theorem F33_of (x0 : Bool) (x1 : Int) (x2 : (List D26)) (x3 : Int) (x4 : (List Bool)) (x5 : Int) {r : (Unit × (Unit × (Int × ((List D26) × (Int × ((List Bool) × (Unit × (Int × (Unit × (Bool × (Unit × (Unit × Unit))))))))))))} (h : G33 x0 x1 x2 x3 x4 x5 = some r) : F33 x0 x1 x2 x3 x4 x5 = r := by unfold F33; rw [h]; rfl
theorem ev33 (x0 : Bool) (x1 : Int) (x2 : (List D26)) (x3 : Int) (x4 : (List Bool)) (x5 : Int) : ev2 env33 orc33 loops33 body33 (mkSt pin33 (x0, ((), ((), (x1, (x2, (x3, (x4, ((), (x5, ())))))))))) (retK3 env33 [.slot 4] pout33) = G33 x0 x1 x2 x3 x4 x5 := by kernel_rfl
def sp33 : Spec2 := ⟨pin33, pout33, fun s => G33 s.1 s.2.2.2.1 s.2.2.2.2.1 s.2.2.2.2.2.1 s.2.2.2.2.2.2.1 s.2.2.2.2.2.2.2.2.1⟩
theorem fit33 : Fit Try.f33 [.slot 4] sp33 := ⟨by kernel_rfl, by kernel_rfl, by kernel_rfl, by kernel_rfl, by kernel_rfl, by decide, by decide, by decide⟩
theorem meets33 (hE : EnvOk Try.prog env33) (hm : Try.prog.follows .mixedOrders = true) : Meets2 Try.prog glob 33 sp33 :=
  meets2_of_ev2 (O := orc33) (L := loops33) (c := body33) (rs := [.slot 4]) hE (fun _ => rfl) hm Try.func33 Try.call33 (by kernel_rfl) (by kernel_rfl) loops33_ok (rangesOk_nil (by kernel_rfl)) fit33 (fun s o h => (ev33 s.1 s.2.2.2.1 s.2.2.2.2.1 s.2.2.2.2.2.1 s.2.2.2.2.2.2.1 s.2.2.2.2.2.2.2.2.1).trans h)
def pin34 : Shape := [(.slot 0, .dat (.int .i64)), (.slot 1, .dat t26), (.slot 2, .ptr 50000 0), (.box 50000, .bx 3 1), (.cell 50000 0, .dat (.int .i64))]
def pout34 : Shape := [(.slot 0, .dat .bool), (.box 50000, .bx 3 1), (.cell 50000 0, .dat (.int .i64))]
def env34 : Env where
  tab := tab
  glob := glob
  spec := fun
    | _ => none
def orc34 : Orc := ⟨11, fun _ => none, fun
  | 0 => kp [2, 4] [(4, [0, 1, 2, 3, 4, 5, 6]), (50000, [0])]
  | 1 => kp [5] [(50000, [0])]
  | _ => [], fun | _ => false⟩
noncomputable def body34 : Code := Try.f34.body.getD .skip
def loops34 : Nat → Option (Sum) := fun | _ => none
theorem loops34_nat : ∀ q f, loops34 q = some f → Natural f := by
  intro q f h
  cases h
theorem loops34_ok : LoopsOk env34 orc34 loops34 body34 := loopsOk_nil (by kernel_rfl)
def G34 (x0 : Int) (x1 : D26) (x2 : Int) : Option (Bool × (Unit × (Int × Unit))) :=
  let v1 : Int := (IntKind.i64.wrap (Int.tdiv x1.2.1 (30 : Int)))
  let v2 : Bool := (v1 == x2)
  some (v2, ((), (x2, ())))
def P34 (x0 : Int) (x1 : D26) (x2 : Int) : Bool := (G34 x0 x1 x2).isSome
def F34 (x0 : Int) (x1 : D26) (x2 : Int) : (Bool × (Unit × (Int × Unit))) := (G34 x0 x1 x2).getD (Tup.zero pout34)
theorem P34_of (x0 : Int) (x1 : D26) (x2 : Int) {r : (Bool × (Unit × (Int × Unit)))} (h : G34 x0 x1 x2 = some r) : P34 x0 x1 x2 = true := by unfold P34; rw [h]; rfl
theorem F34_of (x0 : Int) (x1 : D26) (x2 : Int) {r : (Bool × (Unit × (Int × Unit)))} (h : G34 x0 x1 x2 = some r) : F34 x0 x1 x2 = r := by unfold F34; rw [h]; rfl
theorem ev34 (x0 : Int) (x1 : D26) (x2 : Int) : ev2 env34 orc34 loops34 body34 (mkSt pin34 (x0, (x1, ((), ((), (x2, ())))))) (retK3 env34 [.slot 5] pout34) = G34 x0 x1 x2 := by kernel_rfl
def sp34 : Spec2 := ⟨pin34, pout34, fun s => G34 s.1 s.2.1 s.2.2.2.2.1⟩
theorem fit34 : Fit Try.f34 [.slot 5] sp34 := ⟨by kernel_rfl, by kernel_rfl, by kernel_rfl, by kernel_rfl, by kernel_rfl, by decide, by decide, by decide⟩
theorem meets34 (hE : EnvOk Try.prog env34) (hm : Try.prog.follows .mixedOrders = true) : Meets2 Try.prog glob 34 sp34 :=
  meets2_of_ev2 (O := orc34) (L := loops34) (c := body34) (rs := [.slot 5]) hE (fun _ => rfl) hm Try.func34 Try.call34 (by kernel_rfl) (by kernel_rfl) loops34_ok (rangesOk_nil (by kernel_rfl)) fit34 (fun s o h => (ev34 s.1 s.2.1 s.2.2.2.2.1).trans h)
def pin39 : Shape := [(.slot 1, .ptr 50000 0), (.slot 2, .ptr 50001 0), (.box 50000, .bx 52 1), (.cell 50000 0, .mptr 50002 0), (.box 50001, .bx 66 1), (.cell 50001 0, .fn 34 [50003]), (.box 50002, .bx 58 203), (.cell 50002 0, .dat (.int .i64)), (.cell 50002 1, .own 27 t26), (.cell 50002 2, .dat (.int .i64)), (.cell 50002 3, .dat (.arr 200 .bool)), (.box 50003, .bx 3 1), (.cell 50003 0, .dat (.int .i64))]
abbrev Y39 : Type := D26
def mk39 : List Dat → Option Y39 := mkT [t26] fun x => x.1
def env39 : Env where
  tab := tab
  glob := glob
  spec := fun
    | _ => none
  spec2 := fun
    | 34, [] => some sp34
    | _, _ => none
def orc39 : Orc := ⟨28, fun _ => none, fun
  | 0 => kp [0, 2, 10, 11, 12] [(50000, [0]), (50001, [0]), (50002, [0])] ++ [(.cell 50002 1, .frz)] ++ [(.cell 50002 2, .own)] ++ [(.cell 50002 3, .own)] ++ kp [] [(50003, [0])]
  | 1 => kp [0, 2, 10, 11, 12, 13] [(50000, [0]), (50001, [0]), (50002, [0, 1, 2, 3]), (50003, [0])]
  | 2 => kp [0, 2, 4, 5, 10, 11, 12] [(5, [0, 1, 2, 3, 4, 5, 6]), (50000, [0]), (50001, [0]), (50002, [0, 1, 2, 3]), (50003, [0])]
  | 3 => kp [0, 2, 10, 11, 12, 26] [(50000, [0]), (50001, [0]), (50002, [0, 1, 2, 3]), (50003, [0])]
  | 4 => kp [0, 2, 10, 11, 12] [(50000, [0]), (50001, [0]), (50002, [0, 1, 2, 3]), (50003, [0])]
  | _ => [], fun | _ => false⟩
noncomputable def body39 : Code := Try.f39.body.getD .skip
def L39_1_sh : Shape := [(.slot 0, .yld), (.slot 2, .ptr 50001 0), (.slot 10, .dat (.list t26)), (.slot 11, .dat (.int .i64)), (.slot 12, .dat (.int .i64)), (.box 50000, .bx 52 1), (.cell 50000 0, .mptr 50002 0), (.box 50001, .bx 66 1), (.cell 50001 0, .fn 34 [50003]), (.box 50002, .bx 58 203), (.cell 50002 0, .dat (.int .i64)), (.cell 50002 1, .dat (.list t26)), (.cell 50002 2, .dat (.int .i64)), (.cell 50002 3, .dat (.arr 200 .bool)), (.box 50003, .bx 3 1), (.cell 50003 0, .dat (.int .i64))]
def L39_1_x0 : Shape := [(.slot 0, .yld), (.slot 2, .ptr 50001 0), (.slot 10, .dat (.list t26)), (.slot 11, .dat (.int .i64)), (.slot 12, .dat (.int .i64)), (.box 50000, .bx 52 1), (.cell 50000 0, .mptr 50002 0), (.box 50001, .bx 66 1), (.cell 50001 0, .fn 34 [50003]), (.box 50002, .bx 58 203), (.cell 50002 0, .dat (.int .i64)), (.cell 50002 1, .dat (.list t26)), (.cell 50002 2, .dat (.int .i64)), (.cell 50002 3, .dat (.arr 200 .bool)), (.box 50003, .bx 3 1), (.cell 50003 0, .dat (.int .i64))]
def L39_1_x1 : Shape := [(.slot 0, .yld), (.slot 2, .ptr 50001 0), (.slot 10, .dat (.list t26)), (.slot 11, .dat (.int .i64)), (.slot 12, .dat (.int .i64)), (.box 50000, .bx 52 1), (.cell 50000 0, .mptr 50002 0), (.box 50001, .bx 66 1), (.cell 50001 0, .fn 34 [50003]), (.box 50002, .bx 58 203), (.cell 50002 0, .dat (.int .i64)), (.cell 50002 1, .dat (.list t26)), (.cell 50002 2, .dat (.int .i64)), (.cell 50002 3, .dat (.arr 200 .bool)), (.box 50003, .bx 3 1), (.cell 50003 0, .dat (.int .i64))]
def L39_1_pk (s : Tup L39_1_sh) : (List D26) × Int × Int × Bool × Int × (List D26) × Int × (List Bool) × Int := (s.2.2.1, s.2.2.2.1, s.2.2.2.2.1, s.2.2.2.2.2.2.1, s.2.2.2.2.2.2.2.2.2.2.1, s.2.2.2.2.2.2.2.2.2.2.2.1, s.2.2.2.2.2.2.2.2.2.2.2.2.1, s.2.2.2.2.2.2.2.2.2.2.2.2.2.1, s.2.2.2.2.2.2.2.2.2.2.2.2.2.2.2.1)
def L39_1_un (s : (List D26) × Int × Int × Bool × Int × (List D26) × Int × (List Bool) × Int) : Tup L39_1_sh := ((), ((), (s.1, (s.2.1, (s.2.2.1, ((), (s.2.2.2.1, ((), ((), ((), (s.2.2.2.2.1, (s.2.2.2.2.2.1, (s.2.2.2.2.2.2.1, (s.2.2.2.2.2.2.2.1, ((), (s.2.2.2.2.2.2.2.2, ()))))))))))))))))
def L39_1_leave (x : ((List D26) × Int × Int × Bool × Int × (List D26) × Int × (List Bool) × Int) ⊕ ((List D26) × Int × Int × Bool × Int × (List D26) × Int × (List Bool) × Int)) (V : Type) (K : Exit → St → YW Y39 V) : YW Y39 V := match x with
  | (.inl a) => K .ret (mkSt L39_1_x0 ((), ((), (a.1, (a.2.1, (a.2.2.1, ((), (a.2.2.2.1, ((), ((), ((), (a.2.2.2.2.1, (a.2.2.2.2.2.1, (a.2.2.2.2.2.2.1, (a.2.2.2.2.2.2.2.1, ((), (a.2.2.2.2.2.2.2.2, ())))))))))))))))))
  | (.inr a) => K (.exit 0) (mkSt L39_1_x1 ((), ((), (a.1, (a.2.1, (a.2.2.1, ((), (a.2.2.2.1, ((), ((), ((), (a.2.2.2.2.1, (a.2.2.2.2.2.1, (a.2.2.2.2.2.2.1, (a.2.2.2.2.2.2.2.1, ((), (a.2.2.2.2.2.2.2.2, ())))))))))))))))))
def L39_1_d (e : Exit) (st : St) : Option (((List D26) × Int × Int × Bool × Int × (List D26) × Int × (List Bool) × Int) ⊕ ((List D26) × Int × Int × Bool × Int × (List D26) × Int × (List Bool) × Int)) := match e with
  | .ret => (match unSt L39_1_x0 st with
    | some s => some (.inl (s.2.2.1, s.2.2.2.1, s.2.2.2.2.1, s.2.2.2.2.2.2.1, s.2.2.2.2.2.2.2.2.2.2.1, s.2.2.2.2.2.2.2.2.2.2.2.1, s.2.2.2.2.2.2.2.2.2.2.2.2.1, s.2.2.2.2.2.2.2.2.2.2.2.2.2.1, s.2.2.2.2.2.2.2.2.2.2.2.2.2.2.2.1))
    | none => none)
  | .exit 0 => (match unSt L39_1_x1 st with
    | some s => some (.inr (s.2.2.1, s.2.2.2.1, s.2.2.2.2.1, s.2.2.2.2.2.2.1, s.2.2.2.2.2.2.2.2.2.2.1, s.2.2.2.2.2.2.2.2.2.2.2.1, s.2.2.2.2.2.2.2.2.2.2.2.2.1, s.2.2.2.2.2.2.2.2.2.2.2.2.2.1, s.2.2.2.2.2.2.2.2.2.2.2.2.2.2.2.1))
    | none => none)
  | _ => none
def L39_1_r (s0 : (List D26)) (s1 : Int) (s2 : Int) (s3 : Bool) (s4 : Int) (s5 : (List D26)) (s6 : Int) (s7 : (List Bool)) (s8 : Int) : YW Y39 (((List D26) × Int × Int × Bool × Int × (List D26) × Int × (List Bool) × Int) ⊕ (((List D26) × Int × Int × Bool × Int × (List D26) × Int × (List Bool) × Int) ⊕ ((List D26) × Int × Int × Bool × Int × (List D26) × Int × (List Bool) × Int))) :=
  let v2 : Bool := (decide (s2 < s1))
  bif v2 then
  bif (decide (0 ≤ s2) && decide (s2 < List.length s0)) then
  let v3 : D26 := (List.getD s0 (Int.toNat s2) z26)
  bif (P34 s2 v3 s8) then
  let q4 : (Bool × (Unit × (Int × Unit))) := F34 s2 v3 s8
  yieldW (q4.1 && true) v3 (let v8 : Bool := (!false)
  let v9 : Bool := (bif q4.1 then v8 else false)
  bif v9 then
  some ()
  else
  let v10 : Int := (IntKind.i64.wrap (s2 + (1 : Int)))
  none) (
  let v5 : Bool := (!true)
  let v6 : Bool := (bif q4.1 then v5 else false)
  bif v6 then
  some ([], .inr (.inl (s0, s1, s2, s3, s4, s5, s6, s7, q4.2.2.1)))
  else
  let v7 : Int := (IntKind.i64.wrap (s2 + (1 : Int)))
  some ([], .inl (s0, s1, v7, s3, s4, s5, s6, s7, q4.2.2.1)))
  else none
  else none
  else
  some ([], .inr (.inr (s0, s1, s2, s3, s4, s5, s6, s7, s8)))
def L39_1 : (List D26) × Int × Int × Bool × Int × (List D26) × Int × (List Bool) × Int → YW Y39 (((List D26) × Int × Int × Bool × Int × (List D26) × Int × (List Bool) × Int) ⊕ ((List D26) × Int × Int × Bool × Int × (List D26) × Int × (List Bool) × Int)) := LimW (fun s => L39_1_r s.1 s.2.1 s.2.2.1 s.2.2.2.1 s.2.2.2.2.1 s.2.2.2.2.2.1 s.2.2.2.2.2.2.1 s.2.2.2.2.2.2.2.1 s.2.2.2.2.2.2.2.2)
def L39_1_sum : SumY Y39 := limSumW L39_1_sh L39_1_pk (fun s => L39_1_r s.1 s.2.1 s.2.2.1 s.2.2.2.1 s.2.2.2.2.1 s.2.2.2.2.2.1 s.2.2.2.2.2.2.1 s.2.2.2.2.2.2.2.1 s.2.2.2.2.2.2.2.2) L39_1_leave
theorem L39_1_nat : NaturalY L39_1_sum := natural_limW fun x V K => by
  rcases x with x|x <;> exact (YW.bind_pure _ _).symm
theorem L39_1_dok : ∀ e st x, e ≠ .normal → L39_1_d e st = some x → ∀ V (K : Exit → St → YW Y39 V), K e st = L39_1_leave x V K := by
  intro e st x _ h R K
  unfold L39_1_d at h
  split at h
  · split at h
    · rename_i s hs; cases h; rw [unSt_some hs]; rfl
    · cases h
  · split at h
    · rename_i s hs; cases h; rw [unSt_some hs]; rfl
    · cases h
  · cases h
def loops39 : Nat → Option (SumY Y39) := fun | 1 => some L39_1_sum | _ => none
theorem loops39_nat : ∀ q f, loops39 q = some f → NaturalY f := by
  intro q f h
  unfold loops39 at h
  split at h
  · cases h; exact L39_1_nat
  · cases h
noncomputable def L39_1_code : Code := (loopsOf body39).getD 0 .skip
theorem L39_1_round (s0 : (List D26)) (s1 : Int) (s2 : Int) (s3 : Bool) (s4 : Int) (s5 : (List D26)) (s6 : Int) (s7 : (List Bool)) (s8 : Int) : evY env39 orc39 loops39 [t26] mk39 L39_1_code (mkSt L39_1_sh ((), ((), (s0, (s1, (s2, ((), (s3, ((), ((), ((), (s4, (s5, (s6, (s7, ((), (s8, ()))))))))))))))))) (backW (back L39_1_sh L39_1_pk L39_1_d)) retOnly = L39_1_r s0 s1 s2 s3 s4 s5 s6 s7 s8 := by kernel_rfl
theorem L39_1_ok : SumYOk env39 orc39 loops39 [t26] mk39 L39_1_code L39_1_sum := sumYOk_lim (un := L39_1_un) loops39_nat (fun _ => rfl) L39_1_dok fun s => L39_1_round s.1 s.2.1 s.2.2.1 s.2.2.2.1 s.2.2.2.2.1 s.2.2.2.2.2.1 s.2.2.2.2.2.2.1 s.2.2.2.2.2.2.2.1 s.2.2.2.2.2.2.2.2
theorem loops39_all : loopsOf body39 = [L39_1_code] := by kernel_rfl
theorem L39_1_key : lookY loops39 (keyOf L39_1_code) = some L39_1_sum := by kernel_rfl
theorem loops39_ok : LoopsYOk env39 orc39 loops39 [t26] mk39 body39 := by
  intro c hc f hf
  rw [loops39_all] at hc
  simp only [List.mem_cons, List.not_mem_nil, or_false] at hc
  subst hc
  · rw [L39_1_key] at hf; cases hf; exact L39_1_ok
def W39 (x0 : Bool) (x1 : Int) (x2 : (List D26)) (x3 : Int) (x4 : (List Bool)) (x5 : Int) : YW Y39 Unit :=
  bif (x0) then
  let v1 : Int := (((List.length x2) : Nat) : Int)
  YW.bind (L39_1 ((List.take (List.length x2) x2), v1, (0 : Int), x0, x1, x2, x3, x4, x5)) fun x => match x with
  | (.inl r11) =>
  some ([], ())
  | (.inr r12) =>
  some ([], ())
  else none
theorem ev39 (x0 : Bool) (x1 : Int) (x2 : (List D26)) (x3 : Int) (x4 : (List Bool)) (x5 : Int) : evY env39 orc39 loops39 [t26] mk39 body39 (mkSt ((.slot 0, .yld) :: pin39) ((), ((), ((), ((), (x0, ((), ((), ((), (x1, (x2, (x3, (x4, ((), (x5, ()))))))))))))))) endY retOnly = W39 x0 x1 x2 x3 x4 x5 := by kernel_rfl
def I39 : ISpec := ⟨pin39, Y39, fun (y : Y39) => datsOf [t26] (y, ()), fun s => (W39 s.2.2.2.1 s.2.2.2.2.2.2.2.1 s.2.2.2.2.2.2.2.2.1 s.2.2.2.2.2.2.2.2.2.1 s.2.2.2.2.2.2.2.2.2.2.1 s.2.2.2.2.2.2.2.2.2.2.2.2.1).ys⟩
theorem iter39 (hE : EnvOk Try.prog env39) (hm : Try.prog.follows .mixedOrders = true) : IterOk Try.prog glob 39 I39 :=
  iterOk_of_evY (I := I39) (O := orc39) (L := loops39) (c := body39) (mk := mk39) hE hm Try.func39 Try.call39 (by kernel_rfl) (by kernel_rfl) (mkT_ok (ts := [t26]) (un := fun (y : Y39) => (y, ())) fun _ => rfl) loops39_ok (by kernel_rfl) (by decide) (by decide) (fun s ys h => (ev39 s.2.2.2.1 s.2.2.2.2.2.2.2.1 s.2.2.2.2.2.2.2.2.1 s.2.2.2.2.2.2.2.2.2.1 s.2.2.2.2.2.2.2.2.2.2.1 s.2.2.2.2.2.2.2.2.2.2.2.2.1).trans (YW.ys_some h))
def pin35 : Shape := [(.slot 0, .ptr 50000 0), (.slot 1, .dat t26), (.box 50000, .bx 63 12), (.cell 50000 0, .dat (.arr 12 (.int .i64)))]
def pout35 : Shape := [(.box 50000, .bx 63 12), (.cell 50000 0, .dat (.arr 12 (.int .i64)))]
def env35 : Env where
  tab := tab
  glob := glob
  spec := fun
    | _ => none
def orc35 : Orc := ⟨26, fun _ => none, fun
  | 0 => kp [0, 3] [(3, [0, 1, 2, 3, 4, 5, 6]), (50000, [0])]
  | 1 => kp [0, 3] [(3, [0, 1, 2, 3, 4, 5, 6]), (50000, [0])]
  | 2 => kp [] [(50000, [0])]
  | _ => [], fun | _ => false⟩
noncomputable def body35 : Code := Try.f35.body.getD .skip
def loops35 : Nat → Option (Sum) := fun | _ => none
theorem loops35_nat : ∀ q f, loops35 q = some f → Natural f := by
  intro q f h
  cases h
theorem loops35_ok : LoopsOk env35 orc35 loops35 body35 := loopsOk_nil (by kernel_rfl)
def G35 (x0 : D26) (x1 : (List Int)) : Option (Unit × ((List Int) × Unit)) :=
  bif (decide (0 ≤ x0.2.2.2.1) && decide (x0.2.2.2.1 < (12 : Nat))) then
  bif (decide ((Int.toNat x0.2.2.2.1) < List.length x1)) then
  let v1 : Int := (List.getD x1 (Int.toNat x0.2.2.2.1) (0 : Int))
  let v2 : Int := (IntKind.i64.wrap (v1 + x0.2.2.2.2.1))
  bif (decide (0 ≤ x0.2.2.2.1) && decide (x0.2.2.2.1 < (12 : Nat))) then
  bif (decide ((Int.toNat x0.2.2.2.1) < List.length x1)) then
  let v3 : (List Int) := (List.set x1 (Int.toNat x0.2.2.2.1) v2)
  bif (decide (0 ≤ x0.2.2.1) && decide (x0.2.2.1 < (12 : Nat))) then
  bif (decide ((Int.toNat x0.2.2.1) < List.length v3)) then
  let v4 : Int := (List.getD v3 (Int.toNat x0.2.2.1) (0 : Int))
  let v5 : Int := (IntKind.i64.wrap (v4 - x0.2.2.2.2.1))
  bif (decide (0 ≤ x0.2.2.1) && decide (x0.2.2.1 < (12 : Nat))) then
  bif (decide ((Int.toNat x0.2.2.1) < List.length v3)) then
  let v6 : (List Int) := (List.set v3 (Int.toNat x0.2.2.1) v5)
  some ((), (v6, ()))
  else none
  else none
  else none
  else none
  else none
  else none
  else none
  else none
def P35 (x0 : D26) (x1 : (List Int)) : Bool := (G35 x0 x1).isSome
def F35 (x0 : D26) (x1 : (List Int)) : (Unit × ((List Int) × Unit)) := (G35 x0 x1).getD (Tup.zero pout35)
theorem P35_of (x0 : D26) (x1 : (List Int)) {r : (Unit × ((List Int) × Unit))} (h : G35 x0 x1 = some r) : P35 x0 x1 = true := by unfold P35; rw [h]; rfl
theorem F35_of (x0 : D26) (x1 : (List Int)) {r : (Unit × ((List Int) × Unit))} (h : G35 x0 x1 = some r) : F35 x0 x1 = r := by unfold F35; rw [h]; rfl
theorem ev35 (x0 : D26) (x1 : (List Int)) : ev2 env35 orc35 loops35 body35 (mkSt pin35 ((), (x0, ((), (x1, ()))))) (retK3 env35 [] pout35) = G35 x0 x1 := by kernel_rfl
def sp35 : Spec2 := ⟨pin35, pout35, fun s => G35 s.2.1 s.2.2.2.1⟩
theorem fit35 : Fit Try.f35 [] sp35 := ⟨by kernel_rfl, by kernel_rfl, by kernel_rfl, by kernel_rfl, by kernel_rfl, by decide, by decide, by decide⟩
theorem meets35 (hE : EnvOk Try.prog env35) (hm : Try.prog.follows .mixedOrders = true) : Meets2 Try.prog glob 35 sp35 :=
  meets2_of_ev2 (O := orc35) (L := loops35) (c := body35) (rs := []) hE (fun _ => rfl) hm Try.func35 Try.call35 (by kernel_rfl) (by kernel_rfl) loops35_ok (rangesOk_nil (by kernel_rfl)) fit35 (fun s o h => (ev35 s.2.1 s.2.2.2.1).trans h)
def env36 : Env where
  tab := tab
  glob := glob
  spec := fun
    | _ => none
def orc36 : Orc := ⟨14, fun _ => none, fun
  | 0 => kp [1, 2] [(2, [0])]
  | 1 => kp [1, 2, 7] [(2, [0])]
  | 2 => kp [4] []
  | 3 => kp [4] []
  | _ => [], fun | _ => false⟩
noncomputable def body36 : Code := Try.f36.body.getD .skip
def loops36 : Nat → Option (Sum) := fun | _ => none
theorem loops36_nat : ∀ q f, loops36 q = some f → Natural f := by
  intro q f h
  cases h
theorem loops36_ok : LoopsOk env36 orc36 loops36 body36 := loopsOk_nil (by kernel_rfl)
def G36 (x0 : (List Int)) (x1 : Int) : Option ((List Int)) :=
  let v1 : (List Int) := ([] : (List Int))
  let v2 : (List Int) := (List.replicate 12 (0 : Int))
  let v3 : Bool := (eqv (.arr 12 (.int .i64)) x0 v2)
  bif v3 then
  bif (decide (0 ≤ x1) && decide (x1 ≤ x1) && decide (x1 ≤ 100000000000)) then
  let v4 : (List Int) := (List.replicate (Int.toNat x1) (0 : Int))
  some (v4)
  else none
  else
  let v5 : (List Int) := (List.replicate 0 (0 : Int))
  bif (sliceTest (0 : Int) x1 (12 : Nat)) then
  bif (decide ((Int.toNat x1) ≤ 12) && decide (List.length (List.take (List.length v5) v5) + List.length (List.take (Int.toNat x1) x0) ≤ 100000000000)) then
  let v6 : (List Int) := ((List.take (List.length v5) v5) ++ (List.take (Int.toNat x1) x0))
  some (v6)
  else none
  else none
theorem ev36 (x0 : (List Int)) (x1 : Int) : ev2 env36 orc36 loops36 body36 (initSt 0 [⟨(.arr 12 (.int .i64)), x0⟩, ⟨(.int .i64), x1⟩]) (retT [(4, .own 3 (.int .i64))] [(.list (.int .i64))] fun x => x.1) = G36 x0 x1 := by kernel_rfl
def P36 (x0 : (List Int)) (x1 : Int) : Bool := (G36 x0 x1).isSome
def F36 (x0 : (List Int)) (x1 : Int) : (List Int) := (G36 x0 x1).getD default
theorem G36_some (x0 : (List Int)) (x1 : Int) (h : P36 x0 x1 = true) : G36 x0 x1 = some (F36 x0 x1) := by
  unfold P36 at h; unfold F36
  cases hg : G36 x0 x1 with
  | none => rw [hg] at h; cases h
  | some r => rfl
theorem P36_of (x0 : (List Int)) (x1 : Int) {r : (List Int)} (h : G36 x0 x1 = some r) : P36 x0 x1 = true := by unfold P36; rw [h]; rfl
theorem F36_of (x0 : (List Int)) (x1 : Int) {r : (List Int)} (h : G36 x0 x1 = some r) : F36 x0 x1 = r := by unfold F36; rw [h]; rfl
def spec36 : Spec := ⟨[(.arr 12 (.int .i64)), (.int .i64)], [.own 3 (.int .i64)], fun | [a0, a1] => P36 (a0.as (.arr 12 (.int .i64))) (a1.as (.int .i64)) | _ => false, fun | [a0, a1] => [⟨(.list (.int .i64)), (F36 (a0.as (.arr 12 (.int .i64))) (a1.as (.int .i64)))⟩] | _ => []⟩
theorem meets36 (hE : EnvOk Try.prog env36) (hm : Try.prog.follows .mixedOrders = true) : Meets Try.prog glob 36 spec36 :=
  meets_of_ev2 (O := orc36) (L := loops36) (c := body36) (slots := [4]) hE hm Try.func36 Try.call36 (by kernel_rfl) (by kernel_rfl) loops36_ok (rangesOk_nil (by kernel_rfl)) (by kernel_rfl) rfl (by decide) (fun ds hds hpre => by
  obtain ⟨x0, ds0, rfl, h0⟩ := datsS hds
  obtain ⟨x1, ds1, rfl, h1⟩ := datsS h0
  have h9 := dats0 h1; subst h9
  exact ev_ret (un := fun r => [⟨(.list (.int .i64)), r⟩]) loops36_nat (fun _ => rfl) ((ev36 x0 x1).trans (G36_some x0 x1 hpre)))
def env19 : Env where
  tab := tab
  glob := glob
  spec := fun
    | 32 => some spec32
    | 36 => some spec36
    | _ => none
  spec2 := fun
    | 28, [] => some sp28
    | 33, [34] => some sp33
    | 35, [] => some sp35
    | _, _ => none
def orc19 : Orc := ⟨32, fun _ => none, fun
  | 0 => kp [2, 3] [(2, [0, 1, 2]), (3, [0])]
  | 1 => kp [2, 3, 6, 7] [(2, [0, 1, 2]), (3, [0]), (1300013, [0, 1, 2, 3])]
  | 2 => kp [2, 3, 6, 21] [(2, [0, 1, 2]), (3, [0]), (1300013, [0, 1, 2, 3])]
  | 3 => kp [4, 5] []
  | 4 => kp [2, 3, 6, 8] [(2, [0, 1, 2]), (3, [0]), (8, [0]), (1300013, [0, 1, 2, 3])]
  | 5 => kp [2, 8, 24] [(2, [0, 1, 2]), (3, [0]), (8, [0]), (1300013, [0, 1, 2, 3]), (2500002, [0]), (2500003, [0])]
  | 6 => kp [2, 8, 9, 24] [(2, [0, 1, 2]), (8, [0]), (9, [0, 1, 2, 3, 4, 5, 6])]
  | 7 => kp [2, 8, 24] [(2, [0, 1, 2]), (8, [0])]
  | 8 => kp [4, 5] []
  | _ => [], fun | _ => false⟩
noncomputable def body19 : Code := Try.f19.body.getD .skip
def R19_6_esh : Shape := [(.slot 2, .ptr 2 0), (.slot 8, .ptr 8 0), (.box 2, .bx 24 3), (.cell 2 0, .dat (.int .i64)), (.cell 2 1, .dat (.list t26)), (.cell 2 2, .dat (.int .i64)), (.box 8, .bx 63 12), (.cell 8 0, .dat (.arr 12 (.int .i64)))]
def R19_6_pk (s : Tup R19_6_esh) : Int × (List D26) × Int × (List Int) := (s.2.2.2.1, s.2.2.2.2.1, s.2.2.2.2.2.1, s.2.2.2.2.2.2.2.1)
def R19_6_un (s : Int × (List D26) × Int × (List Int)) : Tup R19_6_esh := ((), ((), ((), (s.1, (s.2.1, (s.2.2.1, ((), (s.2.2.2, ()))))))))
def R19_6_xo (x : (Int × (List D26) × Int × (List Int))) : Exit × Tup R19_6_esh := match x with
  | a => (.ret, R19_6_un a)
def R19_6_leave (x : (Int × (List D26) × Int × (List Int))) (R : Type) (K : Cont R) : Option R := match x with
  | a => K .ret (mkSt R19_6_esh (R19_6_un a))
theorem R19_6_lv (x : (Int × (List D26) × Int × (List Int))) (R : Type) (K : Cont R) : R19_6_leave x R K = K (R19_6_xo x).1 (mkSt R19_6_esh (R19_6_xo x).2) := by
  rfl
theorem R19_6_lvn (x : (Int × (List D26) × Int × (List Int))) (R : Type) (K : Cont R) : R19_6_leave x R K = (R19_6_leave x _ pairK).bind fun p => K p.1 p.2 := by
  rfl
def R19_6_d (e : Exit) (s : Tup R19_6_esh) : Option ((Int × (List D26) × Int × (List Int))) := match e with
  | _ => none
theorem R19_6_dk : ∀ x e v, R19_6_d x e = some v → R19_6_xo v = (x, e) ∧ ∃ c, jumpOf x = some c := by
  intro x e v h
  cases x <;> cases h
def R19_6_r (s0 : Int) (s1 : (List D26)) (s2 : Int) (s3 : (List Int)) (y0 : D26) : Option ((Int × (List D26) × Int × (List Int)) ⊕ ((Int × (List D26) × Int × (List Int)))) :=
  bif (P35 y0 s3) then
  let q10 : (Unit × ((List Int) × Unit)) := F35 y0 s3
  some (.inl (s0, s1, s2, q10.2.1))
  else none
def R19_6_step (b : Int × (List D26) × Int × (List Int)) (y : Y39) : Option ((Int × (List D26) × Int × (List Int)) ⊕ ((Int × (List D26) × Int × (List Int)))) := R19_6_r b.1 b.2.1 b.2.2.1 b.2.2.2 y
def loops19 : Nat → Option (Sum) := fun | 6 => some (rangeSum env19 39 24 R19_6_esh I39 R19_6_pk R19_6_un R19_6_step R19_6_leave) | _ => none
theorem loops19_nat : ∀ q f, loops19 q = some f → Natural f := by
  intro q f h
  unfold loops19 at h
  split at h
  · cases h; exact natural_range R19_6_lvn
  · cases h
theorem loops19_ok : LoopsOk env19 orc19 loops19 body19 := loopsOk_nil (by kernel_rfl)
noncomputable def R19_6_code : Code := (rangesOf body19).getD 0 .skip
theorem R19_6_round (s0 : Int) (s1 : (List D26)) (s2 : Int) (s3 : (List Int)) (y0 : D26) : roundQ env19 orc19 loops19 R19_6_esh R19_6_pk R19_6_d R19_6_code (I39.enc y0) ((), ((), ((), (s0, (s1, (s2, ((), (s3, ())))))))) = R19_6_r s0 s1 s2 s3 y0 := by kernel_rfl
theorem R19_6_form : R19_6_code = .rangeFunc (.tmp 24) (rgPs R19_6_code) (rgAsg R19_6_code) (rgBody R19_6_code) := by kernel_rfl
theorem R19_6_len (y : Y39) : (rgPs R19_6_code).toList.length = (I39.enc y).length := by kernel_rfl
theorem R19_6_ok (hE : EnvOk Try.prog env19) (hm : Try.prog.follows .mixedOrders = true) (hI : IterOk Try.prog glob 39 I39) : RangeOk Try.prog env19 orc19.n R19_6_code (rangeSum env19 39 24 R19_6_esh I39 R19_6_pk R19_6_un R19_6_step R19_6_leave) :=
  rangeOk' (L := loops19) hE hm hI R19_6_form (loopsOk_nil (by kernel_rfl)) (loopsOk_nil (by kernel_rfl)) (by kernel_rfl) (by kernel_rfl) (by kernel_rfl) (by kernel_rfl) (pk := R19_6_pk) (un := R19_6_un) (fun _ => rfl) R19_6_dk R19_6_lv R19_6_len fun b y => R19_6_round b.1 b.2.1 b.2.2.1 b.2.2.2 y
theorem ranges19_all : rangesOf body19 = [R19_6_code] := by kernel_rfl
theorem R19_6_key : lookL loops19 (keyOf R19_6_code) = some (rangeSum env19 39 24 R19_6_esh I39 R19_6_pk R19_6_un R19_6_step R19_6_leave) := by kernel_rfl
theorem ranges19_ok (hE : EnvOk Try.prog env19) (hm : Try.prog.follows .mixedOrders = true) (hI39 : IterOk Try.prog glob 39 I39) : RangesOk Try.prog env19 orc19.n loops19 body19 := by
  intro c hc f hf
  rw [ranges19_all] at hc
  simp only [List.mem_cons, List.not_mem_nil, or_false] at hc
  subst hc
  · rw [R19_6_key] at hf; cases hf; exact R19_6_ok hE hm hI39
def G19 (x0 : D23) (x1 : Int) : Option ((List Int) × Int) :=
  let v1 : (List Int) := ([] : (List Int))
  bif (P28 x0) then
  let q2 : (Bool × (Bool × (Unit × (Int × ((List D26) × (Int × ((List Bool) × Unit))))))) := F28 x0
  let v3 : Bool := (!q2.2.1)
  bif ((P32 x1 (0 : Int) (11 : Int)) || !(!v3 && true)) then
  let v4 : Bool := (F32 x1 (0 : Int) (11 : Int))
  let v5 : Bool := (!v4)
  let v6 : Bool := (bif v3 then true else v5)
  bif v6 then
  let v7 : (List Int) := ([] : (List Int))
  some (v7, (310 : Int))
  else
  let v8 : (List Int) := (List.replicate 12 (0 : Int))
  bif (P33 q2.1 q2.2.2.2.1 q2.2.2.2.2.1 q2.2.2.2.2.2.1 q2.2.2.2.2.2.2.1 x1) then
  let q9 : (Unit × (Unit × (Int × ((List D26) × (Int × ((List Bool) × (Unit × (Int × (Unit × (Bool × (Unit × (Unit × Unit)))))))))))) := F33 q2.1 q2.2.2.2.1 q2.2.2.2.2.1 q2.2.2.2.2.2.1 q2.2.2.2.2.2.2.1 x1
  Option.bind ((W39 q9.2.2.2.2.2.2.2.2.2.1 q9.2.2.1 q9.2.2.2.1 q9.2.2.2.2.1 q9.2.2.2.2.2.1 q9.2.2.2.2.2.2.2.1).ys) fun ys => Option.bind (foldX R19_6_step ys (x0.1, x0.2.1, x0.2.2.1, v8)) fun z => match z with
  | .inl (r11 : Int × (List D26) × Int × (List Int)) =>
  bif (P36 r11.2.2.2 r11.1) then
  let v12 : (List Int) := (F36 r11.2.2.2 r11.1)
  some (v12, (0 : Int))
  else none
  | .inr r11 =>
  none
  else none
  else none
  else none
theorem ev19 (x0 : D23) (x1 : Int) : ev2 env19 orc19 loops19 body19 (initSt 0 [⟨t23, x0⟩, ⟨(.int .i64), x1⟩]) (retT [(4, .own 3 (.int .i64)), (5, .dat (.int .i64))] [(.list (.int .i64)), (.int .i64)] fun x => (x.1, x.2.1)) = G19 x0 x1 := by kernel_rfl
def P19 (x0 : D23) (x1 : Int) : Bool := (G19 x0 x1).isSome
def F19 (x0 : D23) (x1 : Int) : (List Int) × Int := (G19 x0 x1).getD default
theorem G19_some (x0 : D23) (x1 : Int) (h : P19 x0 x1 = true) : G19 x0 x1 = some (F19 x0 x1) := by
  unfold P19 at h; unfold F19
  cases hg : G19 x0 x1 with
  | none => rw [hg] at h; cases h
  | some r => rfl
theorem P19_of (x0 : D23) (x1 : Int) {r : (List Int) × Int} (h : G19 x0 x1 = some r) : P19 x0 x1 = true := by unfold P19; rw [h]; rfl
theorem F19_of (x0 : D23) (x1 : Int) {r : (List Int) × Int} (h : G19 x0 x1 = some r) : F19 x0 x1 = r := by unfold F19; rw [h]; rfl
def spec19 : Spec := ⟨[t23, (.int .i64)], [.own 3 (.int .i64), .dat (.int .i64)], fun | [a0, a1] => P19 (a0.as t23) (a1.as (.int .i64)) | _ => false, fun | [a0, a1] => [⟨(.list (.int .i64)), (F19 (a0.as t23) (a1.as (.int .i64))).1⟩, ⟨(.int .i64), (F19 (a0.as t23) (a1.as (.int .i64))).2⟩] | _ => []⟩
theorem meets19 (hE : EnvOk Try.prog env19) (hm : Try.prog.follows .mixedOrders = true) (hI39 : IterOk Try.prog glob 39 I39) : Meets Try.prog glob 19 spec19 :=
  meets_of_ev2 (O := orc19) (L := loops19) (c := body19) (slots := [4, 5]) hE hm Try.func19 Try.call19 (by kernel_rfl) (by kernel_rfl) loops19_ok (ranges19_ok hE hm hI39) (by kernel_rfl) rfl (by decide) (fun ds hds hpre => by
  obtain ⟨x0, ds0, rfl, h0⟩ := datsS hds
  obtain ⟨x1, ds1, rfl, h1⟩ := datsS h0
  have h9 := dats0 h1; subst h9
  exact ev_ret (un := fun r => [⟨(.list (.int .i64)), r.1⟩, ⟨(.int .i64), r.2⟩]) loops19_nat (fun _ => rfl) ((ev19 x0 x1).trans (G19_some x0 x1 hpre)))
def pin10033 : Shape := [(.slot 0, .mptr 50000 0), (.slot 1, .fn 37 [50001, 50002]), (.box 50000, .bx 58 203), (.cell 50000 0, .dat (.int .i64)), (.cell 50000 1, .own 27 t26), (.cell 50000 2, .dat (.int .i64)), (.cell 50000 3, .dat (.arr 200 .bool)), (.box 50001, .bx 3 1), (.cell 50001 0, .dat (.int .i64)), (.box 50002, .bx 52 1), (.cell 50002 0, .mptr 50000 0)]
def pout10033 : Shape := [(.slot 0, .fn 39 [2, 3]), (.box 50000, .bx 58 203), (.cell 50000 0, .dat (.int .i64)), (.cell 50000 1, .own 27 t26), (.cell 50000 2, .dat (.int .i64)), (.cell 50000 3, .dat (.arr 200 .bool)), (.box 50001, .bx 3 1), (.cell 50001 0, .dat (.int .i64)), (.box 50002, .bx 52 1), (.cell 50002 0, .mptr 50000 0), (.box 2, .bx 52 1), (.cell 2 0, .mptr 50000 0), (.box 3, .bx 66 1), (.cell 3 0, .fn 37 [50001, 50002])]
def env10033 : Env where
  tab := tab
  glob := glob
  spec := fun
    | _ => none
def orc10033 : Orc := ⟨6, fun _ => none, fun
  | 0 => kp [2, 3] [(2, [0]), (3, [0]), (50000, [0, 1, 2, 3]), (50001, [0]), (50002, [0])]
  | 1 => kp [4] [(2, [0]), (3, [0]), (50000, [0, 1, 2, 3]), (50001, [0]), (50002, [0])]
  | _ => [], fun | _ => false⟩
noncomputable def body10033 : Code := Try.f33.body.getD .skip
def loops10033 : Nat → Option (Sum) := fun | _ => none
theorem loops10033_nat : ∀ q f, loops10033 q = some f → Natural f := by
  intro q f h
  cases h
theorem loops10033_ok : LoopsOk env10033 orc10033 loops10033 body10033 := loopsOk_nil (by kernel_rfl)
def G10033 (x0 : Bool) (x1 : Int) (x2 : (List D26)) (x3 : Int) (x4 : (List Bool)) (x5 : Int) (x6 : Bool) : Option (Unit × (Unit × (Int × ((List D26) × (Int × ((List Bool) × (Unit × (Int × (Unit × (Bool × (Unit × (Bool × (Unit × (Unit × Unit)))))))))))))) :=
  some ((), ((), (x1, (x2, (x3, (x4, ((), (x5, ((), (x6, ((), (x0, ((), ((), ()))))))))))))))
def P10033 (x0 : Bool) (x1 : Int) (x2 : (List D26)) (x3 : Int) (x4 : (List Bool)) (x5 : Int) (x6 : Bool) : Bool := (G10033 x0 x1 x2 x3 x4 x5 x6).isSome
def F10033 (x0 : Bool) (x1 : Int) (x2 : (List D26)) (x3 : Int) (x4 : (List Bool)) (x5 : Int) (x6 : Bool) : (Unit × (Unit × (Int × ((List D26) × (Int × ((List Bool) × (Unit × (Int × (Unit × (Bool × (Unit × (Bool × (Unit × (Unit × Unit)))))))))))))) := (G10033 x0 x1 x2 x3 x4 x5 x6).getD (Tup.zero pout10033)
theorem P10033_of (x0 : Bool) (x1 : Int) (x2 : (List D26)) (x3 : Int) (x4 : (List Bool)) (x5 : Int) (x6 : Bool) {r : (Unit × (Unit × (Int × ((List D26) × (Int × ((List Bool) × (Unit × (Int × (Unit × (Bool × (Unit × (Bool × (Unit × (Unit × Unit))))))))))))))} (h : G10033 x0 x1 x2 x3 x4 x5 x6 = some r) : P10033 x0 x1 x2 x3 x4 x5 x6 = true := by unfold P10033; rw [h]; rfl
theorem F10033_of (x0 : Bool) (x1 : Int) (x2 : (List D26)) (x3 : Int) (x4 : (List Bool)) (x5 : Int) (x6 : Bool) {r : (Unit × (Unit × (Int × ((List D26) × (Int × ((List Bool) × (Unit × (Int × (Unit × (Bool × (Unit × (Bool × (Unit × (Unit × Unit))))))))))))))} (h : G10033 x0 x1 x2 x3 x4 x5 x6 = some r) : F10033 x0 x1 x2 x3 x4 x5 x6 = r := by unfold F10033; rw [h]; rfl
theorem ev10033 (x0 : Bool) (x1 : Int) (x2 : (List D26)) (x3 : Int) (x4 : (List Bool)) (x5 : Int) (x6 : Bool) : ev2 env10033 orc10033 loops10033 body10033 (mkSt pin10033 (x0, ((), ((), (x1, (x2, (x3, (x4, ((), (x5, ((), (x6, ())))))))))))) (retK3 env10033 [.slot 4] pout10033) = G10033 x0 x1 x2 x3 x4 x5 x6 := by kernel_rfl
def sp10033 : Spec2 := ⟨pin10033, pout10033, fun s => G10033 s.1 s.2.2.2.1 s.2.2.2.2.1 s.2.2.2.2.2.1 s.2.2.2.2.2.2.1 s.2.2.2.2.2.2.2.2.1 s.2.2.2.2.2.2.2.2.2.2.1⟩
theorem fit10033 : Fit Try.f33 [.slot 4] sp10033 := ⟨by kernel_rfl, by kernel_rfl, by kernel_rfl, by kernel_rfl, by kernel_rfl, by decide, by decide, by decide⟩
theorem meets10033 (hE : EnvOk Try.prog env10033) (hm : Try.prog.follows .mixedOrders = true) : Meets2 Try.prog glob 33 sp10033 :=
  meets2_of_ev2 (O := orc10033) (L := loops10033) (c := body10033) (rs := [.slot 4]) hE (fun _ => rfl) hm Try.func33 Try.call33 (by kernel_rfl) (by kernel_rfl) loops10033_ok (rangesOk_nil (by kernel_rfl)) fit10033 (fun s o h => (ev10033 s.1 s.2.2.2.1 s.2.2.2.2.1 s.2.2.2.2.2.1 s.2.2.2.2.2.2.1 s.2.2.2.2.2.2.2.2.1 s.2.2.2.2.2.2.2.2.2.2.1).trans h)
def pin37 : Shape := [(.slot 0, .dat (.int .i64)), (.slot 1, .dat t26), (.slot 2, .ptr 50000 0), (.slot 3, .ptr 50001 0), (.box 50000, .bx 3 1), (.cell 50000 0, .dat (.int .i64)), (.box 50001, .bx 52 1), (.cell 50001 0, .mptr 50002 0), (.box 50002, .bx 58 203), (.cell 50002 0, .dat (.int .i64)), (.cell 50002 1, .dat (.list t26)), (.cell 50002 2, .dat (.int .i64)), (.cell 50002 3, .dat (.arr 200 .bool))]
def pout37 : Shape := [(.slot 0, .dat .bool), (.box 50000, .bx 3 1), (.cell 50000 0, .dat (.int .i64)), (.box 50001, .bx 52 1), (.cell 50001 0, .mptr 50002 0), (.box 50002, .bx 58 203), (.cell 50002 0, .dat (.int .i64)), (.cell 50002 1, .dat (.list t26)), (.cell 50002 2, .dat (.int .i64)), (.cell 50002 3, .dat (.arr 200 .bool))]
def env37 : Env where
  tab := tab
  glob := glob
  spec := fun
    | _ => none
def orc37 : Orc := ⟨25, fun _ => none, fun
  | 0 => kp [0, 2, 3, 5] [(5, [0, 1, 2, 3, 4, 5, 6]), (50000, [0]), (50001, [0]), (50002, [0, 1, 2, 3])]
  | 1 => kp [6] [(50000, [0]), (50001, [0]), (50002, [0, 1, 2, 3])]
  | _ => [], fun | _ => false⟩
noncomputable def body37 : Code := Try.f37.body.getD .skip
def loops37 : Nat → Option (Sum) := fun | _ => none
theorem loops37_nat : ∀ q f, loops37 q = some f → Natural f := by
  intro q f h
  cases h
theorem loops37_ok : LoopsOk env37 orc37 loops37 body37 := loopsOk_nil (by kernel_rfl)
def G37 (x0 : Int) (x1 : D26) (x2 : Int) (x3 : Bool) (x4 : Int) (x5 : (List D26)) (x6 : Int) (x7 : (List Bool)) : Option (Bool × (Unit × (Int × (Unit × (Bool × (Unit × (Int × ((List D26) × (Int × ((List Bool) × Unit)))))))))) :=
  let v1 : Bool := (x1.1 == (1 : Int))
  let v2 : Bool := (x1.2.2.2.2.2.1 == x2)
  let v3 : Bool := (bif v1 then v2 else false)
  bif ((x3) || !(v3 && true)) then
  bif ((decide (0 ≤ x0) && decide (x0 < (200 : Nat))) || !(v3 && true)) then
  bif ((decide ((Int.toNat x0) < List.length x7)) || !(v3 && true)) then
  let v4 : Bool := (List.getD x7 (Int.toNat x0) false)
  let v5 : Bool := (!v4)
  let v6 : Bool := (bif v3 then v5 else false)
  some (v6, ((), (x2, ((), (x3, ((), (x4, (x5, (x6, (x7, ()))))))))))
  else none
  else none
  else none
def P37 (x0 : Int) (x1 : D26) (x2 : Int) (x3 : Bool) (x4 : Int) (x5 : (List D26)) (x6 : Int) (x7 : (List Bool)) : Bool := (G37 x0 x1 x2 x3 x4 x5 x6 x7).isSome
def F37 (x0 : Int) (x1 : D26) (x2 : Int) (x3 : Bool) (x4 : Int) (x5 : (List D26)) (x6 : Int) (x7 : (List Bool)) : (Bool × (Unit × (Int × (Unit × (Bool × (Unit × (Int × ((List D26) × (Int × ((List Bool) × Unit)))))))))) := (G37 x0 x1 x2 x3 x4 x5 x6 x7).getD (Tup.zero pout37)
theorem P37_of (x0 : Int) (x1 : D26) (x2 : Int) (x3 : Bool) (x4 : Int) (x5 : (List D26)) (x6 : Int) (x7 : (List Bool)) {r : (Bool × (Unit × (Int × (Unit × (Bool × (Unit × (Int × ((List D26) × (Int × ((List Bool) × Unit))))))))))} (h : G37 x0 x1 x2 x3 x4 x5 x6 x7 = some r) : P37 x0 x1 x2 x3 x4 x5 x6 x7 = true := by unfold P37; rw [h]; rfl
theorem F37_of (x0 : Int) (x1 : D26) (x2 : Int) (x3 : Bool) (x4 : Int) (x5 : (List D26)) (x6 : Int) (x7 : (List Bool)) {r : (Bool × (Unit × (Int × (Unit × (Bool × (Unit × (Int × ((List D26) × (Int × ((List Bool) × Unit))))))))))} (h : G37 x0 x1 x2 x3 x4 x5 x6 x7 = some r) : F37 x0 x1 x2 x3 x4 x5 x6 x7 = r := by unfold F37; rw [h]; rfl
theorem ev37 (x0 : Int) (x1 : D26) (x2 : Int) (x3 : Bool) (x4 : Int) (x5 : (List D26)) (x6 : Int) (x7 : (List Bool)) : ev2 env37 orc37 loops37 body37 (mkSt pin37 (x0, (x1, ((), ((), ((), (x2, ((), (x3, ((), (x4, (x5, (x6, (x7, ())))))))))))))) (retK3 env37 [.slot 6] pout37) = G37 x0 x1 x2 x3 x4 x5 x6 x7 := by kernel_rfl
def sp37 : Spec2 := ⟨pin37, pout37, fun s => G37 s.1 s.2.1 s.2.2.2.2.2.1 s.2.2.2.2.2.2.2.1 s.2.2.2.2.2.2.2.2.2.1 s.2.2.2.2.2.2.2.2.2.2.1 s.2.2.2.2.2.2.2.2.2.2.2.1 s.2.2.2.2.2.2.2.2.2.2.2.2.1⟩
theorem fit37 : Fit Try.f37 [.slot 6] sp37 := ⟨by kernel_rfl, by kernel_rfl, by kernel_rfl, by kernel_rfl, by kernel_rfl, by decide, by decide, by decide⟩
theorem meets37 (hE : EnvOk Try.prog env37) (hm : Try.prog.follows .mixedOrders = true) : Meets2 Try.prog glob 37 sp37 :=
  meets2_of_ev2 (O := orc37) (L := loops37) (c := body37) (rs := [.slot 6]) hE (fun _ => rfl) hm Try.func37 Try.call37 (by kernel_rfl) (by kernel_rfl) loops37_ok (rangesOk_nil (by kernel_rfl)) fit37 (fun s o h => (ev37 s.1 s.2.1 s.2.2.2.2.2.1 s.2.2.2.2.2.2.2.1 s.2.2.2.2.2.2.2.2.2.1 s.2.2.2.2.2.2.2.2.2.2.1 s.2.2.2.2.2.2.2.2.2.2.2.1 s.2.2.2.2.2.2.2.2.2.2.2.2.1).trans h)
def pin10039 : Shape := [(.slot 1, .ptr 50000 0), (.slot 2, .ptr 50001 0), (.box 50000, .bx 52 1), (.cell 50000 0, .mptr 50002 0), (.box 50001, .bx 66 1), (.cell 50001 0, .fn 37 [50003, 50004]), (.box 50002, .bx 58 203), (.cell 50002 0, .dat (.int .i64)), (.cell 50002 1, .own 27 t26), (.cell 50002 2, .dat (.int .i64)), (.cell 50002 3, .dat (.arr 200 .bool)), (.box 50003, .bx 3 1), (.cell 50003 0, .dat (.int .i64)), (.box 50004, .bx 52 1), (.cell 50004 0, .mptr 50002 0)]
abbrev Y10039 : Type := D26
def mk10039 : List Dat → Option Y10039 := mkT [t26] fun x => x.1
def env10039 : Env where
  tab := tab
  glob := glob
  spec := fun
    | _ => none
  spec2 := fun
    | 37, [] => some sp37
    | _, _ => none
def orc10039 : Orc := ⟨28, fun _ => none, fun
  | 0 => kp [0, 2, 10, 11, 12] [(50000, [0]), (50001, [0]), (50002, [0])] ++ [(.cell 50002 1, .frz)] ++ [(.cell 50002 2, .own)] ++ [(.cell 50002 3, .own)] ++ kp [] [(50003, [0]), (50004, [0])]
  | 1 => kp [0, 2, 10, 11, 12, 13] [(50000, [0]), (50001, [0]), (50002, [0, 1, 2, 3]), (50003, [0]), (50004, [0])]
  | 2 => kp [0, 2, 4, 5, 10, 11, 12] [(5, [0, 1, 2, 3, 4, 5, 6]), (50000, [0]), (50001, [0]), (50002, [0, 1, 2, 3]), (50003, [0]), (50004, [0])]
  | 3 => kp [0, 2, 10, 11, 12, 26] [(50000, [0]), (50001, [0]), (50002, [0, 1, 2, 3]), (50003, [0]), (50004, [0])]
  | 4 => kp [0, 2, 10, 11, 12] [(50000, [0]), (50001, [0]), (50002, [0, 1, 2, 3]), (50003, [0]), (50004, [0])]
  | _ => [], fun | _ => false⟩
noncomputable def body10039 : Code := Try.f39.body.getD .skip
def L10039_1_sh : Shape := [(.slot 0, .yld), (.slot 2, .ptr 50001 0), (.slot 10, .dat (.list t26)), (.slot 11, .dat (.int .i64)), (.slot 12, .dat (.int .i64)), (.box 50000, .bx 52 1), (.cell 50000 0, .mptr 50002 0), (.box 50001, .bx 66 1), (.cell 50001 0, .fn 37 [50003, 50004]), (.box 50002, .bx 58 203), (.cell 50002 0, .dat (.int .i64)), (.cell 50002 1, .dat (.list t26)), (.cell 50002 2, .dat (.int .i64)), (.cell 50002 3, .dat (.arr 200 .bool)), (.box 50003, .bx 3 1), (.cell 50003 0, .dat (.int .i64)), (.box 50004, .bx 52 1), (.cell 50004 0, .mptr 50002 0)]
def L10039_1_x0 : Shape := [(.slot 0, .yld), (.slot 2, .ptr 50001 0), (.slot 10, .dat (.list t26)), (.slot 11, .dat (.int .i64)), (.slot 12, .dat (.int .i64)), (.box 50000, .bx 52 1), (.cell 50000 0, .mptr 50002 0), (.box 50001, .bx 66 1), (.cell 50001 0, .fn 37 [50003, 50004]), (.box 50002, .bx 58 203), (.cell 50002 0, .dat (.int .i64)), (.cell 50002 1, .dat (.list t26)), (.cell 50002 2, .dat (.int .i64)), (.cell 50002 3, .dat (.arr 200 .bool)), (.box 50003, .bx 3 1), (.cell 50003 0, .dat (.int .i64)), (.box 50004, .bx 52 1), (.cell 50004 0, .mptr 50002 0)]
def L10039_1_x1 : Shape := [(.slot 0, .yld), (.slot 2, .ptr 50001 0), (.slot 10, .dat (.list t26)), (.slot 11, .dat (.int .i64)), (.slot 12, .dat (.int .i64)), (.box 50000, .bx 52 1), (.cell 50000 0, .mptr 50002 0), (.box 50001, .bx 66 1), (.cell 50001 0, .fn 37 [50003, 50004]), (.box 50002, .bx 58 203), (.cell 50002 0, .dat (.int .i64)), (.cell 50002 1, .dat (.list t26)), (.cell 50002 2, .dat (.int .i64)), (.cell 50002 3, .dat (.arr 200 .bool)), (.box 50003, .bx 3 1), (.cell 50003 0, .dat (.int .i64)), (.box 50004, .bx 52 1), (.cell 50004 0, .mptr 50002 0)]
def L10039_1_pk (s : Tup L10039_1_sh) : (List D26) × Int × Int × Bool × Int × (List D26) × Int × (List Bool) × Int × Bool := (s.2.2.1, s.2.2.2.1, s.2.2.2.2.1, s.2.2.2.2.2.2.1, s.2.2.2.2.2.2.2.2.2.2.1, s.2.2.2.2.2.2.2.2.2.2.2.1, s.2.2.2.2.2.2.2.2.2.2.2.2.1, s.2.2.2.2.2.2.2.2.2.2.2.2.2.1, s.2.2.2.2.2.2.2.2.2.2.2.2.2.2.2.1, s.2.2.2.2.2.2.2.2.2.2.2.2.2.2.2.2.2.1)
def L10039_1_un (s : (List D26) × Int × Int × Bool × Int × (List D26) × Int × (List Bool) × Int × Bool) : Tup L10039_1_sh := ((), ((), (s.1, (s.2.1, (s.2.2.1, ((), (s.2.2.2.1, ((), ((), ((), (s.2.2.2.2.1, (s.2.2.2.2.2.1, (s.2.2.2.2.2.2.1, (s.2.2.2.2.2.2.2.1, ((), (s.2.2.2.2.2.2.2.2.1, ((), (s.2.2.2.2.2.2.2.2.2, ()))))))))))))))))))
def L10039_1_leave (x : ((List D26) × Int × Int × Bool × Int × (List D26) × Int × (List Bool) × Int × Bool) ⊕ ((List D26) × Int × Int × Bool × Int × (List D26) × Int × (List Bool) × Int × Bool)) (V : Type) (K : Exit → St → YW Y10039 V) : YW Y10039 V := match x with
  | (.inl a) => K .ret (mkSt L10039_1_x0 ((), ((), (a.1, (a.2.1, (a.2.2.1, ((), (a.2.2.2.1, ((), ((), ((), (a.2.2.2.2.1, (a.2.2.2.2.2.1, (a.2.2.2.2.2.2.1, (a.2.2.2.2.2.2.2.1, ((), (a.2.2.2.2.2.2.2.2.1, ((), (a.2.2.2.2.2.2.2.2.2, ())))))))))))))))))))
  | (.inr a) => K (.exit 0) (mkSt L10039_1_x1 ((), ((), (a.1, (a.2.1, (a.2.2.1, ((), (a.2.2.2.1, ((), ((), ((), (a.2.2.2.2.1, (a.2.2.2.2.2.1, (a.2.2.2.2.2.2.1, (a.2.2.2.2.2.2.2.1, ((), (a.2.2.2.2.2.2.2.2.1, ((), (a.2.2.2.2.2.2.2.2.2, ())))))))))))))))))))
def L10039_1_d (e : Exit) (st : St) : Option (((List D26) × Int × Int × Bool × Int × (List D26) × Int × (List Bool) × Int × Bool) ⊕ ((List D26) × Int × Int × Bool × Int × (List D26) × Int × (List Bool) × Int × Bool)) := match e with
  | .ret => (match unSt L10039_1_x0 st with
    | some s => some (.inl (s.2.2.1, s.2.2.2.1, s.2.2.2.2.1, s.2.2.2.2.2.2.1, s.2.2.2.2.2.2.2.2.2.2.1, s.2.2.2.2.2.2.2.2.2.2.2.1, s.2.2.2.2.2.2.2.2.2.2.2.2.1, s.2.2.2.2.2.2.2.2.2.2.2.2.2.1, s.2.2.2.2.2.2.2.2.2.2.2.2.2.2.2.1, s.2.2.2.2.2.2.2.2.2.2.2.2.2.2.2.2.2.1))
    | none => none)
  | .exit 0 => (match unSt L10039_1_x1 st with
    | some s => some (.inr (s.2.2.1, s.2.2.2.1, s.2.2.2.2.1, s.2.2.2.2.2.2.1, s.2.2.2.2.2.2.2.2.2.2.1, s.2.2.2.2.2.2.2.2.2.2.2.1, s.2.2.2.2.2.2.2.2.2.2.2.2.1, s.2.2.2.2.2.2.2.2.2.2.2.2.2.1, s.2.2.2.2.2.2.2.2.2.2.2.2.2.2.2.1, s.2.2.2.2.2.2.2.2.2.2.2.2.2.2.2.2.2.1))
    | none => none)
  | _ => none
def L10039_1_r (s0 : (List D26)) (s1 : Int) (s2 : Int) (s3 : Bool) (s4 : Int) (s5 : (List D26)) (s6 : Int) (s7 : (List Bool)) (s8 : Int) (s9 : Bool) : YW Y10039 (((List D26) × Int × Int × Bool × Int × (List D26) × Int × (List Bool) × Int × Bool) ⊕ (((List D26) × Int × Int × Bool × Int × (List D26) × Int × (List Bool) × Int × Bool) ⊕ ((List D26) × Int × Int × Bool × Int × (List D26) × Int × (List Bool) × Int × Bool))) :=
  let v2 : Bool := (decide (s2 < s1))
  bif v2 then
  bif (decide (0 ≤ s2) && decide (s2 < List.length s0)) then
  let v3 : D26 := (List.getD s0 (Int.toNat s2) z26)
  bif (P37 s2 v3 s8 s9 s4 s5 s6 s7) then
  let q4 : (Bool × (Unit × (Int × (Unit × (Bool × (Unit × (Int × ((List D26) × (Int × ((List Bool) × Unit)))))))))) := F37 s2 v3 s8 s9 s4 s5 s6 s7
  yieldW (q4.1 && true) v3 (let v8 : Bool := (!false)
  let v9 : Bool := (bif q4.1 then v8 else false)
  bif v9 then
  some ()
  else
  let v10 : Int := (IntKind.i64.wrap (s2 + (1 : Int)))
  none) (
  let v5 : Bool := (!true)
  let v6 : Bool := (bif q4.1 then v5 else false)
  bif v6 then
  some ([], .inr (.inl (s0, s1, s2, s3, q4.2.2.2.2.2.2.1, q4.2.2.2.2.2.2.2.1, q4.2.2.2.2.2.2.2.2.1, q4.2.2.2.2.2.2.2.2.2.1, q4.2.2.1, q4.2.2.2.2.1)))
  else
  let v7 : Int := (IntKind.i64.wrap (s2 + (1 : Int)))
  some ([], .inl (s0, s1, v7, s3, q4.2.2.2.2.2.2.1, q4.2.2.2.2.2.2.2.1, q4.2.2.2.2.2.2.2.2.1, q4.2.2.2.2.2.2.2.2.2.1, q4.2.2.1, q4.2.2.2.2.1)))
  else none
  else none
  else
  some ([], .inr (.inr (s0, s1, s2, s3, s4, s5, s6, s7, s8, s9)))
def L10039_1 : (List D26) × Int × Int × Bool × Int × (List D26) × Int × (List Bool) × Int × Bool → YW Y10039 (((List D26) × Int × Int × Bool × Int × (List D26) × Int × (List Bool) × Int × Bool) ⊕ ((List D26) × Int × Int × Bool × Int × (List D26) × Int × (List Bool) × Int × Bool)) := LimW (fun s => L10039_1_r s.1 s.2.1 s.2.2.1 s.2.2.2.1 s.2.2.2.2.1 s.2.2.2.2.2.1 s.2.2.2.2.2.2.1 s.2.2.2.2.2.2.2.1 s.2.2.2.2.2.2.2.2.1 s.2.2.2.2.2.2.2.2.2)
def L10039_1_sum : SumY Y10039 := limSumW L10039_1_sh L10039_1_pk (fun s => L10039_1_r s.1 s.2.1 s.2.2.1 s.2.2.2.1 s.2.2.2.2.1 s.2.2.2.2.2.1 s.2.2.2.2.2.2.1 s.2.2.2.2.2.2.2.1 s.2.2.2.2.2.2.2.2.1 s.2.2.2.2.2.2.2.2.2) L10039_1_leave
theorem L10039_1_nat : NaturalY L10039_1_sum := natural_limW fun x V K => by
  rcases x with x|x <;> exact (YW.bind_pure _ _).symm
theorem L10039_1_dok : ∀ e st x, e ≠ .normal → L10039_1_d e st = some x → ∀ V (K : Exit → St → YW Y10039 V), K e st = L10039_1_leave x V K := by
  intro e st x _ h R K
  unfold L10039_1_d at h
  split at h
  · split at h
    · rename_i s hs; cases h; rw [unSt_some hs]; rfl
    · cases h
  · split at h
    · rename_i s hs; cases h; rw [unSt_some hs]; rfl
    · cases h
  · cases h
def loops10039 : Nat → Option (SumY Y10039) := fun | 1 => some L10039_1_sum | _ => none
theorem loops10039_nat : ∀ q f, loops10039 q = some f → NaturalY f := by
  intro q f h
  unfold loops10039 at h
  split at h
  · cases h; exact L10039_1_nat
  · cases h
noncomputable def L10039_1_code : Code := (loopsOf body10039).getD 0 .skip
theorem L10039_1_round (s0 : (List D26)) (s1 : Int) (s2 : Int) (s3 : Bool) (s4 : Int) (s5 : (List D26)) (s6 : Int) (s7 : (List Bool)) (s8 : Int) (s9 : Bool) : evY env10039 orc10039 loops10039 [t26] mk10039 L10039_1_code (mkSt L10039_1_sh ((), ((), (s0, (s1, (s2, ((), (s3, ((), ((), ((), (s4, (s5, (s6, (s7, ((), (s8, ((), (s9, ()))))))))))))))))))) (backW (back L10039_1_sh L10039_1_pk L10039_1_d)) retOnly = L10039_1_r s0 s1 s2 s3 s4 s5 s6 s7 s8 s9 := by kernel_rfl
theorem L10039_1_ok : SumYOk env10039 orc10039 loops10039 [t26] mk10039 L10039_1_code L10039_1_sum := sumYOk_lim (un := L10039_1_un) loops10039_nat (fun _ => rfl) L10039_1_dok fun s => L10039_1_round s.1 s.2.1 s.2.2.1 s.2.2.2.1 s.2.2.2.2.1 s.2.2.2.2.2.1 s.2.2.2.2.2.2.1 s.2.2.2.2.2.2.2.1 s.2.2.2.2.2.2.2.2.1 s.2.2.2.2.2.2.2.2.2
theorem loops10039_all : loopsOf body10039 = [L10039_1_code] := by kernel_rfl
theorem L10039_1_key : lookY loops10039 (keyOf L10039_1_code) = some L10039_1_sum := by kernel_rfl
theorem loops10039_ok : LoopsYOk env10039 orc10039 loops10039 [t26] mk10039 body10039 := by
  intro c hc f hf
  rw [loops10039_all] at hc
  simp only [List.mem_cons, List.not_mem_nil, or_false] at hc
  subst hc
  · rw [L10039_1_key] at hf; cases hf; exact L10039_1_ok
def W10039 (x0 : Bool) (x1 : Int) (x2 : (List D26)) (x3 : Int) (x4 : (List Bool)) (x5 : Int) (x6 : Bool) : YW Y10039 Unit :=
  bif (x0) then
  let v1 : Int := (((List.length x2) : Nat) : Int)
  YW.bind (L10039_1 ((List.take (List.length x2) x2), v1, (0 : Int), x0, x1, x2, x3, x4, x5, x6)) fun x => match x with
  | (.inl r11) =>
  some ([], ())
  | (.inr r12) =>
  some ([], ())
  else none
theorem ev10039 (x0 : Bool) (x1 : Int) (x2 : (List D26)) (x3 : Int) (x4 : (List Bool)) (x5 : Int) (x6 : Bool) : evY env10039 orc10039 loops10039 [t26] mk10039 body10039 (mkSt ((.slot 0, .yld) :: pin10039) ((), ((), ((), ((), (x0, ((), ((), ((), (x1, (x2, (x3, (x4, ((), (x5, ((), (x6, ()))))))))))))))))) endY retOnly = W10039 x0 x1 x2 x3 x4 x5 x6 := by kernel_rfl
def I10039 : ISpec := ⟨pin10039, Y10039, fun (y : Y10039) => datsOf [t26] (y, ()), fun s => (W10039 s.2.2.2.1 s.2.2.2.2.2.2.2.1 s.2.2.2.2.2.2.2.2.1 s.2.2.2.2.2.2.2.2.2.1 s.2.2.2.2.2.2.2.2.2.2.1 s.2.2.2.2.2.2.2.2.2.2.2.2.1 s.2.2.2.2.2.2.2.2.2.2.2.2.2.2.1).ys⟩
theorem iter10039 (hE : EnvOk Try.prog env10039) (hm : Try.prog.follows .mixedOrders = true) : IterOk Try.prog glob 39 I10039 :=
  iterOk_of_evY (I := I10039) (O := orc10039) (L := loops10039) (c := body10039) (mk := mk10039) hE hm Try.func39 Try.call39 (by kernel_rfl) (by kernel_rfl) (mkT_ok (ts := [t26]) (un := fun (y : Y10039) => (y, ())) fun _ => rfl) loops10039_ok (by kernel_rfl) (by decide) (by decide) (fun s ys h => (ev10039 s.2.2.2.1 s.2.2.2.2.2.2.2.1 s.2.2.2.2.2.2.2.2.1 s.2.2.2.2.2.2.2.2.2.1 s.2.2.2.2.2.2.2.2.2.2.1 s.2.2.2.2.2.2.2.2.2.2.2.2.1 s.2.2.2.2.2.2.2.2.2.2.2.2.2.2.1).trans (YW.ys_some h))
def env24 : Env where
  tab := tab
  glob := glob
  spec := fun
    | 32 => some spec32
    | 36 => some spec36
    | _ => none
  spec2 := fun
    | 28, [] => some sp28
    | 33, [37] => some sp10033
    | 35, [] => some sp35
    | _, _ => none
def orc24 : Orc := ⟨34, fun _ => none, fun
  | 0 => kp [2, 3] [(2, [0, 1, 2]), (3, [0])]
  | 1 => kp [2, 3, 6, 7] [(2, [0, 1, 2]), (3, [0]), (6, [0]), (1400013, [0, 1, 2, 3])]
  | 2 => kp [2, 3, 6, 22] [(2, [0, 1, 2]), (3, [0]), (6, [0]), (1400013, [0, 1, 2, 3])]
  | 3 => kp [4, 5] []
  | 4 => kp [2, 3, 6, 8] [(2, [0, 1, 2]), (3, [0]), (6, [0]), (8, [0]), (1400013, [0, 1, 2, 3])]
  | 5 => kp [2, 6, 8, 9] [(2, [0, 1, 2]), (3, [0]), (6, [0]), (8, [0]), (1400013, [0, 1, 2, 3])]
  | 6 => kp [2, 8, 26] [(2, [0, 1, 2]), (3, [0]), (6, [0]), (8, [0]), (1400013, [0, 1, 2, 3]), (2700002, [0]), (2700003, [0])]
  | 7 => kp [2, 8, 10, 26] [(2, [0, 1, 2]), (8, [0]), (10, [0, 1, 2, 3, 4, 5, 6])]
  | 8 => kp [2, 8, 26] [(2, [0, 1, 2]), (8, [0])]
  | 9 => kp [4, 5] []
  | _ => [], fun | _ => false⟩
noncomputable def body24 : Code := Try.f24.body.getD .skip
def R24_7_esh : Shape := [(.slot 2, .ptr 2 0), (.slot 8, .ptr 8 0), (.box 2, .bx 24 3), (.cell 2 0, .dat (.int .i64)), (.cell 2 1, .dat (.list t26)), (.cell 2 2, .dat (.int .i64)), (.box 8, .bx 63 12), (.cell 8 0, .dat (.arr 12 (.int .i64)))]
def R24_7_pk (s : Tup R24_7_esh) : Int × (List D26) × Int × (List Int) := (s.2.2.2.1, s.2.2.2.2.1, s.2.2.2.2.2.1, s.2.2.2.2.2.2.2.1)
def R24_7_un (s : Int × (List D26) × Int × (List Int)) : Tup R24_7_esh := ((), ((), ((), (s.1, (s.2.1, (s.2.2.1, ((), (s.2.2.2, ()))))))))
def R24_7_xo (x : (Int × (List D26) × Int × (List Int))) : Exit × Tup R24_7_esh := match x with
  | a => (.ret, R24_7_un a)
def R24_7_leave (x : (Int × (List D26) × Int × (List Int))) (R : Type) (K : Cont R) : Option R := match x with
  | a => K .ret (mkSt R24_7_esh (R24_7_un a))
theorem R24_7_lv (x : (Int × (List D26) × Int × (List Int))) (R : Type) (K : Cont R) : R24_7_leave x R K = K (R24_7_xo x).1 (mkSt R24_7_esh (R24_7_xo x).2) := by
  rfl
theorem R24_7_lvn (x : (Int × (List D26) × Int × (List Int))) (R : Type) (K : Cont R) : R24_7_leave x R K = (R24_7_leave x _ pairK).bind fun p => K p.1 p.2 := by
  rfl
def R24_7_d (e : Exit) (s : Tup R24_7_esh) : Option ((Int × (List D26) × Int × (List Int))) := match e with
  | _ => none
theorem R24_7_dk : ∀ x e v, R24_7_d x e = some v → R24_7_xo v = (x, e) ∧ ∃ c, jumpOf x = some c := by
  intro x e v h
  cases x <;> cases h
def R24_7_r (s0 : Int) (s1 : (List D26)) (s2 : Int) (s3 : (List Int)) (y0 : D26) : Option ((Int × (List D26) × Int × (List Int)) ⊕ ((Int × (List D26) × Int × (List Int)))) :=
  bif (P35 y0 s3) then
  let q10 : (Unit × ((List Int) × Unit)) := F35 y0 s3
  some (.inl (s0, s1, s2, q10.2.1))
  else none
def R24_7_step (b : Int × (List D26) × Int × (List Int)) (y : Y10039) : Option ((Int × (List D26) × Int × (List Int)) ⊕ ((Int × (List D26) × Int × (List Int)))) := R24_7_r b.1 b.2.1 b.2.2.1 b.2.2.2 y
def loops24 : Nat → Option (Sum) := fun | 7 => some (rangeSum env24 39 26 R24_7_esh I10039 R24_7_pk R24_7_un R24_7_step R24_7_leave) | _ => none
theorem loops24_nat : ∀ q f, loops24 q = some f → Natural f := by
  intro q f h
  unfold loops24 at h
  split at h
  · cases h; exact natural_range R24_7_lvn
  · cases h
theorem loops24_ok : LoopsOk env24 orc24 loops24 body24 := loopsOk_nil (by kernel_rfl)
noncomputable def R24_7_code : Code := (rangesOf body24).getD 0 .skip
theorem R24_7_round (s0 : Int) (s1 : (List D26)) (s2 : Int) (s3 : (List Int)) (y0 : D26) : roundQ env24 orc24 loops24 R24_7_esh R24_7_pk R24_7_d R24_7_code (I10039.enc y0) ((), ((), ((), (s0, (s1, (s2, ((), (s3, ())))))))) = R24_7_r s0 s1 s2 s3 y0 := by kernel_rfl
theorem R24_7_form : R24_7_code = .rangeFunc (.tmp 26) (rgPs R24_7_code) (rgAsg R24_7_code) (rgBody R24_7_code) := by kernel_rfl
theorem R24_7_len (y : Y10039) : (rgPs R24_7_code).toList.length = (I10039.enc y).length := by kernel_rfl
theorem R24_7_ok (hE : EnvOk Try.prog env24) (hm : Try.prog.follows .mixedOrders = true) (hI : IterOk Try.prog glob 39 I10039) : RangeOk Try.prog env24 orc24.n R24_7_code (rangeSum env24 39 26 R24_7_esh I10039 R24_7_pk R24_7_un R24_7_step R24_7_leave) :=
  rangeOk' (L := loops24) hE hm hI R24_7_form (loopsOk_nil (by kernel_rfl)) (loopsOk_nil (by kernel_rfl)) (by kernel_rfl) (by kernel_rfl) (by kernel_rfl) (by kernel_rfl) (pk := R24_7_pk) (un := R24_7_un) (fun _ => rfl) R24_7_dk R24_7_lv R24_7_len fun b y => R24_7_round b.1 b.2.1 b.2.2.1 b.2.2.2 y
theorem ranges24_all : rangesOf body24 = [R24_7_code] := by kernel_rfl
theorem R24_7_key : lookL loops24 (keyOf R24_7_code) = some (rangeSum env24 39 26 R24_7_esh I10039 R24_7_pk R24_7_un R24_7_step R24_7_leave) := by kernel_rfl
theorem ranges24_ok (hE : EnvOk Try.prog env24) (hm : Try.prog.follows .mixedOrders = true) (hI10039 : IterOk Try.prog glob 39 I10039) : RangesOk Try.prog env24 orc24.n loops24 body24 := by
  intro c hc f hf
  rw [ranges24_all] at hc
  simp only [List.mem_cons, List.not_mem_nil, or_false] at hc
  subst hc
  · rw [R24_7_key] at hf; cases hf; exact R24_7_ok hE hm hI10039
def G24 (x0 : D23) (x1 : Int) : Option ((List Int) × Int) :=
  let v1 : (List Int) := ([] : (List Int))
  bif (P28 x0) then
  let q2 : (Bool × (Bool × (Unit × (Int × ((List D26) × (Int × ((List Bool) × Unit))))))) := F28 x0
  let v3 : Bool := (!q2.2.1)
  bif ((P32 x1 (0 : Int) (999 : Int)) || !(!v3 && true)) then
  let v4 : Bool := (F32 x1 (0 : Int) (999 : Int))
  let v5 : Bool := (!v4)
  let v6 : Bool := (bif v3 then true else v5)
  bif v6 then
  let v7 : (List Int) := ([] : (List Int))
  some (v7, (310 : Int))
  else
  let v8 : (List Int) := (List.replicate 12 (0 : Int))
  bif (P10033 q2.1 q2.2.2.2.1 q2.2.2.2.2.1 q2.2.2.2.2.2.1 q2.2.2.2.2.2.2.1 x1 q2.1) then
  let q9 : (Unit × (Unit × (Int × ((List D26) × (Int × ((List Bool) × (Unit × (Int × (Unit × (Bool × (Unit × (Bool × (Unit × (Unit × Unit)))))))))))))) := F10033 q2.1 q2.2.2.2.1 q2.2.2.2.2.1 q2.2.2.2.2.2.1 q2.2.2.2.2.2.2.1 x1 q2.1
  Option.bind ((W10039 q9.2.2.2.2.2.2.2.2.2.2.2.1 q9.2.2.1 q9.2.2.2.1 q9.2.2.2.2.1 q9.2.2.2.2.2.1 q9.2.2.2.2.2.2.2.1 q9.2.2.2.2.2.2.2.2.2.1).ys) fun ys => Option.bind (foldX R24_7_step ys (x0.1, x0.2.1, x0.2.2.1, v8)) fun z => match z with
  | .inl (r11 : Int × (List D26) × Int × (List Int)) =>
  bif (P36 r11.2.2.2 r11.1) then
  let v12 : (List Int) := (F36 r11.2.2.2 r11.1)
  some (v12, (0 : Int))
  else none
  | .inr r11 =>
  none
  else none
  else none
  else none
theorem ev24 (x0 : D23) (x1 : Int) : ev2 env24 orc24 loops24 body24 (initSt 0 [⟨t23, x0⟩, ⟨(.int .i64), x1⟩]) (retT [(4, .own 3 (.int .i64)), (5, .dat (.int .i64))] [(.list (.int .i64)), (.int .i64)] fun x => (x.1, x.2.1)) = G24 x0 x1 := by kernel_rfl
def P24 (x0 : D23) (x1 : Int) : Bool := (G24 x0 x1).isSome
def F24 (x0 : D23) (x1 : Int) : (List Int) × Int := (G24 x0 x1).getD default
theorem G24_some (x0 : D23) (x1 : Int) (h : P24 x0 x1 = true) : G24 x0 x1 = some (F24 x0 x1) := by
  unfold P24 at h; unfold F24
  cases hg : G24 x0 x1 with
  | none => rw [hg] at h; cases h
  | some r => rfl
theorem P24_of (x0 : D23) (x1 : Int) {r : (List Int) × Int} (h : G24 x0 x1 = some r) : P24 x0 x1 = true := by unfold P24; rw [h]; rfl
theorem F24_of (x0 : D23) (x1 : Int) {r : (List Int) × Int} (h : G24 x0 x1 = some r) : F24 x0 x1 = r := by unfold F24; rw [h]; rfl
def spec24 : Spec := ⟨[t23, (.int .i64)], [.own 3 (.int .i64), .dat (.int .i64)], fun | [a0, a1] => P24 (a0.as t23) (a1.as (.int .i64)) | _ => false, fun | [a0, a1] => [⟨(.list (.int .i64)), (F24 (a0.as t23) (a1.as (.int .i64))).1⟩, ⟨(.int .i64), (F24 (a0.as t23) (a1.as (.int .i64))).2⟩] | _ => []⟩
theorem meets24 (hE : EnvOk Try.prog env24) (hm : Try.prog.follows .mixedOrders = true) (hI10039 : IterOk Try.prog glob 39 I10039) : Meets Try.prog glob 24 spec24 :=
  meets_of_ev2 (O := orc24) (L := loops24) (c := body24) (slots := [4, 5]) hE hm Try.func24 Try.call24 (by kernel_rfl) (by kernel_rfl) loops24_ok (ranges24_ok hE hm hI10039) (by kernel_rfl) rfl (by decide) (fun ds hds hpre => by
  obtain ⟨x0, ds0, rfl, h0⟩ := datsS hds
  obtain ⟨x1, ds1, rfl, h1⟩ := datsS h0
  have h9 := dats0 h1; subst h9
  exact ev_ret (un := fun r => [⟨(.list (.int .i64)), r.1⟩, ⟨(.int .i64), r.2⟩]) loops24_nat (fun _ => rfl) ((ev24 x0 x1).trans (G24_some x0 x1 hpre)))
def env21 : Env where
  tab := tab
  glob := glob
  spec := fun
    | 19 => some spec19
    | _ => none
def orc21 : Orc := ⟨32, fun _ => none, fun
  | 0 => kp [1, 2, 3] [(3, [0, 1, 2])]
  | 1 => kp [1, 8, 9] []
  | 2 => kp [1, 8, 27] []
  | 3 => kp [6, 7] []
  | 4 => kp [6, 7] []
  | _ => [], fun | _ => false⟩
noncomputable def body21 : Code := Try.f21.body.getD .skip
def loops21 : Nat → Option (Sum) := fun | _ => none
theorem loops21_nat : ∀ q f, loops21 q = some f → Natural f := by
  intro q f h
  cases h
theorem loops21_ok : LoopsOk env21 orc21 loops21 body21 := loopsOk_nil (by kernel_rfl)
def G21 (x0 : D23) (x1 : Int) (x2 : Int) : Option (Int × Int) :=
  bif (P19 x0 x2) then
  let v1 : ((List Int) × Int) := (F19 x0 x2)
  let v2 : Bool := (v1.2 != (0 : Int))
  let v3 : Bool := (decide (x1 < (0 : Int)))
  let v4 : Bool := (bif v2 then true else v3)
  let v5 : Int := (((List.length v1.1) : Nat) : Int)
  let v6 : Bool := (decide (x1 ≥ v5))
  let v7 : Bool := (bif v4 then true else v6)
  bif v7 then
  some ((0 : Int), (310 : Int))
  else
  bif (decide (0 ≤ x1) && decide (x1 < (List.length v1.1))) then
  bif (decide ((Int.toNat x1) < List.length v1.1)) then
  let v8 : Int := (List.getD v1.1 (Int.toNat x1) (0 : Int))
  some (v8, (0 : Int))
  else none
  else none
  else none
theorem ev21 (x0 : D23) (x1 : Int) (x2 : Int) : ev2 env21 orc21 loops21 body21 (initSt 0 [⟨t23, x0⟩, ⟨(.int .i64), x1⟩, ⟨(.int .i64), x2⟩]) (retT [(6, .dat (.int .i64)), (7, .dat (.int .i64))] [(.int .i64), (.int .i64)] fun x => (x.1, x.2.1)) = G21 x0 x1 x2 := by kernel_rfl
def P21 (x0 : D23) (x1 : Int) (x2 : Int) : Bool := (G21 x0 x1 x2).isSome
def F21 (x0 : D23) (x1 : Int) (x2 : Int) : Int × Int := (G21 x0 x1 x2).getD default
theorem G21_some (x0 : D23) (x1 : Int) (x2 : Int) (h : P21 x0 x1 x2 = true) : G21 x0 x1 x2 = some (F21 x0 x1 x2) := by
  unfold P21 at h; unfold F21
  cases hg : G21 x0 x1 x2 with
  | none => rw [hg] at h; cases h
  | some r => rfl
theorem P21_of (x0 : D23) (x1 : Int) (x2 : Int) {r : Int × Int} (h : G21 x0 x1 x2 = some r) : P21 x0 x1 x2 = true := by unfold P21; rw [h]; rfl
theorem F21_of (x0 : D23) (x1 : Int) (x2 : Int) {r : Int × Int} (h : G21 x0 x1 x2 = some r) : F21 x0 x1 x2 = r := by unfold F21; rw [h]; rfl
def spec21 : Spec := ⟨[t23, (.int .i64), (.int .i64)], [.dat (.int .i64), .dat (.int .i64)], fun | [a0, a1, a2] => P21 (a0.as t23) (a1.as (.int .i64)) (a2.as (.int .i64)) | _ => false, fun | [a0, a1, a2] => [⟨(.int .i64), (F21 (a0.as t23) (a1.as (.int .i64)) (a2.as (.int .i64))).1⟩, ⟨(.int .i64), (F21 (a0.as t23) (a1.as (.int .i64)) (a2.as (.int .i64))).2⟩] | _ => []⟩
theorem meets21 (hE : EnvOk Try.prog env21) (hm : Try.prog.follows .mixedOrders = true) : Meets Try.prog glob 21 spec21 :=
  meets_of_ev2 (O := orc21) (L := loops21) (c := body21) (slots := [6, 7]) hE hm Try.func21 Try.call21 (by kernel_rfl) (by kernel_rfl) loops21_ok (rangesOk_nil (by kernel_rfl)) (by kernel_rfl) rfl (by decide) (fun ds hds hpre => by
  obtain ⟨x0, ds0, rfl, h0⟩ := datsS hds
  obtain ⟨x1, ds1, rfl, h1⟩ := datsS h0
  obtain ⟨x2, ds2, rfl, h2⟩ := datsS h1
  have h9 := dats0 h2; subst h9
  exact ev_ret (un := fun r => [⟨(.int .i64), r.1⟩, ⟨(.int .i64), r.2⟩]) loops21_nat (fun _ => rfl) ((ev21 x0 x1 x2).trans (G21_some x0 x1 x2 hpre)))
def pin10038 : Shape := [(.slot 0, .mptr 50000 0), (.slot 1, .dat t26), (.box 50000, .bx 58 203), (.cell 50000 0, .dat (.int .i64)), (.cell 50000 1, .own 27 t26), (.cell 50000 2, .dat (.int .i64)), (.cell 50000 3, .dat (.arr 200 .bool))]
def pout10038 : Shape := [(.slot 0, .dat .bool), (.box 50000, .bx 58 203), (.cell 50000 0, .dat (.int .i64)), (.cell 50000 1, .own 27 t26), (.cell 50000 2, .dat (.int .i64)), (.cell 50000 3, .dat (.arr 200 .bool))]
def env10038 : Env where
  tab := tab
  glob := glob
  spec := fun
    | 40 => some spec40
    | 41 => some spec41
    | _ => none
def orc10038 : Orc := ⟨91, fun _ => none, fun
  | 0 => kp [0, 3] [(3, [0, 1, 2, 3, 4, 5, 6]), (50000, [0, 1, 2, 3])]
  | 1 => kp [0, 3, 5] [(3, [0, 1, 2, 3, 4, 5, 6]), (50000, [0, 1, 2, 3])]
  | 2 => kp [0, 3, 5, 42] [(3, [0, 1, 2, 3, 4, 5, 6]), (50000, [0, 1, 2, 3])]
  | 3 => kp [4] [(50000, [0, 1, 2, 3])]
  | 4 => kp [0, 3, 5, 45] [(3, [0, 1, 2, 3, 4, 5, 6]), (50000, [0, 1, 2, 3])]
  | 5 => kp [0, 3, 72] [(3, [0, 1, 2, 3, 4, 5, 6]), (50000, [0, 1, 2, 3])]
  | 6 => kp [4] [(50000, [0, 1, 2, 3])]
  | 7 => kp [0, 3] [(3, [0, 1, 2, 3, 4, 5, 6]), (50000, [0, 1, 2, 3])]
  | 8 => kp [] [(50000, [0, 1, 2, 3])]
  | 9 => kp [4] [(50000, [0, 1, 2, 3])]
  | _ => [], fun | _ => false⟩
noncomputable def body10038 : Code := Try.f38.body.getD .skip
def loops10038 : Nat → Option (Sum) := fun | _ => none
theorem loops10038_nat : ∀ q f, loops10038 q = some f → Natural f := by
  intro q f h
  cases h
theorem loops10038_ok : LoopsOk env10038 orc10038 loops10038 body10038 := loopsOk_nil (by kernel_rfl)
def G10038 (x0 : Bool) (x1 : D26) (x2 : Int) (x3 : (List D26)) (x4 : Int) (x5 : (List Bool)) : Option (Bool × (Unit × (Int × ((List D26) × (Int × ((List Bool) × Unit)))))) :=
  bif (x0) then
  let v1 : Int := (((List.length x3) : Nat) : Int)
  let v2 : Bool := (decide (v1 ≥ (200 : Int)))
  bif ((x0) || !(!v2 && true)) then
  bif ((P40 x1 x2) || !(!v2 && true)) then
  let v3 : Bool := (F40 x1 x2)
  let v4 : Bool := (!v3)
  let v5 : Bool := (bif v2 then true else v4)
  let v6 : Bool := (decide (v1 > (0 : Int)))
  bif ((x0) || !(v6 && (!v5 && true))) then
  let v7 : Int := (IntKind.i64.wrap (v1 - (1 : Int)))
  bif ((decide (0 ≤ v7) && decide (v7 < (List.length x3))) || !(v6 && (!v5 && true))) then
  bif ((decide ((Int.toNat v7) < List.length x3)) || !(v6 && (!v5 && true))) then
  let v8 : Int := ((List.getD x3 (Int.toNat v7) z26).2).1
  let v9 : Bool := (decide (x1.2.1 < v8))
  let v10 : Bool := (bif v6 then v9 else false)
  let v11 : Bool := (bif v5 then true else v10)
  bif v11 then
  some (false, ((), (x2, (x3, (x4, (x5, ()))))))
  else
  let v12 : Bool := (x1.1 == (2 : Int))
  bif v12 then
  let v13 : Bool := (decide (x1.2.2.2.2.2.2.1 ≥ v1))
  bif ((x0) || !(!v13 && true)) then
  bif ((decide (0 ≤ x1.2.2.2.2.2.2.1) && decide (x1.2.2.2.2.2.2.1 < (200 : Nat))) || !(!v13 && true)) then
  bif ((decide ((Int.toNat x1.2.2.2.2.2.2.1) < List.length x5)) || !(!v13 && true)) then
  let v14 : Bool := (List.getD x5 (Int.toNat x1.2.2.2.2.2.2.1) false)
  let v15 : Bool := (bif v13 then true else v14)
  bif ((x0) || !(!v15 && true)) then
  bif ((decide (0 ≤ x1.2.2.2.2.2.2.1) && decide (x1.2.2.2.2.2.2.1 < (List.length x3))) || !(!v15 && true)) then
  bif ((decide ((Int.toNat x1.2.2.2.2.2.2.1) < List.length x3)) || !(!v15 && true)) then
  let v16 : D26 := (List.getD x3 (Int.toNat x1.2.2.2.2.2.2.1) z26)
  bif ((P41 x1 v16) || !(!v15 && true)) then
  let v17 : Bool := (F41 x1 v16)
  let v18 : Bool := (!v17)
  let v19 : Bool := (bif v15 then true else v18)
  bif v19 then
  some (false, ((), (x2, (x3, (x4, (x5, ()))))))
  else
  bif (x0) then
  bif (decide (0 ≤ x1.2.2.2.2.2.2.1) && decide (x1.2.2.2.2.2.2.1 < (200 : Nat))) then
  bif (decide ((Int.toNat x1.2.2.2.2.2.2.1) < List.length x5)) then
  let v20 : (List Bool) := (List.set x5 (Int.toNat x1.2.2.2.2.2.2.1) true)
  bif (x0) then
  let v21 : (List D26) := (List.set (List.replicate 1 z26) 0 x1)
  bif (decide (List.length (List.take (List.length x3) x3) + List.length v21 ≤ 100000000000)) then
  let v22 : (List D26) := ((List.take (List.length x3) x3) ++ v21)
  bif (x0) then
  some (true, ((), (x2, (v22, (x4, (v20, ()))))))
  else none
  else none
  else none
  else none
  else none
  else none
  else none
  else none
  else none
  else none
  else none
  else none
  else none
  else
  bif (x0) then
  let v23 : (List D26) := (List.set (List.replicate 1 z26) 0 x1)
  bif (decide (List.length (List.take (List.length x3) x3) + List.length v23 ≤ 100000000000)) then
  let v24 : (List D26) := ((List.take (List.length x3) x3) ++ v23)
  bif (x0) then
  some (true, ((), (x2, (v24, (x4, (x5, ()))))))
  else none
  else none
  else none
  else none
  else none
  else none
  else none
  else none
  else none
def P10038 (x0 : Bool) (x1 : D26) (x2 : Int) (x3 : (List D26)) (x4 : Int) (x5 : (List Bool)) : Bool := (G10038 x0 x1 x2 x3 x4 x5).isSome
def F10038 (x0 : Bool) (x1 : D26) (x2 : Int) (x3 : (List D26)) (x4 : Int) (x5 : (List Bool)) : (Bool × (Unit × (Int × ((List D26) × (Int × ((List Bool) × Unit)))))) := (G10038 x0 x1 x2 x3 x4 x5).getD (Tup.zero pout10038)
theorem P10038_of (x0 : Bool) (x1 : D26) (x2 : Int) (x3 : (List D26)) (x4 : Int) (x5 : (List Bool)) {r : (Bool × (Unit × (Int × ((List D26) × (Int × ((List Bool) × Unit))))))} (h : G10038 x0 x1 x2 x3 x4 x5 = some r) : P10038 x0 x1 x2 x3 x4 x5 = true := by unfold P10038; rw [h]; rfl
theorem F10038_of (x0 : Bool) (x1 : D26) (x2 : Int) (x3 : (List D26)) (x4 : Int) (x5 : (List Bool)) {r : (Bool × (Unit × (Int × ((List D26) × (Int × ((List Bool) × Unit))))))} (h : G10038 x0 x1 x2 x3 x4 x5 = some r) : F10038 x0 x1 x2 x3 x4 x5 = r := by unfold F10038; rw [h]; rfl
theorem ev10038 (x0 : Bool) (x1 : D26) (x2 : Int) (x3 : (List D26)) (x4 : Int) (x5 : (List Bool)) : ev2 env10038 orc10038 loops10038 body10038 (mkSt pin10038 (x0, (x1, ((), (x2, (x3, (x4, (x5, ())))))))) (retK3 env10038 [.slot 4] pout10038) = G10038 x0 x1 x2 x3 x4 x5 := by kernel_rfl
def sp10038 : Spec2 := ⟨pin10038, pout10038, fun s => G10038 s.1 s.2.1 s.2.2.2.1 s.2.2.2.2.1 s.2.2.2.2.2.1 s.2.2.2.2.2.2.1⟩
theorem fit10038 : Fit Try.f38 [.slot 4] sp10038 := ⟨by kernel_rfl, by kernel_rfl, by kernel_rfl, by kernel_rfl, by kernel_rfl, by decide, by decide, by decide⟩
theorem meets10038 (hE : EnvOk Try.prog env10038) (hm : Try.prog.follows .mixedOrders = true) : Meets2 Try.prog glob 38 sp10038 :=
  meets2_of_ev2 (O := orc10038) (L := loops10038) (c := body10038) (rs := [.slot 4]) hE (fun _ => rfl) hm Try.func38 Try.call38 (by kernel_rfl) (by kernel_rfl) loops10038_ok (rangesOk_nil (by kernel_rfl)) fit10038 (fun s o h => (ev10038 s.1 s.2.1 s.2.2.2.1 s.2.2.2.2.1 s.2.2.2.2.2.1 s.2.2.2.2.2.2.1).trans h)
def pin29 : Shape := [(.slot 0, .mptr 50000 0), (.slot 1, .dat t26), (.box 50000, .bx 58 203), (.cell 50000 0, .dat (.int .i64)), (.cell 50000 1, .own 27 t26), (.cell 50000 2, .dat (.int .i64)), (.cell 50000 3, .dat (.arr 200 .bool))]
def pout29 : Shape := [(.slot 0, .dat .bool), (.box 50000, .bx 58 203), (.cell 50000 0, .dat (.int .i64)), (.cell 50000 1, .own 27 t26), (.cell 50000 2, .dat (.int .i64)), (.cell 50000 3, .dat (.arr 200 .bool))]
def env29 : Env where
  tab := tab
  glob := glob
  spec := fun
    | _ => none
  spec2 := fun
    | 38, [] => some sp10038
    | _, _ => none
def orc29 : Orc := ⟨19, fun _ => none, fun
  | 0 => kp [0, 3] [(3, [0, 1, 2, 3, 4, 5, 6]), (50000, [0, 1, 2, 3])]
  | 1 => kp [4] [(50000, [0, 1, 2, 3])]
  | _ => [], fun | _ => false⟩
noncomputable def body29 : Code := Try.f29.body.getD .skip
def loops29 : Nat → Option (Sum) := fun | _ => none
theorem loops29_nat : ∀ q f, loops29 q = some f → Natural f := by
  intro q f h
  cases h
theorem loops29_ok : LoopsOk env29 orc29 loops29 body29 := loopsOk_nil (by kernel_rfl)
def G29 (x0 : Bool) (x1 : D26) (x2 : Int) (x3 : (List D26)) (x4 : Int) (x5 : (List Bool)) : Option (Bool × (Unit × (Int × ((List D26) × (Int × ((List Bool) × Unit)))))) :=
  bif (x0) then
  let v1 : Int := (IntKind.i64.wrap ((30 : Int) * x4))
  let v2 : Bool := (decide (x1.2.1 ≥ v1))
  bif ((P10038 x0 x1 x2 x3 x4 x5) || !(v2 && true)) then
  let q3 : (Bool × (Unit × (Int × ((List D26) × (Int × ((List Bool) × Unit)))))) := F10038 x0 x1 x2 x3 x4 x5
  let v4 : Int := (bif (v2 && true) then q3.2.2.1 else x2)
  let v5 : (List D26) := (bif (v2 && true) then q3.2.2.2.1 else x3)
  let v6 : Int := (bif (v2 && true) then q3.2.2.2.2.1 else x4)
  let v7 : (List Bool) := (bif (v2 && true) then q3.2.2.2.2.2.1 else x5)
  let v8 : Bool := (bif v2 then q3.1 else false)
  some (v8, ((), (v4, (v5, (v6, (v7, ()))))))
  else none
  else none
def P29 (x0 : Bool) (x1 : D26) (x2 : Int) (x3 : (List D26)) (x4 : Int) (x5 : (List Bool)) : Bool := (G29 x0 x1 x2 x3 x4 x5).isSome
def F29 (x0 : Bool) (x1 : D26) (x2 : Int) (x3 : (List D26)) (x4 : Int) (x5 : (List Bool)) : (Bool × (Unit × (Int × ((List D26) × (Int × ((List Bool) × Unit)))))) := (G29 x0 x1 x2 x3 x4 x5).getD (Tup.zero pout29)
theorem P29_of (x0 : Bool) (x1 : D26) (x2 : Int) (x3 : (List D26)) (x4 : Int) (x5 : (List Bool)) {r : (Bool × (Unit × (Int × ((List D26) × (Int × ((List Bool) × Unit))))))} (h : G29 x0 x1 x2 x3 x4 x5 = some r) : P29 x0 x1 x2 x3 x4 x5 = true := by unfold P29; rw [h]; rfl
theorem F29_of (x0 : Bool) (x1 : D26) (x2 : Int) (x3 : (List D26)) (x4 : Int) (x5 : (List Bool)) {r : (Bool × (Unit × (Int × ((List D26) × (Int × ((List Bool) × Unit))))))} (h : G29 x0 x1 x2 x3 x4 x5 = some r) : F29 x0 x1 x2 x3 x4 x5 = r := by unfold F29; rw [h]; rfl
theorem ev29 (x0 : Bool) (x1 : D26) (x2 : Int) (x3 : (List D26)) (x4 : Int) (x5 : (List Bool)) : ev2 env29 orc29 loops29 body29 (mkSt pin29 (x0, (x1, ((), (x2, (x3, (x4, (x5, ())))))))) (retK3 env29 [.slot 4] pout29) = G29 x0 x1 x2 x3 x4 x5 := by kernel_rfl
def sp29 : Spec2 := ⟨pin29, pout29, fun s => G29 s.1 s.2.1 s.2.2.2.1 s.2.2.2.2.1 s.2.2.2.2.2.1 s.2.2.2.2.2.2.1⟩
theorem fit29 : Fit Try.f29 [.slot 4] sp29 := ⟨by kernel_rfl, by kernel_rfl, by kernel_rfl, by kernel_rfl, by kernel_rfl, by decide, by decide, by decide⟩
theorem meets29 (hE : EnvOk Try.prog env29) (hm : Try.prog.follows .mixedOrders = true) : Meets2 Try.prog glob 29 sp29 :=
  meets2_of_ev2 (O := orc29) (L := loops29) (c := body29) (rs := [.slot 4]) hE (fun _ => rfl) hm Try.func29 Try.call29 (by kernel_rfl) (by kernel_rfl) loops29_ok (rangesOk_nil (by kernel_rfl)) fit29 (fun s o h => (ev29 s.1 s.2.1 s.2.2.2.1 s.2.2.2.2.1 s.2.2.2.2.2.1 s.2.2.2.2.2.2.1).trans h)
def pin9 : Shape := [(.slot 0, .dat t23), (.slot 1, .dat t26)]
def pout9 : Shape := [(.slot 0, .dat t23), (.slot 1, .dat (.int .i64)), (.slot 2, .dat (.int .i64))]
def env9 : Env where
  tab := tab
  glob := glob
  spec := fun
    | _ => none
  spec2 := fun
    | 28, [] => some sp28
    | 29, [] => some sp29
    | _, _ => none
def orc9 : Orc := ⟨30, fun _ => none, fun
  | 0 => kp [2, 3, 4] [(2, [0, 1, 2]), (3, [0, 1, 2, 3, 4, 5, 6]), (4, [0, 1, 2])]
  | 1 => kp [2, 3, 4, 7, 8] [(2, [0, 1, 2]), (3, [0, 1, 2, 3, 4, 5, 6]), (4, [0, 1, 2]), (1200013, [0, 1, 2, 3])]
  | 2 => kp [2, 4, 7, 21] [(2, [0, 1, 2]), (4, [0, 1, 2]), (1200013, [0, 1, 2, 3])]
  | 3 => kp [4, 5, 6] [(4, [0, 1, 2])]
  | 4 => kp [4, 5, 6] [(4, [0, 1, 2])]
  | _ => [], fun | _ => false⟩
noncomputable def body9 : Code := Try.f9.body.getD .skip
def loops9 : Nat → Option (Sum) := fun | _ => none
theorem loops9_nat : ∀ q f, loops9 q = some f → Natural f := by
  intro q f h
  cases h
theorem loops9_ok : LoopsOk env9 orc9 loops9 body9 := loopsOk_nil (by kernel_rfl)
def G9 (x0 : D23) (x1 : D26) : Option (D23 × (Int × (Int × Unit))) :=
  let v1 : (List D26) := ([] : (List D26))
  let v2 : (List D26) := ([] : (List D26))
  bif (P28 x0) then
  let q3 : (Bool × (Bool × (Unit × (Int × ((List D26) × (Int × ((List Bool) × Unit))))))) := F28 x0
  let v4 : Bool := (!q3.2.1)
  bif ((P29 q3.1 x1 q3.2.2.2.1 q3.2.2.2.2.1 q3.2.2.2.2.2.1 q3.2.2.2.2.2.2.1) || !(!v4 && true)) then
  let q5 : (Bool × (Unit × (Int × ((List D26) × (Int × ((List Bool) × Unit)))))) := F29 q3.1 x1 q3.2.2.2.1 q3.2.2.2.2.1 q3.2.2.2.2.2.1 q3.2.2.2.2.2.2.1
  let v6 : Int := (bif (!v4 && true) then q5.2.2.1 else q3.2.2.2.1)
  let v7 : (List D26) := (bif (!v4 && true) then q5.2.2.2.1 else q3.2.2.2.2.1)
  let v8 : Int := (bif (!v4 && true) then q5.2.2.2.2.1 else q3.2.2.2.2.2.1)
  let v9 : (List Bool) := (bif (!v4 && true) then q5.2.2.2.2.2.1 else q3.2.2.2.2.2.2.1)
  let v10 : Bool := (!q5.1)
  let v11 : Bool := (bif v4 then true else v10)
  bif v11 then
  let v12 : (List D26) := ([] : (List D26))
  some (((0 : Int), (v12, ((0 : Int), ()))), ((0 : Int), ((310 : Int), ())))
  else
  bif (q3.1) then
  let v13 : Int := ((List.length x0.2.1 : Nat) : Int)
  some ((v6, (v7, (v8, ()))), (v13, ((0 : Int), ())))
  else none
  else none
  else none
def P9 (x0 : D23) (x1 : D26) : Bool := (G9 x0 x1).isSome
def F9 (x0 : D23) (x1 : D26) : (D23 × (Int × (Int × Unit))) := (G9 x0 x1).getD (Tup.zero pout9)
theorem P9_of (x0 : D23) (x1 : D26) {r : (D23 × (Int × (Int × Unit)))} (h : G9 x0 x1 = some r) : P9 x0 x1 = true := by unfold P9; rw [h]; rfl
theorem F9_of (x0 : D23) (x1 : D26) {r : (D23 × (Int × (Int × Unit)))} (h : G9 x0 x1 = some r) : F9 x0 x1 = r := by unfold F9; rw [h]; rfl
theorem ev9 (x0 : D23) (x1 : D26) : ev2 env9 orc9 loops9 body9 (mkSt pin9 (x0, (x1, ()))) (retK3 env9 [.cell 4 24, .slot 5, .slot 6] pout9) = G9 x0 x1 := by kernel_rfl
def sp9 : Spec2 := ⟨pin9, pout9, fun s => G9 s.1 s.2.1⟩
theorem fit9 : Fit Try.f9 [.cell 4 24, .slot 5, .slot 6] sp9 := ⟨by kernel_rfl, by kernel_rfl, by kernel_rfl, by kernel_rfl, by kernel_rfl, by decide, by decide, by decide⟩
theorem meets9 (hE : EnvOk Try.prog env9) (hm : Try.prog.follows .mixedOrders = true) : Meets2 Try.prog glob 9 sp9 :=
  meets2_of_ev2 (O := orc9) (L := loops9) (c := body9) (rs := [.cell 4 24, .slot 5, .slot 6]) hE (fun _ => rfl) hm Try.func9 Try.call9 (by kernel_rfl) (by kernel_rfl) loops9_ok (rangesOk_nil (by kernel_rfl)) fit9 (fun s o h => (ev9 s.1 s.2.1).trans h)
def pin15 : Shape := [(.slot 0, .dat t23), (.slot 1, .dat (.int .i64)), (.slot 2, .dat (.int .i64)), (.slot 3, .dat (.int .i64))]
def pout15 : Shape := [(.slot 0, .dat t23), (.slot 1, .dat (.int .i64))]
def env15 : Env where
  tab := tab
  glob := glob
  spec := fun
    | 32 => some spec32
    | _ => none
  spec2 := fun
    | 28, [] => some sp28
    | 29, [] => some sp29
    | _, _ => none
def orc15 : Orc := ⟨77, fun _ => none, fun
  | 0 => kp [1, 2, 3, 4, 8] [(4, [0, 1, 2]), (8, [0, 1, 2])]
  | 1 => kp [1, 2, 3, 4, 8, 10, 11] [(4, [0, 1, 2]), (8, [0, 1, 2]), (1700013, [0, 1, 2, 3])]
  | 2 => kp [1, 2, 3, 4, 8, 10, 36] [(4, [0, 1, 2]), (8, [0, 1, 2]), (1700013, [0, 1, 2, 3])]
  | 3 => kp [8, 9] [(8, [0, 1, 2])]
  | 4 => kp [1, 2, 3, 8, 10, 12] [(8, [0, 1, 2]), (12, [0, 1, 2, 3, 4, 5, 6]), (1700013, [0, 1, 2, 3])]
  | 5 => kp [2, 3, 8, 10, 12, 13] [(8, [0, 1, 2]), (12, [0, 1, 2, 3, 4, 5, 6]), (13, [0, 1, 2, 3, 4, 5, 6]), (1700013, [0, 1, 2, 3])]
  | 6 => kp [3, 8, 10, 12, 13] [(8, [0, 1, 2]), (12, [0, 1, 2, 3, 4, 5, 6]), (13, [0, 1, 2, 3, 4, 5, 6]), (1700013, [0, 1, 2, 3])]
  | 7 => kp [8, 10, 71] [(8, [0, 1, 2]), (1700013, [0, 1, 2, 3])]
  | 8 => kp [8, 9] [(8, [0, 1, 2])]
  | 9 => kp [8, 9] [(8, [0, 1, 2])]
  | _ => [], fun | _ => false⟩
noncomputable def body15 : Code := Try.f15.body.getD .skip
def loops15 : Nat → Option (Sum) := fun | _ => none
theorem loops15_nat : ∀ q f, loops15 q = some f → Natural f := by
  intro q f h
  cases h
theorem loops15_ok : LoopsOk env15 orc15 loops15 body15 := loopsOk_nil (by kernel_rfl)
def G15 (x0 : D23) (x1 : Int) (x2 : Int) (x3 : Int) : Option (D23 × (Int × Unit)) :=
  let v1 : (List D26) := ([] : (List D26))
  let v2 : (List D26) := ([] : (List D26))
  bif (P28 x0) then
  let q3 : (Bool × (Bool × (Unit × (Int × ((List D26) × (Int × ((List Bool) × Unit))))))) := F28 x0
  let v4 : Bool := (!q3.2.1)
  let v5 : Bool := (decide (x1 < (0 : Int)))
  let v6 : Bool := (bif v4 then true else v5)
  let v7 : Int := ((List.length x0.2.1 : Nat) : Int)
  let v8 : Bool := (decide (x1 ≥ v7))
  let v9 : Bool := (bif v6 then true else v8)
  bif ((P32 x3 (0 : Int) (1000000000 : Int)) || !(!v9 && true)) then
  let v10 : Bool := (F32 x3 (0 : Int) (1000000000 : Int))
  let v11 : Bool := (!v10)
  let v12 : Bool := (bif v9 then true else v11)
  bif v12 then
  let v13 : (List D26) := ([] : (List D26))
  some (((0 : Int), (v13, ((0 : Int), ()))), ((310 : Int), ()))
  else
  bif (decide (0 ≤ x1) && decide (x1 < List.length x0.2.1)) then
  let v14 : D26 := (List.getD x0.2.1 (Int.toNat x1) z26)
  bif (P29 q3.1 ((2 : Int), (x2, (v14.2.2.2.1, (v14.2.2.1, (v14.2.2.2.2.1, (v14.2.2.2.2.2.1, (x1, ()))))))) q3.2.2.2.1 q3.2.2.2.2.1 q3.2.2.2.2.2.1 q3.2.2.2.2.2.2.1) then
  let q15 : (Bool × (Unit × (Int × ((List D26) × (Int × ((List Bool) × Unit)))))) := F29 q3.1 ((2 : Int), (x2, (v14.2.2.2.1, (v14.2.2.1, (v14.2.2.2.2.1, (v14.2.2.2.2.2.1, (x1, ()))))))) q3.2.2.2.1 q3.2.2.2.2.1 q3.2.2.2.2.2.1 q3.2.2.2.2.2.2.1
  let v16 : Bool := (!q15.1)
  let v17 : Bool := (decide (x3 > (0 : Int)))
  bif ((P29 q3.1 (v14.1, (x2, (v14.2.2.1, (v14.2.2.2.1, (x3, v14.2.2.2.2.2))))) q15.2.2.1 q15.2.2.2.1 q15.2.2.2.2.1 q15.2.2.2.2.2.1) || !(v17 && (!v16 && true))) then
  let q18 : (Bool × (Unit × (Int × ((List D26) × (Int × ((List Bool) × Unit)))))) := F29 q3.1 (v14.1, (x2, (v14.2.2.1, (v14.2.2.2.1, (x3, v14.2.2.2.2.2))))) q15.2.2.1 q15.2.2.2.1 q15.2.2.2.2.1 q15.2.2.2.2.2.1
  let v19 : Int := (bif (v17 && (!v16 && true)) then q18.2.2.1 else q15.2.2.1)
  let v20 : (List D26) := (bif (v17 && (!v16 && true)) then q18.2.2.2.1 else q15.2.2.2.1)
  let v21 : Int := (bif (v17 && (!v16 && true)) then q18.2.2.2.2.1 else q15.2.2.2.2.1)
  let v22 : (List Bool) := (bif (v17 && (!v16 && true)) then q18.2.2.2.2.2.1 else q15.2.2.2.2.2.1)
  let v23 : Bool := (!q18.1)
  let v24 : Bool := (bif v17 then v23 else false)
  let v25 : Bool := (bif v16 then true else v24)
  bif v25 then
  let v26 : (List D26) := ([] : (List D26))
  some (((0 : Int), (v26, ((0 : Int), ()))), ((310 : Int), ()))
  else
  bif (q3.1) then
  some ((v19, (v20, (v21, ()))), ((0 : Int), ()))
  else none
  else none
  else none
  else none
  else none
  else none
def P15 (x0 : D23) (x1 : Int) (x2 : Int) (x3 : Int) : Bool := (G15 x0 x1 x2 x3).isSome
def F15 (x0 : D23) (x1 : Int) (x2 : Int) (x3 : Int) : (D23 × (Int × Unit)) := (G15 x0 x1 x2 x3).getD (Tup.zero pout15)
theorem P15_of (x0 : D23) (x1 : Int) (x2 : Int) (x3 : Int) {r : (D23 × (Int × Unit))} (h : G15 x0 x1 x2 x3 = some r) : P15 x0 x1 x2 x3 = true := by unfold P15; rw [h]; rfl
theorem F15_of (x0 : D23) (x1 : Int) (x2 : Int) (x3 : Int) {r : (D23 × (Int × Unit))} (h : G15 x0 x1 x2 x3 = some r) : F15 x0 x1 x2 x3 = r := by unfold F15; rw [h]; rfl
theorem ev15 (x0 : D23) (x1 : Int) (x2 : Int) (x3 : Int) : ev2 env15 orc15 loops15 body15 (mkSt pin15 (x0, (x1, (x2, (x3, ()))))) (retK3 env15 [.cell 8 24, .slot 9] pout15) = G15 x0 x1 x2 x3 := by kernel_rfl
def sp15 : Spec2 := ⟨pin15, pout15, fun s => G15 s.1 s.2.1 s.2.2.1 s.2.2.2.1⟩
theorem fit15 : Fit Try.f15 [.cell 8 24, .slot 9] sp15 := ⟨by kernel_rfl, by kernel_rfl, by kernel_rfl, by kernel_rfl, by kernel_rfl, by decide, by decide, by decide⟩
theorem meets15 (hE : EnvOk Try.prog env15) (hm : Try.prog.follows .mixedOrders = true) : Meets2 Try.prog glob 15 sp15 :=
  meets2_of_ev2 (O := orc15) (L := loops15) (c := body15) (rs := [.cell 8 24, .slot 9]) hE (fun _ => rfl) hm Try.func15 Try.call15 (by kernel_rfl) (by kernel_rfl) loops15_ok (rangesOk_nil (by kernel_rfl)) fit15 (fun s o h => (ev15 s.1 s.2.1 s.2.2.1 s.2.2.2.1).trans h)
def pin17 : Shape := [(.slot 0, .dat t23), (.slot 1, .dat (.int .i64))]
def pout17 : Shape := [(.slot 0, .dat t23), (.slot 1, .dat (.int .i64))]
def env17 : Env where
  tab := tab
  glob := glob
  spec := fun
    | 32 => some spec32
    | _ => none
  spec2 := fun
    | 28, [] => some sp28
    | _, _ => none
def orc17 : Orc := ⟨37, fun _ => none, fun
  | 0 => kp [1, 2, 4] [(2, [0, 1, 2]), (4, [0, 1, 2])]
  | 1 => kp [1, 2, 4, 6, 7] [(2, [0, 1, 2]), (4, [0, 1, 2]), (1100013, [0, 1, 2, 3])]
  | 2 => kp [1, 4, 6, 25] [(4, [0, 1, 2]), (1100013, [0, 1, 2, 3])]
  | 3 => kp [4, 5] [(4, [0, 1, 2])]
  | 4 => kp [4, 6] [(4, [0, 1, 2]), (1100013, [0, 1, 2, 3])]
  | 5 => kp [4, 5] [(4, [0, 1, 2])]
  | _ => [], fun | _ => false⟩
noncomputable def body17 : Code := Try.f17.body.getD .skip
def loops17 : Nat → Option (Sum) := fun | _ => none
theorem loops17_nat : ∀ q f, loops17 q = some f → Natural f := by
  intro q f h
  cases h
theorem loops17_ok : LoopsOk env17 orc17 loops17 body17 := loopsOk_nil (by kernel_rfl)
def G17 (x0 : D23) (x1 : Int) : Option (D23 × (Int × Unit)) :=
  let v1 : (List D26) := ([] : (List D26))
  let v2 : (List D26) := ([] : (List D26))
  bif (P28 x0) then
  let q3 : (Bool × (Bool × (Unit × (Int × ((List D26) × (Int × ((List Bool) × Unit))))))) := F28 x0
  let v4 : Bool := (!q3.2.1)
  let v5 : Bool := (x1 != x0.2.2.1)
  let v6 : Bool := (bif v4 then true else v5)
  bif ((P32 x1 (0 : Int) (11 : Int)) || !(!v6 && true)) then
  let v7 : Bool := (F32 x1 (0 : Int) (11 : Int))
  let v8 : Bool := (!v7)
  let v9 : Bool := (bif v6 then true else v8)
  bif v9 then
  let v10 : (List D26) := ([] : (List D26))
  some (((0 : Int), (v10, ((0 : Int), ()))), ((310 : Int), ()))
  else
  let v11 : Int := (IntKind.i64.wrap (x1 + (1 : Int)))
  bif (q3.1) then
  bif (q3.1) then
  some ((q3.2.2.2.1, (q3.2.2.2.2.1, (v11, ()))), ((0 : Int), ()))
  else none
  else none
  else none
  else none
def P17 (x0 : D23) (x1 : Int) : Bool := (G17 x0 x1).isSome
def F17 (x0 : D23) (x1 : Int) : (D23 × (Int × Unit)) := (G17 x0 x1).getD (Tup.zero pout17)
theorem P17_of (x0 : D23) (x1 : Int) {r : (D23 × (Int × Unit))} (h : G17 x0 x1 = some r) : P17 x0 x1 = true := by unfold P17; rw [h]; rfl
theorem F17_of (x0 : D23) (x1 : Int) {r : (D23 × (Int × Unit))} (h : G17 x0 x1 = some r) : F17 x0 x1 = r := by unfold F17; rw [h]; rfl
theorem ev17 (x0 : D23) (x1 : Int) : ev2 env17 orc17 loops17 body17 (mkSt pin17 (x0, (x1, ()))) (retK3 env17 [.cell 4 24, .slot 5] pout17) = G17 x0 x1 := by kernel_rfl
def sp17 : Spec2 := ⟨pin17, pout17, fun s => G17 s.1 s.2.1⟩
theorem fit17 : Fit Try.f17 [.cell 4 24, .slot 5] sp17 := ⟨by kernel_rfl, by kernel_rfl, by kernel_rfl, by kernel_rfl, by kernel_rfl, by decide, by decide, by decide⟩
theorem meets17 (hE : EnvOk Try.prog env17) (hm : Try.prog.follows .mixedOrders = true) : Meets2 Try.prog glob 17 sp17 :=
  meets2_of_ev2 (O := orc17) (L := loops17) (c := body17) (rs := [.cell 4 24, .slot 5]) hE (fun _ => rfl) hm Try.func17 Try.call17 (by kernel_rfl) (by kernel_rfl) loops17_ok (rangesOk_nil (by kernel_rfl)) fit17 (fun s o h => (ev17 s.1 s.2.1).trans h)
def env7 : Env where
  tab := tab
  glob := glob
  spec := fun
    | 11 => some spec11
    | 19 => some spec19
    | 21 => some spec21
    | 23 => some spec23
    | 24 => some spec24
    | _ => none
  spec2 := fun
    | 9, [] => some sp9
    | 15, [] => some sp15
    | 17, [] => some sp17
    | _, _ => none
def orc7 : Orc := ⟨171, fun _ => none, fun
  | 0 => []
  | 1 => kp [1, 2, 3] [(1, [0, 1, 2])]
  | 2 => kp [1, 2, 3, 4, 5] [(1, [0, 1, 2])]
  | 3 => kp [2, 3, 4, 5, 6, 7] [(6, [0, 1, 2])]
  | 4 => kp [2, 3, 4, 5, 6, 7, 8, 9] [(6, [0, 1, 2])]
  | 5 => kp [2, 3, 4, 5, 6, 7, 8, 9, 10, 11] [(6, [0, 1, 2])]
  | 6 => kp [2, 3, 4, 5, 6, 7, 8, 9, 10, 11, 12, 13] [(6, [0, 1, 2])]
  | 7 => kp [2, 3, 4, 5, 6, 7, 8, 9, 10, 11, 12, 13, 15] [(6, [0, 1, 2])]
  | 8 => kp [2, 3, 4, 5, 6, 7, 8, 9, 10, 11, 12, 13, 15, 18] [(6, [0, 1, 2])]
  | 9 => kp [2, 3, 4, 5, 6, 7, 8, 9, 10, 11, 12, 13, 15, 18, 19, 20] [(6, [0, 1, 2]), (19, [0, 1, 2])]
  | 10 => kp [2, 3, 4, 5, 6, 7, 8, 9, 10, 11, 12, 13, 15, 18, 19, 20, 21, 22] [(6, [0, 1, 2]), (19, [0, 1, 2])]
  | 11 => kp [2, 4, 6, 8, 10, 12, 19, 21, 121] [(6, [0, 1, 2]), (19, [0, 1, 2])]
  | 12 => kp [0] []
  | 13 => kp [6, 19, 21, 23] [(6, [0, 1, 2]), (19, [0, 1, 2])]
  | 14 => kp [0] []
  | _ => [], fun | _ => false⟩
noncomputable def body7 : Code := Try.f7.body.getD .skip
def loops7 : Nat → Option (Sum) := fun | _ => none
theorem loops7_nat : ∀ q f, loops7 q = some f → Natural f := by
  intro q f h
  cases h
theorem loops7_ok : LoopsOk env7 orc7 loops7 body7 := loopsOk_nil (by kernel_rfl)
def G7  : Option (Bool) :=
  let v1 : (List D26) := ([] : (List D26))
  bif (P9 ((3 : Int), (v1, ((0 : Int), ()))) ((1 : Int), ((5 : Int), ((0 : Int), ((1 : Int), ((90 : Int), ((7 : Int), ((-1 : Int), ())))))))) then
  let q2 : (D23 × (Int × (Int × Unit))) := F9 ((3 : Int), (v1, ((0 : Int), ()))) ((1 : Int), ((5 : Int), ((0 : Int), ((1 : Int), ((90 : Int), ((7 : Int), ((-1 : Int), ())))))))
  let v3 : (List D26) := ([] : (List D26))
  let v4 : (List D26) := ([] : (List D26))
  bif (P19 q2.1 (0 : Int)) then
  let v5 : ((List Int) × Int) := (F19 q2.1 (0 : Int))
  bif (P15 q2.1 (0 : Int) (40 : Int) (60 : Int)) then
  let q6 : (D23 × (Int × Unit)) := F15 q2.1 (0 : Int) (40 : Int) (60 : Int)
  let v7 : (List D26) := ([] : (List D26))
  let v8 : (List D26) := ([] : (List D26))
  bif (P19 q6.1 (0 : Int)) then
  let v9 : ((List Int) × Int) := (F19 q6.1 (0 : Int))
  bif (P19 q6.1 (1 : Int)) then
  let v10 : ((List Int) × Int) := (F19 q6.1 (1 : Int))
  bif (P24 q6.1 (7 : Int)) then
  let v11 : ((List Int) × Int) := (F24 q6.1 (7 : Int))
  bif (P15 q6.1 (0 : Int) (50 : Int) (1 : Int)) then
  let q12 : (D23 × (Int × Unit)) := F15 q6.1 (0 : Int) (50 : Int) (1 : Int)
  let v13 : (List D26) := ([] : (List D26))
  let v14 : (List D26) := ([] : (List D26))
  bif (P9 q6.1 ((1 : Int), ((39 : Int), ((0 : Int), ((1 : Int), ((1 : Int), ((0 : Int), ((-1 : Int), ())))))))) then
  let q15 : (D23 × (Int × (Int × Unit))) := F9 q6.1 ((1 : Int), ((39 : Int), ((0 : Int), ((1 : Int), ((1 : Int), ((0 : Int), ((-1 : Int), ())))))))
  let v16 : (List D26) := ([] : (List D26))
  let v17 : (List D26) := ([] : (List D26))
  bif (P17 q6.1 (0 : Int)) then
  let q18 : (D23 × (Int × Unit)) := F17 q6.1 (0 : Int)
  let v19 : (List D26) := ([] : (List D26))
  let v20 : (List D26) := ([] : (List D26))
  bif (P21 q6.1 (1 : Int) (1 : Int)) then
  let v21 : (Int × Int) := (F21 q6.1 (1 : Int) (1 : Int))
  let v22 : Bool := (q2.2.2.1 != (0 : Int))
  let v23 : Bool := (v5.2 != (0 : Int))
  let v24 : Bool := (bif v22 then true else v23)
  let v25 : Bool := (q6.2.1 != (0 : Int))
  let v26 : Bool := (bif v24 then true else v25)
  let v27 : Bool := (v9.2 != (0 : Int))
  let v28 : Bool := (bif v26 then true else v27)
  let v29 : Bool := (v10.2 != (0 : Int))
  let v30 : Bool := (bif v28 then true else v29)
  let v31 : Bool := (v11.2 != (0 : Int))
  let v32 : Bool := (bif v30 then true else v31)
  let v33 : Bool := (q12.2.1 != (310 : Int))
  let v34 : Bool := (bif v32 then true else v33)
  let v35 : Bool := (q15.2.2.1 != (310 : Int))
  let v36 : Bool := (bif v34 then true else v35)
  let v37 : Bool := (q18.2.1 != (0 : Int))
  let v38 : Bool := (bif v36 then true else v37)
  let v39 : Bool := (v21.2 != (0 : Int))
  let v40 : Bool := (bif v38 then true else v39)
  let v41 : Int := ((List.length q6.1.2.1 : Nat) : Int)
  let v42 : Bool := (v41 != (3 : Int))
  let v43 : Bool := (bif v40 then true else v42)
  bif v43 then
  some (false)
  else
  let v44 : Bool := (q2.2.1 == (0 : Int))
  let v45 : (List Int) := (List.set (List.set (List.set (List.replicate 3 (0 : Int)) 0 (-90 : Int)) 1 (90 : Int)) 2 (0 : Int))
  bif ((P23 (List.take (List.length v5.1) v5.1) v45) || !(v44 && true)) then
  let v46 : Bool := (F23 (List.take (List.length v5.1) v5.1) v45)
  let v47 : Bool := (bif v44 then v46 else false)
  let v48 : (List Int) := (List.set (List.set (List.set (List.replicate 3 (0 : Int)) 0 (-90 : Int)) 1 (90 : Int)) 2 (0 : Int))
  bif ((P23 (List.take (List.length v9.1) v9.1) v48) || !(v47 && true)) then
  let v49 : Bool := (F23 (List.take (List.length v9.1) v9.1) v48)
  let v50 : Bool := (bif v47 then v49 else false)
  let v51 : (List Int) := (List.set (List.set (List.set (List.replicate 3 (0 : Int)) 0 (30 : Int)) 1 (-30 : Int)) 2 (0 : Int))
  bif ((P23 (List.take (List.length v10.1) v10.1) v51) || !(v50 && true)) then
  let v52 : Bool := (F23 (List.take (List.length v10.1) v10.1) v51)
  let v53 : Bool := (bif v50 then v52 else false)
  let v54 : (List Int) := (List.set (List.set (List.set (List.replicate 3 (0 : Int)) 0 (-60 : Int)) 1 (60 : Int)) 2 (0 : Int))
  bif ((P23 (List.take (List.length v11.1) v11.1) v54) || !(v53 && true)) then
  let v55 : Bool := (F23 (List.take (List.length v11.1) v11.1) v54)
  let v56 : Bool := (bif v53 then v55 else false)
  let v57 : Bool := (v21.1 == (-30 : Int))
  let v58 : Bool := (bif v56 then v57 else false)
  let v59 : Bool := (q18.1.2.2.1 == (1 : Int))
  let v60 : Bool := (bif v58 then v59 else false)
  bif ((P11 q18.1) || !(v60 && true)) then
  let v61 : Bool := (F11 q18.1)
  let v62 : Bool := (bif v60 then v61 else false)
  let v63 : (List D26) := ([] : (List D26))
  bif ((P11 ((0 : Int), (v63, ((0 : Int), ())))) || !(v62 && true)) then
  let v64 : Bool := (F11 ((0 : Int), (v63, ((0 : Int), ()))))
  let v65 : Bool := (!v64)
  let v66 : Bool := (bif v62 then v65 else false)
  bif ((decide (0 ≤ (1 : Int)) && decide ((1 : Int) < List.length q6.1.2.1)) || !(v66 && true)) then
  let v67 : D26 := (List.getD q6.1.2.1 (Int.toNat (1 : Int)) z26)
  let v68 : Bool := (eqv t26 v67 ((2 : Int), ((40 : Int), ((1 : Int), ((0 : Int), ((90 : Int), ((7 : Int), ((0 : Int), ()))))))))
  let v69 : Bool := (bif v66 then v68 else false)
  some (v69)
  else none
  else none
  else none
  else none
  else none
  else none
  else none
  else none
  else none
  else none
  else none
  else none
  else none
  else none
  else none
  else none
  else none
theorem ev7  : ev2 env7 orc7 loops7 body7 (initSt 0 []) (retT [(0, .dat .bool)] [.bool] fun x => x.1) = G7  := by kernel_rfl
def P7  : Bool := (G7 ).isSome
def F7  : Bool := (G7 ).getD default
theorem G7_some  (h : P7  = true) : G7  = some (F7 ) := by
  unfold P7 at h; unfold F7
  cases hg : G7  with
  | none => rw [hg] at h; cases h
  | some r => rfl
theorem P7_of  {r : Bool} (h : G7  = some r) : P7  = true := by unfold P7; rw [h]; rfl
theorem F7_of  {r : Bool} (h : G7  = some r) : F7  = r := by unfold F7; rw [h]; rfl
def spec7 : Spec := ⟨[], [.dat .bool], fun | [] => P7 | _ => false, fun | [] => [⟨.bool, F7⟩] | _ => []⟩
theorem meets7 (hE : EnvOk Try.prog env7) (hm : Try.prog.follows .mixedOrders = true) : Meets Try.prog glob 7 spec7 :=
  meets_of_ev2 (O := orc7) (L := loops7) (c := body7) (slots := [0]) hE hm Try.func7 Try.call7 (by kernel_rfl) (by kernel_rfl) loops7_ok (rangesOk_nil (by kernel_rfl)) (by kernel_rfl) rfl (by decide) (fun ds hds hpre => by
  have h9 := dats0 hds; subst h9
  exact ev_ret (un := fun r => [⟨.bool, r⟩]) loops7_nat (fun _ => rfl) ((ev7 ).trans (G7_some  hpre)))
def env27 : Env where
  tab := tab
  glob := glob
  spec := fun
    | _ => none
def orc27 : Orc := ⟨13, fun _ => none, fun
  | 0 => kp [0, 1] []
  | 1 => kp [0, 1, 6] []
  | 2 => kp [0, 1] []
  | 3 => kp [4] []
  | _ => [], fun | _ => false⟩
noncomputable def body27 : Code := Try.f27.body.getD .skip
def loops27 : Nat → Option (Sum) := fun | _ => none
theorem loops27_nat : ∀ q f, loops27 q = some f → Natural f := by
  intro q f h
  cases h
theorem loops27_ok : LoopsOk env27 orc27 loops27 body27 := loopsOk_nil (by kernel_rfl)
def G27 (x0 : Int) (x1 : Int) : Option (Int) :=
  let v1 : Bool := (decide (x0 < (0 : Int)))
  bif v1 then
  let v2 : Int := (IntKind.i64.wrap (x0 + (1 : Int)))
  let v3 : Int := (IntKind.i64.wrap (0 - v2))
  bif (!(x1 == 0)) then
  let v4 : Int := (Int.tmod v3 x1)
  some (v4)
  else none
  else
  bif (!(x1 == 0)) then
  let v5 : Int := (Int.tmod x0 x1)
  some (v5)
  else none
theorem ev27 (x0 : Int) (x1 : Int) : ev2 env27 orc27 loops27 body27 (initSt 0 [⟨(.int .i64), x0⟩, ⟨(.int .i64), x1⟩]) (retT [(4, .dat (.int .i64))] [(.int .i64)] fun x => x.1) = G27 x0 x1 := by kernel_rfl
def P27 (x0 : Int) (x1 : Int) : Bool := (G27 x0 x1).isSome
def F27 (x0 : Int) (x1 : Int) : Int := (G27 x0 x1).getD default
theorem G27_some (x0 : Int) (x1 : Int) (h : P27 x0 x1 = true) : G27 x0 x1 = some (F27 x0 x1) := by
  unfold P27 at h; unfold F27
  cases hg : G27 x0 x1 with
  | none => rw [hg] at h; cases h
  | some r => rfl
theorem P27_of (x0 : Int) (x1 : Int) {r : Int} (h : G27 x0 x1 = some r) : P27 x0 x1 = true := by unfold P27; rw [h]; rfl
theorem F27_of (x0 : Int) (x1 : Int) {r : Int} (h : G27 x0 x1 = some r) : F27 x0 x1 = r := by unfold F27; rw [h]; rfl
def spec27 : Spec := ⟨[(.int .i64), (.int .i64)], [.dat (.int .i64)], fun | [a0, a1] => P27 (a0.as (.int .i64)) (a1.as (.int .i64)) | _ => false, fun | [a0, a1] => [⟨(.int .i64), (F27 (a0.as (.int .i64)) (a1.as (.int .i64)))⟩] | _ => []⟩
theorem meets27 (hE : EnvOk Try.prog env27) (hm : Try.prog.follows .mixedOrders = true) : Meets Try.prog glob 27 spec27 :=
  meets_of_ev2 (O := orc27) (L := loops27) (c := body27) (slots := [4]) hE hm Try.func27 Try.call27 (by kernel_rfl) (by kernel_rfl) loops27_ok (rangesOk_nil (by kernel_rfl)) (by kernel_rfl) rfl (by decide) (fun ds hds hpre => by
  obtain ⟨x0, ds0, rfl, h0⟩ := datsS hds
  obtain ⟨x1, ds1, rfl, h1⟩ := datsS h0
  have h9 := dats0 h1; subst h9
  exact ev_ret (un := fun r => [⟨(.int .i64), r⟩]) loops27_nat (fun _ => rfl) ((ev27 x0 x1).trans (G27_some x0 x1 hpre)))
def pin10 : Shape := [(.slot 0, .dat t23), (.slot 1, .dat t26)]
def pout10 : Shape := [(.slot 0, .dat t23), (.slot 1, .dat (.int .i64)), (.slot 2, .dat (.int .i64))]
def env10 : Env where
  tab := tab
  glob := glob
  spec := fun
    | 12 => some spec12
    | _ => none
def orc10 : Orc := ⟨38, fun _ => none, fun
  | 0 => kp [2, 3, 4] [(2, [0, 1, 2]), (3, [0, 1, 2, 3, 4, 5, 6]), (4, [0, 1, 2])]
  | 1 => kp [2, 3, 4, 7] [(2, [0, 1, 2]), (3, [0, 1, 2, 3, 4, 5, 6]), (4, [0, 1, 2]), (7, [0, 1, 2])]
  | 2 => kp [2, 3, 4, 7] [(2, [0, 1, 2]), (3, [0, 1, 2, 3, 4, 5, 6]), (4, [0, 1, 2]), (7, [0])] ++ [(.cell 7 1, .frz)] ++ [(.cell 7 2, .own)]
  | 3 => kp [2, 4, 7, 32] [(2, [0, 1, 2]), (4, [0, 1, 2]), (7, [0, 1, 2])]
  | 4 => kp [4, 5, 6] [(4, [0, 1, 2])]
  | 5 => kp [4, 5, 6] [(4, [0, 1, 2])]
  | _ => [], fun | _ => false⟩
noncomputable def body10 : Code := Try.f10.body.getD .skip
def loops10 : Nat → Option (Sum) := fun | _ => none
theorem loops10_nat : ∀ q f, loops10 q = some f → Natural f := by
  intro q f h
  cases h
theorem loops10_ok : LoopsOk env10 orc10 loops10 body10 := loopsOk_nil (by kernel_rfl)
def G10 (x0 : D23) (x1 : D26) : Option (D23 × (Int × (Int × Unit))) :=
  let v1 : (List D26) := ([] : (List D26))
  let v2 : (List D26) := ([] : (List D26))
  let v3 : (List D26) := ([] : (List D26))
  let v4 : (List D26) := ([] : (List D26))
  let v5 : (List D26) := (List.replicate 0 z26)
  bif (decide (List.length (List.take (List.length v5) v5) + List.length x0.2.1 ≤ 100000000000)) then
  let v6 : (List D26) := ((List.take (List.length v5) v5) ++ x0.2.1)
  let v7 : (List D26) := (List.set (List.replicate 1 z26) 0 x1)
  bif (decide (List.length (List.take (List.length v6) v6) + List.length v7 ≤ 100000000000)) then
  let v8 : (List D26) := ((List.take (List.length v6) v6) ++ v7)
  bif (P12 x0) then
  let v9 : Bool := (F12 x0)
  let v10 : Bool := (!v9)
  bif ((P12 (x0.1, (v8, x0.2.2))) || !(!v10 && true)) then
  let v11 : Bool := (F12 (x0.1, (v8, x0.2.2)))
  let v12 : Bool := (!v11)
  let v13 : Bool := (bif v10 then true else v12)
  let v14 : Int := (IntKind.i64.wrap ((30 : Int) * x0.2.2.1))
  let v15 : Bool := (decide (x1.2.1 < v14))
  let v16 : Bool := (bif v13 then true else v15)
  bif v16 then
  let v17 : (List D26) := ([] : (List D26))
  some (((0 : Int), (v17, ((0 : Int), ()))), ((0 : Int), ((310 : Int), ())))
  else
  let v18 : Int := ((List.length x0.2.1 : Nat) : Int)
  some ((x0.1, (v8, x0.2.2)), (v18, ((0 : Int), ())))
  else none
  else none
  else none
  else none
def P10 (x0 : D23) (x1 : D26) : Bool := (G10 x0 x1).isSome
def F10 (x0 : D23) (x1 : D26) : (D23 × (Int × (Int × Unit))) := (G10 x0 x1).getD (Tup.zero pout10)
theorem P10_of (x0 : D23) (x1 : D26) {r : (D23 × (Int × (Int × Unit)))} (h : G10 x0 x1 = some r) : P10 x0 x1 = true := by unfold P10; rw [h]; rfl
theorem F10_of (x0 : D23) (x1 : D26) {r : (D23 × (Int × (Int × Unit)))} (h : G10 x0 x1 = some r) : F10 x0 x1 = r := by unfold F10; rw [h]; rfl
theorem ev10 (x0 : D23) (x1 : D26) : ev2 env10 orc10 loops10 body10 (mkSt pin10 (x0, (x1, ()))) (retK3 env10 [.cell 4 24, .slot 5, .slot 6] pout10) = G10 x0 x1 := by kernel_rfl
def sp10 : Spec2 := ⟨pin10, pout10, fun s => G10 s.1 s.2.1⟩
theorem fit10 : Fit Try.f10 [.cell 4 24, .slot 5, .slot 6] sp10 := ⟨by kernel_rfl, by kernel_rfl, by kernel_rfl, by kernel_rfl, by kernel_rfl, by decide, by decide, by decide⟩
theorem meets10 (hE : EnvOk Try.prog env10) (hm : Try.prog.follows .mixedOrders = true) : Meets2 Try.prog glob 10 sp10 :=
  meets2_of_ev2 (O := orc10) (L := loops10) (c := body10) (rs := [.cell 4 24, .slot 5, .slot 6]) hE (fun _ => rfl) hm Try.func10 Try.call10 (by kernel_rfl) (by kernel_rfl) loops10_ok (rangesOk_nil (by kernel_rfl)) fit10 (fun s o h => (ev10 s.1 s.2.1).trans h)
def pin16 : Shape := [(.slot 0, .dat t23), (.slot 1, .dat (.int .i64)), (.slot 2, .dat (.int .i64)), (.slot 3, .dat (.int .i64))]
def pout16 : Shape := [(.slot 0, .dat t23), (.slot 1, .dat (.int .i64))]
def env16 : Env where
  tab := tab
  glob := glob
  spec := fun
    | 30 => some spec30
    | _ => none
  spec2 := fun
    | 10, [] => some sp10
    | _, _ => none
def orc16 : Orc := ⟨74, fun _ => none, fun
  | 0 => kp [1, 2, 3, 4, 8] [(4, [0, 1, 2]), (8, [0, 1, 2])]
  | 1 => kp [1, 2, 3, 4, 8, 28] [(4, [0, 1, 2]), (8, [0, 1, 2])]
  | 2 => kp [8, 9] [(8, [0, 1, 2])]
  | 3 => kp [1, 2, 3, 4, 8, 10] [(4, [0, 1, 2]), (8, [0, 1, 2]), (10, [0, 1, 2, 3, 4, 5, 6])]
  | 4 => kp [2, 3, 4, 8, 10, 11] [(4, [0, 1, 2]), (8, [0, 1, 2]), (10, [0, 1, 2, 3, 4, 5, 6]), (11, [0, 1, 2, 3, 4, 5, 6])]
  | 5 => kp [2, 3, 8, 10, 12, 14] [(8, [0, 1, 2]), (10, [0, 1, 2, 3, 4, 5, 6]), (12, [0, 1, 2])]
  | 6 => kp [2, 3, 8, 10, 12, 14, 58] [(8, [0, 1, 2]), (10, [0, 1, 2, 3, 4, 5, 6]), (12, [0, 1, 2])]
  | 7 => kp [8, 9] [(8, [0, 1, 2])]
  | 8 => kp [3, 8, 10, 12] [(8, [0, 1, 2]), (10, [0, 1, 2, 3, 4, 5, 6]), (12, [0, 1, 2])]
  | 9 => kp [8, 10, 12] [(8, [0, 1, 2]), (10, [0, 1, 2, 3, 4, 5, 6]), (12, [0, 1, 2])]
  | 10 => kp [8, 12, 14] [(8, [0, 1, 2]), (12, [0, 1, 2])]
  | 11 => kp [8, 9] [(8, [0, 1, 2])]
  | _ => [], fun | _ => false⟩
noncomputable def body16 : Code := Try.f16.body.getD .skip
def loops16 : Nat → Option (Sum) := fun | _ => none
theorem loops16_nat : ∀ q f, loops16 q = some f → Natural f := by
  intro q f h
  cases h
theorem loops16_ok : LoopsOk env16 orc16 loops16 body16 := loopsOk_nil (by kernel_rfl)
def G16 (x0 : D23) (x1 : Int) (x2 : Int) (x3 : Int) : Option (D23 × (Int × Unit)) :=
  let v1 : (List D26) := ([] : (List D26))
  let v2 : (List D26) := ([] : (List D26))
  let v3 : Bool := (decide (x1 < (0 : Int)))
  let v4 : Int := ((List.length x0.2.1 : Nat) : Int)
  let v5 : Bool := (decide (x1 ≥ v4))
  let v6 : Bool := (bif v3 then true else v5)
  bif ((P30 x3 (0 : Int) (1000000000 : Int)) || !(!v6 && true)) then
  let v7 : Bool := (F30 x3 (0 : Int) (1000000000 : Int))
  let v8 : Bool := (!v7)
  let v9 : Bool := (bif v6 then true else v8)
  bif v9 then
  let v10 : (List D26) := ([] : (List D26))
  some (((0 : Int), (v10, ((0 : Int), ()))), ((310 : Int), ()))
  else
  bif (decide (0 ≤ x1) && decide (x1 < List.length x0.2.1)) then
  let v11 : D26 := (List.getD x0.2.1 (Int.toNat x1) z26)
  bif (P10 x0 ((2 : Int), (x2, (v11.2.2.2.1, (v11.2.2.1, (v11.2.2.2.2.1, (v11.2.2.2.2.2.1, (x1, ())))))))) then
  let q12 : (D23 × (Int × (Int × Unit))) := F10 x0 ((2 : Int), (x2, (v11.2.2.2.1, (v11.2.2.1, (v11.2.2.2.2.1, (v11.2.2.2.2.2.1, (x1, ())))))))
  let v13 : (List D26) := ([] : (List D26))
  let v14 : (List D26) := ([] : (List D26))
  let v15 : Bool := (q12.2.2.1 != (0 : Int))
  let v16 : Bool := (x3 == (0 : Int))
  let v17 : Bool := (bif v15 then true else v16)
  bif v17 then
  some (q12.1, q12.2.2)
  else
  bif (P10 q12.1 (v11.1, (x2, (v11.2.2.1, (v11.2.2.2.1, (x3, v11.2.2.2.2.2)))))) then
  let q18 : (D23 × (Int × (Int × Unit))) := F10 q12.1 (v11.1, (x2, (v11.2.2.1, (v11.2.2.2.1, (x3, v11.2.2.2.2.2)))))
  some (q18.1, q18.2.2)
  else none
  else none
  else none
  else none
def P16 (x0 : D23) (x1 : Int) (x2 : Int) (x3 : Int) : Bool := (G16 x0 x1 x2 x3).isSome
def F16 (x0 : D23) (x1 : Int) (x2 : Int) (x3 : Int) : (D23 × (Int × Unit)) := (G16 x0 x1 x2 x3).getD (Tup.zero pout16)
theorem P16_of (x0 : D23) (x1 : Int) (x2 : Int) (x3 : Int) {r : (D23 × (Int × Unit))} (h : G16 x0 x1 x2 x3 = some r) : P16 x0 x1 x2 x3 = true := by unfold P16; rw [h]; rfl
theorem F16_of (x0 : D23) (x1 : Int) (x2 : Int) (x3 : Int) {r : (D23 × (Int × Unit))} (h : G16 x0 x1 x2 x3 = some r) : F16 x0 x1 x2 x3 = r := by unfold F16; rw [h]; rfl
theorem ev16 (x0 : D23) (x1 : Int) (x2 : Int) (x3 : Int) : ev2 env16 orc16 loops16 body16 (mkSt pin16 (x0, (x1, (x2, (x3, ()))))) (retK3 env16 [.cell 8 24, .slot 9] pout16) = G16 x0 x1 x2 x3 := by kernel_rfl
def sp16 : Spec2 := ⟨pin16, pout16, fun s => G16 s.1 s.2.1 s.2.2.1 s.2.2.2.1⟩
theorem fit16 : Fit Try.f16 [.cell 8 24, .slot 9] sp16 := ⟨by kernel_rfl, by kernel_rfl, by kernel_rfl, by kernel_rfl, by kernel_rfl, by decide, by decide, by decide⟩
theorem meets16 (hE : EnvOk Try.prog env16) (hm : Try.prog.follows .mixedOrders = true) : Meets2 Try.prog glob 16 sp16 :=
  meets2_of_ev2 (O := orc16) (L := loops16) (c := body16) (rs := [.cell 8 24, .slot 9]) hE (fun _ => rfl) hm Try.func16 Try.call16 (by kernel_rfl) (by kernel_rfl) loops16_ok (rangesOk_nil (by kernel_rfl)) fit16 (fun s o h => (ev16 s.1 s.2.1 s.2.2.1 s.2.2.2.1).trans h)
def pin18 : Shape := [(.slot 0, .dat t23), (.slot 1, .dat (.int .i64))]
def pout18 : Shape := [(.slot 0, .dat t23), (.slot 1, .dat (.int .i64))]
def env18 : Env where
  tab := tab
  glob := glob
  spec := fun
    | 12 => some spec12
    | 30 => some spec30
    | _ => none
def orc18 : Orc := ⟨32, fun _ => none, fun
  | 0 => kp [1, 2, 4] [(2, [0, 1, 2]), (4, [0, 1, 2])]
  | 1 => kp [1, 2, 4, 20] [(2, [0, 1, 2]), (4, [0, 1, 2])]
  | 2 => kp [4, 5] [(4, [0, 1, 2])]
  | 3 => kp [1, 2, 4, 6] [(2, [0, 1, 2]), (4, [0, 1, 2]), (6, [0, 1, 2])]
  | 4 => kp [1, 4, 6] [(4, [0, 1, 2]), (6, [0, 1, 2])]
  | 5 => kp [4, 6] [(4, [0, 1, 2]), (6, [0, 1, 2])]
  | 6 => kp [4, 5] [(4, [0, 1, 2])]
  | _ => [], fun | _ => false⟩
noncomputable def body18 : Code := Try.f18.body.getD .skip
def loops18 : Nat → Option (Sum) := fun | _ => none
theorem loops18_nat : ∀ q f, loops18 q = some f → Natural f := by
  intro q f h
  cases h
theorem loops18_ok : LoopsOk env18 orc18 loops18 body18 := loopsOk_nil (by kernel_rfl)
def G18 (x0 : D23) (x1 : Int) : Option (D23 × (Int × Unit)) :=
  let v1 : (List D26) := ([] : (List D26))
  let v2 : (List D26) := ([] : (List D26))
  bif (P12 x0) then
  let v3 : Bool := (F12 x0)
  let v4 : Bool := (!v3)
  let v5 : Bool := (x1 != x0.2.2.1)
  let v6 : Bool := (bif v4 then true else v5)
  bif ((P30 x1 (0 : Int) (11 : Int)) || !(!v6 && true)) then
  let v7 : Bool := (F30 x1 (0 : Int) (11 : Int))
  let v8 : Bool := (!v7)
  let v9 : Bool := (bif v6 then true else v8)
  bif v9 then
  let v10 : (List D26) := ([] : (List D26))
  some (((0 : Int), (v10, ((0 : Int), ()))), ((310 : Int), ()))
  else
  let v11 : (List D26) := ([] : (List D26))
  let v12 : (List D26) := ([] : (List D26))
  let v13 : (List D26) := (List.replicate 0 z26)
  bif (decide (List.length (List.take (List.length v13) v13) + List.length x0.2.1 ≤ 100000000000)) then
  let v14 : (List D26) := ((List.take (List.length v13) v13) ++ x0.2.1)
  let v15 : Int := (IntKind.i64.wrap (x1 + (1 : Int)))
  some ((x0.1, (v14, (v15, ()))), ((0 : Int), ()))
  else none
  else none
  else none
def P18 (x0 : D23) (x1 : Int) : Bool := (G18 x0 x1).isSome
def F18 (x0 : D23) (x1 : Int) : (D23 × (Int × Unit)) := (G18 x0 x1).getD (Tup.zero pout18)
theorem P18_of (x0 : D23) (x1 : Int) {r : (D23 × (Int × Unit))} (h : G18 x0 x1 = some r) : P18 x0 x1 = true := by unfold P18; rw [h]; rfl
theorem F18_of (x0 : D23) (x1 : Int) {r : (D23 × (Int × Unit))} (h : G18 x0 x1 = some r) : F18 x0 x1 = r := by unfold F18; rw [h]; rfl
theorem ev18 (x0 : D23) (x1 : Int) : ev2 env18 orc18 loops18 body18 (mkSt pin18 (x0, (x1, ()))) (retK3 env18 [.cell 4 24, .slot 5] pout18) = G18 x0 x1 := by kernel_rfl
def sp18 : Spec2 := ⟨pin18, pout18, fun s => G18 s.1 s.2.1⟩
theorem fit18 : Fit Try.f18 [.cell 4 24, .slot 5] sp18 := ⟨by kernel_rfl, by kernel_rfl, by kernel_rfl, by kernel_rfl, by kernel_rfl, by decide, by decide, by decide⟩
theorem meets18 (hE : EnvOk Try.prog env18) (hm : Try.prog.follows .mixedOrders = true) : Meets2 Try.prog glob 18 sp18 :=
  meets2_of_ev2 (O := orc18) (L := loops18) (c := body18) (rs := [.cell 4 24, .slot 5]) hE (fun _ => rfl) hm Try.func18 Try.call18 (by kernel_rfl) (by kernel_rfl) loops18_ok (rangesOk_nil (by kernel_rfl)) fit18 (fun s o h => (ev18 s.1 s.2.1).trans h)
def pin8 : Shape := [(.slot 0, .dat (.int .i64)), (.slot 1, .dat (.list (.arr 5 (.int .i64))))]
def pout8 : Shape := [(.slot 0, .dat t23)]
def env8 : Env where
  tab := tab
  glob := glob
  spec := fun
    | 27 => some spec27
    | _ => none
  spec2 := fun
    | 10, [] => some sp10
    | 16, [] => some sp16
    | 18, [] => some sp18
    | _, _ => none
def orc8 : Orc := ⟨131, fun _ => none, fun
  | 0 => kp [0, 1, 4] [(4, [0, 1, 2])]
  | 1 => kp [1, 4, 5] [(4, [0, 1, 2]), (5, [0, 1, 2])]
  | 2 => kp [1, 4, 5, 6] [(4, [0, 1, 2]), (5, [0, 1, 2])]
  | 3 => kp [1, 4, 5, 6, 7] [(4, [0, 1, 2]), (5, [0, 1, 2])]
  | 4 => kp [1, 4, 5, 6, 7, 24] [(4, [0, 1, 2]), (5, [0, 1, 2])]
  | 5 => kp [1, 4, 5, 6, 7] [(4, [0, 1, 2]), (5, [0, 1, 2])]
  | 6 => kp [1, 4, 5, 6, 7] [(4, [0, 1, 2]), (5, [0, 1, 2])]
  | 7 => kp [1, 4, 5, 6, 7, 8] [(4, [0, 1, 2]), (5, [0, 1, 2])]
  | 8 => kp [1, 4, 5, 6, 7, 9] [(4, [0, 1, 2]), (5, [0, 1, 2]), (9, [0, 1, 2, 3, 4, 5, 6])]
  | 9 => kp [1, 4, 5, 6, 7, 10, 12] [(4, [0, 1, 2]), (5, [0, 1, 2]), (10, [0, 1, 2])]
  | 10 => kp [1, 4, 5, 6, 7, 10, 12, 87] [(4, [0, 1, 2]), (5, [0, 1, 2]), (10, [0, 1, 2])]
  | 11 => kp [1, 4, 5, 6, 7, 10, 12, 87, 88] [(4, [0, 1, 2]), (5, [0, 1, 2]), (10, [0, 1, 2])]
  | 12 => kp [1, 4, 5, 6, 7, 10, 12] [(4, [0, 1, 2]), (5, [0, 1, 2]), (10, [0, 1, 2])]
  | 13 => kp [1, 4, 5, 6, 7, 10, 12, 112] [(4, [0, 1, 2]), (5, [0, 1, 2]), (10, [0, 1, 2])]
  | 14 => kp [1, 4, 5, 6, 7, 10, 12] [(4, [0, 1, 2]), (5, [0, 1, 2]), (10, [0, 1, 2])]
  | 15 => kp [1, 4, 5, 6, 7, 10, 12] [(4, [0, 1, 2]), (5, [0, 1, 2]), (10, [0, 1, 2])]
  | 16 => kp [1, 4, 5, 6, 7, 10, 128] [(4, [0, 1, 2]), (5, [0, 1, 2]), (10, [0, 1, 2])]
  | 17 => kp [1, 4, 5, 6, 7] [(4, [0, 1, 2]), (5, [0, 1, 2])]
  | 18 => kp [4] [(4, [0, 1, 2])]
  | _ => [], fun | _ => false⟩
noncomputable def body8 : Code := Try.f8.body.getD .skip
def L8_4_sh : Shape := [(.slot 1, .dat (.list (.arr 5 (.int .i64)))), (.slot 4, .ptr 4 0), (.slot 5, .ptr 5 0), (.slot 6, .dat (.int .i64)), (.slot 7, .dat (.int .i64)), (.box 4, .bx 24 3), (.cell 4 0, .dat (.int .i64)), (.cell 4 1, .own 27 t26), (.cell 4 2, .dat (.int .i64)), (.box 5, .bx 24 3), (.cell 5 0, .dat (.int .i64)), (.cell 5 1, .dat (.list t26)), (.cell 5 2, .dat (.int .i64))]
def L8_4_x0 : Shape := [(.slot 1, .dat (.list (.arr 5 (.int .i64)))), (.slot 4, .ptr 4 0), (.slot 5, .ptr 5 0), (.slot 6, .dat (.int .i64)), (.slot 7, .dat (.int .i64)), (.box 4, .bx 24 3), (.cell 4 0, .dat (.int .i64)), (.cell 4 1, .own 27 t26), (.cell 4 2, .dat (.int .i64)), (.box 5, .bx 24 3), (.cell 5 0, .dat (.int .i64)), (.cell 5 1, .dat (.list t26)), (.cell 5 2, .dat (.int .i64))]
def L8_4_pk (s : Tup L8_4_sh) : (List (List Int)) × Int × Int × Int × (List D26) × Int × Int × (List D26) × Int := (s.1, s.2.2.2.1, s.2.2.2.2.1, s.2.2.2.2.2.2.1, s.2.2.2.2.2.2.2.1, s.2.2.2.2.2.2.2.2.1, s.2.2.2.2.2.2.2.2.2.2.1, s.2.2.2.2.2.2.2.2.2.2.2.1, s.2.2.2.2.2.2.2.2.2.2.2.2.1)
def L8_4_un (s : (List (List Int)) × Int × Int × Int × (List D26) × Int × Int × (List D26) × Int) : Tup L8_4_sh := (s.1, ((), ((), (s.2.1, (s.2.2.1, ((), (s.2.2.2.1, (s.2.2.2.2.1, (s.2.2.2.2.2.1, ((), (s.2.2.2.2.2.2.1, (s.2.2.2.2.2.2.2.1, (s.2.2.2.2.2.2.2.2, ())))))))))))))
def L8_4_leave (x : ((List (List Int)) × Int × Int × Int × (List D26) × Int × Int × (List D26) × Int)) (R : Type) (K : Cont R) : Option R := match x with
  | a => K (.exit 0) (mkSt L8_4_x0 (a.1, ((), ((), (a.2.1, (a.2.2.1, ((), (a.2.2.2.1, (a.2.2.2.2.1, (a.2.2.2.2.2.1, ((), (a.2.2.2.2.2.2.1, (a.2.2.2.2.2.2.2.1, (a.2.2.2.2.2.2.2.2, ()))))))))))))))
def L8_4_d (e : Exit) (st : St) : Option (((List (List Int)) × Int × Int × Int × (List D26) × Int × Int × (List D26) × Int)) := match e with
  | .exit 0 => (match unSt L8_4_x0 st with
    | some s => some (s.1, s.2.2.2.1, s.2.2.2.2.1, s.2.2.2.2.2.2.1, s.2.2.2.2.2.2.2.1, s.2.2.2.2.2.2.2.2.1, s.2.2.2.2.2.2.2.2.2.2.1, s.2.2.2.2.2.2.2.2.2.2.2.1, s.2.2.2.2.2.2.2.2.2.2.2.2.1)
    | none => none)
  | _ => none
def L8_4_r (s0 : (List (List Int))) (s1 : Int) (s2 : Int) (s3 : Int) (s4 : (List D26)) (s5 : Int) (s6 : Int) (s7 : (List D26)) (s8 : Int) : Option (((List (List Int)) × Int × Int × Int × (List D26) × Int × Int × (List D26) × Int) ⊕ (((List (List Int)) × Int × Int × Int × (List D26) × Int × Int × (List D26) × Int))) :=
  let v8 : Int := ((List.length s0 : Nat) : Int)
  let v9 : Bool := (decide (s2 < v8))
  let v10 : Bool := (decide (s2 < (24 : Int)))
  let v11 : Bool := (bif v9 then v10 else false)
  bif v11 then
  bif (decide (0 ≤ s2) && decide (s2 < List.length s0)) then
  let v12 : (List Int) := (List.getD s0 (Int.toNat s2) (List.replicate 5 (0 : Int)))
  bif (decide (0 ≤ (1 : Int)) && decide ((1 : Int) < (5 : Nat))) then
  let v13 : Int := (List.getD v12 (Int.toNat (1 : Int)) (0 : Int))
  bif (P27 v13 (20 : Int)) then
  let v14 : Int := (F27 v13 (20 : Int))
  let v15 : Int := (IntKind.i64.wrap (s1 + v14))
  let v16 : Int := (if v15 < (359 : Int) then v15 else (359 : Int))
  bif (decide (0 ≤ s2) && decide (s2 < List.length s0)) then
  let v17 : (List Int) := (List.getD s0 (Int.toNat s2) (List.replicate 5 (0 : Int)))
  bif (decide (0 ≤ (2 : Int)) && decide ((2 : Int) < (5 : Nat))) then
  let v18 : Int := (List.getD v17 (Int.toNat (2 : Int)) (0 : Int))
  bif (P27 v18 s6) then
  let v19 : Int := (F27 v18 s6)
  let v20 : Int := (IntKind.i64.wrap (v19 + (1 : Int)))
  bif (decide (0 ≤ s2) && decide (s2 < List.length s0)) then
  let v21 : (List Int) := (List.getD s0 (Int.toNat s2) (List.replicate 5 (0 : Int)))
  bif (decide (0 ≤ (3 : Int)) && decide ((3 : Int) < (5 : Nat))) then
  let v22 : Int := (List.getD v21 (Int.toNat (3 : Int)) (0 : Int))
  let v23 : Int := (IntKind.i64.wrap (s6 - (1 : Int)))
  bif (P27 v22 v23) then
  let v24 : Int := (F27 v22 v23)
  let v25 : Int := (IntKind.i64.wrap (v20 + v24))
  bif (!(s6 == 0)) then
  let v26 : Int := (Int.tmod v25 s6)
  bif (decide (0 ≤ s2) && decide (s2 < List.length s0)) then
  let v27 : (List Int) := (List.getD s0 (Int.toNat s2) (List.replicate 5 (0 : Int)))
  bif (decide (0 ≤ (4 : Int)) && decide ((4 : Int) < (5 : Nat))) then
  let v28 : Int := (List.getD v27 (Int.toNat (4 : Int)) (0 : Int))
  bif (P27 v28 (1000 : Int)) then
  let v29 : Int := (F27 v28 (1000 : Int))
  let v30 : Int := (IntKind.i64.wrap ((1 : Int) + v29))
  bif (decide (0 ≤ s2) && decide (s2 < List.length s0)) then
  let v31 : (List Int) := (List.getD s0 (Int.toNat s2) (List.replicate 5 (0 : Int)))
  bif (decide (0 ≤ (4 : Int)) && decide ((4 : Int) < (5 : Nat))) then
  let v32 : Int := (List.getD v31 (Int.toNat (4 : Int)) (0 : Int))
  bif (P27 v32 (6 : Int)) then
  let v33 : Int := (F27 v32 (6 : Int))
  bif (P10 (s6, (s7, (s8, ()))) ((1 : Int), (v16, (v19, (v26, (v30, (v33, ((-1 : Int), ())))))))) then
  let q34 : (D23 × (Int × (Int × Unit))) := F10 (s6, (s7, (s8, ()))) ((1 : Int), (v16, (v19, (v26, (v30, (v33, ((-1 : Int), ())))))))
  let v35 : (List D26) := ([] : (List D26))
  let v36 : (List D26) := ([] : (List D26))
  bif (decide (0 ≤ s2) && decide (s2 < List.length s0)) then
  let v37 : (List Int) := (List.getD s0 (Int.toNat s2) (List.replicate 5 (0 : Int)))
  bif (decide (0 ≤ (0 : Int)) && decide ((0 : Int) < (5 : Nat))) then
  let v38 : Int := (List.getD v37 (Int.toNat (0 : Int)) (0 : Int))
  bif (P27 v38 (6 : Int)) then
  let v39 : Int := (F27 v38 (6 : Int))
  let v40 : Bool := (v39 == (4 : Int))
  bif v40 then
  bif (decide (0 ≤ s2) && decide (s2 < List.length s0)) then
  let v41 : (List Int) := (List.getD s0 (Int.toNat s2) (List.replicate 5 (0 : Int)))
  bif (decide (0 ≤ (3 : Int)) && decide ((3 : Int) < (5 : Nat))) then
  let v42 : Int := (List.getD v41 (Int.toNat (3 : Int)) (0 : Int))
  let v43 : Int := ((List.length s7 : Nat) : Int)
  let v44 : Int := (IntKind.i64.wrap (v43 + (1 : Int)))
  bif (P27 v42 v44) then
  let v45 : Int := (F27 v42 v44)
  bif (decide (0 ≤ s2) && decide (s2 < List.length s0)) then
  let v46 : (List Int) := (List.getD s0 (Int.toNat s2) (List.replicate 5 (0 : Int)))
  bif (decide (0 ≤ (4 : Int)) && decide ((4 : Int) < (5 : Nat))) then
  let v47 : Int := (List.getD v46 (Int.toNat (4 : Int)) (0 : Int))
  bif (P27 v47 (1000 : Int)) then
  let v48 : Int := (F27 v47 (1000 : Int))
  bif (P16 (s6, (s7, (s8, ()))) v45 v16 v48) then
  let q49 : (D23 × (Int × Unit)) := F16 (s6, (s7, (s8, ()))) v45 v16 v48
  let v50 : Bool := (q49.2.1 == (0 : Int))
  bif v50 then
  let v51 : Int := (IntKind.i64.wrap (s2 + (1 : Int)))
  some (.inl (s0, v16, v51, s3, s4, s5, q49.1.1, q49.1.2.1, q49.1.2.2.1))
  else
  let v52 : Int := (IntKind.i64.wrap (s2 + (1 : Int)))
  some (.inl (s0, v16, v52, s3, s4, s5, s6, s7, s8))
  else none
  else none
  else none
  else none
  else none
  else none
  else none
  else
  let v53 : Bool := (v39 == (5 : Int))
  bif v53 then
  bif (P18 (s6, (s7, (s8, ()))) s8) then
  let q54 : (D23 × (Int × Unit)) := F18 (s6, (s7, (s8, ()))) s8
  let v55 : Int := (IntKind.i64.wrap ((30 : Int) * q54.1.2.2.1))
  let v56 : Int := (if v55 < (359 : Int) then v55 else (359 : Int))
  let v57 : Int := (if v56 > v16 then v56 else v16)
  let v58 : Bool := (q54.2.1 == (0 : Int))
  bif v58 then
  let v59 : Int := (IntKind.i64.wrap (s2 + (1 : Int)))
  some (.inl (s0, v57, v59, s3, s4, s5, q54.1.1, q54.1.2.1, q54.1.2.2.1))
  else
  let v60 : Int := (IntKind.i64.wrap (s2 + (1 : Int)))
  some (.inl (s0, v57, v60, s3, s4, s5, s6, s7, s8))
  else none
  else
  let v61 : Bool := (q34.2.2.1 == (0 : Int))
  bif v61 then
  let v62 : Int := (IntKind.i64.wrap (s2 + (1 : Int)))
  some (.inl (s0, v16, v62, s3, s4, s5, q34.1.1, q34.1.2.1, q34.1.2.2.1))
  else
  let v63 : Int := (IntKind.i64.wrap (s2 + (1 : Int)))
  some (.inl (s0, v16, v63, s3, s4, s5, s6, s7, s8))
  else none
  else none
  else none
  else none
  else none
  else none
  else none
  else none
  else none
  else none
  else none
  else none
  else none
  else none
  else none
  else none
  else none
  else none
  else none
  else none
  else
  some (.inr (s0, s1, s2, s3, s4, s5, s6, s7, s8))
def L8_4 : (List (List Int)) × Int × Int × Int × (List D26) × Int × Int × (List D26) × Int → Option (((List (List Int)) × Int × Int × Int × (List D26) × Int × Int × (List D26) × Int)) := Lim (fun s => L8_4_r s.1 s.2.1 s.2.2.1 s.2.2.2.1 s.2.2.2.2.1 s.2.2.2.2.2.1 s.2.2.2.2.2.2.1 s.2.2.2.2.2.2.2.1 s.2.2.2.2.2.2.2.2)
def L8_4_sum : Sum := limSum L8_4_sh L8_4_pk (fun s => L8_4_r s.1 s.2.1 s.2.2.1 s.2.2.2.1 s.2.2.2.2.1 s.2.2.2.2.2.1 s.2.2.2.2.2.2.1 s.2.2.2.2.2.2.2.1 s.2.2.2.2.2.2.2.2) L8_4_leave
theorem L8_4_nat : Natural L8_4_sum := natural_lim fun x R K => by
  rfl
theorem L8_4_dok : ∀ e st x, e ≠ .normal → L8_4_d e st = some x → ∀ R (K : Cont R), K e st = L8_4_leave x R K := by
  intro e st x _ h R K
  unfold L8_4_d at h
  split at h
  · split at h
    · rename_i s hs; cases h; rw [unSt_some hs]; rfl
    · cases h
  · cases h
def loops8 : Nat → Option (Sum) := fun | 4 => some L8_4_sum | _ => none
theorem loops8_nat : ∀ q f, loops8 q = some f → Natural f := by
  intro q f h
  unfold loops8 at h
  split at h
  · cases h; exact L8_4_nat
  · cases h
noncomputable def L8_4_code : Code := (loopsOf body8).getD 0 .skip
theorem L8_4_round (s0 : (List (List Int))) (s1 : Int) (s2 : Int) (s3 : Int) (s4 : (List D26)) (s5 : Int) (s6 : Int) (s7 : (List D26)) (s8 : Int) : ev2 env8 orc8 loops8 L8_4_code (mkSt L8_4_sh (s0, ((), ((), (s1, (s2, ((), (s3, (s4, (s5, ((), (s6, (s7, (s8, ())))))))))))))) (back L8_4_sh L8_4_pk L8_4_d) = L8_4_r s0 s1 s2 s3 s4 s5 s6 s7 s8 := by kernel_rfl
theorem L8_4_ok : SumOk env8 orc8 loops8 L8_4_code L8_4_sum := sumOk_lim (un := L8_4_un) loops8_nat (fun _ => rfl) L8_4_dok fun s => L8_4_round s.1 s.2.1 s.2.2.1 s.2.2.2.1 s.2.2.2.2.1 s.2.2.2.2.2.1 s.2.2.2.2.2.2.1 s.2.2.2.2.2.2.2.1 s.2.2.2.2.2.2.2.2
theorem loops8_all : loopsOf body8 = [L8_4_code] := by kernel_rfl
theorem L8_4_key : lookL loops8 (keyOf L8_4_code) = some L8_4_sum := by kernel_rfl
theorem loops8_ok : LoopsOk env8 orc8 loops8 body8 := by
  intro c hc f hf
  rw [loops8_all] at hc
  simp only [List.mem_cons, List.not_mem_nil, or_false] at hc
  subst hc
  · rw [L8_4_key] at hf; cases hf; exact L8_4_ok
def G8 (x0 : Int) (x1 : (List (List Int))) : Option (D23 × Unit) :=
  let v1 : (List D26) := ([] : (List D26))
  let v2 : (List D26) := ([] : (List D26))
  bif (P27 x0 (11 : Int)) then
  let v3 : Int := (F27 x0 (11 : Int))
  let v4 : Int := (IntKind.i64.wrap ((2 : Int) + v3))
  let v5 : (List D26) := ([] : (List D26))
  let v6 : (List D26) := ([] : (List D26))
  let v7 : (List D26) := ([] : (List D26))
  Option.bind (L8_4 (x1, (0 : Int), (0 : Int), (0 : Int), v2, (0 : Int), v4, v5, (0 : Int))) fun (r64 : (List (List Int)) × Int × Int × Int × (List D26) × Int × Int × (List D26) × Int) =>
  some ((r64.2.2.2.2.2.2.1, (r64.2.2.2.2.2.2.2.1, (r64.2.2.2.2.2.2.2.2, ()))), ())
  else none
def P8 (x0 : Int) (x1 : (List (List Int))) : Bool := (G8 x0 x1).isSome
def F8 (x0 : Int) (x1 : (List (List Int))) : (D23 × Unit) := (G8 x0 x1).getD (Tup.zero pout8)
theorem P8_of (x0 : Int) (x1 : (List (List Int))) {r : (D23 × Unit)} (h : G8 x0 x1 = some r) : P8 x0 x1 = true := by unfold P8; rw [h]; rfl
theorem F8_of (x0 : Int) (x1 : (List (List Int))) {r : (D23 × Unit)} (h : G8 x0 x1 = some r) : F8 x0 x1 = r := by unfold F8; rw [h]; rfl
theorem ev8 (x0 : Int) (x1 : (List (List Int))) : ev2 env8 orc8 loops8 body8 (mkSt pin8 (x0, (x1, ()))) (retK3 env8 [.cell 4 24] pout8) = G8 x0 x1 := by kernel_rfl
def sp8 : Spec2 := ⟨pin8, pout8, fun s => G8 s.1 s.2.1⟩
theorem fit8 : Fit Try.f8 [.cell 4 24] sp8 := ⟨by kernel_rfl, by kernel_rfl, by kernel_rfl, by kernel_rfl, by kernel_rfl, by decide, by decide, by decide⟩
theorem meets8 (hE : EnvOk Try.prog env8) (hm : Try.prog.follows .mixedOrders = true) : Meets2 Try.prog glob 8 sp8 :=
  meets2_of_ev2 (O := orc8) (L := loops8) (c := body8) (rs := [.cell 4 24]) hE (fun _ => rfl) hm Try.func8 Try.call8 (by kernel_rfl) (by kernel_rfl) loops8_ok (rangesOk_nil (by kernel_rfl)) fit8 (fun s o h => (ev8 s.1 s.2.1).trans h)
def env14 : Env where
  tab := tab
  glob := glob
  spec := fun
    | _ => none
def orc14 : Orc := ⟨13, fun _ => none, fun
  | 0 => kp [0, 1] []
  | 1 => kp [0, 1, 6] []
  | 2 => kp [0, 1] []
  | 3 => kp [4] []
  | _ => [], fun | _ => false⟩
noncomputable def body14 : Code := Try.f14.body.getD .skip
def loops14 : Nat → Option (Sum) := fun | _ => none
theorem loops14_nat : ∀ q f, loops14 q = some f → Natural f := by
  intro q f h
  cases h
theorem loops14_ok : LoopsOk env14 orc14 loops14 body14 := loopsOk_nil (by kernel_rfl)
def G14 (x0 : Int) (x1 : Int) : Option (Int) :=
  let v1 : Bool := (decide (x0 < (0 : Int)))
  bif v1 then
  let v2 : Int := (IntKind.i64.wrap (x0 + (1 : Int)))
  let v3 : Int := (IntKind.i64.wrap (0 - v2))
  bif (!(x1 == 0)) then
  let v4 : Int := (Int.tmod v3 x1)
  some (v4)
  else none
  else
  bif (!(x1 == 0)) then
  let v5 : Int := (Int.tmod x0 x1)
  some (v5)
  else none
theorem ev14 (x0 : Int) (x1 : Int) : ev2 env14 orc14 loops14 body14 (initSt 0 [⟨(.int .i64), x0⟩, ⟨(.int .i64), x1⟩]) (retT [(4, .dat (.int .i64))] [(.int .i64)] fun x => x.1) = G14 x0 x1 := by kernel_rfl
def P14 (x0 : Int) (x1 : Int) : Bool := (G14 x0 x1).isSome
def F14 (x0 : Int) (x1 : Int) : Int := (G14 x0 x1).getD default
theorem G14_some (x0 : Int) (x1 : Int) (h : P14 x0 x1 = true) : G14 x0 x1 = some (F14 x0 x1) := by
  unfold P14 at h; unfold F14
  cases hg : G14 x0 x1 with
  | none => rw [hg] at h; cases h
  | some r => rfl
theorem P14_of (x0 : Int) (x1 : Int) {r : Int} (h : G14 x0 x1 = some r) : P14 x0 x1 = true := by unfold P14; rw [h]; rfl
theorem F14_of (x0 : Int) (x1 : Int) {r : Int} (h : G14 x0 x1 = some r) : F14 x0 x1 = r := by unfold F14; rw [h]; rfl
def spec14 : Spec := ⟨[(.int .i64), (.int .i64)], [.dat (.int .i64)], fun | [a0, a1] => P14 (a0.as (.int .i64)) (a1.as (.int .i64)) | _ => false, fun | [a0, a1] => [⟨(.int .i64), (F14 (a0.as (.int .i64)) (a1.as (.int .i64)))⟩] | _ => []⟩
theorem meets14 (hE : EnvOk Try.prog env14) (hm : Try.prog.follows .mixedOrders = true) : Meets Try.prog glob 14 spec14 :=
  meets_of_ev2 (O := orc14) (L := loops14) (c := body14) (slots := [4]) hE hm Try.func14 Try.call14 (by kernel_rfl) (by kernel_rfl) loops14_ok (rangesOk_nil (by kernel_rfl)) (by kernel_rfl) rfl (by decide) (fun ds hds hpre => by
  obtain ⟨x0, ds0, rfl, h0⟩ := datsS hds
  obtain ⟨x1, ds1, rfl, h1⟩ := datsS h0
  have h9 := dats0 h1; subst h9
  exact ev_ret (un := fun r => [⟨(.int .i64), r⟩]) loops14_nat (fun _ => rfl) ((ev14 x0 x1).trans (G14_some x0 x1 hpre)))
def env3 : Env where
  tab := tab
  glob := glob
  spec := fun
    | 7 => some spec7
    | 11 => some spec11
    | 12 => some spec12
    | 13 => some spec13
    | 14 => some spec14
    | 19 => some spec19
    | 20 => some spec20
    | 21 => some spec21
    | 22 => some spec22
    | 23 => some spec23
    | 24 => some spec24
    | 25 => some spec25
    | _ => none
  spec2 := fun
    | 8, [] => some sp8
    | 9, [] => some sp9
    | 10, [] => some sp10
    | 15, [] => some sp15
    | 16, [] => some sp16
    | 17, [] => some sp17
    | 18, [] => some sp18
    | _, _ => none
def orc3 : Orc := ⟨260, fun _ => none, fun
  | 0 => kp [1, 2, 4, 5, 6, 7, 8, 11] [(8, [0, 1, 2]), (11, [0, 1, 2, 3, 4, 5, 6])]
  | 1 => kp [1, 2, 4, 5, 6, 7, 8, 11, 17] [(8, [0, 1, 2]), (11, [0, 1, 2, 3, 4, 5, 6])]
  | 2 => kp [1, 2, 4, 5, 6, 7, 8, 11, 17] [(8, [0, 1, 2]), (11, [0, 1, 2, 3, 4, 5, 6])]
  | 3 => kp [4, 5, 6, 7, 11, 17, 65, 66, 67] [(11, [0, 1, 2, 3, 4, 5, 6])]
  | 4 => kp [4, 5, 6, 7, 11, 17, 65, 66, 67, 68] [(11, [0, 1, 2, 3, 4, 5, 6])]
  | 5 => kp [4, 5, 6, 7, 11, 17, 19, 65, 66, 67] [(11, [0, 1, 2, 3, 4, 5, 6]), (19, [0, 1, 2])]
  | 6 => kp [4, 5, 6, 7, 11, 17, 19, 20, 21, 22, 65, 66, 67] [(11, [0, 1, 2, 3, 4, 5, 6]), (19, [0, 1, 2]), (20, [0, 1, 2])]
  | 7 => kp [4, 5, 6, 7, 11, 17, 19, 20, 21, 22, 23, 24, 25, 65, 66, 67] [(11, [0, 1, 2, 3, 4, 5, 6]), (19, [0, 1, 2]), (20, [0, 1, 2]), (23, [0, 1, 2])]
  | 8 => kp [4, 5, 6, 7, 11, 17, 19, 65, 66, 67, 105] [(11, [0, 1, 2, 3, 4, 5, 6]), (19, [0, 1, 2])]
  | 9 => kp [16] []
  | 10 => kp [4, 5, 6, 7, 11, 17, 19, 65, 66, 67, 113, 114, 115] [(11, [0, 1, 2, 3, 4, 5, 6]), (19, [0, 1, 2])]
  | 11 => kp [4, 5, 6, 7, 11, 17, 19, 65, 66, 67, 113, 114, 115, 116] [(11, [0, 1, 2, 3, 4, 5, 6]), (19, [0, 1, 2])]
  | 12 => kp [4, 5, 6, 7, 11, 17, 19, 27, 65, 66, 67, 113, 114, 115] [(11, [0, 1, 2, 3, 4, 5, 6]), (19, [0, 1, 2])]
  | 13 => kp [4, 5, 6, 7, 11, 17, 19, 27, 28, 29, 65, 66, 67, 113, 114, 115] [(11, [0, 1, 2, 3, 4, 5, 6]), (19, [0, 1, 2]), (28, [0, 1, 2])]
  | 14 => kp [4, 5, 6, 7, 11, 17, 19, 28, 29, 30, 31, 65, 66, 67, 113, 114, 115] [(11, [0, 1, 2, 3, 4, 5, 6]), (19, [0, 1, 2]), (28, [0, 1, 2]), (30, [0, 1, 2])]
  | 15 => kp [4, 5, 6, 7, 11, 17, 19, 65, 66, 67, 113, 114, 115, 143] [(11, [0, 1, 2, 3, 4, 5, 6]), (19, [0, 1, 2])]
  | 16 => kp [16] []
  | 17 => kp [4, 5, 6, 7, 11, 17, 19, 65, 66, 67, 113, 114, 115] [(11, [0, 1, 2, 3, 4, 5, 6]), (19, [0, 1, 2])]
  | 18 => kp [4, 5, 6, 7, 11, 17, 19, 65, 66, 67, 150, 151, 152] [(11, [0, 1, 2, 3, 4, 5, 6]), (19, [0, 1, 2])]
  | 19 => kp [4, 5, 6, 7, 11, 17, 19, 65, 66, 67, 150, 151, 152, 153] [(11, [0, 1, 2, 3, 4, 5, 6]), (19, [0, 1, 2])]
  | 20 => kp [4, 5, 6, 7, 11, 17, 19, 33, 65, 66, 67, 150, 151, 152] [(11, [0, 1, 2, 3, 4, 5, 6]), (19, [0, 1, 2])]
  | 21 => kp [4, 5, 6, 7, 11, 17, 19, 33, 34, 35, 65, 66, 67, 150, 151, 152] [(11, [0, 1, 2, 3, 4, 5, 6]), (19, [0, 1, 2]), (34, [0, 1, 2])]
  | 22 => kp [4, 5, 6, 7, 11, 17, 19, 33, 34, 35, 36, 37, 65, 66, 67, 150, 151, 152] [(11, [0, 1, 2, 3, 4, 5, 6]), (19, [0, 1, 2]), (34, [0, 1, 2]), (36, [0, 1, 2])]
  | 23 => kp [4, 5, 6, 7, 11, 17, 19, 33, 34, 35, 36, 37, 38, 39, 65, 66, 67, 150, 151, 152] [(11, [0, 1, 2, 3, 4, 5, 6]), (19, [0, 1, 2]), (34, [0, 1, 2]), (36, [0, 1, 2])]
  | 24 => kp [4, 5, 6, 7, 11, 17, 19, 33, 34, 35, 36, 37, 38, 39, 40, 41, 65, 66, 67, 150, 151, 152] [(11, [0, 1, 2, 3, 4, 5, 6]), (19, [0, 1, 2]), (34, [0, 1, 2]), (36, [0, 1, 2])]
  | 25 => kp [4, 5, 6, 7, 11, 17, 19, 33, 34, 35, 36, 37, 38, 39, 40, 41, 42, 43, 65, 66, 67, 150, 151, 152] [(11, [0, 1, 2, 3, 4, 5, 6]), (19, [0, 1, 2]), (34, [0, 1, 2]), (36, [0, 1, 2])]
  | 26 => kp [4, 5, 6, 7, 11, 17, 19, 34, 35, 36, 37, 38, 39, 40, 41, 42, 43, 44, 45, 65, 66, 67, 150, 151, 152] [(11, [0, 1, 2, 3, 4, 5, 6]), (19, [0, 1, 2]), (34, [0, 1, 2]), (36, [0, 1, 2])]
  | 27 => kp [4, 5, 6, 7, 11, 17, 19, 65, 66, 67, 150, 151, 152, 223] [(11, [0, 1, 2, 3, 4, 5, 6]), (19, [0, 1, 2])]
  | 28 => kp [16] []
  | 29 => kp [4, 5, 6, 7, 11, 17, 19, 65, 66, 67, 150, 151, 152] [(11, [0, 1, 2, 3, 4, 5, 6]), (19, [0, 1, 2])]
  | 30 => kp [4, 5, 6, 7, 11, 17, 19, 65, 66, 67, 230, 231, 232] [(11, [0, 1, 2, 3, 4, 5, 6]), (19, [0, 1, 2])]
  | 31 => kp [4, 5, 6, 7, 11, 17, 19, 65, 66, 67, 230, 231, 232, 233] [(11, [0, 1, 2, 3, 4, 5, 6]), (19, [0, 1, 2])]
  | 32 => kp [4, 5, 6, 7, 11, 17, 19, 47, 65, 66, 67, 230, 231, 232] [(11, [0, 1, 2, 3, 4, 5, 6]), (19, [0, 1, 2])]
  | 33 => kp [4, 5, 6, 7, 11, 17, 19, 47, 48, 49, 65, 66, 67, 230, 231, 232] [(11, [0, 1, 2, 3, 4, 5, 6]), (19, [0, 1, 2])]
  | 34 => kp [4, 5, 6, 7, 11, 17, 19, 48, 49, 50, 51, 65, 66, 67, 230, 231, 232] [(11, [0, 1, 2, 3, 4, 5, 6]), (19, [0, 1, 2])]
  | 35 => kp [4, 5, 6, 7, 11, 17, 19, 65, 66, 67, 230, 231, 232, 256] [(11, [0, 1, 2, 3, 4, 5, 6]), (19, [0, 1, 2])]
  | 36 => kp [16] []
  | 37 => kp [4, 5, 6, 7, 11, 17, 19, 65, 66, 67, 230, 231, 232] [(11, [0, 1, 2, 3, 4, 5, 6]), (19, [0, 1, 2])]
  | 38 => kp [4, 5, 6, 7, 11, 17, 65, 66, 67] [(11, [0, 1, 2, 3, 4, 5, 6])]
  | 39 => kp [16] []
  | _ => [], fun | _ => false⟩
noncomputable def body3 : Code := Try.f3.body.getD .skip
def L3_31_sh : Shape := [(.slot 4, .dat (.int .i64)), (.slot 5, .dat (.int .i64)), (.slot 6, .dat (.int .i64)), (.slot 7, .dat (.int .i64)), (.slot 11, .ptr 11 0), (.slot 17, .dat .bool), (.slot 19, .ptr 19 0), (.slot 65, .own 24 t23), (.slot 66, .dat (.int .i64)), (.slot 67, .dat (.int .i64)), (.slot 230, .own 3 (.int .i64)), (.slot 231, .dat (.int .i64)), (.slot 232, .dat (.int .i64)), (.box 11, .bx 27 7), (.cell 11 0, .dat (.int .i64)), (.cell 11 1, .dat (.int .i64)), (.cell 11 2, .dat (.int .i64)), (.cell 11 3, .dat (.int .i64)), (.cell 11 4, .dat (.int .i64)), (.cell 11 5, .dat (.int .i64)), (.cell 11 6, .dat (.int .i64)), (.box 19, .bx 24 3), (.cell 19 0, .dat (.int .i64)), (.cell 19 1, .dat (.list t26)), (.cell 19 2, .dat (.int .i64))]
def L3_31_x0 : Shape := [(.slot 16, .dat .bool)]
def L3_31_x1 : Shape := [(.slot 4, .dat (.int .i64)), (.slot 5, .dat (.int .i64)), (.slot 6, .dat (.int .i64)), (.slot 7, .dat (.int .i64)), (.slot 11, .ptr 11 0), (.slot 17, .dat .bool), (.slot 19, .ptr 19 0), (.slot 65, .own 24 t23), (.slot 66, .dat (.int .i64)), (.slot 67, .dat (.int .i64)), (.slot 230, .own 3 (.int .i64)), (.slot 231, .dat (.int .i64)), (.slot 232, .dat (.int .i64)), (.box 11, .bx 27 7), (.cell 11 0, .dat (.int .i64)), (.cell 11 1, .dat (.int .i64)), (.cell 11 2, .dat (.int .i64)), (.cell 11 3, .dat (.int .i64)), (.cell 11 4, .dat (.int .i64)), (.cell 11 5, .dat (.int .i64)), (.cell 11 6, .dat (.int .i64)), (.box 19, .bx 24 3), (.cell 19 0, .dat (.int .i64)), (.cell 19 1, .dat (.list t26)), (.cell 19 2, .dat (.int .i64))]
def L3_31_pk (s : Tup L3_31_sh) : Int × Int × Int × Int × Bool × (List D23) × Int × Int × (List Int) × Int × Int × Int × Int × Int × Int × Int × Int × Int × Int × (List D26) × Int := (s.1, s.2.1, s.2.2.1, s.2.2.2.1, s.2.2.2.2.2.1, s.2.2.2.2.2.2.2.1, s.2.2.2.2.2.2.2.2.1, s.2.2.2.2.2.2.2.2.2.1, s.2.2.2.2.2.2.2.2.2.2.1, s.2.2.2.2.2.2.2.2.2.2.2.1, s.2.2.2.2.2.2.2.2.2.2.2.2.1, s.2.2.2.2.2.2.2.2.2.2.2.2.2.2.1, s.2.2.2.2.2.2.2.2.2.2.2.2.2.2.2.1, s.2.2.2.2.2.2.2.2.2.2.2.2.2.2.2.2.1, s.2.2.2.2.2.2.2.2.2.2.2.2.2.2.2.2.2.1, s.2.2.2.2.2.2.2.2.2.2.2.2.2.2.2.2.2.2.1, s.2.2.2.2.2.2.2.2.2.2.2.2.2.2.2.2.2.2.2.1, s.2.2.2.2.2.2.2.2.2.2.2.2.2.2.2.2.2.2.2.2.1, s.2.2.2.2.2.2.2.2.2.2.2.2.2.2.2.2.2.2.2.2.2.2.1, s.2.2.2.2.2.2.2.2.2.2.2.2.2.2.2.2.2.2.2.2.2.2.2.1, s.2.2.2.2.2.2.2.2.2.2.2.2.2.2.2.2.2.2.2.2.2.2.2.2.1)
def L3_31_un (s : Int × Int × Int × Int × Bool × (List D23) × Int × Int × (List Int) × Int × Int × Int × Int × Int × Int × Int × Int × Int × Int × (List D26) × Int) : Tup L3_31_sh := (s.1, (s.2.1, (s.2.2.1, (s.2.2.2.1, ((), (s.2.2.2.2.1, ((), (s.2.2.2.2.2.1, (s.2.2.2.2.2.2.1, (s.2.2.2.2.2.2.2.1, (s.2.2.2.2.2.2.2.2.1, (s.2.2.2.2.2.2.2.2.2.1, (s.2.2.2.2.2.2.2.2.2.2.1, ((), (s.2.2.2.2.2.2.2.2.2.2.2.1, (s.2.2.2.2.2.2.2.2.2.2.2.2.1, (s.2.2.2.2.2.2.2.2.2.2.2.2.2.1, (s.2.2.2.2.2.2.2.2.2.2.2.2.2.2.1, (s.2.2.2.2.2.2.2.2.2.2.2.2.2.2.2.1, (s.2.2.2.2.2.2.2.2.2.2.2.2.2.2.2.2.1, (s.2.2.2.2.2.2.2.2.2.2.2.2.2.2.2.2.2.1, ((), (s.2.2.2.2.2.2.2.2.2.2.2.2.2.2.2.2.2.2.1, (s.2.2.2.2.2.2.2.2.2.2.2.2.2.2.2.2.2.2.2.1, (s.2.2.2.2.2.2.2.2.2.2.2.2.2.2.2.2.2.2.2.2, ())))))))))))))))))))))))))
def L3_31_leave (x : (Bool) ⊕ (Int × Int × Int × Int × Bool × (List D23) × Int × Int × (List Int) × Int × Int × Int × Int × Int × Int × Int × Int × Int × Int × (List D26) × Int)) (R : Type) (K : Cont R) : Option R := match x with
  | (.inl a) => K .ret (mkSt L3_31_x0 (a, ()))
  | (.inr a) => K (.exit 6) (mkSt L3_31_x1 (a.1, (a.2.1, (a.2.2.1, (a.2.2.2.1, ((), (a.2.2.2.2.1, ((), (a.2.2.2.2.2.1, (a.2.2.2.2.2.2.1, (a.2.2.2.2.2.2.2.1, (a.2.2.2.2.2.2.2.2.1, (a.2.2.2.2.2.2.2.2.2.1, (a.2.2.2.2.2.2.2.2.2.2.1, ((), (a.2.2.2.2.2.2.2.2.2.2.2.1, (a.2.2.2.2.2.2.2.2.2.2.2.2.1, (a.2.2.2.2.2.2.2.2.2.2.2.2.2.1, (a.2.2.2.2.2.2.2.2.2.2.2.2.2.2.1, (a.2.2.2.2.2.2.2.2.2.2.2.2.2.2.2.1, (a.2.2.2.2.2.2.2.2.2.2.2.2.2.2.2.2.1, (a.2.2.2.2.2.2.2.2.2.2.2.2.2.2.2.2.2.1, ((), (a.2.2.2.2.2.2.2.2.2.2.2.2.2.2.2.2.2.2.1, (a.2.2.2.2.2.2.2.2.2.2.2.2.2.2.2.2.2.2.2.1, (a.2.2.2.2.2.2.2.2.2.2.2.2.2.2.2.2.2.2.2.2, ()))))))))))))))))))))))))))
def L3_31_d (e : Exit) (st : St) : Option ((Bool) ⊕ (Int × Int × Int × Int × Bool × (List D23) × Int × Int × (List Int) × Int × Int × Int × Int × Int × Int × Int × Int × Int × Int × (List D26) × Int)) := match e with
  | .ret => (match unSt L3_31_x0 st with
    | some s => some (.inl s.1)
    | none => none)
  | .exit 6 => (match unSt L3_31_x1 st with
    | some s => some (.inr (s.1, s.2.1, s.2.2.1, s.2.2.2.1, s.2.2.2.2.2.1, s.2.2.2.2.2.2.2.1, s.2.2.2.2.2.2.2.2.1, s.2.2.2.2.2.2.2.2.2.1, s.2.2.2.2.2.2.2.2.2.2.1, s.2.2.2.2.2.2.2.2.2.2.2.1, s.2.2.2.2.2.2.2.2.2.2.2.2.1, s.2.2.2.2.2.2.2.2.2.2.2.2.2.2.1, s.2.2.2.2.2.2.2.2.2.2.2.2.2.2.2.1, s.2.2.2.2.2.2.2.2.2.2.2.2.2.2.2.2.1, s.2.2.2.2.2.2.2.2.2.2.2.2.2.2.2.2.2.1, s.2.2.2.2.2.2.2.2.2.2.2.2.2.2.2.2.2.2.1, s.2.2.2.2.2.2.2.2.2.2.2.2.2.2.2.2.2.2.2.1, s.2.2.2.2.2.2.2.2.2.2.2.2.2.2.2.2.2.2.2.2.1, s.2.2.2.2.2.2.2.2.2.2.2.2.2.2.2.2.2.2.2.2.2.2.1, s.2.2.2.2.2.2.2.2.2.2.2.2.2.2.2.2.2.2.2.2.2.2.2.1, s.2.2.2.2.2.2.2.2.2.2.2.2.2.2.2.2.2.2.2.2.2.2.2.2.1))
    | none => none)
  | _ => none
def L3_31_r (s0 : Int) (s1 : Int) (s2 : Int) (s3 : Int) (s4 : Bool) (s5 : (List D23)) (s6 : Int) (s7 : Int) (s8 : (List Int)) (s9 : Int) (s10 : Int) (s11 : Int) (s12 : Int) (s13 : Int) (s14 : Int) (s15 : Int) (s16 : Int) (s17 : Int) (s18 : Int) (s19 : (List D26)) (s20 : Int) : Option ((Int × Int × Int × Int × Bool × (List D23) × Int × Int × (List Int) × Int × Int × Int × Int × Int × Int × Int × Int × Int × Int × (List D26) × Int) ⊕ ((Bool) ⊕ (Int × Int × Int × Int × Bool × (List D23) × Int × Int × (List Int) × Int × Int × Int × Int × Int × Int × Int × Int × Int × Int × (List D26) × Int))) :=
  let v78 : Bool := (decide (s10 < s9))
  bif v78 then
  bif (decide (0 ≤ s10) && decide (s10 < (List.length s8))) then
  bif (decide ((Int.toNat s10) < List.length s8)) then
  let v79 : Int := (List.getD s8 (Int.toNat s10) (0 : Int))
  bif (P24 (s18, (s19, (s20, ()))) v79) then
  let v80 : ((List Int) × Int) := (F24 (s18, (s19, (s20, ()))) v79)
  bif (P25 (s18, (s19, (s20, ()))) v79) then
  let v81 : ((List Int) × Int) := (F25 (s18, (s19, (s20, ()))) v79)
  let v82 : Bool := (v80.2 != v81.2)
  bif ((P23 (List.take (List.length v80.1) v80.1) v81.1) || !(!v82 && true)) then
  let v83 : Bool := (F23 (List.take (List.length v80.1) v80.1) v81.1)
  let v84 : Bool := (!v83)
  let v85 : Bool := (bif v82 then true else v84)
  bif v85 then
  some (.inr (.inl false))
  else
  let v86 : Int := (IntKind.i64.wrap (s10 + (1 : Int)))
  some (.inl (s0, s1, s2, s3, s4, s5, s6, s7, s8, s9, v86, s11, s12, s13, s14, s15, s16, s17, s18, s19, s20))
  else none
  else none
  else none
  else none
  else none
  else
  some (.inr (.inr (s0, s1, s2, s3, s4, s5, s6, s7, s8, s9, s10, s11, s12, s13, s14, s15, s16, s17, s18, s19, s20)))
def L3_31 : Int × Int × Int × Int × Bool × (List D23) × Int × Int × (List Int) × Int × Int × Int × Int × Int × Int × Int × Int × Int × Int × (List D26) × Int → Option ((Bool) ⊕ (Int × Int × Int × Int × Bool × (List D23) × Int × Int × (List Int) × Int × Int × Int × Int × Int × Int × Int × Int × Int × Int × (List D26) × Int)) := Lim (fun s => L3_31_r s.1 s.2.1 s.2.2.1 s.2.2.2.1 s.2.2.2.2.1 s.2.2.2.2.2.1 s.2.2.2.2.2.2.1 s.2.2.2.2.2.2.2.1 s.2.2.2.2.2.2.2.2.1 s.2.2.2.2.2.2.2.2.2.1 s.2.2.2.2.2.2.2.2.2.2.1 s.2.2.2.2.2.2.2.2.2.2.2.1 s.2.2.2.2.2.2.2.2.2.2.2.2.1 s.2.2.2.2.2.2.2.2.2.2.2.2.2.1 s.2.2.2.2.2.2.2.2.2.2.2.2.2.2.1 s.2.2.2.2.2.2.2.2.2.2.2.2.2.2.2.1 s.2.2.2.2.2.2.2.2.2.2.2.2.2.2.2.2.1 s.2.2.2.2.2.2.2.2.2.2.2.2.2.2.2.2.2.1 s.2.2.2.2.2.2.2.2.2.2.2.2.2.2.2.2.2.2.1 s.2.2.2.2.2.2.2.2.2.2.2.2.2.2.2.2.2.2.2.1 s.2.2.2.2.2.2.2.2.2.2.2.2.2.2.2.2.2.2.2.2)
def L3_31_sum : Sum := limSum L3_31_sh L3_31_pk (fun s => L3_31_r s.1 s.2.1 s.2.2.1 s.2.2.2.1 s.2.2.2.2.1 s.2.2.2.2.2.1 s.2.2.2.2.2.2.1 s.2.2.2.2.2.2.2.1 s.2.2.2.2.2.2.2.2.1 s.2.2.2.2.2.2.2.2.2.1 s.2.2.2.2.2.2.2.2.2.2.1 s.2.2.2.2.2.2.2.2.2.2.2.1 s.2.2.2.2.2.2.2.2.2.2.2.2.1 s.2.2.2.2.2.2.2.2.2.2.2.2.2.1 s.2.2.2.2.2.2.2.2.2.2.2.2.2.2.1 s.2.2.2.2.2.2.2.2.2.2.2.2.2.2.2.1 s.2.2.2.2.2.2.2.2.2.2.2.2.2.2.2.2.1 s.2.2.2.2.2.2.2.2.2.2.2.2.2.2.2.2.2.1 s.2.2.2.2.2.2.2.2.2.2.2.2.2.2.2.2.2.2.1 s.2.2.2.2.2.2.2.2.2.2.2.2.2.2.2.2.2.2.2.1 s.2.2.2.2.2.2.2.2.2.2.2.2.2.2.2.2.2.2.2.2) L3_31_leave
theorem L3_31_nat : Natural L3_31_sum := natural_lim fun x R K => by
  rcases x with x|x <;> rfl
theorem L3_31_dok : ∀ e st x, e ≠ .normal → L3_31_d e st = some x → ∀ R (K : Cont R), K e st = L3_31_leave x R K := by
  intro e st x _ h R K
  unfold L3_31_d at h
  split at h
  · split at h
    · rename_i s hs; cases h; rw [unSt_some hs]; rfl
    · cases h
  · split at h
    · rename_i s hs; cases h; rw [unSt_some hs]; rfl
    · cases h
  · cases h
def L3_19_sh : Shape := [(.slot 4, .dat (.int .i64)), (.slot 5, .dat (.int .i64)), (.slot 6, .dat (.int .i64)), (.slot 7, .dat (.int .i64)), (.slot 11, .ptr 11 0), (.slot 17, .dat .bool), (.slot 19, .ptr 19 0), (.slot 65, .own 24 t23), (.slot 66, .dat (.int .i64)), (.slot 67, .dat (.int .i64)), (.slot 150, .own 3 (.int .i64)), (.slot 151, .dat (.int .i64)), (.slot 152, .dat (.int .i64)), (.box 11, .bx 27 7), (.cell 11 0, .dat (.int .i64)), (.cell 11 1, .dat (.int .i64)), (.cell 11 2, .dat (.int .i64)), (.cell 11 3, .dat (.int .i64)), (.cell 11 4, .dat (.int .i64)), (.cell 11 5, .dat (.int .i64)), (.cell 11 6, .dat (.int .i64)), (.box 19, .bx 24 3), (.cell 19 0, .dat (.int .i64)), (.cell 19 1, .dat (.list t26)), (.cell 19 2, .dat (.int .i64))]
def L3_19_x0 : Shape := [(.slot 16, .dat .bool)]
def L3_19_x1 : Shape := [(.slot 4, .dat (.int .i64)), (.slot 5, .dat (.int .i64)), (.slot 6, .dat (.int .i64)), (.slot 7, .dat (.int .i64)), (.slot 11, .ptr 11 0), (.slot 17, .dat .bool), (.slot 19, .ptr 19 0), (.slot 65, .own 24 t23), (.slot 66, .dat (.int .i64)), (.slot 67, .dat (.int .i64)), (.slot 150, .own 3 (.int .i64)), (.slot 151, .dat (.int .i64)), (.slot 152, .dat (.int .i64)), (.box 11, .bx 27 7), (.cell 11 0, .dat (.int .i64)), (.cell 11 1, .dat (.int .i64)), (.cell 11 2, .dat (.int .i64)), (.cell 11 3, .dat (.int .i64)), (.cell 11 4, .dat (.int .i64)), (.cell 11 5, .dat (.int .i64)), (.cell 11 6, .dat (.int .i64)), (.box 19, .bx 24 3), (.cell 19 0, .dat (.int .i64)), (.cell 19 1, .dat (.list t26)), (.cell 19 2, .dat (.int .i64))]
def L3_19_pk (s : Tup L3_19_sh) : Int × Int × Int × Int × Bool × (List D23) × Int × Int × (List Int) × Int × Int × Int × Int × Int × Int × Int × Int × Int × Int × (List D26) × Int := (s.1, s.2.1, s.2.2.1, s.2.2.2.1, s.2.2.2.2.2.1, s.2.2.2.2.2.2.2.1, s.2.2.2.2.2.2.2.2.1, s.2.2.2.2.2.2.2.2.2.1, s.2.2.2.2.2.2.2.2.2.2.1, s.2.2.2.2.2.2.2.2.2.2.2.1, s.2.2.2.2.2.2.2.2.2.2.2.2.1, s.2.2.2.2.2.2.2.2.2.2.2.2.2.2.1, s.2.2.2.2.2.2.2.2.2.2.2.2.2.2.2.1, s.2.2.2.2.2.2.2.2.2.2.2.2.2.2.2.2.1, s.2.2.2.2.2.2.2.2.2.2.2.2.2.2.2.2.2.1, s.2.2.2.2.2.2.2.2.2.2.2.2.2.2.2.2.2.2.1, s.2.2.2.2.2.2.2.2.2.2.2.2.2.2.2.2.2.2.2.1, s.2.2.2.2.2.2.2.2.2.2.2.2.2.2.2.2.2.2.2.2.1, s.2.2.2.2.2.2.2.2.2.2.2.2.2.2.2.2.2.2.2.2.2.2.1, s.2.2.2.2.2.2.2.2.2.2.2.2.2.2.2.2.2.2.2.2.2.2.2.1, s.2.2.2.2.2.2.2.2.2.2.2.2.2.2.2.2.2.2.2.2.2.2.2.2.1)
def L3_19_un (s : Int × Int × Int × Int × Bool × (List D23) × Int × Int × (List Int) × Int × Int × Int × Int × Int × Int × Int × Int × Int × Int × (List D26) × Int) : Tup L3_19_sh := (s.1, (s.2.1, (s.2.2.1, (s.2.2.2.1, ((), (s.2.2.2.2.1, ((), (s.2.2.2.2.2.1, (s.2.2.2.2.2.2.1, (s.2.2.2.2.2.2.2.1, (s.2.2.2.2.2.2.2.2.1, (s.2.2.2.2.2.2.2.2.2.1, (s.2.2.2.2.2.2.2.2.2.2.1, ((), (s.2.2.2.2.2.2.2.2.2.2.2.1, (s.2.2.2.2.2.2.2.2.2.2.2.2.1, (s.2.2.2.2.2.2.2.2.2.2.2.2.2.1, (s.2.2.2.2.2.2.2.2.2.2.2.2.2.2.1, (s.2.2.2.2.2.2.2.2.2.2.2.2.2.2.2.1, (s.2.2.2.2.2.2.2.2.2.2.2.2.2.2.2.2.1, (s.2.2.2.2.2.2.2.2.2.2.2.2.2.2.2.2.2.1, ((), (s.2.2.2.2.2.2.2.2.2.2.2.2.2.2.2.2.2.2.1, (s.2.2.2.2.2.2.2.2.2.2.2.2.2.2.2.2.2.2.2.1, (s.2.2.2.2.2.2.2.2.2.2.2.2.2.2.2.2.2.2.2.2, ())))))))))))))))))))))))))
def L3_19_leave (x : (Bool) ⊕ (Int × Int × Int × Int × Bool × (List D23) × Int × Int × (List Int) × Int × Int × Int × Int × Int × Int × Int × Int × Int × Int × (List D26) × Int)) (R : Type) (K : Cont R) : Option R := match x with
  | (.inl a) => K .ret (mkSt L3_19_x0 (a, ()))
  | (.inr a) => K (.exit 4) (mkSt L3_19_x1 (a.1, (a.2.1, (a.2.2.1, (a.2.2.2.1, ((), (a.2.2.2.2.1, ((), (a.2.2.2.2.2.1, (a.2.2.2.2.2.2.1, (a.2.2.2.2.2.2.2.1, (a.2.2.2.2.2.2.2.2.1, (a.2.2.2.2.2.2.2.2.2.1, (a.2.2.2.2.2.2.2.2.2.2.1, ((), (a.2.2.2.2.2.2.2.2.2.2.2.1, (a.2.2.2.2.2.2.2.2.2.2.2.2.1, (a.2.2.2.2.2.2.2.2.2.2.2.2.2.1, (a.2.2.2.2.2.2.2.2.2.2.2.2.2.2.1, (a.2.2.2.2.2.2.2.2.2.2.2.2.2.2.2.1, (a.2.2.2.2.2.2.2.2.2.2.2.2.2.2.2.2.1, (a.2.2.2.2.2.2.2.2.2.2.2.2.2.2.2.2.2.1, ((), (a.2.2.2.2.2.2.2.2.2.2.2.2.2.2.2.2.2.2.1, (a.2.2.2.2.2.2.2.2.2.2.2.2.2.2.2.2.2.2.2.1, (a.2.2.2.2.2.2.2.2.2.2.2.2.2.2.2.2.2.2.2.2, ()))))))))))))))))))))))))))
def L3_19_d (e : Exit) (st : St) : Option ((Bool) ⊕ (Int × Int × Int × Int × Bool × (List D23) × Int × Int × (List Int) × Int × Int × Int × Int × Int × Int × Int × Int × Int × Int × (List D26) × Int)) := match e with
  | .ret => (match unSt L3_19_x0 st with
    | some s => some (.inl s.1)
    | none => none)
  | .exit 4 => (match unSt L3_19_x1 st with
    | some s => some (.inr (s.1, s.2.1, s.2.2.1, s.2.2.2.1, s.2.2.2.2.2.1, s.2.2.2.2.2.2.2.1, s.2.2.2.2.2.2.2.2.1, s.2.2.2.2.2.2.2.2.2.1, s.2.2.2.2.2.2.2.2.2.2.1, s.2.2.2.2.2.2.2.2.2.2.2.1, s.2.2.2.2.2.2.2.2.2.2.2.2.1, s.2.2.2.2.2.2.2.2.2.2.2.2.2.2.1, s.2.2.2.2.2.2.2.2.2.2.2.2.2.2.2.1, s.2.2.2.2.2.2.2.2.2.2.2.2.2.2.2.2.1, s.2.2.2.2.2.2.2.2.2.2.2.2.2.2.2.2.2.1, s.2.2.2.2.2.2.2.2.2.2.2.2.2.2.2.2.2.2.1, s.2.2.2.2.2.2.2.2.2.2.2.2.2.2.2.2.2.2.2.1, s.2.2.2.2.2.2.2.2.2.2.2.2.2.2.2.2.2.2.2.2.1, s.2.2.2.2.2.2.2.2.2.2.2.2.2.2.2.2.2.2.2.2.2.2.1, s.2.2.2.2.2.2.2.2.2.2.2.2.2.2.2.2.2.2.2.2.2.2.2.1, s.2.2.2.2.2.2.2.2.2.2.2.2.2.2.2.2.2.2.2.2.2.2.2.2.1))
    | none => none)
  | _ => none
def L3_19_r (s0 : Int) (s1 : Int) (s2 : Int) (s3 : Int) (s4 : Bool) (s5 : (List D23)) (s6 : Int) (s7 : Int) (s8 : (List Int)) (s9 : Int) (s10 : Int) (s11 : Int) (s12 : Int) (s13 : Int) (s14 : Int) (s15 : Int) (s16 : Int) (s17 : Int) (s18 : Int) (s19 : (List D26)) (s20 : Int) : Option ((Int × Int × Int × Int × Bool × (List D23) × Int × Int × (List Int) × Int × Int × Int × Int × Int × Int × Int × Int × Int × Int × (List D26) × Int) ⊕ ((Bool) ⊕ (Int × Int × Int × Int × Bool × (List D23) × Int × Int × (List Int) × Int × Int × Int × Int × Int × Int × Int × Int × Int × Int × (List D26) × Int))) :=
  let v48 : Bool := (decide (s10 < s9))
  bif v48 then
  bif (decide (0 ≤ s10) && decide (s10 < (List.length s8))) then
  bif (decide ((Int.toNat s10) < List.length s8)) then
  let v49 : Int := (List.getD s8 (Int.toNat s10) (0 : Int))
  bif (P17 (s18, (s19, (s20, ()))) v49) then
  let q50 : (D23 × (Int × Unit)) := F17 (s18, (s19, (s20, ()))) v49
  let v51 : (List D26) := ([] : (List D26))
  let v52 : (List D26) := ([] : (List D26))
  bif (P18 (s18, (s19, (s20, ()))) v49) then
  let q53 : (D23 × (Int × Unit)) := F18 (s18, (s19, (s20, ()))) v49
  let v54 : (List D26) := ([] : (List D26))
  let v55 : (List D26) := ([] : (List D26))
  bif (P19 (s18, (s19, (s20, ()))) v49) then
  let v56 : ((List Int) × Int) := (F19 (s18, (s19, (s20, ()))) v49)
  bif (P20 (s18, (s19, (s20, ()))) v49) then
  let v57 : ((List Int) × Int) := (F20 (s18, (s19, (s20, ()))) v49)
  bif (P21 (s18, (s19, (s20, ()))) s0 v49) then
  let v58 : (Int × Int) := (F21 (s18, (s19, (s20, ()))) s0 v49)
  bif (P22 (s18, (s19, (s20, ()))) s0 v49) then
  let v59 : (Int × Int) := (F22 (s18, (s19, (s20, ()))) s0 v49)
  let v60 : Bool := (q50.2.1 != q53.2.1)
  let v61 : Bool := (v56.2 != v57.2)
  let v62 : Bool := (bif v60 then true else v61)
  let v63 : Bool := (v58.2 != v59.2)
  let v64 : Bool := (bif v62 then true else v63)
  let v65 : Bool := (v58.1 != v59.1)
  let v66 : Bool := (bif v64 then true else v65)
  bif ((P13 q50.1 q53.1) || !(!v66 && true)) then
  let v67 : Bool := (F13 q50.1 q53.1)
  let v68 : Bool := (!v67)
  let v69 : Bool := (bif v66 then true else v68)
  bif ((P23 (List.take (List.length v56.1) v56.1) v57.1) || !(!v69 && true)) then
  let v70 : Bool := (F23 (List.take (List.length v56.1) v56.1) v57.1)
  let v71 : Bool := (!v70)
  let v72 : Bool := (bif v69 then true else v71)
  bif v72 then
  some (.inr (.inl false))
  else
  let v73 : Int := (IntKind.i64.wrap (s10 + (1 : Int)))
  some (.inl (s0, s1, s2, s3, s4, s5, s6, s7, s8, s9, v73, s11, s12, s13, s14, s15, s16, s17, s18, s19, s20))
  else none
  else none
  else none
  else none
  else none
  else none
  else none
  else none
  else none
  else none
  else
  some (.inr (.inr (s0, s1, s2, s3, s4, s5, s6, s7, s8, s9, s10, s11, s12, s13, s14, s15, s16, s17, s18, s19, s20)))
def L3_19 : Int × Int × Int × Int × Bool × (List D23) × Int × Int × (List Int) × Int × Int × Int × Int × Int × Int × Int × Int × Int × Int × (List D26) × Int → Option ((Bool) ⊕ (Int × Int × Int × Int × Bool × (List D23) × Int × Int × (List Int) × Int × Int × Int × Int × Int × Int × Int × Int × Int × Int × (List D26) × Int)) := Lim (fun s => L3_19_r s.1 s.2.1 s.2.2.1 s.2.2.2.1 s.2.2.2.2.1 s.2.2.2.2.2.1 s.2.2.2.2.2.2.1 s.2.2.2.2.2.2.2.1 s.2.2.2.2.2.2.2.2.1 s.2.2.2.2.2.2.2.2.2.1 s.2.2.2.2.2.2.2.2.2.2.1 s.2.2.2.2.2.2.2.2.2.2.2.1 s.2.2.2.2.2.2.2.2.2.2.2.2.1 s.2.2.2.2.2.2.2.2.2.2.2.2.2.1 s.2.2.2.2.2.2.2.2.2.2.2.2.2.2.1 s.2.2.2.2.2.2.2.2.2.2.2.2.2.2.2.1 s.2.2.2.2.2.2.2.2.2.2.2.2.2.2.2.2.1 s.2.2.2.2.2.2.2.2.2.2.2.2.2.2.2.2.2.1 s.2.2.2.2.2.2.2.2.2.2.2.2.2.2.2.2.2.2.1 s.2.2.2.2.2.2.2.2.2.2.2.2.2.2.2.2.2.2.2.1 s.2.2.2.2.2.2.2.2.2.2.2.2.2.2.2.2.2.2.2.2)
def L3_19_sum : Sum := limSum L3_19_sh L3_19_pk (fun s => L3_19_r s.1 s.2.1 s.2.2.1 s.2.2.2.1 s.2.2.2.2.1 s.2.2.2.2.2.1 s.2.2.2.2.2.2.1 s.2.2.2.2.2.2.2.1 s.2.2.2.2.2.2.2.2.1 s.2.2.2.2.2.2.2.2.2.1 s.2.2.2.2.2.2.2.2.2.2.1 s.2.2.2.2.2.2.2.2.2.2.2.1 s.2.2.2.2.2.2.2.2.2.2.2.2.1 s.2.2.2.2.2.2.2.2.2.2.2.2.2.1 s.2.2.2.2.2.2.2.2.2.2.2.2.2.2.1 s.2.2.2.2.2.2.2.2.2.2.2.2.2.2.2.1 s.2.2.2.2.2.2.2.2.2.2.2.2.2.2.2.2.1 s.2.2.2.2.2.2.2.2.2.2.2.2.2.2.2.2.2.1 s.2.2.2.2.2.2.2.2.2.2.2.2.2.2.2.2.2.2.1 s.2.2.2.2.2.2.2.2.2.2.2.2.2.2.2.2.2.2.2.1 s.2.2.2.2.2.2.2.2.2.2.2.2.2.2.2.2.2.2.2.2) L3_19_leave
theorem L3_19_nat : Natural L3_19_sum := natural_lim fun x R K => by
  rcases x with x|x <;> rfl
theorem L3_19_dok : ∀ e st x, e ≠ .normal → L3_19_d e st = some x → ∀ R (K : Cont R), K e st = L3_19_leave x R K := by
  intro e st x _ h R K
  unfold L3_19_d at h
  split at h
  · split at h
    · rename_i s hs; cases h; rw [unSt_some hs]; rfl
    · cases h
  · split at h
    · rename_i s hs; cases h; rw [unSt_some hs]; rfl
    · cases h
  · cases h
def L3_11_sh : Shape := [(.slot 4, .dat (.int .i64)), (.slot 5, .dat (.int .i64)), (.slot 6, .dat (.int .i64)), (.slot 7, .dat (.int .i64)), (.slot 11, .ptr 11 0), (.slot 17, .dat .bool), (.slot 19, .ptr 19 0), (.slot 65, .own 24 t23), (.slot 66, .dat (.int .i64)), (.slot 67, .dat (.int .i64)), (.slot 113, .own 3 (.int .i64)), (.slot 114, .dat (.int .i64)), (.slot 115, .dat (.int .i64)), (.box 11, .bx 27 7), (.cell 11 0, .dat (.int .i64)), (.cell 11 1, .dat (.int .i64)), (.cell 11 2, .dat (.int .i64)), (.cell 11 3, .dat (.int .i64)), (.cell 11 4, .dat (.int .i64)), (.cell 11 5, .dat (.int .i64)), (.cell 11 6, .dat (.int .i64)), (.box 19, .bx 24 3), (.cell 19 0, .dat (.int .i64)), (.cell 19 1, .dat (.list t26)), (.cell 19 2, .dat (.int .i64))]
def L3_11_x0 : Shape := [(.slot 16, .dat .bool)]
def L3_11_x1 : Shape := [(.slot 4, .dat (.int .i64)), (.slot 5, .dat (.int .i64)), (.slot 6, .dat (.int .i64)), (.slot 7, .dat (.int .i64)), (.slot 11, .ptr 11 0), (.slot 17, .dat .bool), (.slot 19, .ptr 19 0), (.slot 65, .own 24 t23), (.slot 66, .dat (.int .i64)), (.slot 67, .dat (.int .i64)), (.slot 113, .own 3 (.int .i64)), (.slot 114, .dat (.int .i64)), (.slot 115, .dat (.int .i64)), (.box 11, .bx 27 7), (.cell 11 0, .dat (.int .i64)), (.cell 11 1, .dat (.int .i64)), (.cell 11 2, .dat (.int .i64)), (.cell 11 3, .dat (.int .i64)), (.cell 11 4, .dat (.int .i64)), (.cell 11 5, .dat (.int .i64)), (.cell 11 6, .dat (.int .i64)), (.box 19, .bx 24 3), (.cell 19 0, .dat (.int .i64)), (.cell 19 1, .dat (.list t26)), (.cell 19 2, .dat (.int .i64))]
def L3_11_pk (s : Tup L3_11_sh) : Int × Int × Int × Int × Bool × (List D23) × Int × Int × (List Int) × Int × Int × Int × Int × Int × Int × Int × Int × Int × Int × (List D26) × Int := (s.1, s.2.1, s.2.2.1, s.2.2.2.1, s.2.2.2.2.2.1, s.2.2.2.2.2.2.2.1, s.2.2.2.2.2.2.2.2.1, s.2.2.2.2.2.2.2.2.2.1, s.2.2.2.2.2.2.2.2.2.2.1, s.2.2.2.2.2.2.2.2.2.2.2.1, s.2.2.2.2.2.2.2.2.2.2.2.2.1, s.2.2.2.2.2.2.2.2.2.2.2.2.2.2.1, s.2.2.2.2.2.2.2.2.2.2.2.2.2.2.2.1, s.2.2.2.2.2.2.2.2.2.2.2.2.2.2.2.2.1, s.2.2.2.2.2.2.2.2.2.2.2.2.2.2.2.2.2.1, s.2.2.2.2.2.2.2.2.2.2.2.2.2.2.2.2.2.2.1, s.2.2.2.2.2.2.2.2.2.2.2.2.2.2.2.2.2.2.2.1, s.2.2.2.2.2.2.2.2.2.2.2.2.2.2.2.2.2.2.2.2.1, s.2.2.2.2.2.2.2.2.2.2.2.2.2.2.2.2.2.2.2.2.2.2.1, s.2.2.2.2.2.2.2.2.2.2.2.2.2.2.2.2.2.2.2.2.2.2.2.1, s.2.2.2.2.2.2.2.2.2.2.2.2.2.2.2.2.2.2.2.2.2.2.2.2.1)
def L3_11_un (s : Int × Int × Int × Int × Bool × (List D23) × Int × Int × (List Int) × Int × Int × Int × Int × Int × Int × Int × Int × Int × Int × (List D26) × Int) : Tup L3_11_sh := (s.1, (s.2.1, (s.2.2.1, (s.2.2.2.1, ((), (s.2.2.2.2.1, ((), (s.2.2.2.2.2.1, (s.2.2.2.2.2.2.1, (s.2.2.2.2.2.2.2.1, (s.2.2.2.2.2.2.2.2.1, (s.2.2.2.2.2.2.2.2.2.1, (s.2.2.2.2.2.2.2.2.2.2.1, ((), (s.2.2.2.2.2.2.2.2.2.2.2.1, (s.2.2.2.2.2.2.2.2.2.2.2.2.1, (s.2.2.2.2.2.2.2.2.2.2.2.2.2.1, (s.2.2.2.2.2.2.2.2.2.2.2.2.2.2.1, (s.2.2.2.2.2.2.2.2.2.2.2.2.2.2.2.1, (s.2.2.2.2.2.2.2.2.2.2.2.2.2.2.2.2.1, (s.2.2.2.2.2.2.2.2.2.2.2.2.2.2.2.2.2.1, ((), (s.2.2.2.2.2.2.2.2.2.2.2.2.2.2.2.2.2.2.1, (s.2.2.2.2.2.2.2.2.2.2.2.2.2.2.2.2.2.2.2.1, (s.2.2.2.2.2.2.2.2.2.2.2.2.2.2.2.2.2.2.2.2, ())))))))))))))))))))))))))
def L3_11_leave (x : (Bool) ⊕ (Int × Int × Int × Int × Bool × (List D23) × Int × Int × (List Int) × Int × Int × Int × Int × Int × Int × Int × Int × Int × Int × (List D26) × Int)) (R : Type) (K : Cont R) : Option R := match x with
  | (.inl a) => K .ret (mkSt L3_11_x0 (a, ()))
  | (.inr a) => K (.exit 2) (mkSt L3_11_x1 (a.1, (a.2.1, (a.2.2.1, (a.2.2.2.1, ((), (a.2.2.2.2.1, ((), (a.2.2.2.2.2.1, (a.2.2.2.2.2.2.1, (a.2.2.2.2.2.2.2.1, (a.2.2.2.2.2.2.2.2.1, (a.2.2.2.2.2.2.2.2.2.1, (a.2.2.2.2.2.2.2.2.2.2.1, ((), (a.2.2.2.2.2.2.2.2.2.2.2.1, (a.2.2.2.2.2.2.2.2.2.2.2.2.1, (a.2.2.2.2.2.2.2.2.2.2.2.2.2.1, (a.2.2.2.2.2.2.2.2.2.2.2.2.2.2.1, (a.2.2.2.2.2.2.2.2.2.2.2.2.2.2.2.1, (a.2.2.2.2.2.2.2.2.2.2.2.2.2.2.2.2.1, (a.2.2.2.2.2.2.2.2.2.2.2.2.2.2.2.2.2.1, ((), (a.2.2.2.2.2.2.2.2.2.2.2.2.2.2.2.2.2.2.1, (a.2.2.2.2.2.2.2.2.2.2.2.2.2.2.2.2.2.2.2.1, (a.2.2.2.2.2.2.2.2.2.2.2.2.2.2.2.2.2.2.2.2, ()))))))))))))))))))))))))))
def L3_11_d (e : Exit) (st : St) : Option ((Bool) ⊕ (Int × Int × Int × Int × Bool × (List D23) × Int × Int × (List Int) × Int × Int × Int × Int × Int × Int × Int × Int × Int × Int × (List D26) × Int)) := match e with
  | .ret => (match unSt L3_11_x0 st with
    | some s => some (.inl s.1)
    | none => none)
  | .exit 2 => (match unSt L3_11_x1 st with
    | some s => some (.inr (s.1, s.2.1, s.2.2.1, s.2.2.2.1, s.2.2.2.2.2.1, s.2.2.2.2.2.2.2.1, s.2.2.2.2.2.2.2.2.1, s.2.2.2.2.2.2.2.2.2.1, s.2.2.2.2.2.2.2.2.2.2.1, s.2.2.2.2.2.2.2.2.2.2.2.1, s.2.2.2.2.2.2.2.2.2.2.2.2.1, s.2.2.2.2.2.2.2.2.2.2.2.2.2.2.1, s.2.2.2.2.2.2.2.2.2.2.2.2.2.2.2.1, s.2.2.2.2.2.2.2.2.2.2.2.2.2.2.2.2.1, s.2.2.2.2.2.2.2.2.2.2.2.2.2.2.2.2.2.1, s.2.2.2.2.2.2.2.2.2.2.2.2.2.2.2.2.2.2.1, s.2.2.2.2.2.2.2.2.2.2.2.2.2.2.2.2.2.2.2.1, s.2.2.2.2.2.2.2.2.2.2.2.2.2.2.2.2.2.2.2.2.1, s.2.2.2.2.2.2.2.2.2.2.2.2.2.2.2.2.2.2.2.2.2.2.1, s.2.2.2.2.2.2.2.2.2.2.2.2.2.2.2.2.2.2.2.2.2.2.2.1, s.2.2.2.2.2.2.2.2.2.2.2.2.2.2.2.2.2.2.2.2.2.2.2.2.1))
    | none => none)
  | _ => none
def L3_11_r (s0 : Int) (s1 : Int) (s2 : Int) (s3 : Int) (s4 : Bool) (s5 : (List D23)) (s6 : Int) (s7 : Int) (s8 : (List Int)) (s9 : Int) (s10 : Int) (s11 : Int) (s12 : Int) (s13 : Int) (s14 : Int) (s15 : Int) (s16 : Int) (s17 : Int) (s18 : Int) (s19 : (List D26)) (s20 : Int) : Option ((Int × Int × Int × Int × Bool × (List D23) × Int × Int × (List Int) × Int × Int × Int × Int × Int × Int × Int × Int × Int × Int × (List D26) × Int) ⊕ ((Bool) ⊕ (Int × Int × Int × Int × Bool × (List D23) × Int × Int × (List Int) × Int × Int × Int × Int × Int × Int × Int × Int × Int × Int × (List D26) × Int))) :=
  let v31 : Bool := (decide (s10 < s9))
  bif v31 then
  bif (decide (0 ≤ s10) && decide (s10 < (List.length s8))) then
  bif (decide ((Int.toNat s10) < List.length s8)) then
  let v32 : Int := (List.getD s8 (Int.toNat s10) (0 : Int))
  bif (P15 (s18, (s19, (s20, ()))) v32 s1 s2) then
  let q33 : (D23 × (Int × Unit)) := F15 (s18, (s19, (s20, ()))) v32 s1 s2
  let v34 : (List D26) := ([] : (List D26))
  let v35 : (List D26) := ([] : (List D26))
  bif (P16 (s18, (s19, (s20, ()))) v32 s1 s2) then
  let q36 : (D23 × (Int × Unit)) := F16 (s18, (s19, (s20, ()))) v32 s1 s2
  let v37 : (List D26) := ([] : (List D26))
  let v38 : (List D26) := ([] : (List D26))
  let v39 : Bool := (q33.2.1 != q36.2.1)
  bif ((P13 q33.1 q36.1) || !(!v39 && true)) then
  let v40 : Bool := (F13 q33.1 q36.1)
  let v41 : Bool := (!v40)
  let v42 : Bool := (bif v39 then true else v41)
  bif v42 then
  some (.inr (.inl false))
  else
  let v43 : Int := (IntKind.i64.wrap (s10 + (1 : Int)))
  some (.inl (s0, s1, s2, s3, s4, s5, s6, s7, s8, s9, v43, s11, s12, s13, s14, s15, s16, s17, s18, s19, s20))
  else none
  else none
  else none
  else none
  else none
  else
  some (.inr (.inr (s0, s1, s2, s3, s4, s5, s6, s7, s8, s9, s10, s11, s12, s13, s14, s15, s16, s17, s18, s19, s20)))
def L3_11 : Int × Int × Int × Int × Bool × (List D23) × Int × Int × (List Int) × Int × Int × Int × Int × Int × Int × Int × Int × Int × Int × (List D26) × Int → Option ((Bool) ⊕ (Int × Int × Int × Int × Bool × (List D23) × Int × Int × (List Int) × Int × Int × Int × Int × Int × Int × Int × Int × Int × Int × (List D26) × Int)) := Lim (fun s => L3_11_r s.1 s.2.1 s.2.2.1 s.2.2.2.1 s.2.2.2.2.1 s.2.2.2.2.2.1 s.2.2.2.2.2.2.1 s.2.2.2.2.2.2.2.1 s.2.2.2.2.2.2.2.2.1 s.2.2.2.2.2.2.2.2.2.1 s.2.2.2.2.2.2.2.2.2.2.1 s.2.2.2.2.2.2.2.2.2.2.2.1 s.2.2.2.2.2.2.2.2.2.2.2.2.1 s.2.2.2.2.2.2.2.2.2.2.2.2.2.1 s.2.2.2.2.2.2.2.2.2.2.2.2.2.2.1 s.2.2.2.2.2.2.2.2.2.2.2.2.2.2.2.1 s.2.2.2.2.2.2.2.2.2.2.2.2.2.2.2.2.1 s.2.2.2.2.2.2.2.2.2.2.2.2.2.2.2.2.2.1 s.2.2.2.2.2.2.2.2.2.2.2.2.2.2.2.2.2.2.1 s.2.2.2.2.2.2.2.2.2.2.2.2.2.2.2.2.2.2.2.1 s.2.2.2.2.2.2.2.2.2.2.2.2.2.2.2.2.2.2.2.2)
def L3_11_sum : Sum := limSum L3_11_sh L3_11_pk (fun s => L3_11_r s.1 s.2.1 s.2.2.1 s.2.2.2.1 s.2.2.2.2.1 s.2.2.2.2.2.1 s.2.2.2.2.2.2.1 s.2.2.2.2.2.2.2.1 s.2.2.2.2.2.2.2.2.1 s.2.2.2.2.2.2.2.2.2.1 s.2.2.2.2.2.2.2.2.2.2.1 s.2.2.2.2.2.2.2.2.2.2.2.1 s.2.2.2.2.2.2.2.2.2.2.2.2.1 s.2.2.2.2.2.2.2.2.2.2.2.2.2.1 s.2.2.2.2.2.2.2.2.2.2.2.2.2.2.1 s.2.2.2.2.2.2.2.2.2.2.2.2.2.2.2.1 s.2.2.2.2.2.2.2.2.2.2.2.2.2.2.2.2.1 s.2.2.2.2.2.2.2.2.2.2.2.2.2.2.2.2.2.1 s.2.2.2.2.2.2.2.2.2.2.2.2.2.2.2.2.2.2.1 s.2.2.2.2.2.2.2.2.2.2.2.2.2.2.2.2.2.2.2.1 s.2.2.2.2.2.2.2.2.2.2.2.2.2.2.2.2.2.2.2.2) L3_11_leave
theorem L3_11_nat : Natural L3_11_sum := natural_lim fun x R K => by
  rcases x with x|x <;> rfl
theorem L3_11_dok : ∀ e st x, e ≠ .normal → L3_11_d e st = some x → ∀ R (K : Cont R), K e st = L3_11_leave x R K := by
  intro e st x _ h R K
  unfold L3_11_d at h
  split at h
  · split at h
    · rename_i s hs; cases h; rw [unSt_some hs]; rfl
    · cases h
  · split at h
    · rename_i s hs; cases h; rw [unSt_some hs]; rfl
    · cases h
  · cases h
def L3_4_sh : Shape := [(.slot 4, .dat (.int .i64)), (.slot 5, .dat (.int .i64)), (.slot 6, .dat (.int .i64)), (.slot 7, .dat (.int .i64)), (.slot 11, .ptr 11 0), (.slot 17, .dat .bool), (.slot 65, .own 24 t23), (.slot 66, .dat (.int .i64)), (.slot 67, .dat (.int .i64)), (.box 11, .bx 27 7), (.cell 11 0, .dat (.int .i64)), (.cell 11 1, .dat (.int .i64)), (.cell 11 2, .dat (.int .i64)), (.cell 11 3, .dat (.int .i64)), (.cell 11 4, .dat (.int .i64)), (.cell 11 5, .dat (.int .i64)), (.cell 11 6, .dat (.int .i64))]
def L3_4_x0 : Shape := [(.slot 16, .dat .bool)]
def L3_4_x1 : Shape := [(.slot 4, .dat (.int .i64)), (.slot 5, .dat (.int .i64)), (.slot 6, .dat (.int .i64)), (.slot 7, .dat (.int .i64)), (.slot 11, .ptr 11 0), (.slot 17, .dat .bool), (.slot 65, .own 24 t23), (.slot 66, .dat (.int .i64)), (.slot 67, .dat (.int .i64)), (.box 11, .bx 27 7), (.cell 11 0, .dat (.int .i64)), (.cell 11 1, .dat (.int .i64)), (.cell 11 2, .dat (.int .i64)), (.cell 11 3, .dat (.int .i64)), (.cell 11 4, .dat (.int .i64)), (.cell 11 5, .dat (.int .i64)), (.cell 11 6, .dat (.int .i64))]
def L3_4_pk (s : Tup L3_4_sh) : Int × Int × Int × Int × Bool × (List D23) × Int × Int × Int × Int × Int × Int × Int × Int × Int := (s.1, s.2.1, s.2.2.1, s.2.2.2.1, s.2.2.2.2.2.1, s.2.2.2.2.2.2.1, s.2.2.2.2.2.2.2.1, s.2.2.2.2.2.2.2.2.1, s.2.2.2.2.2.2.2.2.2.2.1, s.2.2.2.2.2.2.2.2.2.2.2.1, s.2.2.2.2.2.2.2.2.2.2.2.2.1, s.2.2.2.2.2.2.2.2.2.2.2.2.2.1, s.2.2.2.2.2.2.2.2.2.2.2.2.2.2.1, s.2.2.2.2.2.2.2.2.2.2.2.2.2.2.2.1, s.2.2.2.2.2.2.2.2.2.2.2.2.2.2.2.2.1)
def L3_4_un (s : Int × Int × Int × Int × Bool × (List D23) × Int × Int × Int × Int × Int × Int × Int × Int × Int) : Tup L3_4_sh := (s.1, (s.2.1, (s.2.2.1, (s.2.2.2.1, ((), (s.2.2.2.2.1, (s.2.2.2.2.2.1, (s.2.2.2.2.2.2.1, (s.2.2.2.2.2.2.2.1, ((), (s.2.2.2.2.2.2.2.2.1, (s.2.2.2.2.2.2.2.2.2.1, (s.2.2.2.2.2.2.2.2.2.2.1, (s.2.2.2.2.2.2.2.2.2.2.2.1, (s.2.2.2.2.2.2.2.2.2.2.2.2.1, (s.2.2.2.2.2.2.2.2.2.2.2.2.2.1, (s.2.2.2.2.2.2.2.2.2.2.2.2.2.2, ())))))))))))))))))
def L3_4_leave (x : (Bool) ⊕ (Int × Int × Int × Int × Bool × (List D23) × Int × Int × Int × Int × Int × Int × Int × Int × Int)) (R : Type) (K : Cont R) : Option R := match x with
  | (.inl a) => K .ret (mkSt L3_4_x0 (a, ()))
  | (.inr a) => K (.exit 0) (mkSt L3_4_x1 (a.1, (a.2.1, (a.2.2.1, (a.2.2.2.1, ((), (a.2.2.2.2.1, (a.2.2.2.2.2.1, (a.2.2.2.2.2.2.1, (a.2.2.2.2.2.2.2.1, ((), (a.2.2.2.2.2.2.2.2.1, (a.2.2.2.2.2.2.2.2.2.1, (a.2.2.2.2.2.2.2.2.2.2.1, (a.2.2.2.2.2.2.2.2.2.2.2.1, (a.2.2.2.2.2.2.2.2.2.2.2.2.1, (a.2.2.2.2.2.2.2.2.2.2.2.2.2.1, (a.2.2.2.2.2.2.2.2.2.2.2.2.2.2, ()))))))))))))))))))
def L3_4_d (e : Exit) (st : St) : Option ((Bool) ⊕ (Int × Int × Int × Int × Bool × (List D23) × Int × Int × Int × Int × Int × Int × Int × Int × Int)) := match e with
  | .ret => (match unSt L3_4_x0 st with
    | some s => some (.inl s.1)
    | none => none)
  | .exit 0 => (match unSt L3_4_x1 st with
    | some s => some (.inr (s.1, s.2.1, s.2.2.1, s.2.2.2.1, s.2.2.2.2.2.1, s.2.2.2.2.2.2.1, s.2.2.2.2.2.2.2.1, s.2.2.2.2.2.2.2.2.1, s.2.2.2.2.2.2.2.2.2.2.1, s.2.2.2.2.2.2.2.2.2.2.2.1, s.2.2.2.2.2.2.2.2.2.2.2.2.1, s.2.2.2.2.2.2.2.2.2.2.2.2.2.1, s.2.2.2.2.2.2.2.2.2.2.2.2.2.2.1, s.2.2.2.2.2.2.2.2.2.2.2.2.2.2.2.1, s.2.2.2.2.2.2.2.2.2.2.2.2.2.2.2.2.1))
    | none => none)
  | _ => none
end
end Go.Ev.B
