/- The functions of the program as functions of Lean, with the proofs that they are. -/
import Derived.Test.YtgjmlbldmmedgaaGreatDoorPa
import Derived.Test.YtgjmlbldmmedgaaGreatDoorProg
import Derived.KernelRfl
set_option linter.unusedSimpArgs false
set_option linter.unusedVariables false
set_option linter.deprecated false
namespace Go.Ev.I
open Go Go.Proofs Go.Ev
noncomputable section
abbrev D143 : Type := (Int × (Int × Unit))
abbrev t143 : Ty := (.pair (.int .u8) (.pair (.int .u8) .unit))
abbrev z143 : D143 := ((0 : Int), ((0 : Int), ()))
abbrev t136 : Ty := (.pair .str .unit)
abbrev D49 : Type := (Bool × ((List Int) × Unit))
abbrev t49 : Ty := (.pair .bool (.pair (.list (.int .i64)) .unit))
abbrev t13 : Ty := (.pair .str (.pair (.int .u64) .unit))
abbrev t7 : Ty := (.pair (.int .i64) (.pair (.int .i64) (.pair .bool (.pair (.int .u8) .unit))))
abbrev D124 : Type := ((List UInt8) × ((List UInt8) × (Bool × Unit)))
abbrev t124 : Ty := (.pair .str (.pair .str (.pair .err .unit)))
abbrev z124 : D124 := (([] : List UInt8), (([] : List UInt8), (false, ())))
def tab : Tab := ⟨fun
  | 2 => some (.int .i64)
  | 3 => some (.int .i64)
  | 4 => some .bool
  | 5 => some (.int .u8)
  | 6 => some (.int .u8)
  | 7 => some t7
  | 8 => some t7
  | 9 => some .str
  | 10 => some .str
  | 11 => some .str
  | 12 => some (.int .u64)
  | 13 => some t13
  | 14 => some t13
  | 21 => some (.int .i32)
  | 24 => some (.int .i64)
  | 37 => some (.arr 2 .str)
  | 38 => some (.list (.arr 2 .str))
  | 44 => some (.list (.int .i64))
  | 48 => some (.list (.int .i64))
  | 49 => some t49
  | 50 => some t49
  | 69 => some .err
  | 72 => some (.list (.int .u8))
  | 81 => some (.bnd 64 (.list (.int .i64)))
  | 89 => some (.int .u64)
  | 96 => some (.arr 256 .bool)
  | 97 => some (.arr 256 .bool)
  | 102 => some (.int .i64)
  | 109 => some (.int .u32)
  | 112 => some (.int .u64)
  | 124 => some t124
  | 125 => some t124
  | 127 => some (.arr 24 (.int .u8))
  | 136 => some t136
  | 137 => some t136
  | 139 => some (.arr 20 (.int .u64))
  | 140 => some (.arr 65 (.int .u8))
  | 142 => some (.arr 256 (.int .u8))
  | 143 => some t143
  | 144 => some t143
  | 145 => some (.arr 16 t143)
  | 149 => some (.arr 32 (.int .u8))
  | 150 => some (.arr 64 (.int .u8))
  | _ => none, fun
  | 38 => some 37
  | 44 => some 3
  | 48 => some 3
  | 72 => some 5
  | _ => none, fun | 4 => true | _ => false, fun
  | 38 => [(0, 37, (.arr 2 .str))]
  | 44 => [(0, 3, (.int .i64))]
  | 48 => [(0, 3, (.int .i64))]
  | 49 => [(1, 3, (.int .i64))]
  | 50 => [(1, 3, (.int .i64))]
  | 72 => [(0, 5, (.int .u8))]
  | _ => [], fun
  | 1 => some false
  | 15 => some true
  | 16 => some true
  | 17 => some true
  | 22 => some false
  | 23 => some false
  | 26 => some false
  | 27 => some false
  | 29 => some false
  | 30 => some false
  | 31 => some false
  | 32 => some false
  | 33 => some false
  | 34 => some false
  | 35 => some false
  | 36 => some false
  | 40 => some false
  | 41 => some false
  | 42 => some false
  | 43 => some false
  | 46 => some false
  | 47 => some false
  | 52 => some false
  | 53 => some false
  | 54 => some false
  | 55 => some false
  | 57 => some false
  | 58 => some false
  | 59 => some false
  | 61 => some false
  | 62 => some false
  | 63 => some false
  | 64 => some false
  | 66 => some false
  | 67 => some false
  | 71 => some false
  | 73 => some false
  | 74 => some true
  | 77 => some false
  | 78 => some false
  | 79 => some false
  | 80 => some false
  | 82 => some false
  | 83 => some false
  | 84 => some false
  | 85 => some false
  | 86 => some false
  | 87 => some false
  | 88 => some false
  | 91 => some false
  | 92 => some false
  | 93 => some false
  | 94 => some true
  | 95 => some false
  | 99 => some false
  | 100 => some false
  | 101 => some true
  | 104 => some false
  | 105 => some true
  | 106 => some false
  | 107 => some false
  | 108 => some false
  | 111 => some false
  | 114 => some false
  | 116 => some false
  | 117 => some false
  | 119 => some false
  | 120 => some false
  | 122 => some false
  | 123 => some false
  | 126 => some false
  | 128 => some false
  | 129 => some false
  | 131 => some false
  | 132 => some false
  | 133 => some false
  | 134 => some false
  | 135 => some true
  | 138 => some false
  | 141 => some false
  | 146 => some false
  | 147 => some false
  | 148 => some false
  | _ => none⟩
def bldT : Nat → Option Nat := fun | 76 => some 5 | _ => none
def bldF : Nat → Option (Bool × Nat × Nat) := fun | 62 => some (true, 76, 5) | 63 => some (false, 76, 5) | _ => none
theorem full57 : Meets Tryz.prog glob 57 spec57 := atoi_meets
theorem full58 : Meets Tryz.prog glob 58 spec58 := itoa_meets
theorem full61 : Meets Tryz.prog glob 61 spec61 := repeat_meets
theorem full73 : Meets Tryz.prog glob 73 spec73 := trimPrefix_meets
theorem full74 : Meets Tryz.prog glob 74 spec74 := trim_meets
theorem bldOk : BldOk Tryz.prog bldT bldF := by
  refine ⟨fun t e h => ?_, fun f t e h => ?_, fun f t e h => ?_⟩
  · unfold bldT at h
    split at h
    · cases h; kernel_rfl
    · cases h
  · unfold bldF at h
    split at h <;> cases h
    exact Tryz.bldW_62
  · unfold bldF at h
    split at h <;> cases h
    exact Tryz.bldS_63
theorem tyOk2 : TyOk Tryz.prog tab 2 (.int .i64) := ⟨Tryz.underlying2, by kernel_rfl⟩
theorem tyOk3 : TyOk Tryz.prog tab 3 (.int .i64) := ⟨Tryz.underlying3, by kernel_rfl⟩
theorem tyOk4 : TyOk Tryz.prog tab 4 .bool := ⟨Tryz.underlying4, by kernel_rfl⟩
theorem tyOk5 : TyOk Tryz.prog tab 5 (.int .u8) := ⟨Tryz.underlying5, by kernel_rfl⟩
theorem tyOk6 : TyOk Tryz.prog tab 6 (.int .u8) := ⟨Tryz.underlying6, by kernel_rfl⟩
theorem tyOk7 : TyOk Tryz.prog tab 7 t7 := ⟨⟨_, Tryz.underlying7, (And.intro rfl (And.intro rfl (And.intro rfl (And.intro rfl (And.intro rfl (And.intro rfl (And.intro rfl (And.intro rfl trivial))))))))⟩, by kernel_rfl⟩
theorem tyOk8 : TyOk Tryz.prog tab 8 t7 := ⟨⟨_, Tryz.underlying8, (And.intro rfl (And.intro rfl (And.intro rfl (And.intro rfl (And.intro rfl (And.intro rfl (And.intro rfl (And.intro rfl trivial))))))))⟩, by kernel_rfl⟩
theorem tyOk9 : TyOk Tryz.prog tab 9 .str := ⟨Tryz.underlying9, by kernel_rfl⟩
theorem tyOk10 : TyOk Tryz.prog tab 10 .str := ⟨Tryz.underlying10, by kernel_rfl⟩
theorem tyOk11 : TyOk Tryz.prog tab 11 .str := ⟨Tryz.underlying11, by kernel_rfl⟩
theorem tyOk12 : TyOk Tryz.prog tab 12 (.int .u64) := ⟨Tryz.underlying12, by kernel_rfl⟩
theorem tyOk13 : TyOk Tryz.prog tab 13 t13 := ⟨⟨_, Tryz.underlying13, (And.intro rfl (And.intro rfl (And.intro rfl (And.intro rfl trivial))))⟩, by kernel_rfl⟩
theorem tyOk14 : TyOk Tryz.prog tab 14 t13 := ⟨⟨_, Tryz.underlying14, (And.intro rfl (And.intro rfl (And.intro rfl (And.intro rfl trivial))))⟩, by kernel_rfl⟩
theorem tyOk21 : TyOk Tryz.prog tab 21 (.int .i32) := ⟨Tryz.underlying21, by kernel_rfl⟩
theorem tyOk24 : TyOk Tryz.prog tab 24 (.int .i64) := ⟨Tryz.underlying24, by kernel_rfl⟩
theorem tyOk37 : TyOk Tryz.prog tab 37 (.arr 2 .str) := ⟨⟨9, Tryz.underlying37, rfl, by decide, by kernel_rfl⟩, by kernel_rfl⟩
theorem tyOk38 : TyOk Tryz.prog tab 38 (.list (.arr 2 .str)) := ⟨⟨37, Tryz.underlying38, rfl, rfl, by decide, Tryz.t37.bytes, Nat.le_of_ble_eq_true (by kernel_rfl), by kernel_rfl⟩, by kernel_rfl⟩
theorem tyOk44 : TyOk Tryz.prog tab 44 (.list (.int .i64)) := ⟨⟨3, Tryz.underlying44, rfl, rfl, by decide, Tryz.t3.bytes, Nat.le_of_ble_eq_true (by kernel_rfl), by kernel_rfl⟩, by kernel_rfl⟩
theorem tyOk48 : TyOk Tryz.prog tab 48 (.list (.int .i64)) := ⟨⟨3, Tryz.underlying48, rfl, rfl, by decide, Tryz.t3.bytes, Nat.le_of_ble_eq_true (by kernel_rfl), by kernel_rfl⟩, by kernel_rfl⟩
theorem tyOk49 : TyOk Tryz.prog tab 49 t49 := ⟨⟨_, Tryz.underlying49, (And.intro rfl (And.intro rfl (And.intro rfl (And.intro rfl trivial))))⟩, by kernel_rfl⟩
theorem tyOk50 : TyOk Tryz.prog tab 50 t49 := ⟨⟨_, Tryz.underlying50, (And.intro rfl (And.intro rfl (And.intro rfl (And.intro rfl trivial))))⟩, by kernel_rfl⟩
theorem tyOk69 : TyOk Tryz.prog tab 69 .err := ⟨⟨_, Tryz.underlying69⟩, by kernel_rfl⟩
theorem tyOk72 : TyOk Tryz.prog tab 72 (.list (.int .u8)) := ⟨⟨5, Tryz.underlying72, rfl, rfl, by decide, Tryz.t5.bytes, Nat.le_of_ble_eq_true (by kernel_rfl), by kernel_rfl⟩, by kernel_rfl⟩
theorem tyOk81 : TyOk Tryz.prog tab 81 (.bnd 64 (.list (.int .i64))) := ⟨⟨_, _, _, Tryz.underlying81⟩, by kernel_rfl⟩
theorem tyOk89 : TyOk Tryz.prog tab 89 (.int .u64) := ⟨Tryz.underlying89, by kernel_rfl⟩
theorem tyOk96 : TyOk Tryz.prog tab 96 (.arr 256 .bool) := ⟨⟨4, Tryz.underlying96, rfl, by decide, by kernel_rfl⟩, by kernel_rfl⟩
theorem tyOk97 : TyOk Tryz.prog tab 97 (.arr 256 .bool) := ⟨⟨4, Tryz.underlying97, rfl, by decide, by kernel_rfl⟩, by kernel_rfl⟩
theorem tyOk102 : TyOk Tryz.prog tab 102 (.int .i64) := ⟨Tryz.underlying102, by kernel_rfl⟩
theorem tyOk109 : TyOk Tryz.prog tab 109 (.int .u32) := ⟨Tryz.underlying109, by kernel_rfl⟩
theorem tyOk112 : TyOk Tryz.prog tab 112 (.int .u64) := ⟨Tryz.underlying112, by kernel_rfl⟩
theorem tyOk124 : TyOk Tryz.prog tab 124 t124 := ⟨⟨_, Tryz.underlying124, (And.intro rfl (And.intro rfl (And.intro rfl (And.intro rfl (And.intro rfl (And.intro rfl trivial))))))⟩, by kernel_rfl⟩
theorem tyOk125 : TyOk Tryz.prog tab 125 t124 := ⟨⟨_, Tryz.underlying125, (And.intro rfl (And.intro rfl (And.intro rfl (And.intro rfl (And.intro rfl (And.intro rfl trivial))))))⟩, by kernel_rfl⟩
theorem tyOk127 : TyOk Tryz.prog tab 127 (.arr 24 (.int .u8)) := ⟨⟨5, Tryz.underlying127, rfl, by decide, by kernel_rfl⟩, by kernel_rfl⟩
theorem tyOk136 : TyOk Tryz.prog tab 136 t136 := ⟨⟨_, Tryz.underlying136, (And.intro rfl (And.intro rfl trivial))⟩, by kernel_rfl⟩
theorem tyOk137 : TyOk Tryz.prog tab 137 t136 := ⟨⟨_, Tryz.underlying137, (And.intro rfl (And.intro rfl trivial))⟩, by kernel_rfl⟩
theorem tyOk139 : TyOk Tryz.prog tab 139 (.arr 20 (.int .u64)) := ⟨⟨112, Tryz.underlying139, rfl, by decide, by kernel_rfl⟩, by kernel_rfl⟩
theorem tyOk140 : TyOk Tryz.prog tab 140 (.arr 65 (.int .u8)) := ⟨⟨5, Tryz.underlying140, rfl, by decide, by kernel_rfl⟩, by kernel_rfl⟩
theorem tyOk142 : TyOk Tryz.prog tab 142 (.arr 256 (.int .u8)) := ⟨⟨5, Tryz.underlying142, rfl, by decide, by kernel_rfl⟩, by kernel_rfl⟩
theorem tyOk143 : TyOk Tryz.prog tab 143 t143 := ⟨⟨_, Tryz.underlying143, (And.intro rfl (And.intro rfl (And.intro rfl (And.intro rfl trivial))))⟩, by kernel_rfl⟩
theorem tyOk144 : TyOk Tryz.prog tab 144 t143 := ⟨⟨_, Tryz.underlying144, (And.intro rfl (And.intro rfl (And.intro rfl (And.intro rfl trivial))))⟩, by kernel_rfl⟩
theorem tyOk145 : TyOk Tryz.prog tab 145 (.arr 16 t143) := ⟨⟨144, Tryz.underlying145, rfl, by decide, by kernel_rfl⟩, by kernel_rfl⟩
theorem tyOk149 : TyOk Tryz.prog tab 149 (.arr 32 (.int .u8)) := ⟨⟨5, Tryz.underlying149, rfl, by decide, by kernel_rfl⟩, by kernel_rfl⟩
theorem tyOk150 : TyOk Tryz.prog tab 150 (.arr 64 (.int .u8)) := ⟨⟨5, Tryz.underlying150, rfl, by decide, by kernel_rfl⟩, by kernel_rfl⟩
theorem refOk1 : RefOk Tryz.prog 1 false := ⟨by kernel_rfl, _, Tryz.underlying1, trivial⟩
theorem refOk15 : RefOk Tryz.prog 15 true := ⟨by kernel_rfl, _, Tryz.underlying15, trivial⟩
theorem refOk16 : RefOk Tryz.prog 16 true := ⟨by kernel_rfl, _, Tryz.underlying16, trivial⟩
theorem refOk17 : RefOk Tryz.prog 17 true := ⟨by kernel_rfl, _, Tryz.underlying17, trivial⟩
theorem refOk22 : RefOk Tryz.prog 22 false := ⟨by kernel_rfl, _, Tryz.underlying22, trivial⟩
theorem refOk23 : RefOk Tryz.prog 23 false := ⟨by kernel_rfl, _, Tryz.underlying23, trivial⟩
theorem refOk26 : RefOk Tryz.prog 26 false := ⟨by kernel_rfl, _, Tryz.underlying26, trivial⟩
theorem refOk27 : RefOk Tryz.prog 27 false := ⟨by kernel_rfl, _, Tryz.underlying27, trivial⟩
theorem refOk29 : RefOk Tryz.prog 29 false := ⟨by kernel_rfl, _, Tryz.underlying29, trivial⟩
theorem refOk30 : RefOk Tryz.prog 30 false := ⟨by kernel_rfl, _, Tryz.underlying30, trivial⟩
theorem refOk31 : RefOk Tryz.prog 31 false := ⟨by kernel_rfl, _, Tryz.underlying31, trivial⟩
theorem refOk32 : RefOk Tryz.prog 32 false := ⟨by kernel_rfl, _, Tryz.underlying32, trivial⟩
theorem refOk33 : RefOk Tryz.prog 33 false := ⟨by kernel_rfl, _, Tryz.underlying33, trivial⟩
theorem refOk34 : RefOk Tryz.prog 34 false := ⟨by kernel_rfl, _, Tryz.underlying34, trivial⟩
theorem refOk35 : RefOk Tryz.prog 35 false := ⟨by kernel_rfl, _, Tryz.underlying35, trivial⟩
theorem refOk36 : RefOk Tryz.prog 36 false := ⟨by kernel_rfl, _, Tryz.underlying36, trivial⟩
theorem refOk40 : RefOk Tryz.prog 40 false := ⟨by kernel_rfl, _, Tryz.underlying40, trivial⟩
theorem refOk41 : RefOk Tryz.prog 41 false := ⟨by kernel_rfl, _, Tryz.underlying41, trivial⟩
theorem refOk42 : RefOk Tryz.prog 42 false := ⟨by kernel_rfl, _, Tryz.underlying42, trivial⟩
theorem refOk43 : RefOk Tryz.prog 43 false := ⟨by kernel_rfl, _, Tryz.underlying43, trivial⟩
theorem refOk46 : RefOk Tryz.prog 46 false := ⟨by kernel_rfl, _, Tryz.underlying46, trivial⟩
theorem refOk47 : RefOk Tryz.prog 47 false := ⟨by kernel_rfl, _, Tryz.underlying47, trivial⟩
theorem refOk52 : RefOk Tryz.prog 52 false := ⟨by kernel_rfl, _, Tryz.underlying52, trivial⟩
theorem refOk53 : RefOk Tryz.prog 53 false := ⟨by kernel_rfl, _, Tryz.underlying53, trivial⟩
theorem refOk54 : RefOk Tryz.prog 54 false := ⟨by kernel_rfl, _, Tryz.underlying54, trivial⟩
theorem refOk55 : RefOk Tryz.prog 55 false := ⟨by kernel_rfl, _, Tryz.underlying55, trivial⟩
theorem refOk57 : RefOk Tryz.prog 57 false := ⟨by kernel_rfl, _, Tryz.underlying57, trivial⟩
theorem refOk58 : RefOk Tryz.prog 58 false := ⟨by kernel_rfl, _, Tryz.underlying58, trivial⟩
theorem refOk59 : RefOk Tryz.prog 59 false := ⟨by kernel_rfl, _, Tryz.underlying59, trivial⟩
theorem refOk61 : RefOk Tryz.prog 61 false := ⟨by kernel_rfl, _, Tryz.underlying61, trivial⟩
theorem refOk62 : RefOk Tryz.prog 62 false := ⟨by kernel_rfl, _, Tryz.underlying62, trivial⟩
theorem refOk63 : RefOk Tryz.prog 63 false := ⟨by kernel_rfl, _, Tryz.underlying63, trivial⟩
theorem refOk64 : RefOk Tryz.prog 64 false := ⟨by kernel_rfl, _, Tryz.underlying64, trivial⟩
theorem refOk66 : RefOk Tryz.prog 66 false := ⟨by kernel_rfl, _, Tryz.underlying66, trivial⟩
theorem refOk67 : RefOk Tryz.prog 67 false := ⟨by kernel_rfl, _, Tryz.underlying67, trivial⟩
theorem refOk71 : RefOk Tryz.prog 71 false := ⟨by kernel_rfl, _, Tryz.underlying71, trivial⟩
theorem refOk73 : RefOk Tryz.prog 73 false := ⟨by kernel_rfl, _, Tryz.underlying73, trivial⟩
theorem refOk74 : RefOk Tryz.prog 74 true := ⟨by kernel_rfl, _, Tryz.underlying74, trivial⟩
theorem refOk77 : RefOk Tryz.prog 77 false := ⟨by kernel_rfl, _, Tryz.underlying77, trivial⟩
theorem refOk78 : RefOk Tryz.prog 78 false := ⟨by kernel_rfl, _, Tryz.underlying78, trivial⟩
theorem refOk79 : RefOk Tryz.prog 79 false := ⟨by kernel_rfl, _, Tryz.underlying79, trivial⟩
theorem refOk80 : RefOk Tryz.prog 80 false := ⟨by kernel_rfl, _, Tryz.underlying80, trivial⟩
theorem refOk82 : RefOk Tryz.prog 82 false := ⟨by kernel_rfl, _, Tryz.underlying82, trivial⟩
theorem refOk83 : RefOk Tryz.prog 83 false := ⟨by kernel_rfl, _, Tryz.underlying83, trivial⟩
theorem refOk84 : RefOk Tryz.prog 84 false := ⟨by kernel_rfl, _, Tryz.underlying84, trivial⟩
theorem refOk85 : RefOk Tryz.prog 85 false := ⟨by kernel_rfl, _, Tryz.underlying85, trivial⟩
theorem refOk86 : RefOk Tryz.prog 86 false := ⟨by kernel_rfl, _, Tryz.underlying86, trivial⟩
theorem refOk87 : RefOk Tryz.prog 87 false := ⟨by kernel_rfl, _, Tryz.underlying87, trivial⟩
theorem refOk88 : RefOk Tryz.prog 88 false := ⟨by kernel_rfl, _, Tryz.underlying88, trivial⟩
theorem refOk91 : RefOk Tryz.prog 91 false := ⟨by kernel_rfl, _, Tryz.underlying91, trivial⟩
theorem refOk92 : RefOk Tryz.prog 92 false := ⟨by kernel_rfl, _, Tryz.underlying92, trivial⟩
theorem refOk93 : RefOk Tryz.prog 93 false := ⟨by kernel_rfl, _, Tryz.underlying93, trivial⟩
theorem refOk94 : RefOk Tryz.prog 94 true := ⟨by kernel_rfl, _, Tryz.underlying94, trivial⟩
theorem refOk95 : RefOk Tryz.prog 95 false := ⟨by kernel_rfl, _, Tryz.underlying95, trivial⟩
theorem refOk99 : RefOk Tryz.prog 99 false := ⟨by kernel_rfl, _, Tryz.underlying99, trivial⟩
theorem refOk100 : RefOk Tryz.prog 100 false := ⟨by kernel_rfl, _, Tryz.underlying100, trivial⟩
theorem refOk101 : RefOk Tryz.prog 101 true := ⟨by kernel_rfl, _, Tryz.underlying101, trivial⟩
theorem refOk104 : RefOk Tryz.prog 104 false := ⟨by kernel_rfl, _, Tryz.underlying104, trivial⟩
theorem refOk105 : RefOk Tryz.prog 105 true := ⟨by kernel_rfl, _, Tryz.underlying105, trivial⟩
theorem refOk106 : RefOk Tryz.prog 106 false := ⟨by kernel_rfl, _, Tryz.underlying106, trivial⟩
theorem refOk107 : RefOk Tryz.prog 107 false := ⟨by kernel_rfl, _, Tryz.underlying107, trivial⟩
theorem refOk108 : RefOk Tryz.prog 108 false := ⟨by kernel_rfl, _, Tryz.underlying108, trivial⟩
theorem refOk111 : RefOk Tryz.prog 111 false := ⟨by kernel_rfl, _, Tryz.underlying111, trivial⟩
theorem refOk114 : RefOk Tryz.prog 114 false := ⟨by kernel_rfl, _, Tryz.underlying114, trivial⟩
theorem refOk116 : RefOk Tryz.prog 116 false := ⟨by kernel_rfl, _, Tryz.underlying116, trivial⟩
theorem refOk117 : RefOk Tryz.prog 117 false := ⟨by kernel_rfl, _, Tryz.underlying117, trivial⟩
theorem refOk119 : RefOk Tryz.prog 119 false := ⟨by kernel_rfl, _, Tryz.underlying119, trivial⟩
theorem refOk120 : RefOk Tryz.prog 120 false := ⟨by kernel_rfl, _, Tryz.underlying120, trivial⟩
theorem refOk122 : RefOk Tryz.prog 122 false := ⟨by kernel_rfl, _, Tryz.underlying122, trivial⟩
theorem refOk123 : RefOk Tryz.prog 123 false := ⟨by kernel_rfl, _, Tryz.underlying123, trivial⟩
theorem refOk126 : RefOk Tryz.prog 126 false := ⟨by kernel_rfl, _, Tryz.underlying126, trivial⟩
theorem refOk128 : RefOk Tryz.prog 128 false := ⟨by kernel_rfl, _, Tryz.underlying128, trivial⟩
theorem refOk129 : RefOk Tryz.prog 129 false := ⟨by kernel_rfl, _, Tryz.underlying129, trivial⟩
theorem refOk131 : RefOk Tryz.prog 131 false := ⟨by kernel_rfl, _, Tryz.underlying131, trivial⟩
theorem refOk132 : RefOk Tryz.prog 132 false := ⟨by kernel_rfl, _, Tryz.underlying132, trivial⟩
theorem refOk133 : RefOk Tryz.prog 133 false := ⟨by kernel_rfl, _, Tryz.underlying133, trivial⟩
theorem refOk134 : RefOk Tryz.prog 134 false := ⟨by kernel_rfl, _, Tryz.underlying134, trivial⟩
theorem refOk135 : RefOk Tryz.prog 135 true := ⟨by kernel_rfl, _, Tryz.underlying135, trivial⟩
theorem refOk138 : RefOk Tryz.prog 138 false := ⟨by kernel_rfl, _, Tryz.underlying138, trivial⟩
theorem refOk141 : RefOk Tryz.prog 141 false := ⟨by kernel_rfl, _, Tryz.underlying141, trivial⟩
theorem refOk146 : RefOk Tryz.prog 146 false := ⟨by kernel_rfl, _, Tryz.underlying146, trivial⟩
theorem refOk147 : RefOk Tryz.prog 147 false := ⟨by kernel_rfl, _, Tryz.underlying147, trivial⟩
theorem refOk148 : RefOk Tryz.prog 148 false := ⟨by kernel_rfl, _, Tryz.underlying148, trivial⟩
theorem tabOk : TabOk Tryz.prog tab := by
  refine ⟨fun id t h => ?_, fun id t h he => ?_, fun id b h => ?_⟩
  · unfold tab at h
    dsimp only at h
    split at h
    · cases h; exact tyOk2
    · cases h; exact tyOk3
    · cases h; exact tyOk4
    · cases h; exact tyOk5
    · cases h; exact tyOk6
    · cases h; exact tyOk7
    · cases h; exact tyOk8
    · cases h; exact tyOk9
    · cases h; exact tyOk10
    · cases h; exact tyOk11
    · cases h; exact tyOk12
    · cases h; exact tyOk13
    · cases h; exact tyOk14
    · cases h; exact tyOk21
    · cases h; exact tyOk24
    · cases h; exact tyOk37
    · cases h; exact tyOk38
    · cases h; exact tyOk44
    · cases h; exact tyOk48
    · cases h; exact tyOk49
    · cases h; exact tyOk50
    · cases h; exact tyOk69
    · cases h; exact tyOk72
    · cases h; exact tyOk81
    · cases h; exact tyOk89
    · cases h; exact tyOk96
    · cases h; exact tyOk97
    · cases h; exact tyOk102
    · cases h; exact tyOk109
    · cases h; exact tyOk112
    · cases h; exact tyOk124
    · cases h; exact tyOk125
    · cases h; exact tyOk127
    · cases h; exact tyOk136
    · cases h; exact tyOk137
    · cases h; exact tyOk139
    · cases h; exact tyOk140
    · cases h; exact tyOk142
    · cases h; exact tyOk143
    · cases h; exact tyOk144
    · cases h; exact tyOk145
    · cases h; exact tyOk149
    · cases h; exact tyOk150
    · cases h
  · unfold tab at he
    dsimp only at he
    split at he
    · cases h; exact eqOk_bool Tryz.underlying4
    · cases he
  · unfold tab at h
    dsimp only at h
    split at h
    · cases h; exact refOk1
    · cases h; exact refOk15
    · cases h; exact refOk16
    · cases h; exact refOk17
    · cases h; exact refOk22
    · cases h; exact refOk23
    · cases h; exact refOk26
    · cases h; exact refOk27
    · cases h; exact refOk29
    · cases h; exact refOk30
    · cases h; exact refOk31
    · cases h; exact refOk32
    · cases h; exact refOk33
    · cases h; exact refOk34
    · cases h; exact refOk35
    · cases h; exact refOk36
    · cases h; exact refOk40
    · cases h; exact refOk41
    · cases h; exact refOk42
    · cases h; exact refOk43
    · cases h; exact refOk46
    · cases h; exact refOk47
    · cases h; exact refOk52
    · cases h; exact refOk53
    · cases h; exact refOk54
    · cases h; exact refOk55
    · cases h; exact refOk57
    · cases h; exact refOk58
    · cases h; exact refOk59
    · cases h; exact refOk61
    · cases h; exact refOk62
    · cases h; exact refOk63
    · cases h; exact refOk64
    · cases h; exact refOk66
    · cases h; exact refOk67
    · cases h; exact refOk71
    · cases h; exact refOk73
    · cases h; exact refOk74
    · cases h; exact refOk77
    · cases h; exact refOk78
    · cases h; exact refOk79
    · cases h; exact refOk80
    · cases h; exact refOk82
    · cases h; exact refOk83
    · cases h; exact refOk84
    · cases h; exact refOk85
    · cases h; exact refOk86
    · cases h; exact refOk87
    · cases h; exact refOk88
    · cases h; exact refOk91
    · cases h; exact refOk92
    · cases h; exact refOk93
    · cases h; exact refOk94
    · cases h; exact refOk95
    · cases h; exact refOk99
    · cases h; exact refOk100
    · cases h; exact refOk101
    · cases h; exact refOk104
    · cases h; exact refOk105
    · cases h; exact refOk106
    · cases h; exact refOk107
    · cases h; exact refOk108
    · cases h; exact refOk111
    · cases h; exact refOk114
    · cases h; exact refOk116
    · cases h; exact refOk117
    · cases h; exact refOk119
    · cases h; exact refOk120
    · cases h; exact refOk122
    · cases h; exact refOk123
    · cases h; exact refOk126
    · cases h; exact refOk128
    · cases h; exact refOk129
    · cases h; exact refOk131
    · cases h; exact refOk132
    · cases h; exact refOk133
    · cases h; exact refOk134
    · cases h; exact refOk135
    · cases h; exact refOk138
    · cases h; exact refOk141
    · cases h; exact refOk146
    · cases h; exact refOk147
    · cases h; exact refOk148
    · cases h
def env47 : Env := {
  tab := tab
  glob := glob
  spec := fun
    | 73 => some spec73
    | 74 => some spec74
    | _ => none
  bldT := bldT
  bld := bldF }

def orc47 : Orc := ⟨25, fun _ => none, fun
  | 0 => kp [0] []
  | 1 => kp [0, 3] []
  | 2 => kp [0, 3, 17] []
  | 3 => kp [2] []
  | 4 => kp [2] []
  | _ => [], fun | _ => false⟩
noncomputable def body47 : Code := Tryz.f47.body.getD .skip
def loops47 : Nat → Option (Sum) := fun | _ => none
theorem loops47_nat : ∀ q f, loops47 q = some f → Natural f := by
  intro q f h
  cases h
theorem loops47_ok : LoopsOk env47 orc47 loops47 body47 := loopsOk_nil (by kernel_rfl)
def G47 (x0 : (List UInt8)) : Option (Bool) :=
  bif (P73 x0 ([45] : List UInt8)) then
  let v1 : (List UInt8) := (F73 x0 ([45] : List UInt8))
  let v2 : Bool := (v1 == ([] : List UInt8))
  let v3 : Int := ((List.length v1 : Nat) : Int)
  let v4 : Bool := (decide (v3 > (200 : Int)))
  let v5 : Bool := (bif v2 then true else v4)
  bif ((P74 v1 ([48, 49, 50, 51, 52, 53, 54, 55, 56, 57] : List UInt8)) || !(!v5 && true)) then
  let v6 : (List UInt8) := (F74 v1 ([48, 49, 50, 51, 52, 53, 54, 55, 56, 57] : List UInt8))
  let v7 : Bool := (!(v6 == ([] : List UInt8)))
  let v8 : Bool := (bif v5 then true else v7)
  bif v8 then
  some (false)
  else
  let v9 : Bool := (x0 == ([48] : List UInt8))
  bif ((decide (0 ≤ (0 : Int)) && decide ((0 : Int) < List.length v1)) || !(!v9 && true)) then
  let v10 : Int := ((List.getD v1 (Int.toNat (0 : Int)) 0).toNat : Int)
  let v11 : Bool := (v10 != (48 : Int))
  let v12 : Bool := (bif v9 then true else v11)
  some (v12)
  else none
  else none
  else none
theorem ev47 (x0 : (List UInt8)) : ev2 env47 orc47 loops47 body47 (initSt 0 [⟨.str, x0⟩]) (retT [(2, .dat .bool)] [.bool] fun x => x.1) = G47 x0 := by kernel_rfl
def P47 (x0 : (List UInt8)) : Bool := (hold (G47 x0)).isSome
def F47 (x0 : (List UInt8)) : Bool := (hold (G47 x0)).getD default
theorem G47_some (x0 : (List UInt8)) (h : P47 x0 = true) : G47 x0 = some (F47 x0) := by
  unfold P47 at h; unfold F47
  rw [hold_eq] at h ⊢
  exact some_getD h
theorem P47_of (x0 : (List UInt8)) {r : Bool} (h : G47 x0 = some r) : P47 x0 = true := by unfold P47; rw [hold_eq, h]; rfl
theorem F47_of (x0 : (List UInt8)) {r : Bool} (h : G47 x0 = some r) : F47 x0 = r := by unfold F47; rw [hold_eq, h]; rfl
def spec47 : Spec := ⟨[.str], [.dat .bool], fun | [a0] => P47 (a0.as .str) | _ => false, fun | [a0] => [⟨.bool, (F47 (a0.as .str))⟩] | _ => []⟩
theorem meets47 (hE : EnvOk Tryz.prog env47) (hm : Tryz.prog.follows .mixedOrders = true) : Meets Tryz.prog glob 47 spec47 :=
  meets_of_ev2 (O := orc47) (L := loops47) (c := body47) (slots := [2]) hE hm Tryz.func47 Tryz.call47 (by kernel_rfl) (by kernel_rfl) loops47_ok (rangesOk_nil (by kernel_rfl)) (by kernel_rfl) rfl (by decide) (fun ds hds hpre => by
  obtain ⟨x0, ds0, rfl, h0⟩ := datsS hds
  have h9 := dats0 h0; subst h9
  exact ev_ret (un := fun r => [⟨.bool, r⟩]) loops47_nat (fun _ => rfl) ((ev47 x0).trans (G47_some x0 hpre)))
def env65 : Env := {
  tab := tab
  glob := glob
  spec := fun
    | _ => none
  bldT := bldT
  bld := bldF }

def orc65 : Orc := ⟨21, fun _ => none, fun
  | 0 => kp [0] []
  | 1 => kp [0, 14] []
  | 2 => kp [0] []
  | 3 => kp [2] []
  | _ => [], fun | _ => false⟩
noncomputable def body65 : Code := Tryz.f65.body.getD .skip
def L65_1_sh : Shape := [(.slot 0, .dat (.list (.int .i64)))]
def L65_1_x0 : Shape := [(.slot 0, .dat (.list (.int .i64)))]
def L65_1_pk (s : Tup L65_1_sh) : (List Int) := s.1
def L65_1_un (s : (List Int)) : Tup L65_1_sh := (s, ())
def L65_1_leave (x : ((List Int))) (R : Type) (K : Cont R) : Option R := match x with
  | a => K (.exit 0) (mkSt L65_1_x0 (a, ()))
def L65_1_d (e : Exit) (st : St) : Option (((List Int))) := match e with
  | .exit 0 => (match unSt L65_1_x0 st with
    | some s => some s.1
    | none => none)
  | _ => none
def L65_1_r (s0 : (List Int)) : Option (((List Int)) ⊕ (((List Int)))) :=
  let v2 : Int := ((List.length s0 : Nat) : Int)
  let v3 : Bool := (decide (v2 > (0 : Int)))
  let v4 : Int := ((List.length s0 : Nat) : Int)
  let v5 : Int := (IntKind.i64.wrap (v4 - (1 : Int)))
  bif ((decide (0 ≤ v5) && decide (v5 < List.length s0)) || !(v3 && true)) then
  let v6 : Int := (List.getD s0 (Int.toNat v5) (0 : Int))
  let v7 : Bool := (v6 == (0 : Int))
  let v8 : Bool := (bif v3 then v7 else false)
  bif v8 then
  let v9 : Int := ((List.length s0 : Nat) : Int)
  let v10 : Int := (IntKind.i64.wrap (v9 - (1 : Int)))
  bif (sliceTest (0 : Int) v10 (List.length s0)) then
  let v11 : (List Int) := (cut s0 (0 : Int) v10)
  some (.inl v11)
  else none
  else
  some (.inr s0)
  else none
def L65_1 : (List Int) → Option (((List Int))) := Lim (fun s => L65_1_r s)
def L65_1_sum : Sum := limSum L65_1_sh L65_1_pk (fun s => L65_1_r s) L65_1_leave
theorem L65_1_nat : Natural L65_1_sum := natural_lim fun x R K => by
  rfl
theorem L65_1_dok : ∀ e st x, e ≠ .normal → L65_1_d e st = some x → ∀ R (K : Cont R), K e st = L65_1_leave x R K := by
  intro e st x _ h R K
  unfold L65_1_d at h
  split at h
  · split at h
    · rename_i s hs; cases h; rw [unSt_some hs]; rfl
    · cases h
  · cases h
def loops65 : Nat → Option (Sum) := fun | 1 => some L65_1_sum | _ => none
theorem loops65_nat : ∀ q f, loops65 q = some f → Natural f := by
  intro q f h
  unfold loops65 at h
  split at h
  · cases h; exact L65_1_nat
  · cases h
noncomputable def L65_1_code : Code := (loopsOf body65).getD 0 .skip
theorem L65_1_round (s0 : (List Int)) : ev2 env65 orc65 loops65 L65_1_code (mkSt L65_1_sh (s0, ())) (back L65_1_sh L65_1_pk L65_1_d) = L65_1_r s0 := by kernel_rfl
theorem L65_1_ok : SumOk env65 orc65 loops65 L65_1_code L65_1_sum := sumOk_lim (un := L65_1_un) loops65_nat (fun _ => rfl) L65_1_dok fun s => L65_1_round s
theorem loops65_all : loopsOf body65 = [L65_1_code] := by kernel_rfl
theorem L65_1_key : lookL loops65 (keyOf L65_1_code) = some L65_1_sum := by kernel_rfl
theorem loops65_ok : LoopsOk env65 orc65 loops65 body65 := by
  intro c hc f hf
  rw [loops65_all] at hc
  simp only [List.mem_cons, List.not_mem_nil, or_false] at hc
  subst hc
  · rw [L65_1_key] at hf; cases hf; exact L65_1_ok
def G65 (x0 : (List Int)) : Option ((List Int)) :=
  let v1 : (List Int) := ([] : (List Int))
  Option.bind (L65_1 x0) fun (r12 : (List Int)) =>
  some (r12)
theorem ev65 (x0 : (List Int)) : ev2 env65 orc65 loops65 body65 (initSt 0 [⟨(.list (.int .i64)), x0⟩]) (retT [(2, .dat (.list (.int .i64)))] [(.list (.int .i64))] fun x => x.1) = G65 x0 := by kernel_rfl
def P65 (x0 : (List Int)) : Bool := (hold (G65 x0)).isSome
def F65 (x0 : (List Int)) : (List Int) := (hold (G65 x0)).getD default
theorem G65_some (x0 : (List Int)) (h : P65 x0 = true) : G65 x0 = some (F65 x0) := by
  unfold P65 at h; unfold F65
  rw [hold_eq] at h ⊢
  exact some_getD h
theorem P65_of (x0 : (List Int)) {r : (List Int)} (h : G65 x0 = some r) : P65 x0 = true := by unfold P65; rw [hold_eq, h]; rfl
theorem F65_of (x0 : (List Int)) {r : (List Int)} (h : G65 x0 = some r) : F65 x0 = r := by unfold F65; rw [hold_eq, h]; rfl
def spec65 : Spec := ⟨[(.list (.int .i64))], [.dat (.list (.int .i64))], fun | [a0] => P65 (a0.as (.list (.int .i64))) | _ => false, fun | [a0] => [⟨(.list (.int .i64)), (F65 (a0.as (.list (.int .i64))))⟩] | _ => []⟩
theorem meets65 (hE : EnvOk Tryz.prog env65) (hm : Tryz.prog.follows .mixedOrders = true) : Meets Tryz.prog glob 65 spec65 :=
  meets_of_ev2 (O := orc65) (L := loops65) (c := body65) (slots := [2]) hE hm Tryz.func65 Tryz.call65 (by kernel_rfl) (by kernel_rfl) loops65_ok (rangesOk_nil (by kernel_rfl)) (by kernel_rfl) rfl (by decide) (fun ds hds hpre => by
  obtain ⟨x0, ds0, rfl, h0⟩ := datsS hds
  have h9 := dats0 h0; subst h9
  exact ev_ret (un := fun r => [⟨(.list (.int .i64)), r⟩]) loops65_nat (fun _ => rfl) ((ev65 x0).trans (G65_some x0 hpre)))
def pin59 : Shape := [(.slot 0, .dat .str)]
def pout59 : Shape := [(.slot 0, .dat t49)]
def env59 : Env := {
  tab := tab
  glob := glob
  spec := fun
    | 57 => some spec57
    | 65 => some spec65
    | 73 => some spec73
    | _ => none
  bldT := bldT
  bld := bldF }

def orc59 : Orc := ⟨44, fun _ => none, fun
  | 0 => kp [0, 2] [(2, [0, 1])]
  | 1 => kp [0, 2, 3] [(2, [0, 1])]
  | 2 => kp [2, 3, 4] [(2, [0, 1]), (4, [0, 1])]
  | 3 => kp [2, 3, 4, 18] [(2, [0, 1]), (4, [0, 1])]
  | 4 => kp [2, 3, 4, 5] [(2, [0, 1]), (4, [0, 1])]
  | 5 => kp [2, 3, 4, 5, 6] [(2, [0, 1]), (4, [0, 1])]
  | 6 => kp [2, 3, 4, 5] [(2, [0, 1]), (4, [0, 1])]
  | 7 => kp [2, 3, 4] [(2, [0, 1]), (4, [0, 1])]
  | 8 => kp [2, 4] [(2, [0, 1]), (4, [0, 1])]
  | 9 => kp [2] [(2, [0, 1])]
  | _ => [], fun | _ => false⟩
noncomputable def body59 : Code := Tryz.f59.body.getD .skip
def L59_3_sh : Shape := [(.slot 2, .ptr 2 0), (.slot 3, .dat .str), (.slot 4, .ptr 4 0), (.box 2, .bx 50 2), (.cell 2 0, .dat .bool), (.cell 2 1, .own 3 (.int .i64)), (.box 4, .bx 50 2), (.cell 4 0, .dat .bool), (.cell 4 1, .own 3 (.int .i64))]
def L59_3_x0 : Shape := [(.slot 2, .ptr 2 0), (.slot 3, .dat .str), (.slot 4, .ptr 4 0), (.box 2, .bx 50 2), (.cell 2 0, .dat .bool), (.cell 2 1, .own 3 (.int .i64)), (.box 4, .bx 50 2), (.cell 4 0, .dat .bool), (.cell 4 1, .own 3 (.int .i64))]
def L59_3_pk (s : Tup L59_3_sh) : (List UInt8) × Bool × (List Int) × Bool × (List Int) := (s.2.1, s.2.2.2.2.1, s.2.2.2.2.2.1, s.2.2.2.2.2.2.2.1, s.2.2.2.2.2.2.2.2.1)
def L59_3_un (s : (List UInt8) × Bool × (List Int) × Bool × (List Int)) : Tup L59_3_sh := ((), (s.1, ((), ((), (s.2.1, (s.2.2.1, ((), (s.2.2.2.1, (s.2.2.2.2, ())))))))))
def L59_3_leave (x : ((List UInt8) × Bool × (List Int) × Bool × (List Int))) (R : Type) (K : Cont R) : Option R := match x with
  | a => K (.exit 0) (mkSt L59_3_x0 ((), (a.1, ((), ((), (a.2.1, (a.2.2.1, ((), (a.2.2.2.1, (a.2.2.2.2, ()))))))))))
def L59_3_d (e : Exit) (st : St) : Option (((List UInt8) × Bool × (List Int) × Bool × (List Int))) := match e with
  | .exit 0 => (match unSt L59_3_x0 st with
    | some s => some (s.2.1, s.2.2.2.2.1, s.2.2.2.2.2.1, s.2.2.2.2.2.2.2.1, s.2.2.2.2.2.2.2.2.1)
    | none => none)
  | _ => none
def L59_3_r (s0 : (List UInt8)) (s1 : Bool) (s2 : (List Int)) (s3 : Bool) (s4 : (List Int)) : Option (((List UInt8) × Bool × (List Int) × Bool × (List Int)) ⊕ (((List UInt8) × Bool × (List Int) × Bool × (List Int)))) :=
  let v11 : Int := ((List.length s0 : Nat) : Int)
  let v12 : Bool := (decide (v11 > (0 : Int)))
  bif v12 then
  let v13 : Int := ((List.length s0 : Nat) : Int)
  let v14 : Int := (IntKind.i64.wrap (v13 - (4 : Int)))
  let v15 : Int := (if v14 > (0 : Int) then v14 else (0 : Int))
  bif (sliceTest v15 ((List.length s0 : Nat) : Int) (List.length s0)) then
  let v16 : (List UInt8) := (cut s0 v15 ((List.length s0 : Nat) : Int))
  bif (P57 v16) then
  let v17 : (Int × Bool) := (F57 v16)
  let v18 : (List Int) := (List.set (List.replicate 1 (0 : Int)) 0 v17.1)
  bif (decide (List.length (List.take (List.length s4) s4) + List.length v18 ≤ 100000000000)) then
  let v19 : (List Int) := ((List.take (List.length s4) s4) ++ v18)
  bif (sliceTest (0 : Int) v15 (List.length s0)) then
  let v20 : (List UInt8) := (cut s0 (0 : Int) v15)
  some (.inl (v20, s1, s2, s3, v19))
  else none
  else none
  else none
  else none
  else
  some (.inr (s0, s1, s2, s3, s4))
def L59_3 : (List UInt8) × Bool × (List Int) × Bool × (List Int) → Option (((List UInt8) × Bool × (List Int) × Bool × (List Int))) := Lim (fun s => L59_3_r s.1 s.2.1 s.2.2.1 s.2.2.2.1 s.2.2.2.2)
def L59_3_sum : Sum := limSum L59_3_sh L59_3_pk (fun s => L59_3_r s.1 s.2.1 s.2.2.1 s.2.2.2.1 s.2.2.2.2) L59_3_leave
theorem L59_3_nat : Natural L59_3_sum := natural_lim fun x R K => by
  rfl
theorem L59_3_dok : ∀ e st x, e ≠ .normal → L59_3_d e st = some x → ∀ R (K : Cont R), K e st = L59_3_leave x R K := by
  intro e st x _ h R K
  unfold L59_3_d at h
  split at h
  · split at h
    · rename_i s hs; cases h; rw [unSt_some hs]; rfl
    · cases h
  · cases h
def loops59 : Nat → Option (Sum) := fun | 3 => some L59_3_sum | _ => none
theorem loops59_nat : ∀ q f, loops59 q = some f → Natural f := by
  intro q f h
  unfold loops59 at h
  split at h
  · cases h; exact L59_3_nat
  · cases h
noncomputable def L59_3_code : Code := (loopsOf body59).getD 0 .skip
theorem L59_3_round (s0 : (List UInt8)) (s1 : Bool) (s2 : (List Int)) (s3 : Bool) (s4 : (List Int)) : ev2 env59 orc59 loops59 L59_3_code (mkSt L59_3_sh ((), (s0, ((), ((), (s1, (s2, ((), (s3, (s4, ())))))))))) (back L59_3_sh L59_3_pk L59_3_d) = L59_3_r s0 s1 s2 s3 s4 := by kernel_rfl
theorem L59_3_ok : SumOk env59 orc59 loops59 L59_3_code L59_3_sum := sumOk_lim (un := L59_3_un) loops59_nat (fun _ => rfl) L59_3_dok fun s => L59_3_round s.1 s.2.1 s.2.2.1 s.2.2.2.1 s.2.2.2.2
theorem loops59_all : loopsOf body59 = [L59_3_code] := by kernel_rfl
theorem L59_3_key : lookL loops59 (keyOf L59_3_code) = some L59_3_sum := by kernel_rfl
theorem loops59_ok : LoopsOk env59 orc59 loops59 body59 := by
  intro c hc f hf
  rw [loops59_all] at hc
  simp only [List.mem_cons, List.not_mem_nil, or_false] at hc
  subst hc
  · rw [L59_3_key] at hf; cases hf; exact L59_3_ok
def G59 (x0 : (List UInt8)) : Option (D49 × Unit) :=
  let v1 : (List Int) := ([] : (List Int))
  let v2 : (List Int) := ([] : (List Int))
  bif (P73 x0 ([45] : List UInt8)) then
  let v3 : (List UInt8) := (F73 x0 ([45] : List UInt8))
  let v4 : Int := ((List.length v3 : Nat) : Int)
  let v5 : Int := ((List.length x0 : Nat) : Int)
  let v6 : Bool := (decide (v4 < v5))
  let v7 : (List Int) := ([] : (List Int))
  let v8 : (List Int) := ([] : (List Int))
  let v9 : (List Int) := ([] : (List Int))
  let v10 : (List Int) := ([] : (List Int))
  Option.bind (L59_3 (v3, false, v2, v6, v10)) fun (r21 : (List UInt8) × Bool × (List Int) × Bool × (List Int)) =>
  bif (P65 (List.take (List.length r21.2.2.2.2) r21.2.2.2.2)) then
  let v22 : (List Int) := (F65 (List.take (List.length r21.2.2.2.2) r21.2.2.2.2))
  some ((r21.2.2.2.1, (v22, ())), ())
  else none
  else none
def P59 (x0 : (List UInt8)) : Bool := (hold (G59 x0)).isSome
def F59 (x0 : (List UInt8)) : (D49 × Unit) := (hold (G59 x0)).getD (Tup.zero pout59)
theorem P59_of (x0 : (List UInt8)) {r : (D49 × Unit)} (h : G59 x0 = some r) : P59 x0 = true := by unfold P59; rw [hold_eq, h]; rfl
theorem F59_of (x0 : (List UInt8)) {r : (D49 × Unit)} (h : G59 x0 = some r) : F59 x0 = r := by unfold F59; rw [hold_eq, h]; rfl
theorem ev59 (x0 : (List UInt8)) : ev2 env59 orc59 loops59 body59 (mkSt pin59 (x0, ())) (retK3 env59 [.cell 2 50] pout59) = G59 x0 := by kernel_rfl
def sp59 : Spec2 := ⟨pin59, pout59, fun s => hold (G59 s.1)⟩
theorem fit59 : Fit Tryz.f59 [.cell 2 50] sp59 := ⟨by kernel_rfl, by kernel_rfl, by kernel_rfl, by kernel_rfl, by kernel_rfl, by decide, by decide, by decide⟩
theorem meets59 (hE : EnvOk Tryz.prog env59) (hm : Tryz.prog.follows .mixedOrders = true) : Meets2 Tryz.prog glob 59 sp59 :=
  meets2_of_ev2 (O := orc59) (L := loops59) (c := body59) (rs := [.cell 2 50]) hE (fun _ => rfl) hm Tryz.func59 Tryz.call59 (by kernel_rfl) (by kernel_rfl) loops59_ok (rangesOk_nil (by kernel_rfl)) fit59 (fun s o h => (ev59 s.1).trans ((hold_eq _).symm.trans h))
def pin38 : Shape := [(.slot 0, .dat .str), (.slot 1, .dat .str)]
def pout38 : Shape := [(.slot 0, .dat t49), (.slot 1, .dat t49), (.slot 2, .dat .bool)]
def env38 : Env := {
  tab := tab
  glob := glob
  spec := fun
    | 47 => some spec47
    | _ => none
  spec2 := fun
    | 59, [] => some sp59
    | _, _ => none
  bldT := bldT
  bld := bldF }

def orc38 : Orc := ⟨21, fun _ => none, fun
  | 0 => kp [0, 1, 4, 5] [(4, [0, 1]), (5, [0, 1])]
  | 1 => kp [0, 1, 4, 5, 14] [(4, [0, 1]), (5, [0, 1])]
  | 2 => kp [4, 5, 6] [(4, [0])] ++ [(.cell 4 1, .frz)] ++ kp [] [(5, [0])] ++ [(.cell 5 1, .frz)]
  | 3 => kp [4, 5, 6] [(4, [0, 1]), (5, [0, 1])]
  | _ => [], fun | _ => false⟩
noncomputable def body38 : Code := Tryz.f38.body.getD .skip
def loops38 : Nat → Option (Sum) := fun | _ => none
theorem loops38_ok : LoopsOk env38 orc38 loops38 body38 := loopsOk_nil (by kernel_rfl)
def G38 (x0 : (List UInt8)) (x1 : (List UInt8)) : Option (D49 × (D49 × (Bool × Unit))) :=
  let v1 : (List Int) := ([] : (List Int))
  let v2 : (List Int) := ([] : (List Int))
  let v3 : (List Int) := ([] : (List Int))
  let v4 : (List Int) := ([] : (List Int))
  bif (P47 x0) then
  let v5 : Bool := (F47 x0)
  let v6 : Bool := (!v5)
  bif ((P47 x1) || !(!v6 && true)) then
  let v7 : Bool := (F47 x1)
  let v8 : Bool := (!v7)
  let v9 : Bool := (bif v6 then true else v8)
  bif v9 then
  let v10 : (List Int) := ([] : (List Int))
  let v11 : (List Int) := ([] : (List Int))
  let v12 : (List Int) := ([] : (List Int))
  let v13 : (List Int) := ([] : (List Int))
  some ((false, (v12, ())), ((false, (v13, ())), (false, ())))
  else
  bif (P59 x0) then
  let q14 : (D49 × Unit) := F59 x0
  bif (P59 x1) then
  let q15 : (D49 × Unit) := F59 x1
  some (q14.1, (q15.1, (true, ())))
  else none
  else none
  else none
  else none
def P38 (x0 : (List UInt8)) (x1 : (List UInt8)) : Bool := (hold (G38 x0 x1)).isSome
def F38 (x0 : (List UInt8)) (x1 : (List UInt8)) : (D49 × (D49 × (Bool × Unit))) := (hold (G38 x0 x1)).getD (Tup.zero pout38)
theorem P38_of (x0 : (List UInt8)) (x1 : (List UInt8)) {r : (D49 × (D49 × (Bool × Unit)))} (h : G38 x0 x1 = some r) : P38 x0 x1 = true := by unfold P38; rw [hold_eq, h]; rfl
theorem F38_of (x0 : (List UInt8)) (x1 : (List UInt8)) {r : (D49 × (D49 × (Bool × Unit)))} (h : G38 x0 x1 = some r) : F38 x0 x1 = r := by unfold F38; rw [hold_eq, h]; rfl
theorem ev38 (x0 : (List UInt8)) (x1 : (List UInt8)) : ev2 env38 orc38 loops38 body38 (mkSt pin38 (x0, (x1, ()))) (retK3 env38 [.cell 4 50, .cell 5 50, .slot 6] pout38) = G38 x0 x1 := by kernel_rfl
def sp38 : Spec2 := ⟨pin38, pout38, fun s => hold (G38 s.1 s.2.1)⟩
theorem fit38 : Fit Tryz.f38 [.cell 4 50, .cell 5 50, .slot 6] sp38 := ⟨by kernel_rfl, by kernel_rfl, by kernel_rfl, by kernel_rfl, by kernel_rfl, by decide, by decide, by decide⟩
theorem meets38 (hE : EnvOk Tryz.prog env38) (hm : Tryz.prog.follows .mixedOrders = true) : Meets2 Tryz.prog glob 38 sp38 :=
  meets2_of_ev2 (O := orc38) (L := loops38) (c := body38) (rs := [.cell 4 50, .cell 5 50, .slot 6]) hE (fun _ => rfl) hm Tryz.func38 Tryz.call38 (by kernel_rfl) (by kernel_rfl) loops38_ok (rangesOk_nil (by kernel_rfl)) fit38 (fun s o h => (ev38 s.1 s.2.1).trans ((hold_eq _).symm.trans h))
def env70 : Env := {
  tab := tab
  glob := glob
  spec := fun
    | _ => none
  bldT := bldT
  bld := bldF }

def orc70 : Orc := ⟨13, fun _ => none, fun
  | 0 => kp [0, 1] []
  | 1 => kp [0, 1, 8] []
  | 2 => kp [4] []
  | 3 => kp [4] []
  | _ => [], fun | _ => false⟩
noncomputable def body70 : Code := Tryz.f70.body.getD .skip
def loops70 : Nat → Option (Sum) := fun | _ => none
theorem loops70_nat : ∀ q f, loops70 q = some f → Natural f := by
  intro q f h
  cases h
theorem loops70_ok : LoopsOk env70 orc70 loops70 body70 := loopsOk_nil (by kernel_rfl)
def G70 (x0 : (List Int)) (x1 : Int) : Option (Int) :=
  let v1 : Int := ((List.length x0 : Nat) : Int)
  let v2 : Bool := (decide (x1 < v1))
  bif v2 then
  bif (decide (0 ≤ x1) && decide (x1 < List.length x0)) then
  let v3 : Int := (List.getD x0 (Int.toNat x1) (0 : Int))
  some (v3)
  else none
  else
  some ((0 : Int))
theorem ev70 (x0 : (List Int)) (x1 : Int) : ev2 env70 orc70 loops70 body70 (initSt 0 [⟨(.list (.int .i64)), x0⟩, ⟨(.int .i64), x1⟩]) (retT [(4, .dat (.int .i64))] [(.int .i64)] fun x => x.1) = G70 x0 x1 := by kernel_rfl
def P70 (x0 : (List Int)) (x1 : Int) : Bool := (hold (G70 x0 x1)).isSome
def F70 (x0 : (List Int)) (x1 : Int) : Int := (hold (G70 x0 x1)).getD default
theorem G70_some (x0 : (List Int)) (x1 : Int) (h : P70 x0 x1 = true) : G70 x0 x1 = some (F70 x0 x1) := by
  unfold P70 at h; unfold F70
  rw [hold_eq] at h ⊢
  exact some_getD h
theorem P70_of (x0 : (List Int)) (x1 : Int) {r : Int} (h : G70 x0 x1 = some r) : P70 x0 x1 = true := by unfold P70; rw [hold_eq, h]; rfl
theorem F70_of (x0 : (List Int)) (x1 : Int) {r : Int} (h : G70 x0 x1 = some r) : F70 x0 x1 = r := by unfold F70; rw [hold_eq, h]; rfl
def spec70 : Spec := ⟨[(.list (.int .i64)), (.int .i64)], [.dat (.int .i64)], fun | [a0, a1] => P70 (a0.as (.list (.int .i64))) (a1.as (.int .i64)) | _ => false, fun | [a0, a1] => [⟨(.int .i64), (F70 (a0.as (.list (.int .i64))) (a1.as (.int .i64)))⟩] | _ => []⟩
theorem meets70 (hE : EnvOk Tryz.prog env70) (hm : Tryz.prog.follows .mixedOrders = true) : Meets Tryz.prog glob 70 spec70 :=
  meets_of_ev2 (O := orc70) (L := loops70) (c := body70) (slots := [4]) hE hm Tryz.func70 Tryz.call70 (by kernel_rfl) (by kernel_rfl) loops70_ok (rangesOk_nil (by kernel_rfl)) (by kernel_rfl) rfl (by decide) (fun ds hds hpre => by
  obtain ⟨x0, ds0, rfl, h0⟩ := datsS hds
  obtain ⟨x1, ds1, rfl, h1⟩ := datsS h0
  have h9 := dats0 h1; subst h9
  exact ev_ret (un := fun r => [⟨(.int .i64), r⟩]) loops70_nat (fun _ => rfl) ((ev70 x0 x1).trans (G70_some x0 x1 hpre)))
def pin69 : Shape := [(.slot 0, .dat (.int .i64)), (.slot 1, .ptr 50000 0), (.slot 2, .ptr 50001 0), (.box 50000, .bx 48 1), (.cell 50000 0, .dat (.list (.int .i64))), (.box 50001, .bx 48 1), (.cell 50001 0, .dat (.list (.int .i64)))]
def pout69 : Shape := [(.slot 0, .dat (.int .i64)), (.box 50000, .bx 48 1), (.cell 50000 0, .dat (.list (.int .i64))), (.box 50001, .bx 48 1), (.cell 50001 0, .dat (.list (.int .i64)))]
def env69 : Env := {
  tab := tab
  glob := glob
  spec := fun
    | 70 => some spec70
    | _ => none
  bldT := bldT
  bld := bldF }

def orc69 : Orc := ⟨12, fun _ => none, fun
  | 0 => kp [0, 1, 2] [(50000, [0]), (50001, [0])]
  | 1 => kp [4] [(50000, [0]), (50001, [0])]
  | _ => [], fun | _ => false⟩
noncomputable def body69 : Code := Tryz.f69.body.getD .skip
def loops69 : Nat → Option (Sum) := fun | _ => none
theorem loops69_ok : LoopsOk env69 orc69 loops69 body69 := loopsOk_nil (by kernel_rfl)
def G69 (x0 : Int) (x1 : (List Int)) (x2 : (List Int)) : Option (Int × (Unit × ((List Int) × (Unit × ((List Int) × Unit))))) :=
  bif (P70 x1 x0) then
  let v1 : Int := (F70 x1 x0)
  bif (P70 x2 x0) then
  let v2 : Int := (F70 x2 x0)
  let v3 : Int := (IntKind.i64.wrap (v1 + v2))
  some (v3, ((), (x1, ((), (x2, ())))))
  else none
  else none
def P69 (x0 : Int) (x1 : (List Int)) (x2 : (List Int)) : Bool := (hold (G69 x0 x1 x2)).isSome
def F69 (x0 : Int) (x1 : (List Int)) (x2 : (List Int)) : (Int × (Unit × ((List Int) × (Unit × ((List Int) × Unit))))) := (hold (G69 x0 x1 x2)).getD (Tup.zero pout69)
theorem P69_of (x0 : Int) (x1 : (List Int)) (x2 : (List Int)) {r : (Int × (Unit × ((List Int) × (Unit × ((List Int) × Unit)))))} (h : G69 x0 x1 x2 = some r) : P69 x0 x1 x2 = true := by unfold P69; rw [hold_eq, h]; rfl
theorem F69_of (x0 : Int) (x1 : (List Int)) (x2 : (List Int)) {r : (Int × (Unit × ((List Int) × (Unit × ((List Int) × Unit)))))} (h : G69 x0 x1 x2 = some r) : F69 x0 x1 x2 = r := by unfold F69; rw [hold_eq, h]; rfl
theorem ev69 (x0 : Int) (x1 : (List Int)) (x2 : (List Int)) : ev2 env69 orc69 loops69 body69 (mkSt pin69 (x0, ((), ((), ((), (x1, ((), (x2, ())))))))) (retK3 env69 [.slot 4] pout69) = G69 x0 x1 x2 := by kernel_rfl
def sp69 : Spec2 := ⟨pin69, pout69, fun s => hold (G69 s.1 s.2.2.2.2.1 s.2.2.2.2.2.2.1)⟩
theorem fit69 : Fit Tryz.f69 [.slot 4] sp69 := ⟨by kernel_rfl, by kernel_rfl, by kernel_rfl, by kernel_rfl, by kernel_rfl, by decide, by decide, by decide⟩
theorem meets69 (hE : EnvOk Tryz.prog env69) (hm : Tryz.prog.follows .mixedOrders = true) : Meets2 Tryz.prog glob 69 sp69 :=
  meets2_of_ev2 (O := orc69) (L := loops69) (c := body69) (rs := [.slot 4]) hE (fun _ => rfl) hm Tryz.func69 Tryz.call69 (by kernel_rfl) (by kernel_rfl) loops69_ok (rangesOk_nil (by kernel_rfl)) fit69 (fun s o h => (ev69 s.1 s.2.2.2.2.1 s.2.2.2.2.2.2.1).trans ((hold_eq _).symm.trans h))
def pin68 : Shape := [(.slot 0, .dat (.int .i64)), (.slot 1, .dat (.int .i64)), (.slot 2, .fn 69 [50000, 50001]), (.box 50000, .bx 48 1), (.cell 50000 0, .dat (.list (.int .i64))), (.box 50001, .bx 48 1), (.cell 50001 0, .dat (.list (.int .i64)))]
def pout68 : Shape := [(.slot 0, .dat (.list (.int .i64))), (.box 50000, .bx 48 1), (.cell 50000 0, .dat (.list (.int .i64))), (.box 50001, .bx 48 1), (.cell 50001 0, .dat (.list (.int .i64)))]
def env68 : Env := {
  tab := tab
  glob := glob
  spec := fun
    | _ => none
  spec2 := fun
    | 69, [] => some sp69
    | _, _ => none
  bldT := bldT
  bld := bldF }

def orc68 : Orc := ⟨42, fun _ => none, fun
  | 0 => kp [0, 1, 2] [(50000, [0]), (50001, [0])]
  | 1 => kp [0, 1, 2, 7] [(50000, [0]), (50001, [0])]
  | 2 => kp [0, 1, 2, 7, 8] [(50000, [0]), (50001, [0])]
  | 3 => kp [0, 1, 2, 7, 8, 19] [(50000, [0]), (50001, [0])]
  | 4 => kp [0, 1, 2, 7, 8] [(50000, [0]), (50001, [0])]
  | 5 => kp [0, 2, 7, 8, 9] [(50000, [0]), (50001, [0])]
  | 6 => kp [0, 1, 2, 7, 8, 9] [(50000, [0]), (50001, [0])]
  | 7 => kp [0, 1, 2, 7, 8, 9, 28] [(50000, [0]), (50001, [0])]
  | 8 => kp [0, 2, 7, 8, 9] [(50000, [0]), (50001, [0])]
  | 9 => kp [0, 1, 2, 7, 8, 9] [(50000, [0]), (50001, [0])]
  | 10 => kp [0, 1, 2, 7, 8, 9, 32] [(50000, [0]), (50001, [0])]
  | 11 => kp [0, 1, 2, 7, 8, 9] [(50000, [0]), (50001, [0])]
  | 12 => kp [0, 1, 2, 7, 8, 9] [(50000, [0]), (50001, [0])]
  | 13 => kp [0, 1, 2, 7, 8] [(50000, [0]), (50001, [0])]
  | 14 => kp [6] [(50000, [0]), (50001, [0])]
  | _ => [], fun | _ => false⟩
noncomputable def body68 : Code := Tryz.f68.body.getD .skip
def L68_3_sh : Shape := [(.slot 0, .dat (.int .i64)), (.slot 1, .dat (.int .i64)), (.slot 2, .fn 69 [50000, 50001]), (.slot 7, .own 3 (.int .i64)), (.slot 8, .dat (.int .i64)), (.box 50000, .bx 48 1), (.cell 50000 0, .dat (.list (.int .i64))), (.box 50001, .bx 48 1), (.cell 50001 0, .dat (.list (.int .i64)))]
def L68_3_x0 : Shape := [(.slot 0, .dat (.int .i64)), (.slot 1, .dat (.int .i64)), (.slot 2, .fn 69 [50000, 50001]), (.slot 7, .own 3 (.int .i64)), (.slot 8, .dat (.int .i64)), (.box 50000, .bx 48 1), (.cell 50000 0, .dat (.list (.int .i64))), (.box 50001, .bx 48 1), (.cell 50001 0, .dat (.list (.int .i64)))]
def L68_3_pk (s : Tup L68_3_sh) : Int × Int × (List Int) × Int × (List Int) × (List Int) := (s.1, s.2.1, s.2.2.2.1, s.2.2.2.2.1, s.2.2.2.2.2.2.1, s.2.2.2.2.2.2.2.2.1)
def L68_3_un (s : Int × Int × (List Int) × Int × (List Int) × (List Int)) : Tup L68_3_sh := (s.1, (s.2.1, ((), (s.2.2.1, (s.2.2.2.1, ((), (s.2.2.2.2.1, ((), (s.2.2.2.2.2, ())))))))))
def L68_3_leave (x : (Int × Int × (List Int) × Int × (List Int) × (List Int))) (R : Type) (K : Cont R) : Option R := match x with
  | a => K (.exit 0) (mkSt L68_3_x0 (a.1, (a.2.1, ((), (a.2.2.1, (a.2.2.2.1, ((), (a.2.2.2.2.1, ((), (a.2.2.2.2.2, ()))))))))))
def L68_3_d (e : Exit) (st : St) : Option ((Int × Int × (List Int) × Int × (List Int) × (List Int))) := match e with
  | .exit 0 => (match unSt L68_3_x0 st with
    | some s => some (s.1, s.2.1, s.2.2.2.1, s.2.2.2.2.1, s.2.2.2.2.2.2.1, s.2.2.2.2.2.2.2.2.1)
    | none => none)
  | _ => none
def L68_3_r (s0 : Int) (s1 : Int) (s2 : (List Int)) (s3 : Int) (s4 : (List Int)) (s5 : (List Int)) : Option ((Int × Int × (List Int) × Int × (List Int) × (List Int)) ⊕ ((Int × Int × (List Int) × Int × (List Int) × (List Int)))) :=
  let v4 : Bool := (decide (s3 < s0))
  let v5 : Bool := (s1 != (0 : Int))
  let v6 : Bool := (bif v4 then true else v5)
  bif v6 then
  bif (P69 s3 s4 s5) then
  let q7 : (Int × (Unit × ((List Int) × (Unit × ((List Int) × Unit))))) := F69 s3 s4 s5
  let v8 : Int := (IntKind.i64.wrap (q7.1 + s1))
  let v9 : Bool := (decide (v8 < (0 : Int)))
  bif v9 then
  let v10 : Int := (IntKind.i64.wrap (v8 + (10000 : Int)))
  let v11 : (List Int) := (List.set (List.replicate 1 (0 : Int)) 0 v10)
  bif (decide (List.length (List.take (List.length s2) s2) + List.length v11 ≤ 100000000000)) then
  let v12 : (List Int) := ((List.take (List.length s2) s2) ++ v11)
  let v13 : Int := (IntKind.i64.wrap (s3 + (1 : Int)))
  some (.inl (s0, (-1 : Int), v12, v13, q7.2.2.1, q7.2.2.2.2.1))
  else none
  else
  let v14 : Bool := (decide (v8 ≥ (10000 : Int)))
  bif v14 then
  let v15 : Int := (IntKind.i64.wrap (Int.tdiv v8 (10000 : Int)))
  let v16 : Int := (Int.tmod v8 (10000 : Int))
  let v17 : (List Int) := (List.set (List.replicate 1 (0 : Int)) 0 v16)
  bif (decide (List.length (List.take (List.length s2) s2) + List.length v17 ≤ 100000000000)) then
  let v18 : (List Int) := ((List.take (List.length s2) s2) ++ v17)
  let v19 : Int := (IntKind.i64.wrap (s3 + (1 : Int)))
  some (.inl (s0, v15, v18, v19, q7.2.2.1, q7.2.2.2.2.1))
  else none
  else
  let v20 : (List Int) := (List.set (List.replicate 1 (0 : Int)) 0 v8)
  bif (decide (List.length (List.take (List.length s2) s2) + List.length v20 ≤ 100000000000)) then
  let v21 : (List Int) := ((List.take (List.length s2) s2) ++ v20)
  let v22 : Int := (IntKind.i64.wrap (s3 + (1 : Int)))
  some (.inl (s0, (0 : Int), v21, v22, q7.2.2.1, q7.2.2.2.2.1))
  else none
  else none
  else
  some (.inr (s0, s1, s2, s3, s4, s5))
def L68_3 : Int × Int × (List Int) × Int × (List Int) × (List Int) → Option ((Int × Int × (List Int) × Int × (List Int) × (List Int))) := Lim (fun s => L68_3_r s.1 s.2.1 s.2.2.1 s.2.2.2.1 s.2.2.2.2.1 s.2.2.2.2.2)
def L68_3_sum : Sum := limSum L68_3_sh L68_3_pk (fun s => L68_3_r s.1 s.2.1 s.2.2.1 s.2.2.2.1 s.2.2.2.2.1 s.2.2.2.2.2) L68_3_leave
theorem L68_3_nat : Natural L68_3_sum := natural_lim fun x R K => by
  rfl
theorem L68_3_dok : ∀ e st x, e ≠ .normal → L68_3_d e st = some x → ∀ R (K : Cont R), K e st = L68_3_leave x R K := by
  intro e st x _ h R K
  unfold L68_3_d at h
  split at h
  · split at h
    · rename_i s hs; cases h; rw [unSt_some hs]; rfl
    · cases h
  · cases h
def loops68 : Nat → Option (Sum) := fun | 3 => some L68_3_sum | _ => none
theorem loops68_nat : ∀ q f, loops68 q = some f → Natural f := by
  intro q f h
  unfold loops68 at h
  split at h
  · cases h; exact L68_3_nat
  · cases h
noncomputable def L68_3_code : Code := (loopsOf body68).getD 0 .skip
theorem L68_3_round (s0 : Int) (s1 : Int) (s2 : (List Int)) (s3 : Int) (s4 : (List Int)) (s5 : (List Int)) : ev2 env68 orc68 loops68 L68_3_code (mkSt L68_3_sh (s0, (s1, ((), (s2, (s3, ((), (s4, ((), (s5, ())))))))))) (back L68_3_sh L68_3_pk L68_3_d) = L68_3_r s0 s1 s2 s3 s4 s5 := by kernel_rfl
theorem L68_3_ok : SumOk env68 orc68 loops68 L68_3_code L68_3_sum := sumOk_lim (un := L68_3_un) loops68_nat (fun _ => rfl) L68_3_dok fun s => L68_3_round s.1 s.2.1 s.2.2.1 s.2.2.2.1 s.2.2.2.2.1 s.2.2.2.2.2
theorem loops68_all : loopsOf body68 = [L68_3_code] := by kernel_rfl
theorem L68_3_key : lookL loops68 (keyOf L68_3_code) = some L68_3_sum := by kernel_rfl
theorem loops68_ok : LoopsOk env68 orc68 loops68 body68 := by
  intro c hc f hf
  rw [loops68_all] at hc
  simp only [List.mem_cons, List.not_mem_nil, or_false] at hc
  subst hc
  · rw [L68_3_key] at hf; cases hf; exact L68_3_ok
def G68 (x0 : Int) (x1 : Int) (x2 : (List Int)) (x3 : (List Int)) : Option ((List Int) × (Unit × ((List Int) × (Unit × ((List Int) × Unit))))) :=
  let v1 : (List Int) := ([] : (List Int))
  let v2 : Int := (IntKind.i64.wrap (x0 + (1 : Int)))
  bif (decide (0 ≤ (0 : Int)) && decide ((0 : Int) ≤ v2) && decide (v2 ≤ 100000000000)) then
  let v3 : (List Int) := (List.replicate (Int.toNat (0 : Int)) (0 : Int))
  Option.bind (L68_3 (x0, x1, v3, (0 : Int), x2, x3)) fun (r23 : Int × Int × (List Int) × Int × (List Int) × (List Int)) =>
  let v24 : (List Int) := (List.take (List.length r23.2.2.1) r23.2.2.1)
  some (v24, ((), (r23.2.2.2.2.1, ((), (r23.2.2.2.2.2, ())))))
  else none
def P68 (x0 : Int) (x1 : Int) (x2 : (List Int)) (x3 : (List Int)) : Bool := (hold (G68 x0 x1 x2 x3)).isSome
def F68 (x0 : Int) (x1 : Int) (x2 : (List Int)) (x3 : (List Int)) : ((List Int) × (Unit × ((List Int) × (Unit × ((List Int) × Unit))))) := (hold (G68 x0 x1 x2 x3)).getD (Tup.zero pout68)
theorem P68_of (x0 : Int) (x1 : Int) (x2 : (List Int)) (x3 : (List Int)) {r : ((List Int) × (Unit × ((List Int) × (Unit × ((List Int) × Unit)))))} (h : G68 x0 x1 x2 x3 = some r) : P68 x0 x1 x2 x3 = true := by unfold P68; rw [hold_eq, h]; rfl
theorem F68_of (x0 : Int) (x1 : Int) (x2 : (List Int)) (x3 : (List Int)) {r : ((List Int) × (Unit × ((List Int) × (Unit × ((List Int) × Unit)))))} (h : G68 x0 x1 x2 x3 = some r) : F68 x0 x1 x2 x3 = r := by unfold F68; rw [hold_eq, h]; rfl
theorem ev68 (x0 : Int) (x1 : Int) (x2 : (List Int)) (x3 : (List Int)) : ev2 env68 orc68 loops68 body68 (mkSt pin68 (x0, (x1, ((), ((), (x2, ((), (x3, ())))))))) (retK3 env68 [.slot 6] pout68) = G68 x0 x1 x2 x3 := by kernel_rfl
def sp68 : Spec2 := ⟨pin68, pout68, fun s => hold (G68 s.1 s.2.1 s.2.2.2.2.1 s.2.2.2.2.2.2.1)⟩
theorem fit68 : Fit Tryz.f68 [.slot 6] sp68 := ⟨by kernel_rfl, by kernel_rfl, by kernel_rfl, by kernel_rfl, by kernel_rfl, by decide, by decide, by decide⟩
theorem meets68 (hE : EnvOk Tryz.prog env68) (hm : Tryz.prog.follows .mixedOrders = true) : Meets2 Tryz.prog glob 68 sp68 :=
  meets2_of_ev2 (O := orc68) (L := loops68) (c := body68) (rs := [.slot 6]) hE (fun _ => rfl) hm Tryz.func68 Tryz.call68 (by kernel_rfl) (by kernel_rfl) loops68_ok (rangesOk_nil (by kernel_rfl)) fit68 (fun s o h => (ev68 s.1 s.2.1 s.2.2.2.2.1 s.2.2.2.2.2.2.1).trans ((hold_eq _).symm.trans h))
def env43 : Env := {
  tab := tab
  glob := glob
  spec := fun
    | 65 => some spec65
    | _ => none
  spec2 := fun
    | 68, [69] => some sp68
    | _, _ => none
  bldT := bldT
  bld := bldF }

def orc43 : Orc := ⟨13, fun _ => none, fun
  | 0 => kp [2, 3] [(2, [0]), (3, [0])]
  | 1 => kp [4] []
  | _ => [], fun | _ => false⟩
noncomputable def body43 : Code := Tryz.f43.body.getD .skip
def loops43 : Nat → Option (Sum) := fun | _ => none
theorem loops43_nat : ∀ q f, loops43 q = some f → Natural f := by
  intro q f h
  cases h
theorem loops43_ok : LoopsOk env43 orc43 loops43 body43 := loopsOk_nil (by kernel_rfl)
def G43 (x0 : (List Int)) (x1 : (List Int)) : Option ((List Int)) :=
  let v1 : (List Int) := ([] : (List Int))
  let v2 : Int := ((List.length x0 : Nat) : Int)
  let v3 : Int := ((List.length x1 : Nat) : Int)
  let v4 : Int := (if v3 > v2 then v3 else v2)
  bif (P68 v4 (0 : Int) x0 x1) then
  let q5 : ((List Int) × (Unit × ((List Int) × (Unit × ((List Int) × Unit))))) := F68 v4 (0 : Int) x0 x1
  bif (P65 q5.1) then
  let v6 : (List Int) := (F65 q5.1)
  some (v6)
  else none
  else none
theorem ev43 (x0 : (List Int)) (x1 : (List Int)) : ev2 env43 orc43 loops43 body43 (initSt 0 [⟨(.list (.int .i64)), x0⟩, ⟨(.list (.int .i64)), x1⟩]) (retT [(4, .dat (.list (.int .i64)))] [(.list (.int .i64))] fun x => x.1) = G43 x0 x1 := by kernel_rfl
def P43 (x0 : (List Int)) (x1 : (List Int)) : Bool := (hold (G43 x0 x1)).isSome
def F43 (x0 : (List Int)) (x1 : (List Int)) : (List Int) := (hold (G43 x0 x1)).getD default
theorem G43_some (x0 : (List Int)) (x1 : (List Int)) (h : P43 x0 x1 = true) : G43 x0 x1 = some (F43 x0 x1) := by
  unfold P43 at h; unfold F43
  rw [hold_eq] at h ⊢
  exact some_getD h
theorem P43_of (x0 : (List Int)) (x1 : (List Int)) {r : (List Int)} (h : G43 x0 x1 = some r) : P43 x0 x1 = true := by unfold P43; rw [hold_eq, h]; rfl
theorem F43_of (x0 : (List Int)) (x1 : (List Int)) {r : (List Int)} (h : G43 x0 x1 = some r) : F43 x0 x1 = r := by unfold F43; rw [hold_eq, h]; rfl
def spec43 : Spec := ⟨[(.list (.int .i64)), (.list (.int .i64))], [.dat (.list (.int .i64))], fun | [a0, a1] => P43 (a0.as (.list (.int .i64))) (a1.as (.list (.int .i64))) | _ => false, fun | [a0, a1] => [⟨(.list (.int .i64)), (F43 (a0.as (.list (.int .i64))) (a1.as (.list (.int .i64))))⟩] | _ => []⟩
theorem meets43 (hE : EnvOk Tryz.prog env43) (hm : Tryz.prog.follows .mixedOrders = true) : Meets Tryz.prog glob 43 spec43 :=
  meets_of_ev2 (O := orc43) (L := loops43) (c := body43) (slots := [4]) hE hm Tryz.func43 Tryz.call43 (by kernel_rfl) (by kernel_rfl) loops43_ok (rangesOk_nil (by kernel_rfl)) (by kernel_rfl) rfl (by decide) (fun ds hds hpre => by
  obtain ⟨x0, ds0, rfl, h0⟩ := datsS hds
  obtain ⟨x1, ds1, rfl, h1⟩ := datsS h0
  have h9 := dats0 h1; subst h9
  exact ev_ret (un := fun r => [⟨(.list (.int .i64)), r⟩]) loops43_nat (fun _ => rfl) ((ev43 x0 x1).trans (G43_some x0 x1 hpre)))
def env85 : Env := {
  tab := tab
  glob := glob
  spec := fun
    | _ => none
  bldT := bldT
  bld := bldF }

def orc85 : Orc := ⟨6, fun _ => none, fun
  | 0 => kp [0] []
  | 1 => kp [2] []
  | _ => [], fun | _ => false⟩
noncomputable def body85 : Code := Tryz.f85.body.getD .skip
def loops85 : Nat → Option (Sum) := fun | _ => none
theorem loops85_nat : ∀ q f, loops85 q = some f → Natural f := by
  intro q f h
  cases h
theorem loops85_ok : LoopsOk env85 orc85 loops85 body85 := loopsOk_nil (by kernel_rfl)
def G85 (x0 : Int) : Option (Bool) :=
  let v1 : Bool := (x0 != x0)
  some (v1)
theorem ev85 (x0 : Int) : ev2 env85 orc85 loops85 body85 (initSt 0 [⟨(.int .i64), x0⟩]) (retT [(2, .dat .bool)] [.bool] fun x => x.1) = G85 x0 := by kernel_rfl
def P85 (x0 : Int) : Bool := (hold (G85 x0)).isSome
def F85 (x0 : Int) : Bool := (hold (G85 x0)).getD default
theorem G85_some (x0 : Int) (h : P85 x0 = true) : G85 x0 = some (F85 x0) := by
  unfold P85 at h; unfold F85
  rw [hold_eq] at h ⊢
  exact some_getD h
theorem P85_of (x0 : Int) {r : Bool} (h : G85 x0 = some r) : P85 x0 = true := by unfold P85; rw [hold_eq, h]; rfl
theorem F85_of (x0 : Int) {r : Bool} (h : G85 x0 = some r) : F85 x0 = r := by unfold F85; rw [hold_eq, h]; rfl
def spec85 : Spec := ⟨[(.int .i64)], [.dat .bool], fun | [a0] => P85 (a0.as (.int .i64)) | _ => false, fun | [a0] => [⟨.bool, (F85 (a0.as (.int .i64)))⟩] | _ => []⟩
theorem meets85 (hE : EnvOk Tryz.prog env85) (hm : Tryz.prog.follows .mixedOrders = true) : Meets Tryz.prog glob 85 spec85 :=
  meets_of_ev2 (O := orc85) (L := loops85) (c := body85) (slots := [2]) hE hm Tryz.func85 Tryz.call85 (by kernel_rfl) (by kernel_rfl) loops85_ok (rangesOk_nil (by kernel_rfl)) (by kernel_rfl) rfl (by decide) (fun ds hds hpre => by
  obtain ⟨x0, ds0, rfl, h0⟩ := datsS hds
  have h9 := dats0 h0; subst h9
  exact ev_ret (un := fun r => [⟨.bool, r⟩]) loops85_nat (fun _ => rfl) ((ev85 x0).trans (G85_some x0 hpre)))
def env72 : Env := {
  tab := tab
  glob := glob
  spec := fun
    | 85 => some spec85
    | _ => none
  bldT := bldT
  bld := bldF }

def orc72 : Orc := ⟨20, fun _ => none, fun
  | 0 => kp [0, 1] []
  | 1 => kp [0, 1, 5] []
  | 2 => kp [0, 1, 5, 6] []
  | 3 => kp [0, 1, 6, 11] []
  | 4 => kp [12] []
  | 5 => kp [4] []
  | 6 => kp [4] []
  | 7 => kp [0, 1, 13] []
  | 8 => kp [4] []
  | 9 => kp [0, 1, 16] []
  | 10 => kp [4] []
  | 11 => kp [19] []
  | 12 => kp [4] []
  | 13 => kp [4] []
  | _ => [], fun | _ => false⟩
noncomputable def body72 : Code := Tryz.f72.body.getD .skip
def loops72 : Nat → Option (Sum) := fun | _ => none
theorem loops72_nat : ∀ q f, loops72 q = some f → Natural f := by
  intro q f h
  cases h
theorem loops72_ok : LoopsOk env72 orc72 loops72 body72 := loopsOk_nil (by kernel_rfl)
def G72 (x0 : Int) (x1 : Int) : Option (Int) :=
  bif (P85 x0) then
  let v1 : Bool := (F85 x0)
  bif (P85 x1) then
  let v2 : Bool := (F85 x1)
  bif v1 then
  bif v2 then
  some ((0 : Int))
  else
  some ((-1 : Int))
  else
  bif v2 then
  some ((1 : Int))
  else
  let v3 : Bool := (decide (x0 < x1))
  bif v3 then
  some ((-1 : Int))
  else
  let v4 : Bool := (decide (x0 > x1))
  bif v4 then
  some ((1 : Int))
  else
  some ((0 : Int))
  else none
  else none
theorem ev72 (x0 : Int) (x1 : Int) : ev2 env72 orc72 loops72 body72 (initSt 0 [⟨(.int .i64), x0⟩, ⟨(.int .i64), x1⟩]) (retT [(4, .dat (.int .i64))] [(.int .i64)] fun x => x.1) = G72 x0 x1 := by kernel_rfl
def P72 (x0 : Int) (x1 : Int) : Bool := (hold (G72 x0 x1)).isSome
def F72 (x0 : Int) (x1 : Int) : Int := (hold (G72 x0 x1)).getD default
theorem G72_some (x0 : Int) (x1 : Int) (h : P72 x0 x1 = true) : G72 x0 x1 = some (F72 x0 x1) := by
  unfold P72 at h; unfold F72
  rw [hold_eq] at h ⊢
  exact some_getD h
theorem P72_of (x0 : Int) (x1 : Int) {r : Int} (h : G72 x0 x1 = some r) : P72 x0 x1 = true := by unfold P72; rw [hold_eq, h]; rfl
theorem F72_of (x0 : Int) (x1 : Int) {r : Int} (h : G72 x0 x1 = some r) : F72 x0 x1 = r := by unfold F72; rw [hold_eq, h]; rfl
def spec72 : Spec := ⟨[(.int .i64), (.int .i64)], [.dat (.int .i64)], fun | [a0, a1] => P72 (a0.as (.int .i64)) (a1.as (.int .i64)) | _ => false, fun | [a0, a1] => [⟨(.int .i64), (F72 (a0.as (.int .i64)) (a1.as (.int .i64)))⟩] | _ => []⟩
theorem meets72 (hE : EnvOk Tryz.prog env72) (hm : Tryz.prog.follows .mixedOrders = true) : Meets Tryz.prog glob 72 spec72 :=
  meets_of_ev2 (O := orc72) (L := loops72) (c := body72) (slots := [4]) hE hm Tryz.func72 Tryz.call72 (by kernel_rfl) (by kernel_rfl) loops72_ok (rangesOk_nil (by kernel_rfl)) (by kernel_rfl) rfl (by decide) (fun ds hds hpre => by
  obtain ⟨x0, ds0, rfl, h0⟩ := datsS hds
  obtain ⟨x1, ds1, rfl, h1⟩ := datsS h0
  have h9 := dats0 h1; subst h9
  exact ev_ret (un := fun r => [⟨(.int .i64), r⟩]) loops72_nat (fun _ => rfl) ((ev72 x0 x1).trans (G72_some x0 x1 hpre)))
def pin60 : Shape := [(.slot 0, .dat (.list (.int .i64)))]
def pout60 : Shape := [(.slot 0, .fn 78 [1]), (.box 1, .bx 48 1), (.cell 1 0, .dat (.list (.int .i64)))]
def env60 : Env := {
  tab := tab
  glob := glob
  spec := fun
    | _ => none
  bldT := bldT
  bld := bldF }

def orc60 : Orc := ⟨4, fun _ => none, fun
  | 0 => kp [1] [(1, [0])]
  | 1 => kp [2] [(1, [0])]
  | _ => [], fun | _ => false⟩
noncomputable def body60 : Code := Tryz.f60.body.getD .skip
def loops60 : Nat → Option (Sum) := fun | _ => none
theorem loops60_ok : LoopsOk env60 orc60 loops60 body60 := loopsOk_nil (by kernel_rfl)
def G60 (x0 : (List Int)) : Option (Unit × (Unit × ((List Int) × Unit))) :=
  some ((), ((), (x0, ())))
def P60 (x0 : (List Int)) : Bool := (hold (G60 x0)).isSome
def F60 (x0 : (List Int)) : (Unit × (Unit × ((List Int) × Unit))) := (hold (G60 x0)).getD (Tup.zero pout60)
theorem P60_of (x0 : (List Int)) {r : (Unit × (Unit × ((List Int) × Unit)))} (h : G60 x0 = some r) : P60 x0 = true := by unfold P60; rw [hold_eq, h]; rfl
theorem F60_of (x0 : (List Int)) {r : (Unit × (Unit × ((List Int) × Unit)))} (h : G60 x0 = some r) : F60 x0 = r := by unfold F60; rw [hold_eq, h]; rfl
theorem ev60 (x0 : (List Int)) : ev2 env60 orc60 loops60 body60 (mkSt pin60 (x0, ())) (retK3 env60 [.slot 2] pout60) = G60 x0 := by kernel_rfl
def sp60 : Spec2 := ⟨pin60, pout60, fun s => hold (G60 s.1)⟩
theorem fit60 : Fit Tryz.f60 [.slot 2] sp60 := ⟨by kernel_rfl, by kernel_rfl, by kernel_rfl, by kernel_rfl, by kernel_rfl, by decide, by decide, by decide⟩
theorem meets60 (hE : EnvOk Tryz.prog env60) (hm : Tryz.prog.follows .mixedOrders = true) : Meets2 Tryz.prog glob 60 sp60 :=
  meets2_of_ev2 (O := orc60) (L := loops60) (c := body60) (rs := [.slot 2]) hE (fun _ => rfl) hm Tryz.func60 Tryz.call60 (by kernel_rfl) (by kernel_rfl) loops60_ok (rangesOk_nil (by kernel_rfl)) fit60 (fun s o h => (ev60 s.1).trans ((hold_eq _).symm.trans h))
def pin78 : Shape := [(.slot 1, .ptr 50000 0), (.box 50000, .bx 48 1), (.cell 50000 0, .dat (.list (.int .i64)))]
abbrev Y78 : Type := Int × Int
def mk78 : List Dat → Option Y78 := mkT [(.int .i64), (.int .i64)] fun x => (x.1, x.2.1)
def env78 : Env := {
  tab := tab
  glob := glob
  spec := fun
    | _ => none
  bldT := bldT
  bld := bldF }

def orc78 : Orc := ⟨19, fun _ => none, fun
  | 0 => kp [0, 1, 3] [(50000, [0])]
  | 1 => kp [0, 1, 3, 8] [(50000, [0])]
  | 2 => kp [0, 1, 3] [(50000, [0])]
  | 3 => kp [0, 1, 3, 18] [(50000, [0])]
  | _ => [], fun | _ => false⟩
noncomputable def body78 : Code := Tryz.f78.body.getD .skip
def L78_1_sh : Shape := [(.slot 0, .yld), (.slot 1, .ptr 50000 0), (.slot 3, .dat (.int .i64)), (.box 50000, .bx 48 1), (.cell 50000 0, .dat (.list (.int .i64)))]
def L78_1_x0 : Shape := [(.slot 0, .yld), (.slot 1, .ptr 50000 0), (.slot 3, .dat (.int .i64)), (.box 50000, .bx 48 1), (.cell 50000 0, .dat (.list (.int .i64)))]
def L78_1_x1 : Shape := [(.slot 0, .yld), (.slot 1, .ptr 50000 0), (.slot 3, .dat (.int .i64)), (.box 50000, .bx 48 1), (.cell 50000 0, .dat (.list (.int .i64)))]
def L78_1_pk (s : Tup L78_1_sh) : Int × (List Int) := (s.2.2.1, s.2.2.2.2.1)
def L78_1_un (s : Int × (List Int)) : Tup L78_1_sh := ((), ((), (s.1, ((), (s.2, ())))))
def L78_1_leave (x : (Int × (List Int)) ⊕ (Int × (List Int))) (V : Type) (K : Exit → St → YW Y78 V) : YW Y78 V := match x with
  | (.inl a) => K .ret (mkSt L78_1_x0 ((), ((), (a.1, ((), (a.2, ()))))))
  | (.inr a) => K (.exit 0) (mkSt L78_1_x1 ((), ((), (a.1, ((), (a.2, ()))))))
def L78_1_d (e : Exit) (st : St) : Option ((Int × (List Int)) ⊕ (Int × (List Int))) := match e with
  | .ret => (match unSt L78_1_x0 st with
    | some s => some (.inl (s.2.2.1, s.2.2.2.2.1))
    | none => none)
  | .exit 0 => (match unSt L78_1_x1 st with
    | some s => some (.inr (s.2.2.1, s.2.2.2.2.1))
    | none => none)
  | _ => none
def L78_1_r (s0 : Int) (s1 : (List Int)) : YW Y78 ((Int × (List Int)) ⊕ ((Int × (List Int)) ⊕ (Int × (List Int)))) :=
  let v3 : Bool := (decide (s0 ≥ (0 : Int)))
  bif v3 then
  bif (decide (0 ≤ s0) && decide (s0 < List.length s1)) then
  let v4 : Int := (List.getD s1 (Int.toNat s0) (0 : Int))
  yieldW true (s0, v4) (let v7 : Bool := (!false)
  bif v7 then
  some ()
  else
  let v8 : Int := (IntKind.i64.wrap (s0 - (1 : Int)))
  none) (
  let v5 : Bool := (!true)
  bif v5 then
  some ([], .inr (.inl (s0, s1)))
  else
  let v6 : Int := (IntKind.i64.wrap (s0 - (1 : Int)))
  some ([], .inl (v6, s1)))
  else none
  else
  some ([], .inr (.inr (s0, s1)))
def L78_1 : Int × (List Int) → YW Y78 ((Int × (List Int)) ⊕ (Int × (List Int))) := LimW (fun s => L78_1_r s.1 s.2)
def L78_1_sum : SumY Y78 := limSumW L78_1_sh L78_1_pk (fun s => L78_1_r s.1 s.2) L78_1_leave
theorem L78_1_nat : NaturalY L78_1_sum := natural_limW fun x V K => by
  rcases x with x|x <;> exact (YW.bind_pure _ _).symm
theorem L78_1_dok : ∀ e st x, e ≠ .normal → L78_1_d e st = some x → ∀ V (K : Exit → St → YW Y78 V), K e st = L78_1_leave x V K := by
  intro e st x _ h R K
  unfold L78_1_d at h
  split at h
  · split at h
    · rename_i s hs; cases h; rw [unSt_some hs]; rfl
    · cases h
  · split at h
    · rename_i s hs; cases h; rw [unSt_some hs]; rfl
    · cases h
  · cases h
def loops78 : Nat → Option (SumY Y78) := fun | 1 => some L78_1_sum | _ => none
theorem loops78_nat : ∀ q f, loops78 q = some f → NaturalY f := by
  intro q f h
  unfold loops78 at h
  split at h
  · cases h; exact L78_1_nat
  · cases h
noncomputable def L78_1_code : Code := (loopsOf body78).getD 0 .skip
theorem L78_1_round (s0 : Int) (s1 : (List Int)) : evY env78 orc78 loops78 [(.int .i64), (.int .i64)] mk78 L78_1_code (mkSt L78_1_sh ((), ((), (s0, ((), (s1, ())))))) (backW (back L78_1_sh L78_1_pk L78_1_d)) retOnly = L78_1_r s0 s1 := by kernel_rfl
theorem L78_1_ok : SumYOk env78 orc78 loops78 [(.int .i64), (.int .i64)] mk78 L78_1_code L78_1_sum := sumYOk_lim (un := L78_1_un) loops78_nat (fun _ => rfl) L78_1_dok fun s => L78_1_round s.1 s.2
theorem loops78_all : loopsOf body78 = [L78_1_code] := by kernel_rfl
theorem L78_1_key : lookY loops78 (keyOf L78_1_code) = some L78_1_sum := by kernel_rfl
theorem loops78_ok : LoopsYOk env78 orc78 loops78 [(.int .i64), (.int .i64)] mk78 body78 := by
  intro c hc f hf
  rw [loops78_all] at hc
  simp only [List.mem_cons, List.not_mem_nil, or_false] at hc
  subst hc
  · rw [L78_1_key] at hf; cases hf; exact L78_1_ok
def W78 (x0 : (List Int)) : YW Y78 Unit :=
  let v1 : Int := ((List.length x0 : Nat) : Int)
  let v2 : Int := (IntKind.i64.wrap (v1 - (1 : Int)))
  YW.bind (L78_1 (v2, x0)) fun x => match x with
  | (.inl r9) =>
  some ([], ())
  | (.inr r10) =>
  some ([], ())
theorem ev78 (x0 : (List Int)) : evY env78 orc78 loops78 [(.int .i64), (.int .i64)] mk78 body78 (mkSt ((.slot 0, .yld) :: pin78) ((), ((), ((), (x0, ()))))) endY retOnly = W78 x0 := by kernel_rfl
def I78 : ISpec := ⟨pin78, Y78, fun (y : Y78) => datsOf [(.int .i64), (.int .i64)] (y.1, (y.2, ())), fun s => (W78 s.2.2.1).ys⟩
theorem iter78 (hE : EnvOk Tryz.prog env78) (hm : Tryz.prog.follows .mixedOrders = true) : IterOk Tryz.prog glob 78 I78 :=
  iterOk_of_evY (I := I78) (O := orc78) (L := loops78) (c := body78) (mk := mk78) hE hm Tryz.func78 Tryz.call78 (by kernel_rfl) (by kernel_rfl) (mkT_ok (ts := [(.int .i64), (.int .i64)]) (un := fun (y : Y78) => (y.1, (y.2, ()))) fun _ => rfl) loops78_ok (by kernel_rfl) (by decide) (by decide) (fun s ys h => (ev78 s.2.2.1).trans (YW.ys_some h))
def pin46 : Shape := [(.slot 0, .dat (.list (.int .i64))), (.slot 1, .dat (.list (.int .i64)))]
def pout46 : Shape := [(.slot 0, .dat (.int .i64))]
def env46 : Env := {
  tab := tab
  glob := glob
  spec := fun
    | 72 => some spec72
    | _ => none
  spec2 := fun
    | 60, [] => some sp60
    | _, _ => none
  bldT := bldT
  bld := bldF }

def orc46 : Orc := ⟨33, fun _ => none, fun
  | 0 => kp [0, 3, 4] [(3, [0]), (4, [0])]
  | 1 => kp [0, 3, 4, 11] [(3, [0]), (4, [0])]
  | 2 => kp [4] [(4, [0])]
  | 3 => kp [3, 4, 18] [(3, [0]), (4, [0]), (1900001, [0])]
  | 4 => kp [3, 4, 5, 18, 20] [(3, [0]), (4, [0])]
  | 5 => kp [3, 4, 5, 6, 18] [(3, [0]), (4, [0])]
  | 6 => kp [3, 4, 5, 6, 18, 26] [(3, [0]), (4, [0])]
  | 7 => kp [4] [(3, [0]), (4, [0])]
  | 8 => kp [4] [(4, [0])]
  | _ => [], fun | _ => false⟩
noncomputable def body46 : Code := Tryz.f46.body.getD .skip
def R46_4_esh : Shape := [(.slot 3, .ptr 3 0), (.slot 4, .ptr 4 0), (.box 3, .bx 48 1), (.cell 3 0, .dat (.list (.int .i64))), (.box 4, .bx 3 1), (.cell 4 0, .dat (.int .i64))]
def R46_4_pk (s : Tup R46_4_esh) : (List Int) × Int := (s.2.2.2.1, s.2.2.2.2.2.1)
def R46_4_un (s : (List Int) × Int) : Tup R46_4_esh := ((), ((), ((), (s.1, ((), (s.2, ()))))))
def R46_4_xo (x : ((List Int) × Int)) : Exit × Tup R46_4_esh := match x with
  | a => (.ret, R46_4_un a)
def R46_4_leave (x : ((List Int) × Int)) (R : Type) (K : Cont R) : Option R := match x with
  | a => K .ret (mkSt R46_4_esh (R46_4_un a))
theorem R46_4_lv (x : ((List Int) × Int)) (R : Type) (K : Cont R) : R46_4_leave x R K = K (R46_4_xo x).1 (mkSt R46_4_esh (R46_4_xo x).2) := by
  rfl
def R46_4_d (e : Exit) (s : Tup R46_4_esh) : Option (((List Int) × Int)) := match e with
  | .ret => some (R46_4_pk s)
  | _ => none
theorem R46_4_dk : ∀ x e v, R46_4_d x e = some v → R46_4_xo v = (x, e) ∧ ∃ c, jumpOf x = some c := by
  intro x e v h
  unfold R46_4_d at h
  split at h
  · cases h; exact ⟨rfl, _, rfl⟩
  · cases h
def R46_4_r (s0 : (List Int)) (s1 : Int) (y0 : Int) (y1 : Int) : Option (((List Int) × Int) ⊕ (((List Int) × Int))) :=
  bif (decide (0 ≤ y0) && decide (y0 < List.length s0)) then
  let v8 : Int := (List.getD s0 (Int.toNat y0) (0 : Int))
  let v9 : Bool := (y1 != v8)
  bif v9 then
  bif (decide (0 ≤ y0) && decide (y0 < List.length s0)) then
  let v10 : Int := (List.getD s0 (Int.toNat y0) (0 : Int))
  bif (P72 y1 v10) then
  let v11 : Int := (F72 y1 v10)
  some (.inr (s0, v11))
  else none
  else none
  else
  some (.inl (s0, s1))
  else none
def R46_4_step (b : (List Int) × Int) (y : Y78) : Option (((List Int) × Int) ⊕ (((List Int) × Int))) := R46_4_r b.1 b.2 y.1 y.2
def loops46 : Nat → Option (Sum) := fun | 4 => some (rangeSum env46 78 18 R46_4_esh I78 R46_4_pk R46_4_un R46_4_step R46_4_leave) | _ => none
theorem loops46_ok : LoopsOk env46 orc46 loops46 body46 := loopsOk_nil (by kernel_rfl)
noncomputable def R46_4_code : Code := (rangesOf body46).getD 0 .skip
theorem R46_4_round (s0 : (List Int)) (s1 : Int) (y0 : Int) (y1 : Int) : roundQ env46 orc46 loops46 R46_4_esh R46_4_pk R46_4_d R46_4_code (I78.enc (y0, y1)) ((), ((), ((), (s0, ((), (s1, ())))))) = R46_4_r s0 s1 y0 y1 := by kernel_rfl
theorem R46_4_form : R46_4_code = .rangeFunc (.tmp 18) (rgPs R46_4_code) (rgAsg R46_4_code) (rgBody R46_4_code) := by kernel_rfl
theorem R46_4_len (y : Y78) : (rgPs R46_4_code).toList.length = (I78.enc y).length := by kernel_rfl
theorem R46_4_ok (hE : EnvOk Tryz.prog env46) (hm : Tryz.prog.follows .mixedOrders = true) (hI : IterOk Tryz.prog glob 78 I78) : RangeOk Tryz.prog env46 orc46.n R46_4_code (rangeSum env46 78 18 R46_4_esh I78 R46_4_pk R46_4_un R46_4_step R46_4_leave) :=
  rangeOk' (L := loops46) hE hm hI R46_4_form (loopsOk_nil (by kernel_rfl)) (loopsOk_nil (by kernel_rfl)) (by kernel_rfl) (by kernel_rfl) (by kernel_rfl) (by kernel_rfl) (pk := R46_4_pk) (un := R46_4_un) (fun _ => rfl) R46_4_dk R46_4_lv R46_4_len fun b y => R46_4_round b.1 b.2 y.1 y.2
theorem ranges46_all : rangesOf body46 = [R46_4_code] := by kernel_rfl
theorem R46_4_key : lookL loops46 (keyOf R46_4_code) = some (rangeSum env46 78 18 R46_4_esh I78 R46_4_pk R46_4_un R46_4_step R46_4_leave) := by kernel_rfl
theorem ranges46_ok (hE : EnvOk Tryz.prog env46) (hm : Tryz.prog.follows .mixedOrders = true) (hI78 : IterOk Tryz.prog glob 78 I78) : RangesOk Tryz.prog env46 orc46.n loops46 body46 := by
  intro c hc f hf
  rw [ranges46_all] at hc
  simp only [List.mem_cons, List.not_mem_nil, or_false] at hc
  subst hc
  · rw [R46_4_key] at hf; cases hf; exact R46_4_ok hE hm hI78
def G46 (x0 : (List Int)) (x1 : (List Int)) : Option (Int × Unit) :=
  let v1 : Int := ((List.length x0 : Nat) : Int)
  let v2 : Int := ((List.length x1 : Nat) : Int)
  let v3 : Bool := (v1 != v2)
  bif v3 then
  let v4 : Int := ((List.length x0 : Nat) : Int)
  let v5 : Int := ((List.length x1 : Nat) : Int)
  bif (P72 v4 v5) then
  let v6 : Int := (F72 v4 v5)
  some (v6, ())
  else none
  else
  bif (P60 x0) then
  let q7 : (Unit × (Unit × ((List Int) × Unit))) := F60 x0
  Option.bind ((W78 q7.2.2.1).ys) fun ys => Option.bind (foldX R46_4_step ys (x1, (0 : Int))) fun z => match z with
  | .inl (r12 : (List Int) × Int) =>
  some ((0 : Int), ())
  | .inr r12 =>
  some (r12.2, ())
  else none
def P46 (x0 : (List Int)) (x1 : (List Int)) : Bool := (hold (G46 x0 x1)).isSome
def F46 (x0 : (List Int)) (x1 : (List Int)) : (Int × Unit) := (hold (G46 x0 x1)).getD (Tup.zero pout46)
theorem P46_of (x0 : (List Int)) (x1 : (List Int)) {r : (Int × Unit)} (h : G46 x0 x1 = some r) : P46 x0 x1 = true := by unfold P46; rw [hold_eq, h]; rfl
theorem F46_of (x0 : (List Int)) (x1 : (List Int)) {r : (Int × Unit)} (h : G46 x0 x1 = some r) : F46 x0 x1 = r := by unfold F46; rw [hold_eq, h]; rfl
theorem ev46 (x0 : (List Int)) (x1 : (List Int)) : ev2 env46 orc46 loops46 body46 (mkSt pin46 (x0, (x1, ()))) (retK3 env46 [.cell 4 3] pout46) = G46 x0 x1 := by kernel_rfl
def sp46 : Spec2 := ⟨pin46, pout46, fun s => hold (G46 s.1 s.2.1)⟩
theorem fit46 : Fit Tryz.f46 [.cell 4 3] sp46 := ⟨by kernel_rfl, by kernel_rfl, by kernel_rfl, by kernel_rfl, by kernel_rfl, by decide, by decide, by decide⟩
theorem meets46 (hE : EnvOk Tryz.prog env46) (hm : Tryz.prog.follows .mixedOrders = true) (hI78 : IterOk Tryz.prog glob 78 I78) : Meets2 Tryz.prog glob 46 sp46 :=
  meets2_of_ev2 (O := orc46) (L := loops46) (c := body46) (rs := [.cell 4 3]) hE (fun _ => rfl) hm Tryz.func46 Tryz.call46 (by kernel_rfl) (by kernel_rfl) loops46_ok (ranges46_ok hE hm hI78) fit46 (fun s o h => (ev46 s.1 s.2.1).trans ((hold_eq _).symm.trans h))
def pin71 : Shape := [(.slot 0, .dat (.int .i64)), (.slot 1, .ptr 50000 0), (.slot 2, .ptr 50001 0), (.box 50000, .bx 48 1), (.cell 50000 0, .dat (.list (.int .i64))), (.box 50001, .bx 48 1), (.cell 50001 0, .dat (.list (.int .i64)))]
def pout71 : Shape := [(.slot 0, .dat (.int .i64)), (.box 50000, .bx 48 1), (.cell 50000 0, .dat (.list (.int .i64))), (.box 50001, .bx 48 1), (.cell 50001 0, .dat (.list (.int .i64)))]
def env71 : Env := {
  tab := tab
  glob := glob
  spec := fun
    | 70 => some spec70
    | _ => none
  bldT := bldT
  bld := bldF }

def orc71 : Orc := ⟨12, fun _ => none, fun
  | 0 => kp [0, 1, 2] [(50000, [0]), (50001, [0])]
  | 1 => kp [4] [(50000, [0]), (50001, [0])]
  | _ => [], fun | _ => false⟩
noncomputable def body71 : Code := Tryz.f71.body.getD .skip
def loops71 : Nat → Option (Sum) := fun | _ => none
theorem loops71_ok : LoopsOk env71 orc71 loops71 body71 := loopsOk_nil (by kernel_rfl)
def G71 (x0 : Int) (x1 : (List Int)) (x2 : (List Int)) : Option (Int × (Unit × ((List Int) × (Unit × ((List Int) × Unit))))) :=
  bif (P70 x1 x0) then
  let v1 : Int := (F70 x1 x0)
  bif (P70 x2 x0) then
  let v2 : Int := (F70 x2 x0)
  let v3 : Int := (IntKind.i64.wrap (v1 - v2))
  some (v3, ((), (x1, ((), (x2, ())))))
  else none
  else none
def P71 (x0 : Int) (x1 : (List Int)) (x2 : (List Int)) : Bool := (hold (G71 x0 x1 x2)).isSome
def F71 (x0 : Int) (x1 : (List Int)) (x2 : (List Int)) : (Int × (Unit × ((List Int) × (Unit × ((List Int) × Unit))))) := (hold (G71 x0 x1 x2)).getD (Tup.zero pout71)
theorem P71_of (x0 : Int) (x1 : (List Int)) (x2 : (List Int)) {r : (Int × (Unit × ((List Int) × (Unit × ((List Int) × Unit)))))} (h : G71 x0 x1 x2 = some r) : P71 x0 x1 x2 = true := by unfold P71; rw [hold_eq, h]; rfl
theorem F71_of (x0 : Int) (x1 : (List Int)) (x2 : (List Int)) {r : (Int × (Unit × ((List Int) × (Unit × ((List Int) × Unit)))))} (h : G71 x0 x1 x2 = some r) : F71 x0 x1 x2 = r := by unfold F71; rw [hold_eq, h]; rfl
theorem ev71 (x0 : Int) (x1 : (List Int)) (x2 : (List Int)) : ev2 env71 orc71 loops71 body71 (mkSt pin71 (x0, ((), ((), ((), (x1, ((), (x2, ())))))))) (retK3 env71 [.slot 4] pout71) = G71 x0 x1 x2 := by kernel_rfl
def sp71 : Spec2 := ⟨pin71, pout71, fun s => hold (G71 s.1 s.2.2.2.2.1 s.2.2.2.2.2.2.1)⟩
theorem fit71 : Fit Tryz.f71 [.slot 4] sp71 := ⟨by kernel_rfl, by kernel_rfl, by kernel_rfl, by kernel_rfl, by kernel_rfl, by decide, by decide, by decide⟩
theorem meets71 (hE : EnvOk Tryz.prog env71) (hm : Tryz.prog.follows .mixedOrders = true) : Meets2 Tryz.prog glob 71 sp71 :=
  meets2_of_ev2 (O := orc71) (L := loops71) (c := body71) (rs := [.slot 4]) hE (fun _ => rfl) hm Tryz.func71 Tryz.call71 (by kernel_rfl) (by kernel_rfl) loops71_ok (rangesOk_nil (by kernel_rfl)) fit71 (fun s o h => (ev71 s.1 s.2.2.2.2.1 s.2.2.2.2.2.2.1).trans ((hold_eq _).symm.trans h))
def pin10068 : Shape := [(.slot 0, .dat (.int .i64)), (.slot 1, .dat (.int .i64)), (.slot 2, .fn 71 [50000, 50001]), (.box 50000, .bx 48 1), (.cell 50000 0, .dat (.list (.int .i64))), (.box 50001, .bx 48 1), (.cell 50001 0, .dat (.list (.int .i64)))]
def pout10068 : Shape := [(.slot 0, .dat (.list (.int .i64))), (.box 50000, .bx 48 1), (.cell 50000 0, .dat (.list (.int .i64))), (.box 50001, .bx 48 1), (.cell 50001 0, .dat (.list (.int .i64)))]
def env10068 : Env := {
  tab := tab
  glob := glob
  spec := fun
    | _ => none
  spec2 := fun
    | 71, [] => some sp71
    | _, _ => none
  bldT := bldT
  bld := bldF }

def orc10068 : Orc := ⟨42, fun _ => none, fun
  | 0 => kp [0, 1, 2] [(50000, [0]), (50001, [0])]
  | 1 => kp [0, 1, 2, 7] [(50000, [0]), (50001, [0])]
  | 2 => kp [0, 1, 2, 7, 8] [(50000, [0]), (50001, [0])]
  | 3 => kp [0, 1, 2, 7, 8, 19] [(50000, [0]), (50001, [0])]
  | 4 => kp [0, 1, 2, 7, 8] [(50000, [0]), (50001, [0])]
  | 5 => kp [0, 2, 7, 8, 9] [(50000, [0]), (50001, [0])]
  | 6 => kp [0, 1, 2, 7, 8, 9] [(50000, [0]), (50001, [0])]
  | 7 => kp [0, 1, 2, 7, 8, 9, 28] [(50000, [0]), (50001, [0])]
  | 8 => kp [0, 2, 7, 8, 9] [(50000, [0]), (50001, [0])]
  | 9 => kp [0, 1, 2, 7, 8, 9] [(50000, [0]), (50001, [0])]
  | 10 => kp [0, 1, 2, 7, 8, 9, 32] [(50000, [0]), (50001, [0])]
  | 11 => kp [0, 1, 2, 7, 8, 9] [(50000, [0]), (50001, [0])]
  | 12 => kp [0, 1, 2, 7, 8, 9] [(50000, [0]), (50001, [0])]
  | 13 => kp [0, 1, 2, 7, 8] [(50000, [0]), (50001, [0])]
  | 14 => kp [6] [(50000, [0]), (50001, [0])]
  | _ => [], fun | _ => false⟩
noncomputable def body10068 : Code := Tryz.f68.body.getD .skip
def L10068_3_sh : Shape := [(.slot 0, .dat (.int .i64)), (.slot 1, .dat (.int .i64)), (.slot 2, .fn 71 [50000, 50001]), (.slot 7, .own 3 (.int .i64)), (.slot 8, .dat (.int .i64)), (.box 50000, .bx 48 1), (.cell 50000 0, .dat (.list (.int .i64))), (.box 50001, .bx 48 1), (.cell 50001 0, .dat (.list (.int .i64)))]
def L10068_3_x0 : Shape := [(.slot 0, .dat (.int .i64)), (.slot 1, .dat (.int .i64)), (.slot 2, .fn 71 [50000, 50001]), (.slot 7, .own 3 (.int .i64)), (.slot 8, .dat (.int .i64)), (.box 50000, .bx 48 1), (.cell 50000 0, .dat (.list (.int .i64))), (.box 50001, .bx 48 1), (.cell 50001 0, .dat (.list (.int .i64)))]
def L10068_3_pk (s : Tup L10068_3_sh) : Int × Int × (List Int) × Int × (List Int) × (List Int) := (s.1, s.2.1, s.2.2.2.1, s.2.2.2.2.1, s.2.2.2.2.2.2.1, s.2.2.2.2.2.2.2.2.1)
def L10068_3_un (s : Int × Int × (List Int) × Int × (List Int) × (List Int)) : Tup L10068_3_sh := (s.1, (s.2.1, ((), (s.2.2.1, (s.2.2.2.1, ((), (s.2.2.2.2.1, ((), (s.2.2.2.2.2, ())))))))))
def L10068_3_leave (x : (Int × Int × (List Int) × Int × (List Int) × (List Int))) (R : Type) (K : Cont R) : Option R := match x with
  | a => K (.exit 0) (mkSt L10068_3_x0 (a.1, (a.2.1, ((), (a.2.2.1, (a.2.2.2.1, ((), (a.2.2.2.2.1, ((), (a.2.2.2.2.2, ()))))))))))
def L10068_3_d (e : Exit) (st : St) : Option ((Int × Int × (List Int) × Int × (List Int) × (List Int))) := match e with
  | .exit 0 => (match unSt L10068_3_x0 st with
    | some s => some (s.1, s.2.1, s.2.2.2.1, s.2.2.2.2.1, s.2.2.2.2.2.2.1, s.2.2.2.2.2.2.2.2.1)
    | none => none)
  | _ => none
def L10068_3_r (s0 : Int) (s1 : Int) (s2 : (List Int)) (s3 : Int) (s4 : (List Int)) (s5 : (List Int)) : Option ((Int × Int × (List Int) × Int × (List Int) × (List Int)) ⊕ ((Int × Int × (List Int) × Int × (List Int) × (List Int)))) :=
  let v4 : Bool := (decide (s3 < s0))
  let v5 : Bool := (s1 != (0 : Int))
  let v6 : Bool := (bif v4 then true else v5)
  bif v6 then
  bif (P71 s3 s4 s5) then
  let q7 : (Int × (Unit × ((List Int) × (Unit × ((List Int) × Unit))))) := F71 s3 s4 s5
  let v8 : Int := (IntKind.i64.wrap (q7.1 + s1))
  let v9 : Bool := (decide (v8 < (0 : Int)))
  bif v9 then
  let v10 : Int := (IntKind.i64.wrap (v8 + (10000 : Int)))
  let v11 : (List Int) := (List.set (List.replicate 1 (0 : Int)) 0 v10)
  bif (decide (List.length (List.take (List.length s2) s2) + List.length v11 ≤ 100000000000)) then
  let v12 : (List Int) := ((List.take (List.length s2) s2) ++ v11)
  let v13 : Int := (IntKind.i64.wrap (s3 + (1 : Int)))
  some (.inl (s0, (-1 : Int), v12, v13, q7.2.2.1, q7.2.2.2.2.1))
  else none
  else
  let v14 : Bool := (decide (v8 ≥ (10000 : Int)))
  bif v14 then
  let v15 : Int := (IntKind.i64.wrap (Int.tdiv v8 (10000 : Int)))
  let v16 : Int := (Int.tmod v8 (10000 : Int))
  let v17 : (List Int) := (List.set (List.replicate 1 (0 : Int)) 0 v16)
  bif (decide (List.length (List.take (List.length s2) s2) + List.length v17 ≤ 100000000000)) then
  let v18 : (List Int) := ((List.take (List.length s2) s2) ++ v17)
  let v19 : Int := (IntKind.i64.wrap (s3 + (1 : Int)))
  some (.inl (s0, v15, v18, v19, q7.2.2.1, q7.2.2.2.2.1))
  else none
  else
  let v20 : (List Int) := (List.set (List.replicate 1 (0 : Int)) 0 v8)
  bif (decide (List.length (List.take (List.length s2) s2) + List.length v20 ≤ 100000000000)) then
  let v21 : (List Int) := ((List.take (List.length s2) s2) ++ v20)
  let v22 : Int := (IntKind.i64.wrap (s3 + (1 : Int)))
  some (.inl (s0, (0 : Int), v21, v22, q7.2.2.1, q7.2.2.2.2.1))
  else none
  else none
  else
  some (.inr (s0, s1, s2, s3, s4, s5))
def L10068_3 : Int × Int × (List Int) × Int × (List Int) × (List Int) → Option ((Int × Int × (List Int) × Int × (List Int) × (List Int))) := Lim (fun s => L10068_3_r s.1 s.2.1 s.2.2.1 s.2.2.2.1 s.2.2.2.2.1 s.2.2.2.2.2)
def L10068_3_sum : Sum := limSum L10068_3_sh L10068_3_pk (fun s => L10068_3_r s.1 s.2.1 s.2.2.1 s.2.2.2.1 s.2.2.2.2.1 s.2.2.2.2.2) L10068_3_leave
theorem L10068_3_nat : Natural L10068_3_sum := natural_lim fun x R K => by
  rfl
theorem L10068_3_dok : ∀ e st x, e ≠ .normal → L10068_3_d e st = some x → ∀ R (K : Cont R), K e st = L10068_3_leave x R K := by
  intro e st x _ h R K
  unfold L10068_3_d at h
  split at h
  · split at h
    · rename_i s hs; cases h; rw [unSt_some hs]; rfl
    · cases h
  · cases h
def loops10068 : Nat → Option (Sum) := fun | 3 => some L10068_3_sum | _ => none
theorem loops10068_nat : ∀ q f, loops10068 q = some f → Natural f := by
  intro q f h
  unfold loops10068 at h
  split at h
  · cases h; exact L10068_3_nat
  · cases h
noncomputable def L10068_3_code : Code := (loopsOf body10068).getD 0 .skip
theorem L10068_3_round (s0 : Int) (s1 : Int) (s2 : (List Int)) (s3 : Int) (s4 : (List Int)) (s5 : (List Int)) : ev2 env10068 orc10068 loops10068 L10068_3_code (mkSt L10068_3_sh (s0, (s1, ((), (s2, (s3, ((), (s4, ((), (s5, ())))))))))) (back L10068_3_sh L10068_3_pk L10068_3_d) = L10068_3_r s0 s1 s2 s3 s4 s5 := by kernel_rfl
theorem L10068_3_ok : SumOk env10068 orc10068 loops10068 L10068_3_code L10068_3_sum := sumOk_lim (un := L10068_3_un) loops10068_nat (fun _ => rfl) L10068_3_dok fun s => L10068_3_round s.1 s.2.1 s.2.2.1 s.2.2.2.1 s.2.2.2.2.1 s.2.2.2.2.2
theorem loops10068_all : loopsOf body10068 = [L10068_3_code] := by kernel_rfl
theorem L10068_3_key : lookL loops10068 (keyOf L10068_3_code) = some L10068_3_sum := by kernel_rfl
theorem loops10068_ok : LoopsOk env10068 orc10068 loops10068 body10068 := by
  intro c hc f hf
  rw [loops10068_all] at hc
  simp only [List.mem_cons, List.not_mem_nil, or_false] at hc
  subst hc
  · rw [L10068_3_key] at hf; cases hf; exact L10068_3_ok
def G10068 (x0 : Int) (x1 : Int) (x2 : (List Int)) (x3 : (List Int)) : Option ((List Int) × (Unit × ((List Int) × (Unit × ((List Int) × Unit))))) :=
  let v1 : (List Int) := ([] : (List Int))
  let v2 : Int := (IntKind.i64.wrap (x0 + (1 : Int)))
  bif (decide (0 ≤ (0 : Int)) && decide ((0 : Int) ≤ v2) && decide (v2 ≤ 100000000000)) then
  let v3 : (List Int) := (List.replicate (Int.toNat (0 : Int)) (0 : Int))
  Option.bind (L10068_3 (x0, x1, v3, (0 : Int), x2, x3)) fun (r23 : Int × Int × (List Int) × Int × (List Int) × (List Int)) =>
  let v24 : (List Int) := (List.take (List.length r23.2.2.1) r23.2.2.1)
  some (v24, ((), (r23.2.2.2.2.1, ((), (r23.2.2.2.2.2, ())))))
  else none
def P10068 (x0 : Int) (x1 : Int) (x2 : (List Int)) (x3 : (List Int)) : Bool := (hold (G10068 x0 x1 x2 x3)).isSome
def F10068 (x0 : Int) (x1 : Int) (x2 : (List Int)) (x3 : (List Int)) : ((List Int) × (Unit × ((List Int) × (Unit × ((List Int) × Unit))))) := (hold (G10068 x0 x1 x2 x3)).getD (Tup.zero pout10068)
theorem P10068_of (x0 : Int) (x1 : Int) (x2 : (List Int)) (x3 : (List Int)) {r : ((List Int) × (Unit × ((List Int) × (Unit × ((List Int) × Unit)))))} (h : G10068 x0 x1 x2 x3 = some r) : P10068 x0 x1 x2 x3 = true := by unfold P10068; rw [hold_eq, h]; rfl
theorem F10068_of (x0 : Int) (x1 : Int) (x2 : (List Int)) (x3 : (List Int)) {r : ((List Int) × (Unit × ((List Int) × (Unit × ((List Int) × Unit)))))} (h : G10068 x0 x1 x2 x3 = some r) : F10068 x0 x1 x2 x3 = r := by unfold F10068; rw [hold_eq, h]; rfl
theorem ev10068 (x0 : Int) (x1 : Int) (x2 : (List Int)) (x3 : (List Int)) : ev2 env10068 orc10068 loops10068 body10068 (mkSt pin10068 (x0, (x1, ((), ((), (x2, ((), (x3, ())))))))) (retK3 env10068 [.slot 6] pout10068) = G10068 x0 x1 x2 x3 := by kernel_rfl
def sp10068 : Spec2 := ⟨pin10068, pout10068, fun s => hold (G10068 s.1 s.2.1 s.2.2.2.2.1 s.2.2.2.2.2.2.1)⟩
theorem fit10068 : Fit Tryz.f68 [.slot 6] sp10068 := ⟨by kernel_rfl, by kernel_rfl, by kernel_rfl, by kernel_rfl, by kernel_rfl, by decide, by decide, by decide⟩
theorem meets10068 (hE : EnvOk Tryz.prog env10068) (hm : Tryz.prog.follows .mixedOrders = true) : Meets2 Tryz.prog glob 68 sp10068 :=
  meets2_of_ev2 (O := orc10068) (L := loops10068) (c := body10068) (rs := [.slot 6]) hE (fun _ => rfl) hm Tryz.func68 Tryz.call68 (by kernel_rfl) (by kernel_rfl) loops10068_ok (rangesOk_nil (by kernel_rfl)) fit10068 (fun s o h => (ev10068 s.1 s.2.1 s.2.2.2.2.1 s.2.2.2.2.2.2.1).trans ((hold_eq _).symm.trans h))
def env45 : Env := {
  tab := tab
  glob := glob
  spec := fun
    | 65 => some spec65
    | _ => none
  spec2 := fun
    | 68, [71] => some sp10068
    | _, _ => none
  bldT := bldT
  bld := bldF }

def orc45 : Orc := ⟨10, fun _ => none, fun
  | 0 => kp [2, 3] [(2, [0]), (3, [0])]
  | 1 => kp [4] []
  | _ => [], fun | _ => false⟩
noncomputable def body45 : Code := Tryz.f45.body.getD .skip
def loops45 : Nat → Option (Sum) := fun | _ => none
theorem loops45_nat : ∀ q f, loops45 q = some f → Natural f := by
  intro q f h
  cases h
theorem loops45_ok : LoopsOk env45 orc45 loops45 body45 := loopsOk_nil (by kernel_rfl)
def G45 (x0 : (List Int)) (x1 : (List Int)) : Option ((List Int)) :=
  let v1 : (List Int) := ([] : (List Int))
  let v2 : Int := ((List.length x0 : Nat) : Int)
  bif (P10068 v2 (0 : Int) x0 x1) then
  let q3 : ((List Int) × (Unit × ((List Int) × (Unit × ((List Int) × Unit))))) := F10068 v2 (0 : Int) x0 x1
  bif (P65 q3.1) then
  let v4 : (List Int) := (F65 q3.1)
  some (v4)
  else none
  else none
theorem ev45 (x0 : (List Int)) (x1 : (List Int)) : ev2 env45 orc45 loops45 body45 (initSt 0 [⟨(.list (.int .i64)), x0⟩, ⟨(.list (.int .i64)), x1⟩]) (retT [(4, .dat (.list (.int .i64)))] [(.list (.int .i64))] fun x => x.1) = G45 x0 x1 := by kernel_rfl
def P45 (x0 : (List Int)) (x1 : (List Int)) : Bool := (hold (G45 x0 x1)).isSome
def F45 (x0 : (List Int)) (x1 : (List Int)) : (List Int) := (hold (G45 x0 x1)).getD default
theorem G45_some (x0 : (List Int)) (x1 : (List Int)) (h : P45 x0 x1 = true) : G45 x0 x1 = some (F45 x0 x1) := by
  unfold P45 at h; unfold F45
  rw [hold_eq] at h ⊢
  exact some_getD h
theorem P45_of (x0 : (List Int)) (x1 : (List Int)) {r : (List Int)} (h : G45 x0 x1 = some r) : P45 x0 x1 = true := by unfold P45; rw [hold_eq, h]; rfl
theorem F45_of (x0 : (List Int)) (x1 : (List Int)) {r : (List Int)} (h : G45 x0 x1 = some r) : F45 x0 x1 = r := by unfold F45; rw [hold_eq, h]; rfl
def spec45 : Spec := ⟨[(.list (.int .i64)), (.list (.int .i64))], [.dat (.list (.int .i64))], fun | [a0, a1] => P45 (a0.as (.list (.int .i64))) (a1.as (.list (.int .i64))) | _ => false, fun | [a0, a1] => [⟨(.list (.int .i64)), (F45 (a0.as (.list (.int .i64))) (a1.as (.list (.int .i64))))⟩] | _ => []⟩
theorem meets45 (hE : EnvOk Tryz.prog env45) (hm : Tryz.prog.follows .mixedOrders = true) : Meets Tryz.prog glob 45 spec45 :=
  meets_of_ev2 (O := orc45) (L := loops45) (c := body45) (slots := [4]) hE hm Tryz.func45 Tryz.call45 (by kernel_rfl) (by kernel_rfl) loops45_ok (rangesOk_nil (by kernel_rfl)) (by kernel_rfl) rfl (by decide) (fun ds hds hpre => by
  obtain ⟨x0, ds0, rfl, h0⟩ := datsS hds
  obtain ⟨x1, ds1, rfl, h1⟩ := datsS h0
  have h9 := dats0 h1; subst h9
  exact ev_ret (un := fun r => [⟨(.list (.int .i64)), r⟩]) loops45_nat (fun _ => rfl) ((ev45 x0 x1).trans (G45_some x0 x1 hpre)))
def pin39 : Shape := [(.slot 0, .dat t49), (.slot 1, .dat t49)]
def pout39 : Shape := [(.slot 0, .dat t49)]
def env39 : Env := {
  tab := tab
  glob := glob
  spec := fun
    | 43 => some spec43
    | 45 => some spec45
    | _ => none
  spec2 := fun
    | 46, [] => some sp46
    | _, _ => none
  bldT := bldT
  bld := bldF }

def orc39 : Orc := ⟨42, fun _ => none, fun
  | 0 => kp [2, 3, 4] [(2, [0, 1]), (3, [0, 1]), (4, [0, 1])]
  | 1 => kp [2, 3, 4, 5] [(2, [0, 1]), (3, [0, 1]), (4, [0, 1])]
  | 2 => kp [4] [(4, [0, 1])]
  | 3 => kp [2, 3, 4, 19] [(2, [0, 1]), (3, [0, 1]), (4, [0, 1])]
  | 4 => kp [4] [(4, [0, 1])]
  | 5 => kp [4] [(4, [0, 1])]
  | _ => [], fun | _ => false⟩
noncomputable def body39 : Code := Tryz.f39.body.getD .skip
def loops39 : Nat → Option (Sum) := fun | _ => none
theorem loops39_ok : LoopsOk env39 orc39 loops39 body39 := loopsOk_nil (by kernel_rfl)
def G39 (x0 : D49) (x1 : D49) : Option (D49 × Unit) :=
  let v1 : (List Int) := ([] : (List Int))
  let v2 : (List Int) := ([] : (List Int))
  let v3 : Bool := (eqv .bool x0.1 x1.1)
  bif v3 then
  bif (P43 x0.2.1 x1.2.1) then
  let v4 : (List Int) := (F43 x0.2.1 x1.2.1)
  some ((x0.1, (v4, ())), ())
  else none
  else
  bif (P46 x0.2.1 x1.2.1) then
  let q5 : (Int × Unit) := F46 x0.2.1 x1.2.1
  let v6 : Bool := (decide (q5.1 ≥ (0 : Int)))
  bif v6 then
  bif (P45 x0.2.1 x1.2.1) then
  let v7 : (List Int) := (F45 x0.2.1 x1.2.1)
  some ((x0.1, (v7, ())), ())
  else none
  else
  bif (P45 x1.2.1 x0.2.1) then
  let v8 : (List Int) := (F45 x1.2.1 x0.2.1)
  some ((x1.1, (v8, ())), ())
  else none
  else none
def P39 (x0 : D49) (x1 : D49) : Bool := (hold (G39 x0 x1)).isSome
def F39 (x0 : D49) (x1 : D49) : (D49 × Unit) := (hold (G39 x0 x1)).getD (Tup.zero pout39)
theorem P39_of (x0 : D49) (x1 : D49) {r : (D49 × Unit)} (h : G39 x0 x1 = some r) : P39 x0 x1 = true := by unfold P39; rw [hold_eq, h]; rfl
theorem F39_of (x0 : D49) (x1 : D49) {r : (D49 × Unit)} (h : G39 x0 x1 = some r) : F39 x0 x1 = r := by unfold F39; rw [hold_eq, h]; rfl
theorem ev39 (x0 : D49) (x1 : D49) : ev2 env39 orc39 loops39 body39 (mkSt pin39 (x0, (x1, ()))) (retK3 env39 [.cell 4 50] pout39) = G39 x0 x1 := by kernel_rfl
def sp39 : Spec2 := ⟨pin39, pout39, fun s => hold (G39 s.1 s.2.1)⟩
theorem fit39 : Fit Tryz.f39 [.cell 4 50] sp39 := ⟨by kernel_rfl, by kernel_rfl, by kernel_rfl, by kernel_rfl, by kernel_rfl, by decide, by decide, by decide⟩
theorem meets39 (hE : EnvOk Tryz.prog env39) (hm : Tryz.prog.follows .mixedOrders = true) : Meets2 Tryz.prog glob 39 sp39 :=
  meets2_of_ev2 (O := orc39) (L := loops39) (c := body39) (rs := [.cell 4 50]) hE (fun _ => rfl) hm Tryz.func39 Tryz.call39 (by kernel_rfl) (by kernel_rfl) loops39_ok (rangesOk_nil (by kernel_rfl)) fit39 (fun s o h => (ev39 s.1 s.2.1).trans ((hold_eq _).symm.trans h))
def env40 : Env := {
  tab := tab
  glob := glob
  spec := fun
    | 58 => some spec58
    | 61 => some spec61
    | _ => none
  spec2 := fun
    | 60, [] => some sp60
    | _, _ => none
  bldT := bldT
  bld := bldF }

def orc40 : Orc := ⟨43, fun _ => none, fun
  | 0 => kp [1] [(1, [0, 1])]
  | 1 => kp [1, 12] [(1, [0, 1])]
  | 2 => kp [2, 3] []
  | 3 => kp [1, 4] [(1, [0, 1]), (4, [0, 1])]
  | 4 => kp [1, 4, 15] [(1, [0, 1]), (4, [0, 1]), (1600001, [0])]
  | 5 => kp [1, 4, 5, 15, 17] [(1, [0, 1]), (4, [0, 1])]
  | 6 => kp [1, 4, 5, 6, 15] [(1, [0, 1]), (4, [0, 1])]
  | 7 => kp [1, 4, 5, 7, 15] [(1, [0, 1]), (4, [0, 1])]
  | 8 => kp [1, 4, 7, 15, 25] [(1, [0, 1]), (4, [0, 1])]
  | 9 => kp [1, 4, 7, 15] [(1, [0, 1]), (4, [0, 1])]
  | 10 => kp [1, 4, 15] [(1, [0, 1]), (4, [0, 1])]
  | 11 => kp [1, 8] [(1, [0, 1])]
  | 12 => kp [1, 8, 37] [(1, [0, 1])]
  | 13 => kp [2, 3] []
  | 14 => kp [8, 39] []
  | 15 => kp [2, 3] []
  | 16 => kp [2, 3] []
  | _ => [], fun | _ => false⟩
noncomputable def body40 : Code := Tryz.f40.body.getD .skip
def R40_5_esh : Shape := [(.slot 1, .ptr 1 0), (.slot 4, .ptr 4 0), (.box 1, .bx 50 2), (.cell 1 0, .dat .bool), (.cell 1 1, .dat (.list (.int .i64))), (.box 4, .bx 76 2), (.cell 4 0, .mptr 4 0), (.cell 4 1, .own 5 (.int .u8))]
def R40_5_pk (s : Tup R40_5_esh) : Bool × (List Int) × Bool × (List Int) := (s.2.2.2.1, s.2.2.2.2.1, s.2.2.2.2.2.2.1, s.2.2.2.2.2.2.2.1)
def R40_5_un (s : Bool × (List Int) × Bool × (List Int)) : Tup R40_5_esh := ((), ((), ((), (s.1, (s.2.1, ((), (s.2.2.1, (s.2.2.2, ()))))))))
def R40_5_xo (x : (Bool × (List Int) × Bool × (List Int))) : Exit × Tup R40_5_esh := match x with
  | a => (.ret, R40_5_un a)
def R40_5_leave (x : (Bool × (List Int) × Bool × (List Int))) (R : Type) (K : Cont R) : Option R := match x with
  | a => K .ret (mkSt R40_5_esh (R40_5_un a))
theorem R40_5_lv (x : (Bool × (List Int) × Bool × (List Int))) (R : Type) (K : Cont R) : R40_5_leave x R K = K (R40_5_xo x).1 (mkSt R40_5_esh (R40_5_xo x).2) := by
  rfl
theorem R40_5_lvn (x : (Bool × (List Int) × Bool × (List Int))) (R : Type) (K : Cont R) : R40_5_leave x R K = (R40_5_leave x _ pairK).bind fun p => K p.1 p.2 := by
  rfl
def R40_5_d (e : Exit) (s : Tup R40_5_esh) : Option ((Bool × (List Int) × Bool × (List Int))) := match e with
  | _ => none
theorem R40_5_dk : ∀ x e v, R40_5_d x e = some v → R40_5_xo v = (x, e) ∧ ∃ c, jumpOf x = some c := by
  intro x e v h
  cases x <;> cases h
def R40_5_r (s0 : Bool) (s1 : (List Int)) (s2 : Bool) (s3 : (List Int)) (y0 : Int) (y1 : Int) : Option ((Bool × (List Int) × Bool × (List Int)) ⊕ ((Bool × (List Int) × Bool × (List Int)))) :=
  bif (P58 y1) then
  let v6 : (List UInt8) := (F58 y1)
  let v7 : Int := ((List.length s1 : Nat) : Int)
  let v8 : Int := (IntKind.i64.wrap (v7 - (1 : Int)))
  let v9 : Bool := (decide (y0 < v8))
  bif v9 then
  let v10 : Int := ((List.length v6 : Nat) : Int)
  let v11 : Int := (IntKind.i64.wrap ((4 : Int) - v10))
  bif (P61 ([48] : List UInt8) v11) then
  let v12 : (List UInt8) := (F61 ([48] : List UInt8) v11)
  bif (decide (List.length v12 + List.length v6 ≤ 9223372036854775807)) then
  let v13 : (List UInt8) := (v12 ++ v6)
  bif (decide (List.length s3 + List.length v13 ≤ 140737488355328)) then
  let v14 : (List Int) := (s3 ++ List.map (fun (c : UInt8) => (c.toNat : Int)) v13)
  some (.inl (s0, s1, true, v14))
  else none
  else none
  else none
  else
  bif (decide (List.length s3 + List.length v6 ≤ 140737488355328)) then
  let v15 : (List Int) := (s3 ++ List.map (fun (c : UInt8) => (c.toNat : Int)) v6)
  some (.inl (s0, s1, true, v15))
  else none
  else none
def R40_5_step (b : Bool × (List Int) × Bool × (List Int)) (y : Y78) : Option ((Bool × (List Int) × Bool × (List Int)) ⊕ ((Bool × (List Int) × Bool × (List Int)))) := R40_5_r b.1 b.2.1 b.2.2.1 b.2.2.2 y.1 y.2
def loops40 : Nat → Option (Sum) := fun | 5 => some (rangeSum env40 78 15 R40_5_esh I78 R40_5_pk R40_5_un R40_5_step R40_5_leave) | _ => none
theorem loops40_nat : ∀ q f, loops40 q = some f → Natural f := by
  intro q f h
  unfold loops40 at h
  split at h
  · cases h; exact natural_range R40_5_lvn
  · cases h
theorem loops40_ok : LoopsOk env40 orc40 loops40 body40 := loopsOk_nil (by kernel_rfl)
noncomputable def R40_5_code : Code := (rangesOf body40).getD 0 .skip
theorem R40_5_round (s0 : Bool) (s1 : (List Int)) (s2 : Bool) (s3 : (List Int)) (y0 : Int) (y1 : Int) : roundQ env40 orc40 loops40 R40_5_esh R40_5_pk R40_5_d R40_5_code (I78.enc (y0, y1)) ((), ((), ((), (s0, (s1, ((), (s2, (s3, ())))))))) = R40_5_r s0 s1 s2 s3 y0 y1 := by kernel_rfl
theorem R40_5_form : R40_5_code = .rangeFunc (.tmp 15) (rgPs R40_5_code) (rgAsg R40_5_code) (rgBody R40_5_code) := by kernel_rfl
theorem R40_5_len (y : Y78) : (rgPs R40_5_code).toList.length = (I78.enc y).length := by kernel_rfl
theorem R40_5_ok (hE : EnvOk Tryz.prog env40) (hm : Tryz.prog.follows .mixedOrders = true) (hI : IterOk Tryz.prog glob 78 I78) : RangeOk Tryz.prog env40 orc40.n R40_5_code (rangeSum env40 78 15 R40_5_esh I78 R40_5_pk R40_5_un R40_5_step R40_5_leave) :=
  rangeOk' (L := loops40) hE hm hI R40_5_form (loopsOk_nil (by kernel_rfl)) (loopsOk_nil (by kernel_rfl)) (by kernel_rfl) (by kernel_rfl) (by kernel_rfl) (by kernel_rfl) (pk := R40_5_pk) (un := R40_5_un) (fun _ => rfl) R40_5_dk R40_5_lv R40_5_len fun b y => R40_5_round b.1 b.2.1 b.2.2.1 b.2.2.2 y.1 y.2
theorem ranges40_all : rangesOf body40 = [R40_5_code] := by kernel_rfl
theorem R40_5_key : lookL loops40 (keyOf R40_5_code) = some (rangeSum env40 78 15 R40_5_esh I78 R40_5_pk R40_5_un R40_5_step R40_5_leave) := by kernel_rfl
theorem ranges40_ok (hE : EnvOk Tryz.prog env40) (hm : Tryz.prog.follows .mixedOrders = true) (hI78 : IterOk Tryz.prog glob 78 I78) : RangesOk Tryz.prog env40 orc40.n loops40 body40 := by
  intro c hc f hf
  rw [ranges40_all] at hc
  simp only [List.mem_cons, List.not_mem_nil, or_false] at hc
  subst hc
  · rw [R40_5_key] at hf; cases hf; exact R40_5_ok hE hm hI78
def G40 (x0 : D49) : Option ((List UInt8) × Int) :=
  let v1 : Int := ((List.length x0.2.1 : Nat) : Int)
  let v2 : Bool := (v1 == (0 : Int))
  bif v2 then
  let v3 : (List UInt8) := ([48] : List UInt8)
  some (v3, (0 : Int))
  else
  let v4 : (List Int) := ([] : List Int)
  bif (P60 x0.2.1) then
  let q5 : (Unit × (Unit × ((List Int) × Unit))) := F60 x0.2.1
  Option.bind ((W78 q5.2.2.1).ys) fun ys => Option.bind (foldX R40_5_step ys (x0.1, x0.2.1, false, v4)) fun z => match z with
  | .inl (r16 : Bool × (List Int) × Bool × (List Int)) =>
  bif (List.all r16.2.2.2 (fun (n : Int) => decide (0 ≤ n) && decide (n < 256))) then
  let v17 : (List UInt8) := (List.map (fun (n : Int) => UInt8.ofNat n.toNat) r16.2.2.2)
  let v18 : Int := ((List.length v17 : Nat) : Int)
  let v19 : Bool := (decide (v18 > (200 : Int)))
  bif v19 then
  some (([] : List UInt8), (30 : Int))
  else
  bif r16.1 then
  bif (decide (List.length ([45] : List UInt8) + List.length v17 ≤ 9223372036854775807)) then
  let v20 : (List UInt8) := (([45] : List UInt8) ++ v17)
  some (v20, (0 : Int))
  else none
  else
  some (v17, (0 : Int))
  else none
  | .inr r16 =>
  none
  else none
theorem ev40 (x0 : D49) : ev2 env40 orc40 loops40 body40 (initSt 0 [⟨t49, x0⟩]) (retT [(2, .dat .str), (3, .dat (.int .i64))] [.str, (.int .i64)] fun x => (x.1, x.2.1)) = G40 x0 := by kernel_rfl
def P40 (x0 : D49) : Bool := (hold (G40 x0)).isSome
def F40 (x0 : D49) : (List UInt8) × Int := (hold (G40 x0)).getD default
theorem G40_some (x0 : D49) (h : P40 x0 = true) : G40 x0 = some (F40 x0) := by
  unfold P40 at h; unfold F40
  rw [hold_eq] at h ⊢
  exact some_getD h
theorem P40_of (x0 : D49) {r : (List UInt8) × Int} (h : G40 x0 = some r) : P40 x0 = true := by unfold P40; rw [hold_eq, h]; rfl
theorem F40_of (x0 : D49) {r : (List UInt8) × Int} (h : G40 x0 = some r) : F40 x0 = r := by unfold F40; rw [hold_eq, h]; rfl
def spec40 : Spec := ⟨[t49], [.dat .str, .dat (.int .i64)], fun | [a0] => P40 (a0.as t49) | _ => false, fun | [a0] => [⟨.str, (F40 (a0.as t49)).1⟩, ⟨(.int .i64), (F40 (a0.as t49)).2⟩] | _ => []⟩
theorem meets40 (hE : EnvOk Tryz.prog env40) (hm : Tryz.prog.follows .mixedOrders = true) (hI78 : IterOk Tryz.prog glob 78 I78) : Meets Tryz.prog glob 40 spec40 :=
  meets_of_ev2 (O := orc40) (L := loops40) (c := body40) (slots := [2, 3]) hE hm Tryz.func40 Tryz.call40 (by kernel_rfl) (by kernel_rfl) loops40_ok (ranges40_ok hE hm hI78) (by kernel_rfl) rfl (by decide) (fun ds hds hpre => by
  obtain ⟨x0, ds0, rfl, h0⟩ := datsS hds
  have h9 := dats0 h0; subst h9
  exact ev_ret (un := fun r => [⟨.str, r.1⟩, ⟨(.int .i64), r.2⟩]) loops40_nat (fun _ => rfl) ((ev40 x0).trans (G40_some x0 hpre)))
def env14 : Env := {
  tab := tab
  glob := glob
  spec := fun
    | 40 => some spec40
    | _ => none
  spec2 := fun
    | 38, [] => some sp38
    | 39, [] => some sp39
    | _, _ => none
  bldT := bldT
  bld := bldF }

def orc14 : Orc := ⟨24, fun _ => none, fun
  | 0 => kp [0, 1] []
  | 1 => kp [6, 7, 8] [(6, [0, 1]), (7, [0, 1])]
  | 2 => kp [6, 7, 17] [(6, [0, 1]), (7, [0, 1])]
  | 3 => kp [4, 5] []
  | 4 => kp [4, 5] []
  | _ => [], fun | _ => false⟩
noncomputable def body14 : Code := Tryz.f14.body.getD .skip
def loops14 : Nat → Option (Sum) := fun | _ => none
theorem loops14_nat : ∀ q f, loops14 q = some f → Natural f := by
  intro q f h
  cases h
theorem loops14_ok : LoopsOk env14 orc14 loops14 body14 := loopsOk_nil (by kernel_rfl)
def G14 (x0 : (List UInt8)) (x1 : (List UInt8)) : Option ((List UInt8) × Int) :=
  bif (P38 x0 x1) then
  let q1 : (D49 × (D49 × (Bool × Unit))) := F38 x0 x1
  let v2 : (List Int) := ([] : (List Int))
  let v3 : (List Int) := ([] : (List Int))
  let v4 : (List Int) := ([] : (List Int))
  let v5 : (List Int) := ([] : (List Int))
  let v6 : Bool := (!q1.2.2.1)
  bif v6 then
  some (([] : List UInt8), (30 : Int))
  else
  bif (P39 q1.1 q1.2.1) then
  let q7 : (D49 × Unit) := F39 q1.1 q1.2.1
  bif (P40 q7.1) then
  let v8 : ((List UInt8) × Int) := (F40 q7.1)
  some v8
  else none
  else none
  else none
theorem ev14 (x0 : (List UInt8)) (x1 : (List UInt8)) : ev2 env14 orc14 loops14 body14 (initSt 0 [⟨.str, x0⟩, ⟨.str, x1⟩]) (retT [(4, .dat .str), (5, .dat (.int .i64))] [.str, (.int .i64)] fun x => (x.1, x.2.1)) = G14 x0 x1 := by kernel_rfl
def P14 (x0 : (List UInt8)) (x1 : (List UInt8)) : Bool := (hold (G14 x0 x1)).isSome
def F14 (x0 : (List UInt8)) (x1 : (List UInt8)) : (List UInt8) × Int := (hold (G14 x0 x1)).getD default
theorem G14_some (x0 : (List UInt8)) (x1 : (List UInt8)) (h : P14 x0 x1 = true) : G14 x0 x1 = some (F14 x0 x1) := by
  unfold P14 at h; unfold F14
  rw [hold_eq] at h ⊢
  exact some_getD h
theorem P14_of (x0 : (List UInt8)) (x1 : (List UInt8)) {r : (List UInt8) × Int} (h : G14 x0 x1 = some r) : P14 x0 x1 = true := by unfold P14; rw [hold_eq, h]; rfl
theorem F14_of (x0 : (List UInt8)) (x1 : (List UInt8)) {r : (List UInt8) × Int} (h : G14 x0 x1 = some r) : F14 x0 x1 = r := by unfold F14; rw [hold_eq, h]; rfl
def spec14 : Spec := ⟨[.str, .str], [.dat .str, .dat (.int .i64)], fun | [a0, a1] => P14 (a0.as .str) (a1.as .str) | _ => false, fun | [a0, a1] => [⟨.str, (F14 (a0.as .str) (a1.as .str)).1⟩, ⟨(.int .i64), (F14 (a0.as .str) (a1.as .str)).2⟩] | _ => []⟩
theorem meets14 (hE : EnvOk Tryz.prog env14) (hm : Tryz.prog.follows .mixedOrders = true) : Meets Tryz.prog glob 14 spec14 :=
  meets_of_ev2 (O := orc14) (L := loops14) (c := body14) (slots := [4, 5]) hE hm Tryz.func14 Tryz.call14 (by kernel_rfl) (by kernel_rfl) loops14_ok (rangesOk_nil (by kernel_rfl)) (by kernel_rfl) rfl (by decide) (fun ds hds hpre => by
  obtain ⟨x0, ds0, rfl, h0⟩ := datsS hds
  obtain ⟨x1, ds1, rfl, h1⟩ := datsS h0
  have h9 := dats0 h1; subst h9
  exact ev_ret (un := fun r => [⟨.str, r.1⟩, ⟨(.int .i64), r.2⟩]) loops14_nat (fun _ => rfl) ((ev14 x0 x1).trans (G14_some x0 x1 hpre)))
def env16 : Env := {
  tab := tab
  glob := glob
  spec := fun
    | 40 => some spec40
    | _ => none
  spec2 := fun
    | 38, [] => some sp38
    | 39, [] => some sp39
    | _, _ => none
  bldT := bldT
  bld := bldF }

def orc16 : Orc := ⟨28, fun _ => none, fun
  | 0 => kp [0, 1] []
  | 1 => kp [6, 7, 8] [(6, [0, 1]), (7, [0, 1])]
  | 2 => kp [6, 7, 17] [(6, [0, 1]), (7, [0, 1])]
  | 3 => kp [4, 5] []
  | 4 => kp [6, 7] [(6, [0, 1]), (7, [0, 1])]
  | 5 => kp [4, 5] []
  | _ => [], fun | _ => false⟩
noncomputable def body16 : Code := Tryz.f16.body.getD .skip
def loops16 : Nat → Option (Sum) := fun | _ => none
theorem loops16_nat : ∀ q f, loops16 q = some f → Natural f := by
  intro q f h
  cases h
theorem loops16_ok : LoopsOk env16 orc16 loops16 body16 := loopsOk_nil (by kernel_rfl)
def G16 (x0 : (List UInt8)) (x1 : (List UInt8)) : Option ((List UInt8) × Int) :=
  bif (P38 x0 x1) then
  let q1 : (D49 × (D49 × (Bool × Unit))) := F38 x0 x1
  let v2 : (List Int) := ([] : (List Int))
  let v3 : (List Int) := ([] : (List Int))
  let v4 : (List Int) := ([] : (List Int))
  let v5 : (List Int) := ([] : (List Int))
  let v6 : Bool := (!q1.2.2.1)
  bif v6 then
  some (([] : List UInt8), (30 : Int))
  else
  let v7 : Bool := (!q1.2.1.1)
  bif (P39 q1.1 (v7, q1.2.1.2)) then
  let q8 : (D49 × Unit) := F39 q1.1 (v7, q1.2.1.2)
  bif (P40 q8.1) then
  let v9 : ((List UInt8) × Int) := (F40 q8.1)
  some v9
  else none
  else none
  else none
theorem ev16 (x0 : (List UInt8)) (x1 : (List UInt8)) : ev2 env16 orc16 loops16 body16 (initSt 0 [⟨.str, x0⟩, ⟨.str, x1⟩]) (retT [(4, .dat .str), (5, .dat (.int .i64))] [.str, (.int .i64)] fun x => (x.1, x.2.1)) = G16 x0 x1 := by kernel_rfl
def P16 (x0 : (List UInt8)) (x1 : (List UInt8)) : Bool := (hold (G16 x0 x1)).isSome
def F16 (x0 : (List UInt8)) (x1 : (List UInt8)) : (List UInt8) × Int := (hold (G16 x0 x1)).getD default
theorem G16_some (x0 : (List UInt8)) (x1 : (List UInt8)) (h : P16 x0 x1 = true) : G16 x0 x1 = some (F16 x0 x1) := by
  unfold P16 at h; unfold F16
  rw [hold_eq] at h ⊢
  exact some_getD h
theorem P16_of (x0 : (List UInt8)) (x1 : (List UInt8)) {r : (List UInt8) × Int} (h : G16 x0 x1 = some r) : P16 x0 x1 = true := by unfold P16; rw [hold_eq, h]; rfl
theorem F16_of (x0 : (List UInt8)) (x1 : (List UInt8)) {r : (List UInt8) × Int} (h : G16 x0 x1 = some r) : F16 x0 x1 = r := by unfold F16; rw [hold_eq, h]; rfl
def spec16 : Spec := ⟨[.str, .str], [.dat .str, .dat (.int .i64)], fun | [a0, a1] => P16 (a0.as .str) (a1.as .str) | _ => false, fun | [a0, a1] => [⟨.str, (F16 (a0.as .str) (a1.as .str)).1⟩, ⟨(.int .i64), (F16 (a0.as .str) (a1.as .str)).2⟩] | _ => []⟩
theorem meets16 (hE : EnvOk Tryz.prog env16) (hm : Tryz.prog.follows .mixedOrders = true) : Meets Tryz.prog glob 16 spec16 :=
  meets_of_ev2 (O := orc16) (L := loops16) (c := body16) (slots := [4, 5]) hE hm Tryz.func16 Tryz.call16 (by kernel_rfl) (by kernel_rfl) loops16_ok (rangesOk_nil (by kernel_rfl)) (by kernel_rfl) rfl (by decide) (fun ds hds hpre => by
  obtain ⟨x0, ds0, rfl, h0⟩ := datsS hds
  obtain ⟨x1, ds1, rfl, h1⟩ := datsS h0
  have h9 := dats0 h1; subst h9
  exact ev_ret (un := fun r => [⟨.str, r.1⟩, ⟨(.int .i64), r.2⟩]) loops16_nat (fun _ => rfl) ((ev16 x0 x1).trans (G16_some x0 x1 hpre)))
def pin84 : Shape := [(.slot 0, .dat (.int .i64)), (.slot 1, .ptr 50000 0), (.slot 2, .ptr 50001 0), (.box 50000, .bx 48 1), (.cell 50000 0, .dat (.list (.int .i64))), (.box 50001, .bx 3 1), (.cell 50001 0, .dat (.int .i64))]
def pout84 : Shape := [(.slot 0, .dat (.int .i64)), (.box 50000, .bx 48 1), (.cell 50000 0, .dat (.list (.int .i64))), (.box 50001, .bx 3 1), (.cell 50001 0, .dat (.int .i64))]
def env84 : Env := {
  tab := tab
  glob := glob
  spec := fun
    | 70 => some spec70
    | _ => none
  bldT := bldT
  bld := bldF }

def orc84 : Orc := ⟨10, fun _ => none, fun
  | 0 => kp [0, 1, 2] [(50000, [0]), (50001, [0])]
  | 1 => kp [4] [(50000, [0]), (50001, [0])]
  | _ => [], fun | _ => false⟩
noncomputable def body84 : Code := Tryz.f84.body.getD .skip
def loops84 : Nat → Option (Sum) := fun | _ => none
theorem loops84_ok : LoopsOk env84 orc84 loops84 body84 := loopsOk_nil (by kernel_rfl)
def G84 (x0 : Int) (x1 : (List Int)) (x2 : Int) : Option (Int × (Unit × ((List Int) × (Unit × (Int × Unit))))) :=
  bif (P70 x1 x0) then
  let v1 : Int := (F70 x1 x0)
  let v2 : Int := (IntKind.i64.wrap (v1 * x2))
  some (v2, ((), (x1, ((), (x2, ())))))
  else none
def P84 (x0 : Int) (x1 : (List Int)) (x2 : Int) : Bool := (hold (G84 x0 x1 x2)).isSome
def F84 (x0 : Int) (x1 : (List Int)) (x2 : Int) : (Int × (Unit × ((List Int) × (Unit × (Int × Unit))))) := (hold (G84 x0 x1 x2)).getD (Tup.zero pout84)
theorem P84_of (x0 : Int) (x1 : (List Int)) (x2 : Int) {r : (Int × (Unit × ((List Int) × (Unit × (Int × Unit)))))} (h : G84 x0 x1 x2 = some r) : P84 x0 x1 x2 = true := by unfold P84; rw [hold_eq, h]; rfl
theorem F84_of (x0 : Int) (x1 : (List Int)) (x2 : Int) {r : (Int × (Unit × ((List Int) × (Unit × (Int × Unit)))))} (h : G84 x0 x1 x2 = some r) : F84 x0 x1 x2 = r := by unfold F84; rw [hold_eq, h]; rfl
theorem ev84 (x0 : Int) (x1 : (List Int)) (x2 : Int) : ev2 env84 orc84 loops84 body84 (mkSt pin84 (x0, ((), ((), ((), (x1, ((), (x2, ())))))))) (retK3 env84 [.slot 4] pout84) = G84 x0 x1 x2 := by kernel_rfl
def sp84 : Spec2 := ⟨pin84, pout84, fun s => hold (G84 s.1 s.2.2.2.2.1 s.2.2.2.2.2.2.1)⟩
theorem fit84 : Fit Tryz.f84 [.slot 4] sp84 := ⟨by kernel_rfl, by kernel_rfl, by kernel_rfl, by kernel_rfl, by kernel_rfl, by decide, by decide, by decide⟩
theorem meets84 (hE : EnvOk Tryz.prog env84) (hm : Tryz.prog.follows .mixedOrders = true) : Meets2 Tryz.prog glob 84 sp84 :=
  meets2_of_ev2 (O := orc84) (L := loops84) (c := body84) (rs := [.slot 4]) hE (fun _ => rfl) hm Tryz.func84 Tryz.call84 (by kernel_rfl) (by kernel_rfl) loops84_ok (rangesOk_nil (by kernel_rfl)) fit84 (fun s o h => (ev84 s.1 s.2.2.2.2.1 s.2.2.2.2.2.2.1).trans ((hold_eq _).symm.trans h))
def pin20068 : Shape := [(.slot 0, .dat (.int .i64)), (.slot 1, .dat (.int .i64)), (.slot 2, .fn 84 [50000, 50001]), (.box 50000, .bx 48 1), (.cell 50000 0, .dat (.list (.int .i64))), (.box 50001, .bx 3 1), (.cell 50001 0, .dat (.int .i64))]
def pout20068 : Shape := [(.slot 0, .dat (.list (.int .i64))), (.box 50000, .bx 48 1), (.cell 50000 0, .dat (.list (.int .i64))), (.box 50001, .bx 3 1), (.cell 50001 0, .dat (.int .i64))]
def env20068 : Env := {
  tab := tab
  glob := glob
  spec := fun
    | _ => none
  spec2 := fun
    | 84, [] => some sp84
    | _, _ => none
  bldT := bldT
  bld := bldF }

def orc20068 : Orc := ⟨42, fun _ => none, fun
  | 0 => kp [0, 1, 2] [(50000, [0]), (50001, [0])]
  | 1 => kp [0, 1, 2, 7] [(50000, [0]), (50001, [0])]
  | 2 => kp [0, 1, 2, 7, 8] [(50000, [0]), (50001, [0])]
  | 3 => kp [0, 1, 2, 7, 8, 19] [(50000, [0]), (50001, [0])]
  | 4 => kp [0, 1, 2, 7, 8] [(50000, [0]), (50001, [0])]
  | 5 => kp [0, 2, 7, 8, 9] [(50000, [0]), (50001, [0])]
  | 6 => kp [0, 1, 2, 7, 8, 9] [(50000, [0]), (50001, [0])]
  | 7 => kp [0, 1, 2, 7, 8, 9, 28] [(50000, [0]), (50001, [0])]
  | 8 => kp [0, 2, 7, 8, 9] [(50000, [0]), (50001, [0])]
  | 9 => kp [0, 1, 2, 7, 8, 9] [(50000, [0]), (50001, [0])]
  | 10 => kp [0, 1, 2, 7, 8, 9, 32] [(50000, [0]), (50001, [0])]
  | 11 => kp [0, 1, 2, 7, 8, 9] [(50000, [0]), (50001, [0])]
  | 12 => kp [0, 1, 2, 7, 8, 9] [(50000, [0]), (50001, [0])]
  | 13 => kp [0, 1, 2, 7, 8] [(50000, [0]), (50001, [0])]
  | 14 => kp [6] [(50000, [0]), (50001, [0])]
  | _ => [], fun | _ => false⟩
noncomputable def body20068 : Code := Tryz.f68.body.getD .skip
def L20068_3_sh : Shape := [(.slot 0, .dat (.int .i64)), (.slot 1, .dat (.int .i64)), (.slot 2, .fn 84 [50000, 50001]), (.slot 7, .own 3 (.int .i64)), (.slot 8, .dat (.int .i64)), (.box 50000, .bx 48 1), (.cell 50000 0, .dat (.list (.int .i64))), (.box 50001, .bx 3 1), (.cell 50001 0, .dat (.int .i64))]
def L20068_3_x0 : Shape := [(.slot 0, .dat (.int .i64)), (.slot 1, .dat (.int .i64)), (.slot 2, .fn 84 [50000, 50001]), (.slot 7, .own 3 (.int .i64)), (.slot 8, .dat (.int .i64)), (.box 50000, .bx 48 1), (.cell 50000 0, .dat (.list (.int .i64))), (.box 50001, .bx 3 1), (.cell 50001 0, .dat (.int .i64))]
def L20068_3_pk (s : Tup L20068_3_sh) : Int × Int × (List Int) × Int × (List Int) × Int := (s.1, s.2.1, s.2.2.2.1, s.2.2.2.2.1, s.2.2.2.2.2.2.1, s.2.2.2.2.2.2.2.2.1)
def L20068_3_un (s : Int × Int × (List Int) × Int × (List Int) × Int) : Tup L20068_3_sh := (s.1, (s.2.1, ((), (s.2.2.1, (s.2.2.2.1, ((), (s.2.2.2.2.1, ((), (s.2.2.2.2.2, ())))))))))
def L20068_3_leave (x : (Int × Int × (List Int) × Int × (List Int) × Int)) (R : Type) (K : Cont R) : Option R := match x with
  | a => K (.exit 0) (mkSt L20068_3_x0 (a.1, (a.2.1, ((), (a.2.2.1, (a.2.2.2.1, ((), (a.2.2.2.2.1, ((), (a.2.2.2.2.2, ()))))))))))
def L20068_3_d (e : Exit) (st : St) : Option ((Int × Int × (List Int) × Int × (List Int) × Int)) := match e with
  | .exit 0 => (match unSt L20068_3_x0 st with
    | some s => some (s.1, s.2.1, s.2.2.2.1, s.2.2.2.2.1, s.2.2.2.2.2.2.1, s.2.2.2.2.2.2.2.2.1)
    | none => none)
  | _ => none
def L20068_3_r (s0 : Int) (s1 : Int) (s2 : (List Int)) (s3 : Int) (s4 : (List Int)) (s5 : Int) : Option ((Int × Int × (List Int) × Int × (List Int) × Int) ⊕ ((Int × Int × (List Int) × Int × (List Int) × Int))) :=
  let v4 : Bool := (decide (s3 < s0))
  let v5 : Bool := (s1 != (0 : Int))
  let v6 : Bool := (bif v4 then true else v5)
  bif v6 then
  bif (P84 s3 s4 s5) then
  let q7 : (Int × (Unit × ((List Int) × (Unit × (Int × Unit))))) := F84 s3 s4 s5
  let v8 : Int := (IntKind.i64.wrap (q7.1 + s1))
  let v9 : Bool := (decide (v8 < (0 : Int)))
  bif v9 then
  let v10 : Int := (IntKind.i64.wrap (v8 + (10000 : Int)))
  let v11 : (List Int) := (List.set (List.replicate 1 (0 : Int)) 0 v10)
  bif (decide (List.length (List.take (List.length s2) s2) + List.length v11 ≤ 100000000000)) then
  let v12 : (List Int) := ((List.take (List.length s2) s2) ++ v11)
  let v13 : Int := (IntKind.i64.wrap (s3 + (1 : Int)))
  some (.inl (s0, (-1 : Int), v12, v13, q7.2.2.1, q7.2.2.2.2.1))
  else none
  else
  let v14 : Bool := (decide (v8 ≥ (10000 : Int)))
  bif v14 then
  let v15 : Int := (IntKind.i64.wrap (Int.tdiv v8 (10000 : Int)))
  let v16 : Int := (Int.tmod v8 (10000 : Int))
  let v17 : (List Int) := (List.set (List.replicate 1 (0 : Int)) 0 v16)
  bif (decide (List.length (List.take (List.length s2) s2) + List.length v17 ≤ 100000000000)) then
  let v18 : (List Int) := ((List.take (List.length s2) s2) ++ v17)
  let v19 : Int := (IntKind.i64.wrap (s3 + (1 : Int)))
  some (.inl (s0, v15, v18, v19, q7.2.2.1, q7.2.2.2.2.1))
  else none
  else
  let v20 : (List Int) := (List.set (List.replicate 1 (0 : Int)) 0 v8)
  bif (decide (List.length (List.take (List.length s2) s2) + List.length v20 ≤ 100000000000)) then
  let v21 : (List Int) := ((List.take (List.length s2) s2) ++ v20)
  let v22 : Int := (IntKind.i64.wrap (s3 + (1 : Int)))
  some (.inl (s0, (0 : Int), v21, v22, q7.2.2.1, q7.2.2.2.2.1))
  else none
  else none
  else
  some (.inr (s0, s1, s2, s3, s4, s5))
def L20068_3 : Int × Int × (List Int) × Int × (List Int) × Int → Option ((Int × Int × (List Int) × Int × (List Int) × Int)) := Lim (fun s => L20068_3_r s.1 s.2.1 s.2.2.1 s.2.2.2.1 s.2.2.2.2.1 s.2.2.2.2.2)
def L20068_3_sum : Sum := limSum L20068_3_sh L20068_3_pk (fun s => L20068_3_r s.1 s.2.1 s.2.2.1 s.2.2.2.1 s.2.2.2.2.1 s.2.2.2.2.2) L20068_3_leave
theorem L20068_3_nat : Natural L20068_3_sum := natural_lim fun x R K => by
  rfl
theorem L20068_3_dok : ∀ e st x, e ≠ .normal → L20068_3_d e st = some x → ∀ R (K : Cont R), K e st = L20068_3_leave x R K := by
  intro e st x _ h R K
  unfold L20068_3_d at h
  split at h
  · split at h
    · rename_i s hs; cases h; rw [unSt_some hs]; rfl
    · cases h
  · cases h
def loops20068 : Nat → Option (Sum) := fun | 3 => some L20068_3_sum | _ => none
theorem loops20068_nat : ∀ q f, loops20068 q = some f → Natural f := by
  intro q f h
  unfold loops20068 at h
  split at h
  · cases h; exact L20068_3_nat
  · cases h
noncomputable def L20068_3_code : Code := (loopsOf body20068).getD 0 .skip
theorem L20068_3_round (s0 : Int) (s1 : Int) (s2 : (List Int)) (s3 : Int) (s4 : (List Int)) (s5 : Int) : ev2 env20068 orc20068 loops20068 L20068_3_code (mkSt L20068_3_sh (s0, (s1, ((), (s2, (s3, ((), (s4, ((), (s5, ())))))))))) (back L20068_3_sh L20068_3_pk L20068_3_d) = L20068_3_r s0 s1 s2 s3 s4 s5 := by kernel_rfl
theorem L20068_3_ok : SumOk env20068 orc20068 loops20068 L20068_3_code L20068_3_sum := sumOk_lim (un := L20068_3_un) loops20068_nat (fun _ => rfl) L20068_3_dok fun s => L20068_3_round s.1 s.2.1 s.2.2.1 s.2.2.2.1 s.2.2.2.2.1 s.2.2.2.2.2
theorem loops20068_all : loopsOf body20068 = [L20068_3_code] := by kernel_rfl
theorem L20068_3_key : lookL loops20068 (keyOf L20068_3_code) = some L20068_3_sum := by kernel_rfl
theorem loops20068_ok : LoopsOk env20068 orc20068 loops20068 body20068 := by
  intro c hc f hf
  rw [loops20068_all] at hc
  simp only [List.mem_cons, List.not_mem_nil, or_false] at hc
  subst hc
  · rw [L20068_3_key] at hf; cases hf; exact L20068_3_ok
def G20068 (x0 : Int) (x1 : Int) (x2 : (List Int)) (x3 : Int) : Option ((List Int) × (Unit × ((List Int) × (Unit × (Int × Unit))))) :=
  let v1 : (List Int) := ([] : (List Int))
  let v2 : Int := (IntKind.i64.wrap (x0 + (1 : Int)))
  bif (decide (0 ≤ (0 : Int)) && decide ((0 : Int) ≤ v2) && decide (v2 ≤ 100000000000)) then
  let v3 : (List Int) := (List.replicate (Int.toNat (0 : Int)) (0 : Int))
  Option.bind (L20068_3 (x0, x1, v3, (0 : Int), x2, x3)) fun (r23 : Int × Int × (List Int) × Int × (List Int) × Int) =>
  let v24 : (List Int) := (List.take (List.length r23.2.2.1) r23.2.2.1)
  some (v24, ((), (r23.2.2.2.2.1, ((), (r23.2.2.2.2.2, ())))))
  else none
def P20068 (x0 : Int) (x1 : Int) (x2 : (List Int)) (x3 : Int) : Bool := (hold (G20068 x0 x1 x2 x3)).isSome
def F20068 (x0 : Int) (x1 : Int) (x2 : (List Int)) (x3 : Int) : ((List Int) × (Unit × ((List Int) × (Unit × (Int × Unit))))) := (hold (G20068 x0 x1 x2 x3)).getD (Tup.zero pout20068)
theorem P20068_of (x0 : Int) (x1 : Int) (x2 : (List Int)) (x3 : Int) {r : ((List Int) × (Unit × ((List Int) × (Unit × (Int × Unit)))))} (h : G20068 x0 x1 x2 x3 = some r) : P20068 x0 x1 x2 x3 = true := by unfold P20068; rw [hold_eq, h]; rfl
theorem F20068_of (x0 : Int) (x1 : Int) (x2 : (List Int)) (x3 : Int) {r : ((List Int) × (Unit × ((List Int) × (Unit × (Int × Unit)))))} (h : G20068 x0 x1 x2 x3 = some r) : F20068 x0 x1 x2 x3 = r := by unfold F20068; rw [hold_eq, h]; rfl
theorem ev20068 (x0 : Int) (x1 : Int) (x2 : (List Int)) (x3 : Int) : ev2 env20068 orc20068 loops20068 body20068 (mkSt pin20068 (x0, (x1, ((), ((), (x2, ((), (x3, ())))))))) (retK3 env20068 [.slot 6] pout20068) = G20068 x0 x1 x2 x3 := by kernel_rfl
def sp20068 : Spec2 := ⟨pin20068, pout20068, fun s => hold (G20068 s.1 s.2.1 s.2.2.2.2.1 s.2.2.2.2.2.2.1)⟩
theorem fit20068 : Fit Tryz.f68 [.slot 6] sp20068 := ⟨by kernel_rfl, by kernel_rfl, by kernel_rfl, by kernel_rfl, by kernel_rfl, by decide, by decide, by decide⟩
theorem meets20068 (hE : EnvOk Tryz.prog env20068) (hm : Tryz.prog.follows .mixedOrders = true) : Meets2 Tryz.prog glob 68 sp20068 :=
  meets2_of_ev2 (O := orc20068) (L := loops20068) (c := body20068) (rs := [.slot 6]) hE (fun _ => rfl) hm Tryz.func68 Tryz.call68 (by kernel_rfl) (by kernel_rfl) loops20068_ok (rangesOk_nil (by kernel_rfl)) fit20068 (fun s o h => (ev20068 s.1 s.2.1 s.2.2.2.2.1 s.2.2.2.2.2.2.1).trans ((hold_eq _).symm.trans h))
def env64 : Env := {
  tab := tab
  glob := glob
  spec := fun
    | 65 => some spec65
    | _ => none
  spec2 := fun
    | 68, [84] => some sp20068
    | _, _ => none
  bldT := bldT
  bld := bldF }

def orc64 : Orc := ⟨10, fun _ => none, fun
  | 0 => kp [2, 3] [(2, [0]), (3, [0])]
  | 1 => kp [4] []
  | _ => [], fun | _ => false⟩
noncomputable def body64 : Code := Tryz.f64.body.getD .skip
def loops64 : Nat → Option (Sum) := fun | _ => none
theorem loops64_nat : ∀ q f, loops64 q = some f → Natural f := by
  intro q f h
  cases h
theorem loops64_ok : LoopsOk env64 orc64 loops64 body64 := loopsOk_nil (by kernel_rfl)
def G64 (x0 : (List Int)) (x1 : Int) : Option ((List Int)) :=
  let v1 : (List Int) := ([] : (List Int))
  let v2 : Int := ((List.length x0 : Nat) : Int)
  bif (P20068 v2 (0 : Int) x0 x1) then
  let q3 : ((List Int) × (Unit × ((List Int) × (Unit × (Int × Unit))))) := F20068 v2 (0 : Int) x0 x1
  bif (P65 q3.1) then
  let v4 : (List Int) := (F65 q3.1)
  some (v4)
  else none
  else none
theorem ev64 (x0 : (List Int)) (x1 : Int) : ev2 env64 orc64 loops64 body64 (initSt 0 [⟨(.list (.int .i64)), x0⟩, ⟨(.int .i64), x1⟩]) (retT [(4, .dat (.list (.int .i64)))] [(.list (.int .i64))] fun x => x.1) = G64 x0 x1 := by kernel_rfl
def P64 (x0 : (List Int)) (x1 : Int) : Bool := (hold (G64 x0 x1)).isSome
def F64 (x0 : (List Int)) (x1 : Int) : (List Int) := (hold (G64 x0 x1)).getD default
theorem G64_some (x0 : (List Int)) (x1 : Int) (h : P64 x0 x1 = true) : G64 x0 x1 = some (F64 x0 x1) := by
  unfold P64 at h; unfold F64
  rw [hold_eq] at h ⊢
  exact some_getD h
theorem P64_of (x0 : (List Int)) (x1 : Int) {r : (List Int)} (h : G64 x0 x1 = some r) : P64 x0 x1 = true := by unfold P64; rw [hold_eq, h]; rfl
theorem F64_of (x0 : (List Int)) (x1 : Int) {r : (List Int)} (h : G64 x0 x1 = some r) : F64 x0 x1 = r := by unfold F64; rw [hold_eq, h]; rfl
def spec64 : Spec := ⟨[(.list (.int .i64)), (.int .i64)], [.dat (.list (.int .i64))], fun | [a0, a1] => P64 (a0.as (.list (.int .i64))) (a1.as (.int .i64)) | _ => false, fun | [a0, a1] => [⟨(.list (.int .i64)), (F64 (a0.as (.list (.int .i64))) (a1.as (.int .i64)))⟩] | _ => []⟩
theorem meets64 (hE : EnvOk Tryz.prog env64) (hm : Tryz.prog.follows .mixedOrders = true) : Meets Tryz.prog glob 64 spec64 :=
  meets_of_ev2 (O := orc64) (L := loops64) (c := body64) (slots := [4]) hE hm Tryz.func64 Tryz.call64 (by kernel_rfl) (by kernel_rfl) loops64_ok (rangesOk_nil (by kernel_rfl)) (by kernel_rfl) rfl (by decide) (fun ds hds hpre => by
  obtain ⟨x0, ds0, rfl, h0⟩ := datsS hds
  obtain ⟨x1, ds1, rfl, h1⟩ := datsS h0
  have h9 := dats0 h1; subst h9
  exact ev_ret (un := fun r => [⟨(.list (.int .i64)), r⟩]) loops64_nat (fun _ => rfl) ((ev64 x0 x1).trans (G64_some x0 x1 hpre)))
def env41 : Env := {
  tab := tab
  glob := glob
  spec := fun
    | 43 => some spec43
    | 64 => some spec64
    | _ => none
  spec2 := fun
    | 60, [] => some sp60
    | _, _ => none
  bldT := bldT
  bld := bldF }

def orc41 : Orc := ⟨24, fun _ => none, fun
  | 0 => kp [1, 2] [(2, [0])]
  | 1 => kp [1, 2, 5] [(2, [0]), (5, [0])]
  | 2 => kp [2, 5, 9] [(2, [0]), (5, [])] ++ [(.cell 5 0, .frz)] ++ kp [] [(1000001, [0])]
  | 3 => kp [2, 5, 7, 9] [(2, [0]), (5, [0])]
  | 4 => kp [2, 5, 7, 9, 14] [(2, [0]), (5, [0])]
  | 5 => kp [2, 5, 7, 9] [(2, [0]), (5, [0])]
  | 6 => kp [2, 5, 9] [(2, [0]), (5, [0])]
  | 7 => kp [4] []
  | _ => [], fun | _ => false⟩
noncomputable def body41 : Code := Tryz.f41.body.getD .skip
def R41_3_esh : Shape := [(.slot 2, .ptr 2 0), (.slot 5, .ptr 5 0), (.box 2, .bx 48 1), (.cell 2 0, .dat (.list (.int .i64))), (.box 5, .bx 48 1), (.cell 5 0, .dat (.list (.int .i64)))]
def R41_3_pk (s : Tup R41_3_esh) : (List Int) × (List Int) := (s.2.2.2.1, s.2.2.2.2.2.1)
def R41_3_un (s : (List Int) × (List Int)) : Tup R41_3_esh := ((), ((), ((), (s.1, ((), (s.2, ()))))))
def R41_3_xo (x : ((List Int) × (List Int))) : Exit × Tup R41_3_esh := match x with
  | a => (.ret, R41_3_un a)
def R41_3_leave (x : ((List Int) × (List Int))) (R : Type) (K : Cont R) : Option R := match x with
  | a => K .ret (mkSt R41_3_esh (R41_3_un a))
theorem R41_3_lv (x : ((List Int) × (List Int))) (R : Type) (K : Cont R) : R41_3_leave x R K = K (R41_3_xo x).1 (mkSt R41_3_esh (R41_3_xo x).2) := by
  rfl
theorem R41_3_lvn (x : ((List Int) × (List Int))) (R : Type) (K : Cont R) : R41_3_leave x R K = (R41_3_leave x _ pairK).bind fun p => K p.1 p.2 := by
  rfl
def R41_3_d (e : Exit) (s : Tup R41_3_esh) : Option (((List Int) × (List Int))) := match e with
  | _ => none
theorem R41_3_dk : ∀ x e v, R41_3_d x e = some v → R41_3_xo v = (x, e) ∧ ∃ c, jumpOf x = some c := by
  intro x e v h
  cases x <;> cases h
def R41_3_r (s0 : (List Int)) (s1 : (List Int)) (y0 : Int) (y1 : Int) : Option (((List Int) × (List Int)) ⊕ (((List Int) × (List Int)))) :=
  let v5 : Int := ((List.length s1 : Nat) : Int)
  let v6 : Bool := (decide (v5 > (0 : Int)))
  bif v6 then
  let v7 : (List Int) := (List.set (List.replicate 1 (0 : Int)) 0 (0 : Int))
  bif (decide (List.length (List.take (List.length v7) v7) + List.length s1 ≤ 100000000000)) then
  let v8 : (List Int) := ((List.take (List.length v7) v7) ++ s1)
  bif (P64 s0 y1) then
  let v9 : (List Int) := (F64 s0 y1)
  bif (P43 (List.take (List.length v8) v8) v9) then
  let v10 : (List Int) := (F43 (List.take (List.length v8) v8) v9)
  some (.inl (s0, v10))
  else none
  else none
  else none
  else
  bif (P64 s0 y1) then
  let v11 : (List Int) := (F64 s0 y1)
  bif (P43 s1 v11) then
  let v12 : (List Int) := (F43 s1 v11)
  some (.inl (s0, v12))
  else none
  else none
def R41_3_step (b : (List Int) × (List Int)) (y : Y78) : Option (((List Int) × (List Int)) ⊕ (((List Int) × (List Int)))) := R41_3_r b.1 b.2 y.1 y.2
def loops41 : Nat → Option (Sum) := fun | 3 => some (rangeSum env41 78 9 R41_3_esh I78 R41_3_pk R41_3_un R41_3_step R41_3_leave) | _ => none
theorem loops41_nat : ∀ q f, loops41 q = some f → Natural f := by
  intro q f h
  unfold loops41 at h
  split at h
  · cases h; exact natural_range R41_3_lvn
  · cases h
theorem loops41_ok : LoopsOk env41 orc41 loops41 body41 := loopsOk_nil (by kernel_rfl)
noncomputable def R41_3_code : Code := (rangesOf body41).getD 0 .skip
theorem R41_3_round (s0 : (List Int)) (s1 : (List Int)) (y0 : Int) (y1 : Int) : roundQ env41 orc41 loops41 R41_3_esh R41_3_pk R41_3_d R41_3_code (I78.enc (y0, y1)) ((), ((), ((), (s0, ((), (s1, ())))))) = R41_3_r s0 s1 y0 y1 := by kernel_rfl
theorem R41_3_form : R41_3_code = .rangeFunc (.tmp 9) (rgPs R41_3_code) (rgAsg R41_3_code) (rgBody R41_3_code) := by kernel_rfl
theorem R41_3_len (y : Y78) : (rgPs R41_3_code).toList.length = (I78.enc y).length := by kernel_rfl
theorem R41_3_ok (hE : EnvOk Tryz.prog env41) (hm : Tryz.prog.follows .mixedOrders = true) (hI : IterOk Tryz.prog glob 78 I78) : RangeOk Tryz.prog env41 orc41.n R41_3_code (rangeSum env41 78 9 R41_3_esh I78 R41_3_pk R41_3_un R41_3_step R41_3_leave) :=
  rangeOk' (L := loops41) hE hm hI R41_3_form (loopsOk_nil (by kernel_rfl)) (loopsOk_nil (by kernel_rfl)) (by kernel_rfl) (by kernel_rfl) (by kernel_rfl) (by kernel_rfl) (pk := R41_3_pk) (un := R41_3_un) (fun _ => rfl) R41_3_dk R41_3_lv R41_3_len fun b y => R41_3_round b.1 b.2 y.1 y.2
theorem ranges41_all : rangesOf body41 = [R41_3_code] := by kernel_rfl
theorem R41_3_key : lookL loops41 (keyOf R41_3_code) = some (rangeSum env41 78 9 R41_3_esh I78 R41_3_pk R41_3_un R41_3_step R41_3_leave) := by kernel_rfl
theorem ranges41_ok (hE : EnvOk Tryz.prog env41) (hm : Tryz.prog.follows .mixedOrders = true) (hI78 : IterOk Tryz.prog glob 78 I78) : RangesOk Tryz.prog env41 orc41.n loops41 body41 := by
  intro c hc f hf
  rw [ranges41_all] at hc
  simp only [List.mem_cons, List.not_mem_nil, or_false] at hc
  subst hc
  · rw [R41_3_key] at hf; cases hf; exact R41_3_ok hE hm hI78
def G41 (x0 : (List Int)) (x1 : (List Int)) : Option ((List Int)) :=
  let v1 : (List Int) := ([] : (List Int))
  let v2 : (List Int) := ([] : (List Int))
  let v3 : (List Int) := ([] : (List Int))
  bif (P60 x1) then
  let q4 : (Unit × (Unit × ((List Int) × Unit))) := F60 x1
  Option.bind ((W78 q4.2.2.1).ys) fun ys => Option.bind (foldX R41_3_step ys (x0, v3)) fun z => match z with
  | .inl (r13 : (List Int) × (List Int)) =>
  some (r13.2)
  | .inr r13 =>
  none
  else none
theorem ev41 (x0 : (List Int)) (x1 : (List Int)) : ev2 env41 orc41 loops41 body41 (initSt 0 [⟨(.list (.int .i64)), x0⟩, ⟨(.list (.int .i64)), x1⟩]) (retT [(4, .dat (.list (.int .i64)))] [(.list (.int .i64))] fun x => x.1) = G41 x0 x1 := by kernel_rfl
def P41 (x0 : (List Int)) (x1 : (List Int)) : Bool := (hold (G41 x0 x1)).isSome
def F41 (x0 : (List Int)) (x1 : (List Int)) : (List Int) := (hold (G41 x0 x1)).getD default
theorem G41_some (x0 : (List Int)) (x1 : (List Int)) (h : P41 x0 x1 = true) : G41 x0 x1 = some (F41 x0 x1) := by
  unfold P41 at h; unfold F41
  rw [hold_eq] at h ⊢
  exact some_getD h
theorem P41_of (x0 : (List Int)) (x1 : (List Int)) {r : (List Int)} (h : G41 x0 x1 = some r) : P41 x0 x1 = true := by unfold P41; rw [hold_eq, h]; rfl
theorem F41_of (x0 : (List Int)) (x1 : (List Int)) {r : (List Int)} (h : G41 x0 x1 = some r) : F41 x0 x1 = r := by unfold F41; rw [hold_eq, h]; rfl
def spec41 : Spec := ⟨[(.list (.int .i64)), (.list (.int .i64))], [.dat (.list (.int .i64))], fun | [a0, a1] => P41 (a0.as (.list (.int .i64))) (a1.as (.list (.int .i64))) | _ => false, fun | [a0, a1] => [⟨(.list (.int .i64)), (F41 (a0.as (.list (.int .i64))) (a1.as (.list (.int .i64))))⟩] | _ => []⟩
theorem meets41 (hE : EnvOk Tryz.prog env41) (hm : Tryz.prog.follows .mixedOrders = true) (hI78 : IterOk Tryz.prog glob 78 I78) : Meets Tryz.prog glob 41 spec41 :=
  meets_of_ev2 (O := orc41) (L := loops41) (c := body41) (slots := [4]) hE hm Tryz.func41 Tryz.call41 (by kernel_rfl) (by kernel_rfl) loops41_ok (ranges41_ok hE hm hI78) (by kernel_rfl) rfl (by decide) (fun ds hds hpre => by
  obtain ⟨x0, ds0, rfl, h0⟩ := datsS hds
  obtain ⟨x1, ds1, rfl, h1⟩ := datsS h0
  have h9 := dats0 h1; subst h9
  exact ev_ret (un := fun r => [⟨(.list (.int .i64)), r⟩]) loops41_nat (fun _ => rfl) ((ev41 x0 x1).trans (G41_some x0 x1 hpre)))
def env15 : Env := {
  tab := tab
  glob := glob
  spec := fun
    | 40 => some spec40
    | 41 => some spec41
    | _ => none
  spec2 := fun
    | 38, [] => some sp38
    | _, _ => none
  bldT := bldT
  bld := bldF }

def orc15 : Orc := ⟨32, fun _ => none, fun
  | 0 => kp [0, 1] []
  | 1 => kp [6, 7, 8] [(6, [0, 1]), (7, [0, 1])]
  | 2 => kp [6, 7, 17] [(6, [0, 1]), (7, [0, 1])]
  | 3 => kp [4, 5] []
  | 4 => kp [4, 5] []
  | _ => [], fun | _ => false⟩
noncomputable def body15 : Code := Tryz.f15.body.getD .skip
def loops15 : Nat → Option (Sum) := fun | _ => none
theorem loops15_nat : ∀ q f, loops15 q = some f → Natural f := by
  intro q f h
  cases h
theorem loops15_ok : LoopsOk env15 orc15 loops15 body15 := loopsOk_nil (by kernel_rfl)
def G15 (x0 : (List UInt8)) (x1 : (List UInt8)) : Option ((List UInt8) × Int) :=
  bif (P38 x0 x1) then
  let q1 : (D49 × (D49 × (Bool × Unit))) := F38 x0 x1
  let v2 : (List Int) := ([] : (List Int))
  let v3 : (List Int) := ([] : (List Int))
  let v4 : (List Int) := ([] : (List Int))
  let v5 : (List Int) := ([] : (List Int))
  let v6 : Bool := (!q1.2.2.1)
  bif v6 then
  some (([] : List UInt8), (30 : Int))
  else
  let v7 : Bool := (!(eqv .bool q1.1.1 q1.2.1.1))
  bif (P41 q1.1.2.1 q1.2.1.2.1) then
  let v8 : (List Int) := (F41 q1.1.2.1 q1.2.1.2.1)
  bif (P40 (v7, (v8, ()))) then
  let v9 : ((List UInt8) × Int) := (F40 (v7, (v8, ())))
  some v9
  else none
  else none
  else none
theorem ev15 (x0 : (List UInt8)) (x1 : (List UInt8)) : ev2 env15 orc15 loops15 body15 (initSt 0 [⟨.str, x0⟩, ⟨.str, x1⟩]) (retT [(4, .dat .str), (5, .dat (.int .i64))] [.str, (.int .i64)] fun x => (x.1, x.2.1)) = G15 x0 x1 := by kernel_rfl
def P15 (x0 : (List UInt8)) (x1 : (List UInt8)) : Bool := (hold (G15 x0 x1)).isSome
def F15 (x0 : (List UInt8)) (x1 : (List UInt8)) : (List UInt8) × Int := (hold (G15 x0 x1)).getD default
theorem G15_some (x0 : (List UInt8)) (x1 : (List UInt8)) (h : P15 x0 x1 = true) : G15 x0 x1 = some (F15 x0 x1) := by
  unfold P15 at h; unfold F15
  rw [hold_eq] at h ⊢
  exact some_getD h
theorem P15_of (x0 : (List UInt8)) (x1 : (List UInt8)) {r : (List UInt8) × Int} (h : G15 x0 x1 = some r) : P15 x0 x1 = true := by unfold P15; rw [hold_eq, h]; rfl
theorem F15_of (x0 : (List UInt8)) (x1 : (List UInt8)) {r : (List UInt8) × Int} (h : G15 x0 x1 = some r) : F15 x0 x1 = r := by unfold F15; rw [hold_eq, h]; rfl
def spec15 : Spec := ⟨[.str, .str], [.dat .str, .dat (.int .i64)], fun | [a0, a1] => P15 (a0.as .str) (a1.as .str) | _ => false, fun | [a0, a1] => [⟨.str, (F15 (a0.as .str) (a1.as .str)).1⟩, ⟨(.int .i64), (F15 (a0.as .str) (a1.as .str)).2⟩] | _ => []⟩
theorem meets15 (hE : EnvOk Tryz.prog env15) (hm : Tryz.prog.follows .mixedOrders = true) : Meets Tryz.prog glob 15 spec15 :=
  meets_of_ev2 (O := orc15) (L := loops15) (c := body15) (slots := [4, 5]) hE hm Tryz.func15 Tryz.call15 (by kernel_rfl) (by kernel_rfl) loops15_ok (rangesOk_nil (by kernel_rfl)) (by kernel_rfl) rfl (by decide) (fun ds hds hpre => by
  obtain ⟨x0, ds0, rfl, h0⟩ := datsS hds
  obtain ⟨x1, ds1, rfl, h1⟩ := datsS h0
  have h9 := dats0 h1; subst h9
  exact ev_ret (un := fun r => [⟨.str, r.1⟩, ⟨(.int .i64), r.2⟩]) loops15_nat (fun _ => rfl) ((ev15 x0 x1).trans (G15_some x0 x1 hpre)))
def pin66 : Shape := [(.slot 0, .dat (.int .i64)), (.slot 1, .ptr 50000 0), (.slot 2, .ptr 50001 0), (.box 50000, .bx 81 1), (.cell 50000 0, .dat (.bnd 64 (.list (.int .i64)))), (.box 50001, .bx 48 1), (.cell 50001 0, .dat (.list (.int .i64)))]
def pout66 : Shape := [(.slot 0, .dat .bool), (.box 50000, .bx 81 1), (.cell 50000 0, .dat (.bnd 64 (.list (.int .i64)))), (.box 50001, .bx 48 1), (.cell 50001 0, .dat (.list (.int .i64)))]
def env66 : Env := {
  tab := tab
  glob := glob
  spec := fun
    | 64 => some spec64
    | _ => none
  spec2 := fun
    | 46, [] => some sp46
    | _, _ => none
  bldT := bldT
  bld := bldF }

def orc66 : Orc := ⟨12, fun _ => none, fun
  | 0 => kp [0, 1, 2] [(50000, [0]), (50001, [0])]
  | 1 => kp [4] [(50000, [0]), (50001, [0])]
  | _ => [], fun | _ => false⟩
noncomputable def body66 : Code := Tryz.f66.body.getD .skip
def loops66 : Nat → Option (Sum) := fun | _ => none
theorem loops66_ok : LoopsOk env66 orc66 loops66 body66 := loopsOk_nil (by kernel_rfl)
def G66 (x0 : Int) (x1 : (Option (List Int))) (x2 : (List Int)) : Option (Bool × (Unit × ((Option (List Int)) × (Unit × ((List Int) × Unit))))) :=
  let v1 : Int := (IntKind.i64.wrap (x0 + (1 : Int)))
  bif (Option.isSome x1 && (P64 (Option.getD x1 ([] : (List Int))) v1)) then
  let v2 : (List Int) := (F64 (Option.getD x1 ([] : (List Int))) v1)
  bif (P46 v2 x2) then
  let q3 : (Int × Unit) := F46 v2 x2
  let v4 : Bool := (decide (q3.1 > (0 : Int)))
  some (v4, ((), (x1, ((), (x2, ())))))
  else none
  else none
def P66 (x0 : Int) (x1 : (Option (List Int))) (x2 : (List Int)) : Bool := (hold (G66 x0 x1 x2)).isSome
def F66 (x0 : Int) (x1 : (Option (List Int))) (x2 : (List Int)) : (Bool × (Unit × ((Option (List Int)) × (Unit × ((List Int) × Unit))))) := (hold (G66 x0 x1 x2)).getD (Tup.zero pout66)
theorem P66_of (x0 : Int) (x1 : (Option (List Int))) (x2 : (List Int)) {r : (Bool × (Unit × ((Option (List Int)) × (Unit × ((List Int) × Unit)))))} (h : G66 x0 x1 x2 = some r) : P66 x0 x1 x2 = true := by unfold P66; rw [hold_eq, h]; rfl
theorem F66_of (x0 : Int) (x1 : (Option (List Int))) (x2 : (List Int)) {r : (Bool × (Unit × ((Option (List Int)) × (Unit × ((List Int) × Unit)))))} (h : G66 x0 x1 x2 = some r) : F66 x0 x1 x2 = r := by unfold F66; rw [hold_eq, h]; rfl
theorem ev66 (x0 : Int) (x1 : (Option (List Int))) (x2 : (List Int)) : ev2 env66 orc66 loops66 body66 (mkSt pin66 (x0, ((), ((), ((), (x1, ((), (x2, ())))))))) (retK3 env66 [.slot 4] pout66) = G66 x0 x1 x2 := by kernel_rfl
def sp66 : Spec2 := ⟨pin66, pout66, fun s => hold (G66 s.1 s.2.2.2.2.1 s.2.2.2.2.2.2.1)⟩
theorem fit66 : Fit Tryz.f66 [.slot 4] sp66 := ⟨by kernel_rfl, by kernel_rfl, by kernel_rfl, by kernel_rfl, by kernel_rfl, by decide, by decide, by decide⟩
theorem meets66 (hE : EnvOk Tryz.prog env66) (hm : Tryz.prog.follows .mixedOrders = true) : Meets2 Tryz.prog glob 66 sp66 :=
  meets2_of_ev2 (O := orc66) (L := loops66) (c := body66) (rs := [.slot 4]) hE (fun _ => rfl) hm Tryz.func66 Tryz.call66 (by kernel_rfl) (by kernel_rfl) loops66_ok (rangesOk_nil (by kernel_rfl)) fit66 (fun s o h => (ev66 s.1 s.2.2.2.2.1 s.2.2.2.2.2.2.1).trans ((hold_eq _).symm.trans h))
def pin67 : Shape := [(.slot 0, .dat (.int .i64)), (.slot 1, .fn 66 [50000, 50001]), (.box 50000, .bx 81 1), (.cell 50000 0, .dat (.bnd 64 (.list (.int .i64)))), (.box 50001, .bx 48 1), (.cell 50001 0, .dat (.list (.int .i64)))]
def pout67 : Shape := [(.slot 0, .dat (.int .i64)), (.box 50000, .bx 81 1), (.cell 50000 0, .dat (.bnd 64 (.list (.int .i64)))), (.box 50001, .bx 48 1), (.cell 50001 0, .dat (.list (.int .i64)))]
def env67 : Env := {
  tab := tab
  glob := glob
  spec := fun
    | _ => none
  spec2 := fun
    | 66, [] => some sp66
    | _, _ => none
  bldT := bldT
  bld := bldF }

def orc67 : Orc := ⟨26, fun _ => none, fun
  | 0 => kp [0, 1] [(50000, [0]), (50001, [0])]
  | 1 => kp [1, 5, 6] [(50000, [0]), (50001, [0])]
  | 2 => kp [1, 5, 6, 11] [(50000, [0]), (50001, [0])]
  | 3 => kp [1, 5, 6, 7] [(50000, [0]), (50001, [0])]
  | 4 => kp [1, 5, 6, 7, 21] [(50000, [0]), (50001, [0])]
  | 5 => kp [1, 5, 6] [(50000, [0]), (50001, [0])]
  | 6 => kp [1, 5, 6] [(50000, [0]), (50001, [0])]
  | 7 => kp [4] [(50000, [0]), (50001, [0])]
  | _ => [], fun | _ => false⟩
noncomputable def body67 : Code := Tryz.f67.body.getD .skip
def L67_2_sh : Shape := [(.slot 1, .fn 66 [50000, 50001]), (.slot 5, .dat (.int .i64)), (.slot 6, .dat (.int .i64)), (.box 50000, .bx 81 1), (.cell 50000 0, .dat (.bnd 64 (.list (.int .i64)))), (.box 50001, .bx 48 1), (.cell 50001 0, .dat (.list (.int .i64)))]
def L67_2_x0 : Shape := [(.slot 1, .fn 66 [50000, 50001]), (.slot 5, .dat (.int .i64)), (.slot 6, .dat (.int .i64)), (.box 50000, .bx 81 1), (.cell 50000 0, .dat (.bnd 64 (.list (.int .i64)))), (.box 50001, .bx 48 1), (.cell 50001 0, .dat (.list (.int .i64)))]
def L67_2_pk (s : Tup L67_2_sh) : Int × Int × (Option (List Int)) × (List Int) := (s.2.1, s.2.2.1, s.2.2.2.2.1, s.2.2.2.2.2.2.1)
def L67_2_un (s : Int × Int × (Option (List Int)) × (List Int)) : Tup L67_2_sh := ((), (s.1, (s.2.1, ((), (s.2.2.1, ((), (s.2.2.2, ())))))))
def L67_2_leave (x : (Int × Int × (Option (List Int)) × (List Int))) (R : Type) (K : Cont R) : Option R := match x with
  | a => K (.exit 0) (mkSt L67_2_x0 ((), (a.1, (a.2.1, ((), (a.2.2.1, ((), (a.2.2.2, ()))))))))
def L67_2_d (e : Exit) (st : St) : Option ((Int × Int × (Option (List Int)) × (List Int))) := match e with
  | .exit 0 => (match unSt L67_2_x0 st with
    | some s => some (s.2.1, s.2.2.1, s.2.2.2.2.1, s.2.2.2.2.2.2.1)
    | none => none)
  | _ => none
def L67_2_r (s0 : Int) (s1 : Int) (s2 : (Option (List Int))) (s3 : (List Int)) : Option ((Int × Int × (Option (List Int)) × (List Int)) ⊕ ((Int × Int × (Option (List Int)) × (List Int)))) :=
  let v1 : Bool := (decide (s0 < s1))
  bif v1 then
  let v2 : Int := (IntKind.i64.wrap (s0 + s1))
  let v3 : Int := (IntKind.u64.wrap v2)
  let v4 : Int := (Int.fdiv v3 (2 ^ min (Int.toNat (1 : Int)) (IntKind.u64.bits)))
  let v5 : Int := (IntKind.i64.wrap v4)
  bif (P66 v5 s2 s3) then
  let q6 : (Bool × (Unit × ((Option (List Int)) × (Unit × ((List Int) × Unit))))) := F66 v5 s2 s3
  let v7 : Bool := (!q6.1)
  bif v7 then
  let v8 : Int := (IntKind.i64.wrap (v5 + (1 : Int)))
  some (.inl (v8, s1, q6.2.2.1, q6.2.2.2.2.1))
  else
  some (.inl (s0, v5, q6.2.2.1, q6.2.2.2.2.1))
  else none
  else
  some (.inr (s0, s1, s2, s3))
def L67_2 : Int × Int × (Option (List Int)) × (List Int) → Option ((Int × Int × (Option (List Int)) × (List Int))) := Lim (fun s => L67_2_r s.1 s.2.1 s.2.2.1 s.2.2.2)
def L67_2_sum : Sum := limSum L67_2_sh L67_2_pk (fun s => L67_2_r s.1 s.2.1 s.2.2.1 s.2.2.2) L67_2_leave
theorem L67_2_nat : Natural L67_2_sum := natural_lim fun x R K => by
  rfl
theorem L67_2_dok : ∀ e st x, e ≠ .normal → L67_2_d e st = some x → ∀ R (K : Cont R), K e st = L67_2_leave x R K := by
  intro e st x _ h R K
  unfold L67_2_d at h
  split at h
  · split at h
    · rename_i s hs; cases h; rw [unSt_some hs]; rfl
    · cases h
  · cases h
def loops67 : Nat → Option (Sum) := fun | 2 => some L67_2_sum | _ => none
theorem loops67_nat : ∀ q f, loops67 q = some f → Natural f := by
  intro q f h
  unfold loops67 at h
  split at h
  · cases h; exact L67_2_nat
  · cases h
noncomputable def L67_2_code : Code := (loopsOf body67).getD 0 .skip
theorem L67_2_round (s0 : Int) (s1 : Int) (s2 : (Option (List Int))) (s3 : (List Int)) : ev2 env67 orc67 loops67 L67_2_code (mkSt L67_2_sh ((), (s0, (s1, ((), (s2, ((), (s3, ())))))))) (back L67_2_sh L67_2_pk L67_2_d) = L67_2_r s0 s1 s2 s3 := by kernel_rfl
theorem L67_2_ok : SumOk env67 orc67 loops67 L67_2_code L67_2_sum := sumOk_lim (un := L67_2_un) loops67_nat (fun _ => rfl) L67_2_dok fun s => L67_2_round s.1 s.2.1 s.2.2.1 s.2.2.2
theorem loops67_all : loopsOf body67 = [L67_2_code] := by kernel_rfl
theorem L67_2_key : lookL loops67 (keyOf L67_2_code) = some L67_2_sum := by kernel_rfl
theorem loops67_ok : LoopsOk env67 orc67 loops67 body67 := by
  intro c hc f hf
  rw [loops67_all] at hc
  simp only [List.mem_cons, List.not_mem_nil, or_false] at hc
  subst hc
  · rw [L67_2_key] at hf; cases hf; exact L67_2_ok
def G67 (x0 : Int) (x1 : (Option (List Int))) (x2 : (List Int)) : Option (Int × (Unit × ((Option (List Int)) × (Unit × ((List Int) × Unit))))) :=
  Option.bind (L67_2 ((0 : Int), x0, x1, x2)) fun (r9 : Int × Int × (Option (List Int)) × (List Int)) =>
  some (r9.1, ((), (r9.2.2.1, ((), (r9.2.2.2, ())))))
def P67 (x0 : Int) (x1 : (Option (List Int))) (x2 : (List Int)) : Bool := (hold (G67 x0 x1 x2)).isSome
def F67 (x0 : Int) (x1 : (Option (List Int))) (x2 : (List Int)) : (Int × (Unit × ((Option (List Int)) × (Unit × ((List Int) × Unit))))) := (hold (G67 x0 x1 x2)).getD (Tup.zero pout67)
theorem P67_of (x0 : Int) (x1 : (Option (List Int))) (x2 : (List Int)) {r : (Int × (Unit × ((Option (List Int)) × (Unit × ((List Int) × Unit)))))} (h : G67 x0 x1 x2 = some r) : P67 x0 x1 x2 = true := by unfold P67; rw [hold_eq, h]; rfl
theorem F67_of (x0 : Int) (x1 : (Option (List Int))) (x2 : (List Int)) {r : (Int × (Unit × ((Option (List Int)) × (Unit × ((List Int) × Unit)))))} (h : G67 x0 x1 x2 = some r) : F67 x0 x1 x2 = r := by unfold F67; rw [hold_eq, h]; rfl
theorem ev67 (x0 : Int) (x1 : (Option (List Int))) (x2 : (List Int)) : ev2 env67 orc67 loops67 body67 (mkSt pin67 (x0, ((), ((), (x1, ((), (x2, ()))))))) (retK3 env67 [.slot 4] pout67) = G67 x0 x1 x2 := by kernel_rfl
def sp67 : Spec2 := ⟨pin67, pout67, fun s => hold (G67 s.1 s.2.2.2.1 s.2.2.2.2.2.1)⟩
theorem fit67 : Fit Tryz.f67 [.slot 4] sp67 := ⟨by kernel_rfl, by kernel_rfl, by kernel_rfl, by kernel_rfl, by kernel_rfl, by decide, by decide, by decide⟩
theorem meets67 (hE : EnvOk Tryz.prog env67) (hm : Tryz.prog.follows .mixedOrders = true) : Meets2 Tryz.prog glob 67 sp67 :=
  meets2_of_ev2 (O := orc67) (L := loops67) (c := body67) (rs := [.slot 4]) hE (fun _ => rfl) hm Tryz.func67 Tryz.call67 (by kernel_rfl) (by kernel_rfl) loops67_ok (rangesOk_nil (by kernel_rfl)) fit67 (fun s o h => (ev67 s.1 s.2.2.2.1 s.2.2.2.2.2.1).trans ((hold_eq _).symm.trans h))
def pin42 : Shape := [(.slot 0, .dat (.list (.int .i64))), (.slot 1, .dat (.list (.int .i64)))]
def pout42 : Shape := [(.slot 0, .dat (.list (.int .i64))), (.slot 1, .dat (.list (.int .i64)))]
def env42 : Env := {
  tab := tab
  glob := glob
  spec := fun
    | 45 => some spec45
    | 64 => some spec64
    | 65 => some spec65
    | _ => none
  spec2 := fun
    | 60, [] => some sp60
    | 67, [66] => some sp67
    | _, _ => none
  bldT := bldT
  bld := bldF }

def orc42 : Orc := ⟨41, fun _ => none, fun
  | 0 => kp [0, 3, 4, 5] [(3, [0]), (4, [0]), (5, [0])]
  | 1 => kp [0, 3, 4, 5] [(3, [0]), (4, [0]), (5, [0])]
  | 2 => kp [3, 4, 5, 14] [(3, [0]), (4, [0]), (5, [])] ++ [(.cell 5 0, .frz)] ++ kp [] [(1500001, [0])]
  | 3 => kp [3, 4, 5, 6, 14, 16] [(3, [0]), (4, [0]), (5, [0])]
  | 4 => kp [3, 4, 5, 6, 7, 14] [(3, [0]), (4, [0]), (5, [0])]
  | 5 => kp [3, 4, 5, 6, 14] [(3, [0]), (4, [0]), (5, [0])]
  | 6 => kp [3, 4, 5, 6, 8, 14] [(3, [0]), (4, [0]), (5, [0]), (8, [0])]
  | 7 => kp [3, 4, 5, 6, 8, 9, 14] [(3, [0]), (4, [0]), (5, [0]), (8, [0])]
  | 8 => kp [3, 4, 5, 6, 8, 14] [(3, [0]), (4, [0]), (5, [0]), (8, [0])]
  | 9 => kp [3, 4, 5, 14] [(3, [0]), (4, [0]), (5, [0])]
  | 10 => kp [4, 5] [(4, [0]), (5, [0])]
  | _ => [], fun | _ => false⟩
noncomputable def body42 : Code := Tryz.f42.body.getD .skip
def R42_3_esh : Shape := [(.slot 3, .ptr 3 0), (.slot 4, .ptr 4 0), (.slot 5, .ptr 5 0), (.box 3, .bx 48 1), (.cell 3 0, .dat (.list (.int .i64))), (.box 4, .bx 48 1), (.cell 4 0, .own 3 (.int .i64)), (.box 5, .bx 48 1), (.cell 5 0, .dat (.list (.int .i64)))]
def R42_3_pk (s : Tup R42_3_esh) : (List Int) × (List Int) × (List Int) := (s.2.2.2.2.1, s.2.2.2.2.2.2.1, s.2.2.2.2.2.2.2.2.1)
def R42_3_un (s : (List Int) × (List Int) × (List Int)) : Tup R42_3_esh := ((), ((), ((), ((), (s.1, ((), (s.2.1, ((), (s.2.2, ())))))))))
def R42_3_xo (x : ((List Int) × (List Int) × (List Int))) : Exit × Tup R42_3_esh := match x with
  | a => (.ret, R42_3_un a)
def R42_3_leave (x : ((List Int) × (List Int) × (List Int))) (R : Type) (K : Cont R) : Option R := match x with
  | a => K .ret (mkSt R42_3_esh (R42_3_un a))
theorem R42_3_lv (x : ((List Int) × (List Int) × (List Int))) (R : Type) (K : Cont R) : R42_3_leave x R K = K (R42_3_xo x).1 (mkSt R42_3_esh (R42_3_xo x).2) := by
  rfl
def R42_3_d (e : Exit) (s : Tup R42_3_esh) : Option (((List Int) × (List Int) × (List Int))) := match e with
  | _ => none
theorem R42_3_dk : ∀ x e v, R42_3_d x e = some v → R42_3_xo v = (x, e) ∧ ∃ c, jumpOf x = some c := by
  intro x e v h
  cases x <;> cases h
def R42_3_r (s0 : (List Int)) (s1 : (List Int)) (s2 : (List Int)) (y0 : Int) (y1 : Int) : Option (((List Int) × (List Int) × (List Int)) ⊕ (((List Int) × (List Int) × (List Int)))) :=
  let v8 : (List Int) := (List.set (List.replicate 1 (0 : Int)) 0 y1)
  bif (decide (List.length (List.take (List.length v8) v8) + List.length s2 ≤ 100000000000)) then
  let v9 : (List Int) := ((List.take (List.length v8) v8) ++ s2)
  bif (P65 v9) then
  let v10 : (List Int) := (F65 v9)
  let v11 : (Option (List Int)) := (some s0)
  let v12 : (Option (List Int)) := (none : (Option (List Int)))
  bif (P67 (9999 : Int) v11 v10) then
  let q13 : (Int × (Unit × ((Option (List Int)) × (Unit × ((List Int) × Unit))))) := F67 (9999 : Int) v11 v10
  bif (decide (0 ≤ y0) && decide (y0 < (List.length s1))) then
  bif (decide ((Int.toNat y0) < List.length s1)) then
  let v14 : (List Int) := (List.set s1 (Int.toNat y0) q13.1)
  bif (decide (0 ≤ y0) && decide (y0 < (List.length v14))) then
  bif (decide ((Int.toNat y0) < List.length v14)) then
  let v15 : Int := (List.getD v14 (Int.toNat y0) (0 : Int))
  bif (Option.isSome q13.2.2.1 && (P64 (Option.getD q13.2.2.1 ([] : (List Int))) v15)) then
  let v16 : (List Int) := (F64 (Option.getD q13.2.2.1 ([] : (List Int))) v15)
  bif (P45 q13.2.2.2.2.1 v16) then
  let v17 : (List Int) := (F45 q13.2.2.2.2.1 v16)
  some (.inl (s0, v14, v17))
  else none
  else none
  else none
  else none
  else none
  else none
  else none
  else none
  else none
def R42_3_step (b : (List Int) × (List Int) × (List Int)) (y : Y78) : Option (((List Int) × (List Int) × (List Int)) ⊕ (((List Int) × (List Int) × (List Int)))) := R42_3_r b.1 b.2.1 b.2.2 y.1 y.2
def loops42 : Nat → Option (Sum) := fun | 3 => some (rangeSum env42 78 14 R42_3_esh I78 R42_3_pk R42_3_un R42_3_step R42_3_leave) | _ => none
theorem loops42_ok : LoopsOk env42 orc42 loops42 body42 := loopsOk_nil (by kernel_rfl)
noncomputable def R42_3_code : Code := (rangesOf body42).getD 0 .skip
theorem R42_3_round (s0 : (List Int)) (s1 : (List Int)) (s2 : (List Int)) (y0 : Int) (y1 : Int) : roundQ env42 orc42 loops42 R42_3_esh R42_3_pk R42_3_d R42_3_code (I78.enc (y0, y1)) ((), ((), ((), ((), (s0, ((), (s1, ((), (s2, ()))))))))) = R42_3_r s0 s1 s2 y0 y1 := by kernel_rfl
theorem R42_3_form : R42_3_code = .rangeFunc (.tmp 14) (rgPs R42_3_code) (rgAsg R42_3_code) (rgBody R42_3_code) := by kernel_rfl
theorem R42_3_len (y : Y78) : (rgPs R42_3_code).toList.length = (I78.enc y).length := by kernel_rfl
theorem R42_3_ok (hE : EnvOk Tryz.prog env42) (hm : Tryz.prog.follows .mixedOrders = true) (hI : IterOk Tryz.prog glob 78 I78) : RangeOk Tryz.prog env42 orc42.n R42_3_code (rangeSum env42 78 14 R42_3_esh I78 R42_3_pk R42_3_un R42_3_step R42_3_leave) :=
  rangeOk' (L := loops42) hE hm hI R42_3_form (loopsOk_nil (by kernel_rfl)) (loopsOk_nil (by kernel_rfl)) (by kernel_rfl) (by kernel_rfl) (by kernel_rfl) (by kernel_rfl) (pk := R42_3_pk) (un := R42_3_un) (fun _ => rfl) R42_3_dk R42_3_lv R42_3_len fun b y => R42_3_round b.1 b.2.1 b.2.2 y.1 y.2
theorem ranges42_all : rangesOf body42 = [R42_3_code] := by kernel_rfl
theorem R42_3_key : lookL loops42 (keyOf R42_3_code) = some (rangeSum env42 78 14 R42_3_esh I78 R42_3_pk R42_3_un R42_3_step R42_3_leave) := by kernel_rfl
theorem ranges42_ok (hE : EnvOk Tryz.prog env42) (hm : Tryz.prog.follows .mixedOrders = true) (hI78 : IterOk Tryz.prog glob 78 I78) : RangesOk Tryz.prog env42 orc42.n loops42 body42 := by
  intro c hc f hf
  rw [ranges42_all] at hc
  simp only [List.mem_cons, List.not_mem_nil, or_false] at hc
  subst hc
  · rw [R42_3_key] at hf; cases hf; exact R42_3_ok hE hm hI78
def G42 (x0 : (List Int)) (x1 : (List Int)) : Option ((List Int) × ((List Int) × Unit)) :=
  let v1 : (List Int) := ([] : (List Int))
  let v2 : (List Int) := ([] : (List Int))
  let v3 : (List Int) := ([] : (List Int))
  let v4 : (List Int) := ([] : (List Int))
  let v5 : Int := ((List.length x0 : Nat) : Int)
  bif (decide (0 ≤ v5) && decide (v5 ≤ v5) && decide (v5 ≤ 100000000000)) then
  let v6 : (List Int) := (List.replicate (Int.toNat v5) (0 : Int))
  bif (P60 x0) then
  let q7 : (Unit × (Unit × ((List Int) × Unit))) := F60 x0
  Option.bind ((W78 q7.2.2.1).ys) fun ys => Option.bind (foldX R42_3_step ys (x1, v6, v4)) fun z => match z with
  | .inl (r18 : (List Int) × (List Int) × (List Int)) =>
  bif (P65 (List.take (List.length r18.2.1) r18.2.1)) then
  let v19 : (List Int) := (F65 (List.take (List.length r18.2.1) r18.2.1))
  some (v19, (r18.2.2, ()))
  else none
  | .inr r18 =>
  none
  else none
  else none
def P42 (x0 : (List Int)) (x1 : (List Int)) : Bool := (hold (G42 x0 x1)).isSome
def F42 (x0 : (List Int)) (x1 : (List Int)) : ((List Int) × ((List Int) × Unit)) := (hold (G42 x0 x1)).getD (Tup.zero pout42)
theorem P42_of (x0 : (List Int)) (x1 : (List Int)) {r : ((List Int) × ((List Int) × Unit))} (h : G42 x0 x1 = some r) : P42 x0 x1 = true := by unfold P42; rw [hold_eq, h]; rfl
theorem F42_of (x0 : (List Int)) (x1 : (List Int)) {r : ((List Int) × ((List Int) × Unit))} (h : G42 x0 x1 = some r) : F42 x0 x1 = r := by unfold F42; rw [hold_eq, h]; rfl
theorem ev42 (x0 : (List Int)) (x1 : (List Int)) : ev2 env42 orc42 loops42 body42 (mkSt pin42 (x0, (x1, ()))) (retK3 env42 [.cell 4 48, .cell 5 48] pout42) = G42 x0 x1 := by kernel_rfl
def sp42 : Spec2 := ⟨pin42, pout42, fun s => hold (G42 s.1 s.2.1)⟩
theorem fit42 : Fit Tryz.f42 [.cell 4 48, .cell 5 48] sp42 := ⟨by kernel_rfl, by kernel_rfl, by kernel_rfl, by kernel_rfl, by kernel_rfl, by decide, by decide, by decide⟩
theorem meets42 (hE : EnvOk Tryz.prog env42) (hm : Tryz.prog.follows .mixedOrders = true) (hI78 : IterOk Tryz.prog glob 78 I78) : Meets2 Tryz.prog glob 42 sp42 :=
  meets2_of_ev2 (O := orc42) (L := loops42) (c := body42) (rs := [.cell 4 48, .cell 5 48]) hE (fun _ => rfl) hm Tryz.func42 Tryz.call42 (by kernel_rfl) (by kernel_rfl) loops42_ok (ranges42_ok hE hm hI78) fit42 (fun s o h => (ev42 s.1 s.2.1).trans ((hold_eq _).symm.trans h))
def env44 : Env := {
  tab := tab
  glob := glob
  spec := fun
    | _ => none
  bldT := bldT
  bld := bldF }

def orc44 : Orc := ⟨2, fun _ => none, fun
  | 0 => []
  | 1 => kp [0] []
  | _ => [], fun | _ => false⟩
noncomputable def body44 : Code := Tryz.f44.body.getD .skip
def loops44 : Nat → Option (Sum) := fun | _ => none
theorem loops44_nat : ∀ q f, loops44 q = some f → Natural f := by
  intro q f h
  cases h
theorem loops44_ok : LoopsOk env44 orc44 loops44 body44 := loopsOk_nil (by kernel_rfl)
def G44  : Option ((List Int)) :=
  let v1 : (List Int) := ([] : (List Int))
  let v2 : (List Int) := (List.set (List.replicate 1 (0 : Int)) 0 (1 : Int))
  some (v2)
theorem ev44  : ev2 env44 orc44 loops44 body44 (initSt 0 []) (retT [(0, .dat (.list (.int .i64)))] [(.list (.int .i64))] fun x => x.1) = G44  := by kernel_rfl
def P44  : Bool := (hold (G44 )).isSome
def F44  : (List Int) := (hold (G44 )).getD default
theorem G44_some  (h : P44  = true) : G44  = some (F44 ) := by
  unfold P44 at h; unfold F44
  rw [hold_eq] at h ⊢
  exact some_getD h
theorem P44_of  {r : (List Int)} (h : G44  = some r) : P44  = true := by unfold P44; rw [hold_eq, h]; rfl
theorem F44_of  {r : (List Int)} (h : G44  = some r) : F44  = r := by unfold F44; rw [hold_eq, h]; rfl
def spec44 : Spec := ⟨[], [.dat (.list (.int .i64))], fun | [] => P44 | _ => false, fun | [] => [⟨(.list (.int .i64)), F44⟩] | _ => []⟩
theorem meets44 (hE : EnvOk Tryz.prog env44) (hm : Tryz.prog.follows .mixedOrders = true) : Meets Tryz.prog glob 44 spec44 :=
  meets_of_ev2 (O := orc44) (L := loops44) (c := body44) (slots := [0]) hE hm Tryz.func44 Tryz.call44 (by kernel_rfl) (by kernel_rfl) loops44_ok (rangesOk_nil (by kernel_rfl)) (by kernel_rfl) rfl (by decide) (fun ds hds hpre => by
  have h9 := dats0 hds; subst h9
  exact ev_ret (un := fun r => [⟨(.list (.int .i64)), r⟩]) loops44_nat (fun _ => rfl) ((ev44 ).trans (G44_some  hpre)))
def env17 : Env := {
  tab := tab
  glob := glob
  spec := fun
    | 40 => some spec40
    | 43 => some spec43
    | 44 => some spec44
    | 45 => some spec45
    | _ => none
  spec2 := fun
    | 38, [] => some sp38
    | 42, [] => some sp42
    | _, _ => none
  bldT := bldT
  bld := bldF }

def orc17 : Orc := ⟨75, fun _ => none, fun
  | 0 => kp [0, 1] []
  | 1 => kp [7, 8, 9] [(7, [0, 1]), (8, [0, 1])]
  | 2 => kp [7, 8, 30] [(7, [0, 1]), (8, [0, 1])]
  | 3 => kp [4, 5, 6] []
  | 4 => kp [7, 8, 10, 11] [(7, [0, 1]), (8, [0, 1])]
  | 5 => kp [7, 8, 10, 11, 45] [(7, [0, 1]), (8, [0, 1])]
  | 6 => kp [7, 8, 10, 11] [(7, [0, 1]), (8, [0, 1])]
  | 7 => kp [11, 12, 13] []
  | 8 => kp [11, 12, 13, 65] []
  | 9 => kp [4, 5, 6] []
  | 10 => kp [12, 14] []
  | 11 => kp [4, 5, 6] []
  | _ => [], fun | _ => false⟩
noncomputable def body17 : Code := Tryz.f17.body.getD .skip
def loops17 : Nat → Option (Sum) := fun | _ => none
theorem loops17_nat : ∀ q f, loops17 q = some f → Natural f := by
  intro q f h
  cases h
theorem loops17_ok : LoopsOk env17 orc17 loops17 body17 := loopsOk_nil (by kernel_rfl)
def G17 (x0 : (List UInt8)) (x1 : (List UInt8)) : Option ((List UInt8) × (List UInt8) × Int) :=
  bif (P38 x0 x1) then
  let q1 : (D49 × (D49 × (Bool × Unit))) := F38 x0 x1
  let v2 : (List Int) := ([] : (List Int))
  let v3 : (List Int) := ([] : (List Int))
  let v4 : (List Int) := ([] : (List Int))
  let v5 : (List Int) := ([] : (List Int))
  let v6 : Bool := (!q1.2.2.1)
  let v7 : Int := ((List.length q1.2.1.2.1 : Nat) : Int)
  let v8 : Bool := (v7 == (0 : Int))
  let v9 : Bool := (bif v6 then true else v8)
  bif v9 then
  some (([] : List UInt8), ([] : List UInt8), (30 : Int))
  else
  bif (P42 q1.1.2.1 q1.2.1.2.1) then
  let q10 : ((List Int) × ((List Int) × Unit)) := F42 q1.1.2.1 q1.2.1.2.1
  let v11 : Int := ((List.length q10.2.1 : Nat) : Int)
  let v12 : Bool := (decide (v11 > (0 : Int)))
  let v13 : Bool := (bif q1.1.1 then v12 else false)
  bif v13 then
  bif (P44 ) then
  bif (P43 q10.1 F44) then
  let v14 : (List Int) := (F43 q10.1 F44)
  bif (P45 q1.2.1.2.1 q10.2.1) then
  let v15 : (List Int) := (F45 q1.2.1.2.1 q10.2.1)
  let v16 : Bool := (!(eqv .bool q1.1.1 q1.2.1.1))
  bif (P40 (v16, (v14, ()))) then
  let v17 : ((List UInt8) × Int) := (F40 (v16, (v14, ())))
  let v18 : Bool := (v17.2 != (0 : Int))
  bif v18 then
  some (([] : List UInt8), ([] : List UInt8), v17.2)
  else
  bif (P40 (false, (v15, ()))) then
  let v19 : ((List UInt8) × Int) := (F40 (false, (v15, ())))
  some (v17.1, v19.1, (0 : Int))
  else none
  else none
  else none
  else none
  else none
  else
  let v20 : Bool := (!(eqv .bool q1.1.1 q1.2.1.1))
  bif (P40 (v20, (q10.1, ()))) then
  let v21 : ((List UInt8) × Int) := (F40 (v20, (q10.1, ())))
  let v22 : Bool := (v21.2 != (0 : Int))
  bif v22 then
  some (([] : List UInt8), ([] : List UInt8), v21.2)
  else
  bif (P40 (false, q10.2)) then
  let v23 : ((List UInt8) × Int) := (F40 (false, q10.2))
  some (v21.1, v23.1, (0 : Int))
  else none
  else none
  else none
  else none
theorem ev17 (x0 : (List UInt8)) (x1 : (List UInt8)) : ev2 env17 orc17 loops17 body17 (initSt 0 [⟨.str, x0⟩, ⟨.str, x1⟩]) (retT [(4, .dat .str), (5, .dat .str), (6, .dat (.int .i64))] [.str, .str, (.int .i64)] fun x => (x.1, x.2.1, x.2.2.1)) = G17 x0 x1 := by kernel_rfl
def P17 (x0 : (List UInt8)) (x1 : (List UInt8)) : Bool := (hold (G17 x0 x1)).isSome
def F17 (x0 : (List UInt8)) (x1 : (List UInt8)) : (List UInt8) × (List UInt8) × Int := (hold (G17 x0 x1)).getD default
theorem G17_some (x0 : (List UInt8)) (x1 : (List UInt8)) (h : P17 x0 x1 = true) : G17 x0 x1 = some (F17 x0 x1) := by
  unfold P17 at h; unfold F17
  rw [hold_eq] at h ⊢
  exact some_getD h
theorem P17_of (x0 : (List UInt8)) (x1 : (List UInt8)) {r : (List UInt8) × (List UInt8) × Int} (h : G17 x0 x1 = some r) : P17 x0 x1 = true := by unfold P17; rw [hold_eq, h]; rfl
theorem F17_of (x0 : (List UInt8)) (x1 : (List UInt8)) {r : (List UInt8) × (List UInt8) × Int} (h : G17 x0 x1 = some r) : F17 x0 x1 = r := by unfold F17; rw [hold_eq, h]; rfl
def spec17 : Spec := ⟨[.str, .str], [.dat .str, .dat .str, .dat (.int .i64)], fun | [a0, a1] => P17 (a0.as .str) (a1.as .str) | _ => false, fun | [a0, a1] => [⟨.str, (F17 (a0.as .str) (a1.as .str)).1⟩, ⟨.str, (F17 (a0.as .str) (a1.as .str)).2.1⟩, ⟨(.int .i64), (F17 (a0.as .str) (a1.as .str)).2.2⟩] | _ => []⟩
theorem meets17 (hE : EnvOk Tryz.prog env17) (hm : Tryz.prog.follows .mixedOrders = true) : Meets Tryz.prog glob 17 spec17 :=
  meets_of_ev2 (O := orc17) (L := loops17) (c := body17) (slots := [4, 5, 6]) hE hm Tryz.func17 Tryz.call17 (by kernel_rfl) (by kernel_rfl) loops17_ok (rangesOk_nil (by kernel_rfl)) (by kernel_rfl) rfl (by decide) (fun ds hds hpre => by
  obtain ⟨x0, ds0, rfl, h0⟩ := datsS hds
  obtain ⟨x1, ds1, rfl, h1⟩ := datsS h0
  have h9 := dats0 h1; subst h9
  exact ev_ret (un := fun r => [⟨.str, r.1⟩, ⟨.str, r.2.1⟩, ⟨(.int .i64), r.2.2⟩]) loops17_nat (fun _ => rfl) ((ev17 x0 x1).trans (G17_some x0 x1 hpre)))
def env20 : Env := {
  tab := tab
  glob := glob
  spec := fun
    | 40 => some spec40
    | _ => none
  spec2 := fun
    | 38, [] => some sp38
    | 42, [] => some sp42
    | _, _ => none
  bldT := bldT
  bld := bldF }

def orc20 : Orc := ⟨42, fun _ => none, fun
  | 0 => kp [0, 1] []
  | 1 => kp [6, 7, 8] [(6, [0, 1]), (7, [0, 1])]
  | 2 => kp [6, 7, 21] [(6, [0, 1]), (7, [0, 1])]
  | 3 => kp [4, 5] []
  | 4 => kp [9, 10] []
  | 5 => kp [9, 10, 28] []
  | 6 => kp [10, 12] []
  | 7 => kp [9, 10] []
  | 8 => kp [4, 5] []
  | _ => [], fun | _ => false⟩
noncomputable def body20 : Code := Tryz.f20.body.getD .skip
def L20_5_sh : Shape := [(.slot 9, .dat (.list (.int .i64))), (.slot 10, .dat (.list (.int .i64)))]
def L20_5_x0 : Shape := [(.slot 9, .dat (.list (.int .i64))), (.slot 10, .dat (.list (.int .i64)))]
def L20_5_pk (s : Tup L20_5_sh) : (List Int) × (List Int) := (s.1, s.2.1)
def L20_5_un (s : (List Int) × (List Int)) : Tup L20_5_sh := (s.1, (s.2, ()))
def L20_5_leave (x : ((List Int) × (List Int))) (R : Type) (K : Cont R) : Option R := match x with
  | a => K (.exit 0) (mkSt L20_5_x0 (a.1, (a.2, ())))
def L20_5_d (e : Exit) (st : St) : Option (((List Int) × (List Int))) := match e with
  | .exit 0 => (match unSt L20_5_x0 st with
    | some s => some (s.1, s.2.1)
    | none => none)
  | _ => none
def L20_5_r (s0 : (List Int)) (s1 : (List Int)) : Option (((List Int) × (List Int)) ⊕ (((List Int) × (List Int)))) :=
  let v7 : Int := ((List.length s1 : Nat) : Int)
  let v8 : Bool := (decide (v7 > (0 : Int)))
  bif v8 then
  bif (P42 s0 s1) then
  let q9 : ((List Int) × ((List Int) × Unit)) := F42 s0 s1
  some (.inl (s1, q9.2.1))
  else none
  else
  some (.inr (s0, s1))
def L20_5 : (List Int) × (List Int) → Option (((List Int) × (List Int))) := Lim (fun s => L20_5_r s.1 s.2)
def L20_5_sum : Sum := limSum L20_5_sh L20_5_pk (fun s => L20_5_r s.1 s.2) L20_5_leave
theorem L20_5_nat : Natural L20_5_sum := natural_lim fun x R K => by
  rfl
theorem L20_5_dok : ∀ e st x, e ≠ .normal → L20_5_d e st = some x → ∀ R (K : Cont R), K e st = L20_5_leave x R K := by
  intro e st x _ h R K
  unfold L20_5_d at h
  split at h
  · split at h
    · rename_i s hs; cases h; rw [unSt_some hs]; rfl
    · cases h
  · cases h
def loops20 : Nat → Option (Sum) := fun | 5 => some L20_5_sum | _ => none
theorem loops20_nat : ∀ q f, loops20 q = some f → Natural f := by
  intro q f h
  unfold loops20 at h
  split at h
  · cases h; exact L20_5_nat
  · cases h
noncomputable def L20_5_code : Code := (loopsOf body20).getD 0 .skip
theorem L20_5_round (s0 : (List Int)) (s1 : (List Int)) : ev2 env20 orc20 loops20 L20_5_code (mkSt L20_5_sh (s0, (s1, ()))) (back L20_5_sh L20_5_pk L20_5_d) = L20_5_r s0 s1 := by kernel_rfl
theorem L20_5_ok : SumOk env20 orc20 loops20 L20_5_code L20_5_sum := sumOk_lim (un := L20_5_un) loops20_nat (fun _ => rfl) L20_5_dok fun s => L20_5_round s.1 s.2
theorem loops20_all : loopsOf body20 = [L20_5_code] := by kernel_rfl
theorem L20_5_key : lookL loops20 (keyOf L20_5_code) = some L20_5_sum := by kernel_rfl
theorem loops20_ok : LoopsOk env20 orc20 loops20 body20 := by
  intro c hc f hf
  rw [loops20_all] at hc
  simp only [List.mem_cons, List.not_mem_nil, or_false] at hc
  subst hc
  · rw [L20_5_key] at hf; cases hf; exact L20_5_ok
def G20 (x0 : (List UInt8)) (x1 : (List UInt8)) : Option ((List UInt8) × Int) :=
  bif (P38 x0 x1) then
  let q1 : (D49 × (D49 × (Bool × Unit))) := F38 x0 x1
  let v2 : (List Int) := ([] : (List Int))
  let v3 : (List Int) := ([] : (List Int))
  let v4 : (List Int) := ([] : (List Int))
  let v5 : (List Int) := ([] : (List Int))
  let v6 : Bool := (!q1.2.2.1)
  bif v6 then
  some (([] : List UInt8), (30 : Int))
  else
  Option.bind (L20_5 (q1.1.2.1, q1.2.1.2.1)) fun (r10 : (List Int) × (List Int)) =>
  bif (P40 (false, (r10.1, ()))) then
  let v11 : ((List UInt8) × Int) := (F40 (false, (r10.1, ())))
  some v11
  else none
  else none
theorem ev20 (x0 : (List UInt8)) (x1 : (List UInt8)) : ev2 env20 orc20 loops20 body20 (initSt 0 [⟨.str, x0⟩, ⟨.str, x1⟩]) (retT [(4, .dat .str), (5, .dat (.int .i64))] [.str, (.int .i64)] fun x => (x.1, x.2.1)) = G20 x0 x1 := by kernel_rfl
def P20 (x0 : (List UInt8)) (x1 : (List UInt8)) : Bool := (hold (G20 x0 x1)).isSome
def F20 (x0 : (List UInt8)) (x1 : (List UInt8)) : (List UInt8) × Int := (hold (G20 x0 x1)).getD default
theorem G20_some (x0 : (List UInt8)) (x1 : (List UInt8)) (h : P20 x0 x1 = true) : G20 x0 x1 = some (F20 x0 x1) := by
  unfold P20 at h; unfold F20
  rw [hold_eq] at h ⊢
  exact some_getD h
theorem P20_of (x0 : (List UInt8)) (x1 : (List UInt8)) {r : (List UInt8) × Int} (h : G20 x0 x1 = some r) : P20 x0 x1 = true := by unfold P20; rw [hold_eq, h]; rfl
theorem F20_of (x0 : (List UInt8)) (x1 : (List UInt8)) {r : (List UInt8) × Int} (h : G20 x0 x1 = some r) : F20 x0 x1 = r := by unfold F20; rw [hold_eq, h]; rfl
def spec20 : Spec := ⟨[.str, .str], [.dat .str, .dat (.int .i64)], fun | [a0, a1] => P20 (a0.as .str) (a1.as .str) | _ => false, fun | [a0, a1] => [⟨.str, (F20 (a0.as .str) (a1.as .str)).1⟩, ⟨(.int .i64), (F20 (a0.as .str) (a1.as .str)).2⟩] | _ => []⟩
theorem meets20 (hE : EnvOk Tryz.prog env20) (hm : Tryz.prog.follows .mixedOrders = true) : Meets Tryz.prog glob 20 spec20 :=
  meets_of_ev2 (O := orc20) (L := loops20) (c := body20) (slots := [4, 5]) hE hm Tryz.func20 Tryz.call20 (by kernel_rfl) (by kernel_rfl) loops20_ok (rangesOk_nil (by kernel_rfl)) (by kernel_rfl) rfl (by decide) (fun ds hds hpre => by
  obtain ⟨x0, ds0, rfl, h0⟩ := datsS hds
  obtain ⟨x1, ds1, rfl, h1⟩ := datsS h0
  have h9 := dats0 h1; subst h9
  exact ev_ret (un := fun r => [⟨.str, r.1⟩, ⟨(.int .i64), r.2⟩]) loops20_nat (fun _ => rfl) ((ev20 x0 x1).trans (G20_some x0 x1 hpre)))
def env21 : Env := {
  tab := tab
  glob := glob
  spec := fun
    | 40 => some spec40
    | 43 => some spec43
    | _ => none
  spec2 := fun
    | 38, [] => some sp38
    | 42, [] => some sp42
    | 46, [] => some sp46
    | _, _ => none
  bldT := bldT
  bld := bldF }

def orc21 : Orc := ⟨61, fun _ => none, fun
  | 0 => kp [0] []
  | 1 => kp [4, 6] [(4, [0, 1])]
  | 2 => kp [4, 23] [(4, [0, 1])]
  | 3 => kp [2, 3] []
  | 4 => kp [4] [] ++ [(.slot 7, .frz)] ++ kp [] [(4, [0, 1])]
  | 5 => kp [4, 7, 35] [(4, [0, 1])]
  | 6 => kp [4, 7, 8] [(4, [0, 1])]
  | 7 => kp [4, 7, 10] [(4, [0, 1])]
  | 8 => kp [4, 7, 10, 54] [(4, [0, 1])]
  | 9 => kp [2, 3] []
  | 10 => kp [4, 7] [(4, [0, 1])]
  | 11 => kp [2, 3] []
  | _ => [], fun | _ => false⟩
noncomputable def body21 : Code := Tryz.f21.body.getD .skip
def L21_5_sh : Shape := [(.slot 4, .ptr 4 0), (.slot 7, .dat (.list (.int .i64))), (.box 4, .bx 50 2), (.cell 4 0, .dat .bool), (.cell 4 1, .dat (.list (.int .i64)))]
def L21_5_x0 : Shape := [(.slot 2, .dat .str), (.slot 3, .dat (.int .i64))]
def L21_5_x1 : Shape := [(.slot 4, .ptr 4 0), (.slot 7, .dat (.list (.int .i64))), (.box 4, .bx 50 2), (.cell 4 0, .dat .bool), (.cell 4 1, .dat (.list (.int .i64)))]
def L21_5_pk (s : Tup L21_5_sh) : (List Int) × Bool × (List Int) := (s.2.1, s.2.2.2.1, s.2.2.2.2.1)
def L21_5_un (s : (List Int) × Bool × (List Int)) : Tup L21_5_sh := ((), (s.1, ((), (s.2.1, (s.2.2, ())))))
def L21_5_leave (x : ((List UInt8) × Int) ⊕ ((List Int) × Bool × (List Int))) (R : Type) (K : Cont R) : Option R := match x with
  | (.inl a) => K .ret (mkSt L21_5_x0 (a.1, (a.2, ())))
  | (.inr a) => K (.exit 0) (mkSt L21_5_x1 ((), (a.1, ((), (a.2.1, (a.2.2, ()))))))
def L21_5_d (e : Exit) (st : St) : Option (((List UInt8) × Int) ⊕ ((List Int) × Bool × (List Int))) := match e with
  | .ret => (match unSt L21_5_x0 st with
    | some s => some (.inl (s.1, s.2.1))
    | none => none)
  | .exit 0 => (match unSt L21_5_x1 st with
    | some s => some (.inr (s.2.1, s.2.2.2.1, s.2.2.2.2.1))
    | none => none)
  | _ => none
def L21_5_r (s0 : (List Int)) (s1 : Bool) (s2 : (List Int)) : Option (((List Int) × Bool × (List Int)) ⊕ (((List UInt8) × Int) ⊕ ((List Int) × Bool × (List Int)))) :=
  let v14 : Int := ((List.length s2 : Nat) : Int)
  let v15 : Bool := (decide (v14 > (0 : Int)))
  bif v15 then
  bif (P42 s2 s0) then
  let q16 : ((List Int) × ((List Int) × Unit)) := F42 s2 s0
  bif (P43 s0 q16.1) then
  let v17 : (List Int) := (F43 s0 q16.1)
  let v18 : (List Int) := (List.set (List.replicate 1 (0 : Int)) 0 (2 : Int))
  bif (P42 v17 v18) then
  let q19 : ((List Int) × ((List Int) × Unit)) := F42 v17 v18
  bif (P46 q19.1 s0) then
  let q20 : (Int × Unit) := F46 q19.1 s0
  let v21 : Bool := (decide (q20.1 ≥ (0 : Int)))
  bif v21 then
  bif (P40 (false, (s0, ()))) then
  let v22 : ((List UInt8) × Int) := (F40 (false, (s0, ())))
  some (.inr (.inl v22))
  else none
  else
  some (.inl (q19.1, s1, s2))
  else none
  else none
  else none
  else none
  else
  some (.inr (.inr (s0, s1, s2)))
def L21_5 : (List Int) × Bool × (List Int) → Option (((List UInt8) × Int) ⊕ ((List Int) × Bool × (List Int))) := Lim (fun s => L21_5_r s.1 s.2.1 s.2.2)
def L21_5_sum : Sum := limSum L21_5_sh L21_5_pk (fun s => L21_5_r s.1 s.2.1 s.2.2) L21_5_leave
theorem L21_5_nat : Natural L21_5_sum := natural_lim fun x R K => by
  rcases x with x|x <;> rfl
theorem L21_5_dok : ∀ e st x, e ≠ .normal → L21_5_d e st = some x → ∀ R (K : Cont R), K e st = L21_5_leave x R K := by
  intro e st x _ h R K
  unfold L21_5_d at h
  split at h
  · split at h
    · rename_i s hs; cases h; rw [unSt_some hs]; rfl
    · cases h
  · split at h
    · rename_i s hs; cases h; rw [unSt_some hs]; rfl
    · cases h
  · cases h
def loops21 : Nat → Option (Sum) := fun | 5 => some L21_5_sum | _ => none
theorem loops21_nat : ∀ q f, loops21 q = some f → Natural f := by
  intro q f h
  unfold loops21 at h
  split at h
  · cases h; exact L21_5_nat
  · cases h
noncomputable def L21_5_code : Code := (loopsOf body21).getD 0 .skip
theorem L21_5_round (s0 : (List Int)) (s1 : Bool) (s2 : (List Int)) : ev2 env21 orc21 loops21 L21_5_code (mkSt L21_5_sh ((), (s0, ((), (s1, (s2, ())))))) (back L21_5_sh L21_5_pk L21_5_d) = L21_5_r s0 s1 s2 := by kernel_rfl
theorem L21_5_ok : SumOk env21 orc21 loops21 L21_5_code L21_5_sum := sumOk_lim (un := L21_5_un) loops21_nat (fun _ => rfl) L21_5_dok fun s => L21_5_round s.1 s.2.1 s.2.2
theorem loops21_all : loopsOf body21 = [L21_5_code] := by kernel_rfl
theorem L21_5_key : lookL loops21 (keyOf L21_5_code) = some L21_5_sum := by kernel_rfl
theorem loops21_ok : LoopsOk env21 orc21 loops21 body21 := by
  intro c hc f hf
  rw [loops21_all] at hc
  simp only [List.mem_cons, List.not_mem_nil, or_false] at hc
  subst hc
  · rw [L21_5_key] at hf; cases hf; exact L21_5_ok
def G21 (x0 : (List UInt8)) : Option ((List UInt8) × Int) :=
  bif (P38 x0 ([48] : List UInt8)) then
  let q1 : (D49 × (D49 × (Bool × Unit))) := F38 x0 ([48] : List UInt8)
  let v2 : (List Int) := ([] : (List Int))
  let v3 : (List Int) := ([] : (List Int))
  let v4 : (List Int) := ([] : (List Int))
  let v5 : (List Int) := ([] : (List Int))
  let v6 : Bool := (!q1.2.2.1)
  let v7 : Bool := (bif v6 then true else q1.1.1)
  bif v7 then
  some (([] : List UInt8), (30 : Int))
  else
  let v8 : Int := ((List.length q1.1.2.1 : Nat) : Int)
  let v9 : Int := (IntKind.i64.wrap (v8 + (1 : Int)))
  let v10 : Int := (IntKind.i64.wrap (Int.tdiv v9 (2 : Int)))
  bif (decide (0 ≤ v10) && decide (v10 ≤ v10) && decide (v10 ≤ 100000000000)) then
  let v11 : (List Int) := (List.replicate (Int.toNat v10) (0 : Int))
  let v12 : (List Int) := (List.set (List.replicate 1 (0 : Int)) 0 (1 : Int))
  bif (decide (List.length (List.take (List.length v11) v11) + List.length v12 ≤ 100000000000)) then
  let v13 : (List Int) := ((List.take (List.length v11) v11) ++ v12)
  Option.bind (L21_5 (v13, q1.1.1, q1.1.2.1)) fun x => match x with
  | (.inl r23) =>
  some (r23.1, r23.2)
  | (.inr r24) =>
  let v25 : (List UInt8) := ([48] : List UInt8)
  some (v25, (0 : Int))
  else none
  else none
  else none
theorem ev21 (x0 : (List UInt8)) : ev2 env21 orc21 loops21 body21 (initSt 0 [⟨.str, x0⟩]) (retT [(2, .dat .str), (3, .dat (.int .i64))] [.str, (.int .i64)] fun x => (x.1, x.2.1)) = G21 x0 := by kernel_rfl
def P21 (x0 : (List UInt8)) : Bool := (hold (G21 x0)).isSome
def F21 (x0 : (List UInt8)) : (List UInt8) × Int := (hold (G21 x0)).getD default
theorem G21_some (x0 : (List UInt8)) (h : P21 x0 = true) : G21 x0 = some (F21 x0) := by
  unfold P21 at h; unfold F21
  rw [hold_eq] at h ⊢
  exact some_getD h
theorem P21_of (x0 : (List UInt8)) {r : (List UInt8) × Int} (h : G21 x0 = some r) : P21 x0 = true := by unfold P21; rw [hold_eq, h]; rfl
theorem F21_of (x0 : (List UInt8)) {r : (List UInt8) × Int} (h : G21 x0 = some r) : F21 x0 = r := by unfold F21; rw [hold_eq, h]; rfl
def spec21 : Spec := ⟨[.str], [.dat .str, .dat (.int .i64)], fun | [a0] => P21 (a0.as .str) | _ => false, fun | [a0] => [⟨.str, (F21 (a0.as .str)).1⟩, ⟨(.int .i64), (F21 (a0.as .str)).2⟩] | _ => []⟩
theorem meets21 (hE : EnvOk Tryz.prog env21) (hm : Tryz.prog.follows .mixedOrders = true) : Meets Tryz.prog glob 21 spec21 :=
  meets_of_ev2 (O := orc21) (L := loops21) (c := body21) (slots := [2, 3]) hE hm Tryz.func21 Tryz.call21 (by kernel_rfl) (by kernel_rfl) loops21_ok (rangesOk_nil (by kernel_rfl)) (by kernel_rfl) rfl (by decide) (fun ds hds hpre => by
  obtain ⟨x0, ds0, rfl, h0⟩ := datsS hds
  have h9 := dats0 h0; subst h9
  exact ev_ret (un := fun r => [⟨.str, r.1⟩, ⟨(.int .i64), r.2⟩]) loops21_nat (fun _ => rfl) ((ev21 x0).trans (G21_some x0 hpre)))
def env19 : Env := {
  tab := tab
  glob := glob
  spec := fun
    | 47 => some spec47
    | _ => none
  bldT := bldT
  bld := bldF }

def orc19 : Orc := ⟨5, fun _ => none, fun
  | 0 => kp [0] []
  | 1 => kp [2] []
  | _ => [], fun | _ => false⟩
noncomputable def body19 : Code := Tryz.f19.body.getD .skip
def loops19 : Nat → Option (Sum) := fun | _ => none
theorem loops19_nat : ∀ q f, loops19 q = some f → Natural f := by
  intro q f h
  cases h
theorem loops19_ok : LoopsOk env19 orc19 loops19 body19 := loopsOk_nil (by kernel_rfl)
def G19 (x0 : (List UInt8)) : Option (Bool) :=
  bif (P47 x0) then
  let v1 : Bool := (F47 x0)
  some (v1)
  else none
theorem ev19 (x0 : (List UInt8)) : ev2 env19 orc19 loops19 body19 (initSt 0 [⟨.str, x0⟩]) (retT [(2, .dat .bool)] [.bool] fun x => x.1) = G19 x0 := by kernel_rfl
def P19 (x0 : (List UInt8)) : Bool := (hold (G19 x0)).isSome
def F19 (x0 : (List UInt8)) : Bool := (hold (G19 x0)).getD default
theorem G19_some (x0 : (List UInt8)) (h : P19 x0 = true) : G19 x0 = some (F19 x0) := by
  unfold P19 at h; unfold F19
  rw [hold_eq] at h ⊢
  exact some_getD h
theorem P19_of (x0 : (List UInt8)) {r : Bool} (h : G19 x0 = some r) : P19 x0 = true := by unfold P19; rw [hold_eq, h]; rfl
theorem F19_of (x0 : (List UInt8)) {r : Bool} (h : G19 x0 = some r) : F19 x0 = r := by unfold F19; rw [hold_eq, h]; rfl
def spec19 : Spec := ⟨[.str], [.dat .bool], fun | [a0] => P19 (a0.as .str) | _ => false, fun | [a0] => [⟨.bool, (F19 (a0.as .str))⟩] | _ => []⟩
theorem meets19 (hE : EnvOk Tryz.prog env19) (hm : Tryz.prog.follows .mixedOrders = true) : Meets Tryz.prog glob 19 spec19 :=
  meets_of_ev2 (O := orc19) (L := loops19) (c := body19) (slots := [2]) hE hm Tryz.func19 Tryz.call19 (by kernel_rfl) (by kernel_rfl) loops19_ok (rangesOk_nil (by kernel_rfl)) (by kernel_rfl) rfl (by decide) (fun ds hds hpre => by
  obtain ⟨x0, ds0, rfl, h0⟩ := datsS hds
  have h9 := dats0 h0; subst h9
  exact ev_ret (un := fun r => [⟨.bool, r⟩]) loops19_nat (fun _ => rfl) ((ev19 x0).trans (G19_some x0 hpre)))
def env18 : Env := {
  tab := tab
  glob := glob
  spec := fun
    | _ => none
  spec2 := fun
    | 38, [] => some sp38
    | 46, [] => some sp46
    | _, _ => none
  bldT := bldT
  bld := bldF }

def orc18 : Orc := ⟨41, fun _ => none, fun
  | 0 => kp [0, 1] []
  | 1 => kp [5, 6, 7] [(5, [0, 1]), (6, [0, 1])]
  | 2 => kp [5, 6, 15] [(5, [0, 1]), (6, [0, 1])]
  | 3 => kp [4] []
  | 4 => kp [5, 6, 18] [(5, [0, 1]), (6, [0, 1])]
  | 5 => kp [4] []
  | 6 => kp [5, 6, 30] [(5, [0, 1]), (6, [0, 1])]
  | 7 => kp [4] []
  | 8 => kp [5, 6, 33] [(5, [0, 1]), (6, [0, 1])]
  | 9 => kp [4] []
  | 10 => kp [4] []
  | _ => [], fun | _ => false⟩
noncomputable def body18 : Code := Tryz.f18.body.getD .skip
def loops18 : Nat → Option (Sum) := fun | _ => none
theorem loops18_nat : ∀ q f, loops18 q = some f → Natural f := by
  intro q f h
  cases h
theorem loops18_ok : LoopsOk env18 orc18 loops18 body18 := loopsOk_nil (by kernel_rfl)
def G18 (x0 : (List UInt8)) (x1 : (List UInt8)) : Option (Int) :=
  bif (P38 x0 x1) then
  let q1 : (D49 × (D49 × (Bool × Unit))) := F38 x0 x1
  let v2 : (List Int) := ([] : (List Int))
  let v3 : (List Int) := ([] : (List Int))
  let v4 : (List Int) := ([] : (List Int))
  let v5 : (List Int) := ([] : (List Int))
  let v6 : Bool := (!q1.2.2.1)
  bif v6 then
  some ((0 : Int))
  else
  let v7 : Bool := (bif q1.1.1 then q1.2.1.1 else false)
  bif v7 then
  bif (P46 q1.2.1.2.1 q1.1.2.1) then
  let q8 : (Int × Unit) := F46 q1.2.1.2.1 q1.1.2.1
  some (q8.1)
  else none
  else
  bif q1.1.1 then
  some ((-1 : Int))
  else
  bif q1.2.1.1 then
  some ((1 : Int))
  else
  bif (P46 q1.1.2.1 q1.2.1.2.1) then
  let q9 : (Int × Unit) := F46 q1.1.2.1 q1.2.1.2.1
  some (q9.1)
  else none
  else none
theorem ev18 (x0 : (List UInt8)) (x1 : (List UInt8)) : ev2 env18 orc18 loops18 body18 (initSt 0 [⟨.str, x0⟩, ⟨.str, x1⟩]) (retT [(4, .dat (.int .i64))] [(.int .i64)] fun x => x.1) = G18 x0 x1 := by kernel_rfl
def P18 (x0 : (List UInt8)) (x1 : (List UInt8)) : Bool := (hold (G18 x0 x1)).isSome
def F18 (x0 : (List UInt8)) (x1 : (List UInt8)) : Int := (hold (G18 x0 x1)).getD default
theorem G18_some (x0 : (List UInt8)) (x1 : (List UInt8)) (h : P18 x0 x1 = true) : G18 x0 x1 = some (F18 x0 x1) := by
  unfold P18 at h; unfold F18
  rw [hold_eq] at h ⊢
  exact some_getD h
theorem P18_of (x0 : (List UInt8)) (x1 : (List UInt8)) {r : Int} (h : G18 x0 x1 = some r) : P18 x0 x1 = true := by unfold P18; rw [hold_eq, h]; rfl
theorem F18_of (x0 : (List UInt8)) (x1 : (List UInt8)) {r : Int} (h : G18 x0 x1 = some r) : F18 x0 x1 = r := by unfold F18; rw [hold_eq, h]; rfl
def spec18 : Spec := ⟨[.str, .str], [.dat (.int .i64)], fun | [a0, a1] => P18 (a0.as .str) (a1.as .str) | _ => false, fun | [a0, a1] => [⟨(.int .i64), (F18 (a0.as .str) (a1.as .str))⟩] | _ => []⟩
theorem meets18 (hE : EnvOk Tryz.prog env18) (hm : Tryz.prog.follows .mixedOrders = true) : Meets Tryz.prog glob 18 spec18 :=
  meets_of_ev2 (O := orc18) (L := loops18) (c := body18) (slots := [4]) hE hm Tryz.func18 Tryz.call18 (by kernel_rfl) (by kernel_rfl) loops18_ok (rangesOk_nil (by kernel_rfl)) (by kernel_rfl) rfl (by decide) (fun ds hds hpre => by
  obtain ⟨x0, ds0, rfl, h0⟩ := datsS hds
  obtain ⟨x1, ds1, rfl, h1⟩ := datsS h0
  have h9 := dats0 h1; subst h9
  exact ev_ret (un := fun r => [⟨(.int .i64), r⟩]) loops18_nat (fun _ => rfl) ((ev18 x0 x1).trans (G18_some x0 x1 hpre)))
def env12 : Env := {
  tab := tab
  glob := glob
  spec := fun
    | 14 => some spec14
    | 15 => some spec15
    | 16 => some spec16
    | 17 => some spec17
    | 18 => some spec18
    | 19 => some spec19
    | 20 => some spec20
    | 21 => some spec21
    | _ => none
  bldT := bldT
  bld := bldF }

def orc12 : Orc := ⟨146, fun _ => none, fun
  | 0 => []
  | 1 => kp [1, 2] []
  | 2 => kp [1, 2, 3, 4] []
  | 3 => kp [1, 2, 3, 4, 5, 6] []
  | 4 => kp [1, 2, 3, 4, 5, 6, 7, 8, 9] []
  | 5 => kp [1, 2, 3, 4, 5, 6, 7, 8, 9, 10, 11, 12] []
  | 6 => kp [1, 2, 3, 4, 5, 6, 7, 8, 9, 10, 11, 12, 13, 14] []
  | 7 => kp [1, 2, 3, 4, 5, 6, 7, 8, 9, 10, 11, 12, 13, 14, 15, 16] []
  | 8 => kp [1, 2, 3, 4, 5, 6, 7, 8, 9, 10, 11, 12, 13, 14, 15, 16, 18] []
  | 9 => kp [1, 2, 3, 4, 5, 6, 7, 8, 9, 10, 11, 12, 13, 14, 15, 16, 18, 20] []
  | 10 => kp [1, 3, 5, 7, 8, 10, 11, 13, 15, 21] []
  | 11 => kp [0] []
  | _ => [], fun | _ => false⟩
noncomputable def body12 : Code := Tryz.f12.body.getD .skip
def loops12 : Nat → Option (Sum) := fun | _ => none
theorem loops12_nat : ∀ q f, loops12 q = some f → Natural f := by
  intro q f h
  cases h
theorem loops12_ok : LoopsOk env12 orc12 loops12 body12 := loopsOk_nil (by kernel_rfl)
def G12  : Option (Bool) :=
  bif (P14 ([57, 57, 57] : List UInt8) ([49] : List UInt8)) then
  let v1 : ((List UInt8) × Int) := (F14 ([57, 57, 57] : List UInt8) ([49] : List UInt8))
  bif (P16 ([49] : List UInt8) ([49, 48, 48, 48] : List UInt8)) then
  let v2 : ((List UInt8) × Int) := (F16 ([49] : List UInt8) ([49, 48, 48, 48] : List UInt8))
  bif (P15 ([45, 49, 50] : List UInt8) ([49, 50] : List UInt8)) then
  let v3 : ((List UInt8) × Int) := (F15 ([45, 49, 50] : List UInt8) ([49, 50] : List UInt8))
  bif (P17 ([45, 55] : List UInt8) ([50] : List UInt8)) then
  let v4 : ((List UInt8) × ((List UInt8) × Int)) := (F17 ([45, 55] : List UInt8) ([50] : List UInt8))
  bif (P17 ([45, 55] : List UInt8) ([45, 50] : List UInt8)) then
  let v5 : ((List UInt8) × ((List UInt8) × Int)) := (F17 ([45, 55] : List UInt8) ([45, 50] : List UInt8))
  bif (P20 ([49, 50] : List UInt8) ([45, 49, 56] : List UInt8)) then
  let v6 : ((List UInt8) × Int) := (F20 ([49, 50] : List UInt8) ([45, 49, 56] : List UInt8))
  bif (P21 ([57, 57] : List UInt8)) then
  let v7 : ((List UInt8) × Int) := (F21 ([57, 57] : List UInt8))
  bif (P21 ([45, 49] : List UInt8)) then
  let v8 : ((List UInt8) × Int) := (F21 ([45, 49] : List UInt8))
  bif (P14 ([48, 48, 55] : List UInt8) ([49] : List UInt8)) then
  let v9 : ((List UInt8) × Int) := (F14 ([48, 48, 55] : List UInt8) ([49] : List UInt8))
  let v10 : Bool := (v1.2 == (0 : Int))
  let v11 : Bool := (v2.2 == (0 : Int))
  let v12 : Bool := (bif v10 then v11 else false)
  let v13 : Bool := (v3.2 == (0 : Int))
  let v14 : Bool := (bif v12 then v13 else false)
  let v15 : Bool := (v4.2.2 == (0 : Int))
  let v16 : Bool := (bif v14 then v15 else false)
  let v17 : Bool := (v5.2.2 == (0 : Int))
  let v18 : Bool := (bif v16 then v17 else false)
  let v19 : Bool := (v6.2 == (0 : Int))
  let v20 : Bool := (bif v18 then v19 else false)
  let v21 : Bool := (v7.2 == (0 : Int))
  let v22 : Bool := (bif v20 then v21 else false)
  let v23 : Bool := (v8.2 == (30 : Int))
  let v24 : Bool := (bif v22 then v23 else false)
  let v25 : Bool := (v9.2 == (30 : Int))
  let v26 : Bool := (bif v24 then v25 else false)
  let v27 : Bool := (v1.1 == ([49, 48, 48, 48] : List UInt8))
  let v28 : Bool := (bif v26 then v27 else false)
  let v29 : Bool := (v2.1 == ([45, 57, 57, 57] : List UInt8))
  let v30 : Bool := (bif v28 then v29 else false)
  let v31 : Bool := (v3.1 == ([45, 49, 52, 52] : List UInt8))
  let v32 : Bool := (bif v30 then v31 else false)
  let v33 : Bool := (v4.1 == ([45, 52] : List UInt8))
  let v34 : Bool := (bif v32 then v33 else false)
  let v35 : Bool := (v4.2.1 == ([49] : List UInt8))
  let v36 : Bool := (bif v34 then v35 else false)
  let v37 : Bool := (v5.1 == ([52] : List UInt8))
  let v38 : Bool := (bif v36 then v37 else false)
  let v39 : Bool := (v5.2.1 == ([49] : List UInt8))
  let v40 : Bool := (bif v38 then v39 else false)
  let v41 : Bool := (v6.1 == ([54] : List UInt8))
  let v42 : Bool := (bif v40 then v41 else false)
  let v43 : Bool := (v7.1 == ([57] : List UInt8))
  let v44 : Bool := (bif v42 then v43 else false)
  bif ((P19 ([45, 55] : List UInt8)) || !(v44 && true)) then
  let v45 : Bool := (F19 ([45, 55] : List UInt8))
  let v46 : Bool := (bif v44 then v45 else false)
  bif ((P19 ([45, 48] : List UInt8)) || !(v46 && true)) then
  let v47 : Bool := (F19 ([45, 48] : List UInt8))
  let v48 : Bool := (!v47)
  let v49 : Bool := (bif v46 then v48 else false)
  bif ((P19 ([] : List UInt8)) || !(v49 && true)) then
  let v50 : Bool := (F19 ([] : List UInt8))
  let v51 : Bool := (!v50)
  let v52 : Bool := (bif v49 then v51 else false)
  bif ((P18 ([45, 56] : List UInt8) ([45, 55] : List UInt8)) || !(v52 && true)) then
  let v53 : Int := (F18 ([45, 56] : List UInt8) ([45, 55] : List UInt8))
  let v54 : Bool := (decide (v53 < (0 : Int)))
  let v55 : Bool := (bif v52 then v54 else false)
  some (v55)
  else none
  else none
  else none
  else none
  else none
  else none
  else none
  else none
  else none
  else none
  else none
  else none
  else none
theorem ev12  : ev2 env12 orc12 loops12 body12 (initSt 0 []) (retT [(0, .dat .bool)] [.bool] fun x => x.1) = G12  := by kernel_rfl
def P12  : Bool := (hold (G12 )).isSome
def F12  : Bool := (hold (G12 )).getD default
theorem G12_some  (h : P12  = true) : G12  = some (F12 ) := by
  unfold P12 at h; unfold F12
  rw [hold_eq] at h ⊢
  exact some_getD h
theorem P12_of  {r : Bool} (h : G12  = some r) : P12  = true := by unfold P12; rw [hold_eq, h]; rfl
theorem F12_of  {r : Bool} (h : G12  = some r) : F12  = r := by unfold F12; rw [hold_eq, h]; rfl
def spec12 : Spec := ⟨[], [.dat .bool], fun | [] => P12 | _ => false, fun | [] => [⟨.bool, F12⟩] | _ => []⟩
theorem meets12 (hE : EnvOk Tryz.prog env12) (hm : Tryz.prog.follows .mixedOrders = true) : Meets Tryz.prog glob 12 spec12 :=
  meets_of_ev2 (O := orc12) (L := loops12) (c := body12) (slots := [0]) hE hm Tryz.func12 Tryz.call12 (by kernel_rfl) (by kernel_rfl) loops12_ok (rangesOk_nil (by kernel_rfl)) (by kernel_rfl) rfl (by decide) (fun ds hds hpre => by
  have h9 := dats0 hds; subst h9
  exact ev_ret (un := fun r => [⟨.bool, r⟩]) loops12_nat (fun _ => rfl) ((ev12 ).trans (G12_some  hpre)))
def env37 : Env := {
  tab := tab
  glob := glob
  spec := fun
    | _ => none
  bldT := bldT
  bld := bldF }

def orc37 : Orc := ⟨21, fun _ => none, fun
  | 0 => kp [0] []
  | 1 => kp [0, 14] []
  | 2 => kp [0] []
  | 3 => kp [2] []
  | _ => [], fun | _ => false⟩
noncomputable def body37 : Code := Tryz.f37.body.getD .skip
def L37_1_sh : Shape := [(.slot 0, .dat (.list (.int .i64)))]
def L37_1_x0 : Shape := [(.slot 0, .dat (.list (.int .i64)))]
def L37_1_pk (s : Tup L37_1_sh) : (List Int) := s.1
def L37_1_un (s : (List Int)) : Tup L37_1_sh := (s, ())
def L37_1_leave (x : ((List Int))) (R : Type) (K : Cont R) : Option R := match x with
  | a => K (.exit 0) (mkSt L37_1_x0 (a, ()))
def L37_1_d (e : Exit) (st : St) : Option (((List Int))) := match e with
  | .exit 0 => (match unSt L37_1_x0 st with
    | some s => some s.1
    | none => none)
  | _ => none
def L37_1_r (s0 : (List Int)) : Option (((List Int)) ⊕ (((List Int)))) :=
  let v2 : Int := ((List.length s0 : Nat) : Int)
  let v3 : Bool := (decide (v2 > (0 : Int)))
  let v4 : Int := ((List.length s0 : Nat) : Int)
  let v5 : Int := (IntKind.i64.wrap (v4 - (1 : Int)))
  bif ((decide (0 ≤ v5) && decide (v5 < List.length s0)) || !(v3 && true)) then
  let v6 : Int := (List.getD s0 (Int.toNat v5) (0 : Int))
  let v7 : Bool := (v6 == (0 : Int))
  let v8 : Bool := (bif v3 then v7 else false)
  bif v8 then
  let v9 : Int := ((List.length s0 : Nat) : Int)
  let v10 : Int := (IntKind.i64.wrap (v9 - (1 : Int)))
  bif (sliceTest (0 : Int) v10 (List.length s0)) then
  let v11 : (List Int) := (cut s0 (0 : Int) v10)
  some (.inl v11)
  else none
  else
  some (.inr s0)
  else none
def L37_1 : (List Int) → Option (((List Int))) := Lim (fun s => L37_1_r s)
def L37_1_sum : Sum := limSum L37_1_sh L37_1_pk (fun s => L37_1_r s) L37_1_leave
theorem L37_1_nat : Natural L37_1_sum := natural_lim fun x R K => by
  rfl
theorem L37_1_dok : ∀ e st x, e ≠ .normal → L37_1_d e st = some x → ∀ R (K : Cont R), K e st = L37_1_leave x R K := by
  intro e st x _ h R K
  unfold L37_1_d at h
  split at h
  · split at h
    · rename_i s hs; cases h; rw [unSt_some hs]; rfl
    · cases h
  · cases h
def loops37 : Nat → Option (Sum) := fun | 1 => some L37_1_sum | _ => none
theorem loops37_nat : ∀ q f, loops37 q = some f → Natural f := by
  intro q f h
  unfold loops37 at h
  split at h
  · cases h; exact L37_1_nat
  · cases h
noncomputable def L37_1_code : Code := (loopsOf body37).getD 0 .skip
theorem L37_1_round (s0 : (List Int)) : ev2 env37 orc37 loops37 L37_1_code (mkSt L37_1_sh (s0, ())) (back L37_1_sh L37_1_pk L37_1_d) = L37_1_r s0 := by kernel_rfl
theorem L37_1_ok : SumOk env37 orc37 loops37 L37_1_code L37_1_sum := sumOk_lim (un := L37_1_un) loops37_nat (fun _ => rfl) L37_1_dok fun s => L37_1_round s
theorem loops37_all : loopsOf body37 = [L37_1_code] := by kernel_rfl
theorem L37_1_key : lookL loops37 (keyOf L37_1_code) = some L37_1_sum := by kernel_rfl
theorem loops37_ok : LoopsOk env37 orc37 loops37 body37 := by
  intro c hc f hf
  rw [loops37_all] at hc
  simp only [List.mem_cons, List.not_mem_nil, or_false] at hc
  subst hc
  · rw [L37_1_key] at hf; cases hf; exact L37_1_ok
def G37 (x0 : (List Int)) : Option ((List Int)) :=
  let v1 : (List Int) := ([] : (List Int))
  Option.bind (L37_1 x0) fun (r12 : (List Int)) =>
  some (r12)
theorem ev37 (x0 : (List Int)) : ev2 env37 orc37 loops37 body37 (initSt 0 [⟨(.list (.int .i64)), x0⟩]) (retT [(2, .dat (.list (.int .i64)))] [(.list (.int .i64))] fun x => x.1) = G37 x0 := by kernel_rfl
def P37 (x0 : (List Int)) : Bool := (hold (G37 x0)).isSome
def F37 (x0 : (List Int)) : (List Int) := (hold (G37 x0)).getD default
theorem G37_some (x0 : (List Int)) (h : P37 x0 = true) : G37 x0 = some (F37 x0) := by
  unfold P37 at h; unfold F37
  rw [hold_eq] at h ⊢
  exact some_getD h
theorem P37_of (x0 : (List Int)) {r : (List Int)} (h : G37 x0 = some r) : P37 x0 = true := by unfold P37; rw [hold_eq, h]; rfl
theorem F37_of (x0 : (List Int)) {r : (List Int)} (h : G37 x0 = some r) : F37 x0 = r := by unfold F37; rw [hold_eq, h]; rfl
def spec37 : Spec := ⟨[(.list (.int .i64))], [.dat (.list (.int .i64))], fun | [a0] => P37 (a0.as (.list (.int .i64))) | _ => false, fun | [a0] => [⟨(.list (.int .i64)), (F37 (a0.as (.list (.int .i64))))⟩] | _ => []⟩
theorem meets37 (hE : EnvOk Tryz.prog env37) (hm : Tryz.prog.follows .mixedOrders = true) : Meets Tryz.prog glob 37 spec37 :=
  meets_of_ev2 (O := orc37) (L := loops37) (c := body37) (slots := [2]) hE hm Tryz.func37 Tryz.call37 (by kernel_rfl) (by kernel_rfl) loops37_ok (rangesOk_nil (by kernel_rfl)) (by kernel_rfl) rfl (by decide) (fun ds hds hpre => by
  obtain ⟨x0, ds0, rfl, h0⟩ := datsS hds
  have h9 := dats0 h0; subst h9
  exact ev_ret (un := fun r => [⟨(.list (.int .i64)), r⟩]) loops37_nat (fun _ => rfl) ((ev37 x0).trans (G37_some x0 hpre)))
def env36 : Env := {
  tab := tab
  glob := glob
  spec := fun
    | _ => none
  bldT := bldT
  bld := bldF }

def orc36 : Orc := ⟨36, fun _ => none, fun
  | 0 => kp [0, 1] []
  | 1 => kp [0, 1, 10] []
  | 2 => kp [4, 5] []
  | 3 => kp [0, 1, 6] []
  | 4 => kp [1, 6, 11] []
  | 5 => kp [1, 6] []
  | 6 => kp [1, 6, 7] []
  | 7 => kp [1, 6, 7, 19] []
  | 8 => kp [1, 6, 7] []
  | 9 => kp [1, 6, 7] []
  | 10 => kp [4, 5] []
  | _ => [], fun | _ => false⟩
noncomputable def body36 : Code := Tryz.f36.body.getD .skip
def L36_7_sh : Shape := [(.slot 1, .dat (.list (.int .i64))), (.slot 6, .own 5 (.int .u8)), (.slot 7, .dat (.int .i64))]
def L36_7_x0 : Shape := [(.slot 1, .dat (.list (.int .i64))), (.slot 6, .own 5 (.int .u8)), (.slot 7, .dat (.int .i64))]
def L36_7_pk (s : Tup L36_7_sh) : (List Int) × (List Int) × Int := (s.1, s.2.1, s.2.2.1)
def L36_7_un (s : (List Int) × (List Int) × Int) : Tup L36_7_sh := (s.1, (s.2.1, (s.2.2, ())))
def L36_7_leave (x : ((List Int) × (List Int) × Int)) (R : Type) (K : Cont R) : Option R := match x with
  | a => K (.exit 0) (mkSt L36_7_x0 (a.1, (a.2.1, (a.2.2, ()))))
def L36_7_d (e : Exit) (st : St) : Option (((List Int) × (List Int) × Int)) := match e with
  | .exit 0 => (match unSt L36_7_x0 st with
    | some s => some (s.1, s.2.1, s.2.2.1)
    | none => none)
  | _ => none
def L36_7_r (s0 : (List Int)) (s1 : (List Int)) (s2 : Int) : Option (((List Int) × (List Int) × Int) ⊕ (((List Int) × (List Int) × Int))) :=
  let v22 : Bool := (decide (s2 ≥ (0 : Int)))
  bif v22 then
  bif (decide (0 ≤ s2) && decide (s2 < List.length s0)) then
  let v23 : Int := (List.getD s0 (Int.toNat s2) (0 : Int))
  let v24 : Int := (IntKind.i64.wrap ((48 : Int) + v23))
  let v25 : Int := (IntKind.u8.wrap v24)
  let v26 : (List Int) := (List.set (List.replicate 1 (0 : Int)) 0 v25)
  bif (decide (List.length (List.take (List.length s1) s1) + List.length v26 ≤ 100000000000)) then
  let v27 : (List Int) := ((List.take (List.length s1) s1) ++ v26)
  let v28 : Int := (IntKind.i64.wrap (s2 - (1 : Int)))
  some (.inl (s0, v27, v28))
  else none
  else none
  else
  some (.inr (s0, s1, s2))
def L36_7 : (List Int) × (List Int) × Int → Option (((List Int) × (List Int) × Int)) := Lim (fun s => L36_7_r s.1 s.2.1 s.2.2)
def L36_7_sum : Sum := limSum L36_7_sh L36_7_pk (fun s => L36_7_r s.1 s.2.1 s.2.2) L36_7_leave
theorem L36_7_nat : Natural L36_7_sum := natural_lim fun x R K => by
  rfl
theorem L36_7_dok : ∀ e st x, e ≠ .normal → L36_7_d e st = some x → ∀ R (K : Cont R), K e st = L36_7_leave x R K := by
  intro e st x _ h R K
  unfold L36_7_d at h
  split at h
  · split at h
    · rename_i s hs; cases h; rw [unSt_some hs]; rfl
    · cases h
  · cases h
def loops36 : Nat → Option (Sum) := fun | 7 => some L36_7_sum | _ => none
theorem loops36_nat : ∀ q f, loops36 q = some f → Natural f := by
  intro q f h
  unfold loops36 at h
  split at h
  · cases h; exact L36_7_nat
  · cases h
noncomputable def L36_7_code : Code := (loopsOf body36).getD 0 .skip
theorem L36_7_round (s0 : (List Int)) (s1 : (List Int)) (s2 : Int) : ev2 env36 orc36 loops36 L36_7_code (mkSt L36_7_sh (s0, (s1, (s2, ())))) (back L36_7_sh L36_7_pk L36_7_d) = L36_7_r s0 s1 s2 := by kernel_rfl
theorem L36_7_ok : SumOk env36 orc36 loops36 L36_7_code L36_7_sum := sumOk_lim (un := L36_7_un) loops36_nat (fun _ => rfl) L36_7_dok fun s => L36_7_round s.1 s.2.1 s.2.2
theorem loops36_all : loopsOf body36 = [L36_7_code] := by kernel_rfl
theorem L36_7_key : lookL loops36 (keyOf L36_7_code) = some L36_7_sum := by kernel_rfl
theorem loops36_ok : LoopsOk env36 orc36 loops36 body36 := by
  intro c hc f hf
  rw [loops36_all] at hc
  simp only [List.mem_cons, List.not_mem_nil, or_false] at hc
  subst hc
  · rw [L36_7_key] at hf; cases hf; exact L36_7_ok
def G36 (x0 : Bool) (x1 : (List Int)) : Option ((List UInt8) × Bool) :=
  let v1 : Int := ((List.length x1 : Nat) : Int)
  let v2 : Bool := (v1 == (0 : Int))
  bif v2 then
  let v3 : (List UInt8) := ([48] : List UInt8)
  some (v3, true)
  else
  let v4 : (List Int) := ([] : (List Int))
  bif x0 then
  let v5 : (List Int) := (List.set (List.replicate 1 (0 : Int)) 0 (45 : Int))
  bif (decide (List.length (List.take (List.length v4) v4) + List.length v5 ≤ 100000000000)) then
  let v6 : (List Int) := ((List.take (List.length v4) v4) ++ v5)
  let v7 : Int := ((List.length x1 : Nat) : Int)
  let v8 : Int := (IntKind.i64.wrap (v7 - (1 : Int)))
  Option.bind (L36_7 (x1, v6, v8)) fun (r16 : (List Int) × (List Int) × Int) =>
  let v17 : (List UInt8) := (List.map (fun (n : Int) => UInt8.ofNat n.toNat) (List.take (List.length r16.2.1) r16.2.1))
  let v18 : Int := ((List.length r16.1 : Nat) : Int)
  let v19 : Bool := (decide (v18 ≤ (200 : Int)))
  some (v17, v19)
  else none
  else
  let v20 : Int := ((List.length x1 : Nat) : Int)
  let v21 : Int := (IntKind.i64.wrap (v20 - (1 : Int)))
  Option.bind (L36_7 (x1, v4, v21)) fun (r29 : (List Int) × (List Int) × Int) =>
  let v30 : (List UInt8) := (List.map (fun (n : Int) => UInt8.ofNat n.toNat) (List.take (List.length r29.2.1) r29.2.1))
  let v31 : Int := ((List.length r29.1 : Nat) : Int)
  let v32 : Bool := (decide (v31 ≤ (200 : Int)))
  some (v30, v32)
theorem ev36 (x0 : Bool) (x1 : (List Int)) : ev2 env36 orc36 loops36 body36 (initSt 0 [⟨.bool, x0⟩, ⟨(.list (.int .i64)), x1⟩]) (retT [(4, .dat .str), (5, .dat .bool)] [.str, .bool] fun x => (x.1, x.2.1)) = G36 x0 x1 := by kernel_rfl
def P36 (x0 : Bool) (x1 : (List Int)) : Bool := (hold (G36 x0 x1)).isSome
def F36 (x0 : Bool) (x1 : (List Int)) : (List UInt8) × Bool := (hold (G36 x0 x1)).getD default
theorem G36_some (x0 : Bool) (x1 : (List Int)) (h : P36 x0 x1 = true) : G36 x0 x1 = some (F36 x0 x1) := by
  unfold P36 at h; unfold F36
  rw [hold_eq] at h ⊢
  exact some_getD h
theorem P36_of (x0 : Bool) (x1 : (List Int)) {r : (List UInt8) × Bool} (h : G36 x0 x1 = some r) : P36 x0 x1 = true := by unfold P36; rw [hold_eq, h]; rfl
theorem F36_of (x0 : Bool) (x1 : (List Int)) {r : (List UInt8) × Bool} (h : G36 x0 x1 = some r) : F36 x0 x1 = r := by unfold F36; rw [hold_eq, h]; rfl
def spec36 : Spec := ⟨[.bool, (.list (.int .i64))], [.dat .str, .dat .bool], fun | [a0, a1] => P36 (a0.as .bool) (a1.as (.list (.int .i64))) | _ => false, fun | [a0, a1] => [⟨.str, (F36 (a0.as .bool) (a1.as (.list (.int .i64)))).1⟩, ⟨.bool, (F36 (a0.as .bool) (a1.as (.list (.int .i64)))).2⟩] | _ => []⟩
theorem meets36 (hE : EnvOk Tryz.prog env36) (hm : Tryz.prog.follows .mixedOrders = true) : Meets Tryz.prog glob 36 spec36 :=
  meets_of_ev2 (O := orc36) (L := loops36) (c := body36) (slots := [4, 5]) hE hm Tryz.func36 Tryz.call36 (by kernel_rfl) (by kernel_rfl) loops36_ok (rangesOk_nil (by kernel_rfl)) (by kernel_rfl) rfl (by decide) (fun ds hds hpre => by
  obtain ⟨x0, ds0, rfl, h0⟩ := datsS hds
  obtain ⟨x1, ds1, rfl, h1⟩ := datsS h0
  have h9 := dats0 h1; subst h9
  exact ev_ret (un := fun r => [⟨.str, r.1⟩, ⟨.bool, r.2⟩]) loops36_nat (fun _ => rfl) ((ev36 x0 x1).trans (G36_some x0 x1 hpre)))
def env13 : Env := {
  tab := tab
  glob := glob
  spec := fun
    | 36 => some spec36
    | 37 => some spec37
    | _ => none
  bldT := bldT
  bld := bldF }

def orc13 : Orc := ⟨43, fun _ => none, fun
  | 0 => kp [0, 1] []
  | 1 => kp [0, 1, 5] []
  | 2 => kp [0, 1, 5, 6] []
  | 3 => kp [0, 1, 5, 6, 17] []
  | 4 => kp [0, 1, 5, 6] []
  | 5 => kp [0, 1, 5, 6] []
  | 6 => kp [7] []
  | 7 => kp [4] []
  | _ => [], fun | _ => false⟩
noncomputable def body13 : Code := Tryz.f13.body.getD .skip
def L13_3_sh : Shape := [(.slot 0, .dat .str), (.slot 1, .dat (.int .i64)), (.slot 5, .own 3 (.int .i64)), (.slot 6, .dat (.int .i64))]
def L13_3_x0 : Shape := [(.slot 0, .dat .str), (.slot 1, .dat (.int .i64)), (.slot 5, .own 3 (.int .i64)), (.slot 6, .dat (.int .i64))]
def L13_3_pk (s : Tup L13_3_sh) : (List UInt8) × Int × (List Int) × Int := (s.1, s.2.1, s.2.2.1, s.2.2.2.1)
def L13_3_un (s : (List UInt8) × Int × (List Int) × Int) : Tup L13_3_sh := (s.1, (s.2.1, (s.2.2.1, (s.2.2.2, ()))))
def L13_3_leave (x : ((List UInt8) × Int × (List Int) × Int)) (R : Type) (K : Cont R) : Option R := match x with
  | a => K (.exit 0) (mkSt L13_3_x0 (a.1, (a.2.1, (a.2.2.1, (a.2.2.2, ())))))
def L13_3_d (e : Exit) (st : St) : Option (((List UInt8) × Int × (List Int) × Int)) := match e with
  | .exit 0 => (match unSt L13_3_x0 st with
    | some s => some (s.1, s.2.1, s.2.2.1, s.2.2.2.1)
    | none => none)
  | _ => none
def L13_3_r (s0 : (List UInt8)) (s1 : Int) (s2 : (List Int)) (s3 : Int) : Option (((List UInt8) × Int × (List Int) × Int) ⊕ (((List UInt8) × Int × (List Int) × Int))) :=
  let v2 : Int := ((List.length s0 : Nat) : Int)
  let v3 : Bool := (decide (s3 < v2))
  let v4 : Bool := (decide (s3 < s1))
  let v5 : Bool := (bif v3 then v4 else false)
  bif v5 then
  bif (decide (0 ≤ s3) && decide (s3 < List.length s0)) then
  let v6 : Int := ((List.getD s0 (Int.toNat s3) 0).toNat : Int)
  let v7 : Int := (IntKind.i64.wrap v6)
  let v8 : Int := (Int.tmod v7 (10 : Int))
  let v9 : (List Int) := (List.set (List.replicate 1 (0 : Int)) 0 v8)
  bif (decide (List.length (List.take (List.length s2) s2) + List.length v9 ≤ 100000000000)) then
  let v10 : (List Int) := ((List.take (List.length s2) s2) ++ v9)
  let v11 : Int := (IntKind.i64.wrap (s3 + (1 : Int)))
  some (.inl (s0, s1, v10, v11))
  else none
  else none
  else
  some (.inr (s0, s1, s2, s3))
def L13_3 : (List UInt8) × Int × (List Int) × Int → Option (((List UInt8) × Int × (List Int) × Int)) := Lim (fun s => L13_3_r s.1 s.2.1 s.2.2.1 s.2.2.2)
def L13_3_sum : Sum := limSum L13_3_sh L13_3_pk (fun s => L13_3_r s.1 s.2.1 s.2.2.1 s.2.2.2) L13_3_leave
theorem L13_3_nat : Natural L13_3_sum := natural_lim fun x R K => by
  rfl
theorem L13_3_dok : ∀ e st x, e ≠ .normal → L13_3_d e st = some x → ∀ R (K : Cont R), K e st = L13_3_leave x R K := by
  intro e st x _ h R K
  unfold L13_3_d at h
  split at h
  · split at h
    · rename_i s hs; cases h; rw [unSt_some hs]; rfl
    · cases h
  · cases h
def loops13 : Nat → Option (Sum) := fun | 3 => some L13_3_sum | _ => none
theorem loops13_nat : ∀ q f, loops13 q = some f → Natural f := by
  intro q f h
  unfold loops13 at h
  split at h
  · cases h; exact L13_3_nat
  · cases h
noncomputable def L13_3_code : Code := (loopsOf body13).getD 0 .skip
theorem L13_3_round (s0 : (List UInt8)) (s1 : Int) (s2 : (List Int)) (s3 : Int) : ev2 env13 orc13 loops13 L13_3_code (mkSt L13_3_sh (s0, (s1, (s2, (s3, ()))))) (back L13_3_sh L13_3_pk L13_3_d) = L13_3_r s0 s1 s2 s3 := by kernel_rfl
theorem L13_3_ok : SumOk env13 orc13 loops13 L13_3_code L13_3_sum := sumOk_lim (un := L13_3_un) loops13_nat (fun _ => rfl) L13_3_dok fun s => L13_3_round s.1 s.2.1 s.2.2.1 s.2.2.2
theorem loops13_all : loopsOf body13 = [L13_3_code] := by kernel_rfl
theorem L13_3_key : lookL loops13 (keyOf L13_3_code) = some L13_3_sum := by kernel_rfl
theorem loops13_ok : LoopsOk env13 orc13 loops13 body13 := by
  intro c hc f hf
  rw [loops13_all] at hc
  simp only [List.mem_cons, List.not_mem_nil, or_false] at hc
  subst hc
  · rw [L13_3_key] at hf; cases hf; exact L13_3_ok
def G13 (x0 : (List UInt8)) (x1 : Int) : Option ((List UInt8)) :=
  let v1 : (List Int) := ([] : (List Int))
  Option.bind (L13_3 (x0, x1, v1, (0 : Int))) fun (r12 : (List UInt8) × Int × (List Int) × Int) =>
  let v13 : Int := ((List.length r12.1 : Nat) : Int)
  let v14 : Bool := (decide (v13 > (0 : Int)))
  bif ((decide (0 ≤ (0 : Int)) && decide ((0 : Int) < List.length r12.1)) || !(v14 && true)) then
  let v15 : Int := ((List.getD r12.1 (Int.toNat (0 : Int)) 0).toNat : Int)
  let v16 : Bool := (decide (v15 ≥ (128 : Int)))
  let v17 : Bool := (bif v14 then v16 else false)
  bif (P37 (List.take (List.length r12.2.2.1) r12.2.2.1)) then
  let v18 : (List Int) := (F37 (List.take (List.length r12.2.2.1) r12.2.2.1))
  bif (P36 v17 v18) then
  let v19 : ((List UInt8) × Bool) := (F36 v17 v18)
  some (v19.1)
  else none
  else none
  else none
theorem ev13 (x0 : (List UInt8)) (x1 : Int) : ev2 env13 orc13 loops13 body13 (initSt 0 [⟨.str, x0⟩, ⟨(.int .i64), x1⟩]) (retT [(4, .dat .str)] [.str] fun x => x.1) = G13 x0 x1 := by kernel_rfl
def P13 (x0 : (List UInt8)) (x1 : Int) : Bool := (hold (G13 x0 x1)).isSome
def F13 (x0 : (List UInt8)) (x1 : Int) : (List UInt8) := (hold (G13 x0 x1)).getD default
theorem G13_some (x0 : (List UInt8)) (x1 : Int) (h : P13 x0 x1 = true) : G13 x0 x1 = some (F13 x0 x1) := by
  unfold P13 at h; unfold F13
  rw [hold_eq] at h ⊢
  exact some_getD h
theorem P13_of (x0 : (List UInt8)) (x1 : Int) {r : (List UInt8)} (h : G13 x0 x1 = some r) : P13 x0 x1 = true := by unfold P13; rw [hold_eq, h]; rfl
theorem F13_of (x0 : (List UInt8)) (x1 : Int) {r : (List UInt8)} (h : G13 x0 x1 = some r) : F13 x0 x1 = r := by unfold F13; rw [hold_eq, h]; rfl
def spec13 : Spec := ⟨[.str, (.int .i64)], [.dat .str], fun | [a0, a1] => P13 (a0.as .str) (a1.as (.int .i64)) | _ => false, fun | [a0, a1] => [⟨.str, (F13 (a0.as .str) (a1.as (.int .i64)))⟩] | _ => []⟩
theorem meets13 (hE : EnvOk Tryz.prog env13) (hm : Tryz.prog.follows .mixedOrders = true) : Meets Tryz.prog glob 13 spec13 :=
  meets_of_ev2 (O := orc13) (L := loops13) (c := body13) (slots := [4]) hE hm Tryz.func13 Tryz.call13 (by kernel_rfl) (by kernel_rfl) loops13_ok (rangesOk_nil (by kernel_rfl)) (by kernel_rfl) rfl (by decide) (fun ds hds hpre => by
  obtain ⟨x0, ds0, rfl, h0⟩ := datsS hds
  obtain ⟨x1, ds1, rfl, h1⟩ := datsS h0
  have h9 := dats0 h1; subst h9
  exact ev_ret (un := fun r => [⟨.str, r⟩]) loops13_nat (fun _ => rfl) ((ev13 x0 x1).trans (G13_some x0 x1 hpre)))
def G3 (x0 : (List UInt8)) (x1 : (List UInt8)) (x2 : (List UInt8)) : Option (Bool) :=
  bif (P12 ) then
  bif (P13 x0 (60 : Int)) then
  let v1 : (List UInt8) := (F13 x0 (60 : Int))
  bif (P13 x1 (60 : Int)) then
  let v2 : (List UInt8) := (F13 x1 (60 : Int))
  bif (P13 x2 (60 : Int)) then
  let v3 : (List UInt8) := (F13 x2 (60 : Int))
  bif (P14 v1 v2) then
  let v4 : ((List UInt8) × Int) := (F14 v1 v2)
  bif (P14 v2 v1) then
  let v5 : ((List UInt8) × Int) := (F14 v2 v1)
  bif (P14 v4.1 v3) then
  let v6 : ((List UInt8) × Int) := (F14 v4.1 v3)
  bif (P14 v2 v3) then
  let v7 : ((List UInt8) × Int) := (F14 v2 v3)
  bif (P14 v1 v7.1) then
  let v8 : ((List UInt8) × Int) := (F14 v1 v7.1)
  bif (P15 v1 v2) then
  let v9 : ((List UInt8) × Int) := (F15 v1 v2)
  bif (P15 v2 v1) then
  let v10 : ((List UInt8) × Int) := (F15 v2 v1)
  bif (P15 v9.1 v3) then
  let v11 : ((List UInt8) × Int) := (F15 v9.1 v3)
  bif (P15 v2 v3) then
  let v12 : ((List UInt8) × Int) := (F15 v2 v3)
  bif (P15 v1 v12.1) then
  let v13 : ((List UInt8) × Int) := (F15 v1 v12.1)
  bif (P15 v4.1 v3) then
  let v14 : ((List UInt8) × Int) := (F15 v4.1 v3)
  bif (P15 v1 v3) then
  let v15 : ((List UInt8) × Int) := (F15 v1 v3)
  bif (P14 v15.1 v12.1) then
  let v16 : ((List UInt8) × Int) := (F14 v15.1 v12.1)
  bif (P16 v1 v2) then
  let v17 : ((List UInt8) × Int) := (F16 v1 v2)
  bif (P14 v17.1 v2) then
  let v18 : ((List UInt8) × Int) := (F14 v17.1 v2)
  bif (P15 v1 ([49] : List UInt8)) then
  let v19 : ((List UInt8) × Int) := (F15 v1 ([49] : List UInt8))
  bif (P15 v1 ([48] : List UInt8)) then
  let v20 : ((List UInt8) × Int) := (F15 v1 ([48] : List UInt8))
  let v21 : Bool := (v4.2 == (0 : Int))
  let v22 : Bool := (v5.2 == (0 : Int))
  let v23 : Bool := (bif v21 then v22 else false)
  let v24 : Bool := (v6.2 == (0 : Int))
  let v25 : Bool := (bif v23 then v24 else false)
  let v26 : Bool := (v7.2 == (0 : Int))
  let v27 : Bool := (bif v25 then v26 else false)
  let v28 : Bool := (v8.2 == (0 : Int))
  let v29 : Bool := (bif v27 then v28 else false)
  let v30 : Bool := (v9.2 == (0 : Int))
  let v31 : Bool := (bif v29 then v30 else false)
  let v32 : Bool := (v10.2 == (0 : Int))
  let v33 : Bool := (bif v31 then v32 else false)
  let v34 : Bool := (v11.2 == (0 : Int))
  let v35 : Bool := (bif v33 then v34 else false)
  let v36 : Bool := (v12.2 == (0 : Int))
  let v37 : Bool := (bif v35 then v36 else false)
  let v38 : Bool := (v13.2 == (0 : Int))
  let v39 : Bool := (bif v37 then v38 else false)
  let v40 : Bool := (v14.2 == (0 : Int))
  let v41 : Bool := (bif v39 then v40 else false)
  let v42 : Bool := (v15.2 == (0 : Int))
  let v43 : Bool := (bif v41 then v42 else false)
  let v44 : Bool := (v16.2 == (0 : Int))
  let v45 : Bool := (bif v43 then v44 else false)
  let v46 : Bool := (v17.2 == (0 : Int))
  let v47 : Bool := (bif v45 then v46 else false)
  let v48 : Bool := (v18.2 == (0 : Int))
  let v49 : Bool := (bif v47 then v48 else false)
  let v50 : Bool := (v19.2 == (0 : Int))
  let v51 : Bool := (bif v49 then v50 else false)
  let v52 : Bool := (v20.2 == (0 : Int))
  let v53 : Bool := (bif v51 then v52 else false)
  let v54 : Bool := (bif F12 then v53 else false)
  let v55 : Bool := (v4.1 == v5.1)
  let v56 : Bool := (bif v54 then v55 else false)
  let v57 : Bool := (v6.1 == v8.1)
  let v58 : Bool := (bif v56 then v57 else false)
  let v59 : Bool := (v9.1 == v10.1)
  let v60 : Bool := (bif v58 then v59 else false)
  let v61 : Bool := (v11.1 == v13.1)
  let v62 : Bool := (bif v60 then v61 else false)
  let v63 : Bool := (v14.1 == v16.1)
  let v64 : Bool := (bif v62 then v63 else false)
  let v65 : Bool := (v18.1 == v1)
  let v66 : Bool := (bif v64 then v65 else false)
  let v67 : Bool := (v19.1 == v1)
  let v68 : Bool := (bif v66 then v67 else false)
  let v69 : Bool := (v20.1 == ([48] : List UInt8))
  let v70 : Bool := (bif v68 then v69 else false)
  some (v70)
  else none
  else none
  else none
  else none
  else none
  else none
  else none
  else none
  else none
  else none
  else none
  else none
  else none
  else none
  else none
  else none
  else none
  else none
  else none
  else none
  else none
def env6 : Env := {
  tab := tab
  glob := glob
  spec := fun
    | 12 => some spec12
    | 13 => some spec13
    | 14 => some spec14
    | 15 => some spec15
    | 18 => some spec18
    | 21 => some spec21
    | _ => none
  bldT := bldT
  bld := bldF }

def orc6 : Orc := ⟨121, fun _ => none, fun
  | 0 => kp [0] []
  | 1 => kp [0, 3] []
  | 2 => kp [3, 4] []
  | 3 => kp [3, 4, 5, 6] []
  | 4 => kp [3, 4, 5, 6, 7, 8] []
  | 5 => kp [3, 4, 5, 6, 8, 9, 10] []
  | 6 => kp [3, 4, 5, 6, 8, 9, 10, 11, 12] []
  | 7 => kp [3, 4, 5, 6, 62] []
  | 8 => kp [2] []
  | 9 => kp [3, 4, 5, 6, 65] []
  | 10 => kp [2] []
  | 11 => kp [3, 4, 5, 6, 13, 14] []
  | 12 => kp [3, 4, 6, 13, 14, 15, 16] []
  | 13 => kp [3, 4, 6, 13, 14, 16, 17, 18] []
  | 14 => kp [2] []
  | _ => [], fun | _ => false⟩
noncomputable def body6 : Code := Tryz.f6.body.getD .skip
def loops6 : Nat → Option (Sum) := fun | _ => none
theorem loops6_nat : ∀ q f, loops6 q = some f → Natural f := by
  intro q f h
  cases h
theorem loops6_ok : LoopsOk env6 orc6 loops6 body6 := loopsOk_nil (by kernel_rfl)
def G6 (x0 : (List UInt8)) : Option (Bool) :=
  bif (P12 ) then
  bif (P13 x0 (80 : Int)) then
  let v1 : (List UInt8) := (F13 x0 (80 : Int))
  bif (P21 v1) then
  let v2 : ((List UInt8) × Int) := (F21 v1)
  bif (P15 v1 v1) then
  let v3 : ((List UInt8) × Int) := (F15 v1 v1)
  bif (P21 v3.1) then
  let v4 : ((List UInt8) × Int) := (F21 v3.1)
  bif (P14 v4.1 v1) then
  let v5 : ((List UInt8) × Int) := (F14 v4.1 v1)
  let v6 : Bool := (v3.2 != (0 : Int))
  let v7 : Bool := (v4.2 != (0 : Int))
  let v8 : Bool := (bif v6 then true else v7)
  let v9 : Bool := (v5.2 != (0 : Int))
  let v10 : Bool := (bif v8 then true else v9)
  let v11 : Bool := (!(v4.1 == v1))
  let v12 : Bool := (!(v5.1 == ([48] : List UInt8)))
  let v13 : Bool := (bif v11 then v12 else false)
  let v14 : Bool := (bif v10 then true else v13)
  bif v14 then
  some (false)
  else
  bif (P18 v1 ([48] : List UInt8)) then
  let v15 : Int := (F18 v1 ([48] : List UInt8))
  let v16 : Bool := (decide (v15 < (0 : Int)))
  bif v16 then
  let v17 : Bool := (v2.2 == (30 : Int))
  let v18 : Bool := (bif F12 then v17 else false)
  let v19 : Bool := (v2.1 == ([] : List UInt8))
  let v20 : Bool := (bif v18 then v19 else false)
  some (v20)
  else
  bif (P15 v2.1 v2.1) then
  let v21 : ((List UInt8) × Int) := (F15 v2.1 v2.1)
  bif (P14 v2.1 ([49] : List UInt8)) then
  let v22 : ((List UInt8) × Int) := (F14 v2.1 ([49] : List UInt8))
  bif (P15 v22.1 v22.1) then
  let v23 : ((List UInt8) × Int) := (F15 v22.1 v22.1)
  let v24 : Bool := (v2.2 == (0 : Int))
  let v25 : Bool := (bif F12 then v24 else false)
  let v26 : Bool := (v21.2 == (0 : Int))
  let v27 : Bool := (bif v25 then v26 else false)
  let v28 : Bool := (v22.2 == (0 : Int))
  let v29 : Bool := (bif v27 then v28 else false)
  let v30 : Bool := (v23.2 == (0 : Int))
  let v31 : Bool := (bif v29 then v30 else false)
  bif ((P18 v21.1 v1) || !(v31 && true)) then
  let v32 : Int := (F18 v21.1 v1)
  let v33 : Bool := (decide (v32 ≤ (0 : Int)))
  let v34 : Bool := (bif v31 then v33 else false)
  bif ((P18 v23.1 v1) || !(v34 && true)) then
  let v35 : Int := (F18 v23.1 v1)
  let v36 : Bool := (decide (v35 > (0 : Int)))
  let v37 : Bool := (bif v34 then v36 else false)
  some (v37)
  else none
  else none
  else none
  else none
  else none
  else none
  else none
  else none
  else none
  else none
  else none
  else none
theorem ev6 (x0 : (List UInt8)) : ev2 env6 orc6 loops6 body6 (initSt 0 [⟨.str, x0⟩]) (retT [(2, .dat .bool)] [.bool] fun x => x.1) = G6 x0 := by kernel_rfl
def P6 (x0 : (List UInt8)) : Bool := (hold (G6 x0)).isSome
def F6 (x0 : (List UInt8)) : Bool := (hold (G6 x0)).getD default
theorem G6_some (x0 : (List UInt8)) (h : P6 x0 = true) : G6 x0 = some (F6 x0) := by
  unfold P6 at h; unfold F6
  rw [hold_eq] at h ⊢
  exact some_getD h
theorem P6_of (x0 : (List UInt8)) {r : Bool} (h : G6 x0 = some r) : P6 x0 = true := by unfold P6; rw [hold_eq, h]; rfl
theorem F6_of (x0 : (List UInt8)) {r : Bool} (h : G6 x0 = some r) : F6 x0 = r := by unfold F6; rw [hold_eq, h]; rfl
def spec6 : Spec := ⟨[.str], [.dat .bool], fun | [a0] => P6 (a0.as .str) | _ => false, fun | [a0] => [⟨.bool, (F6 (a0.as .str))⟩] | _ => []⟩
theorem meets6 (hE : EnvOk Tryz.prog env6) (hm : Tryz.prog.follows .mixedOrders = true) : Meets Tryz.prog glob 6 spec6 :=
  meets_of_ev2 (O := orc6) (L := loops6) (c := body6) (slots := [2]) hE hm Tryz.func6 Tryz.call6 (by kernel_rfl) (by kernel_rfl) loops6_ok (rangesOk_nil (by kernel_rfl)) (by kernel_rfl) rfl (by decide) (fun ds hds hpre => by
  obtain ⟨x0, ds0, rfl, h0⟩ := datsS hds
  have h9 := dats0 h0; subst h9
  exact ev_ret (un := fun r => [⟨.bool, r⟩]) loops6_nat (fun _ => rfl) ((ev6 x0).trans (G6_some x0 hpre)))
end
end Go.Ev.I

namespace Go.Ev.I
open Go Go.Proofs Go.Ev
noncomputable section
theorem mixed : Tryz.prog.follows .mixedOrders = true := by kernel_rfl
theorem envOk47 : EnvOk Tryz.prog env47 := by
  refine ⟨tabOk, fun f S h => ?_, fun f l S h => ?_, fun f fs I h => ?_, bldOk⟩
  · simp only [env47] at h
    split at h
    · cases h; exact full73
    · cases h; exact full74
    · cases h
  · simp only [env47] at h
    cases h
  · simp only [env47] at h
    cases h
theorem full47 : Meets Tryz.prog glob 47 spec47 := meets47 envOk47 mixed
theorem envOk65 : EnvOk Tryz.prog env65 := by
  refine ⟨tabOk, fun f S h => ?_, fun f l S h => ?_, fun f fs I h => ?_, bldOk⟩
  · simp only [env65] at h
    cases h
  · simp only [env65] at h
    cases h
  · simp only [env65] at h
    cases h
theorem full65 : Meets Tryz.prog glob 65 spec65 := meets65 envOk65 mixed
theorem envOk59 : EnvOk Tryz.prog env59 := by
  refine ⟨tabOk, fun f S h => ?_, fun f l S h => ?_, fun f fs I h => ?_, bldOk⟩
  · simp only [env59] at h
    split at h
    · cases h; exact full57
    · cases h; exact full65
    · cases h; exact full73
    · cases h
  · simp only [env59] at h
    cases h
  · simp only [env59] at h
    cases h
theorem full59 : Meets2 Tryz.prog glob 59 sp59 := meets59 envOk59 mixed
theorem envOk38 : EnvOk Tryz.prog env38 := by
  refine ⟨tabOk, fun f S h => ?_, fun f l S h => ?_, fun f fs I h => ?_, bldOk⟩
  · simp only [env38] at h
    split at h
    · cases h; exact full47
    · cases h
  · simp only [env38] at h
    split at h
    · cases h; exact full59
    · cases h
  · simp only [env38] at h
    cases h
theorem full38 : Meets2 Tryz.prog glob 38 sp38 := meets38 envOk38 mixed
theorem envOk70 : EnvOk Tryz.prog env70 := by
  refine ⟨tabOk, fun f S h => ?_, fun f l S h => ?_, fun f fs I h => ?_, bldOk⟩
  · simp only [env70] at h
    cases h
  · simp only [env70] at h
    cases h
  · simp only [env70] at h
    cases h
theorem full70 : Meets Tryz.prog glob 70 spec70 := meets70 envOk70 mixed
theorem envOk69 : EnvOk Tryz.prog env69 := by
  refine ⟨tabOk, fun f S h => ?_, fun f l S h => ?_, fun f fs I h => ?_, bldOk⟩
  · simp only [env69] at h
    split at h
    · cases h; exact full70
    · cases h
  · simp only [env69] at h
    cases h
  · simp only [env69] at h
    cases h
theorem full69 : Meets2 Tryz.prog glob 69 sp69 := meets69 envOk69 mixed
theorem envOk68 : EnvOk Tryz.prog env68 := by
  refine ⟨tabOk, fun f S h => ?_, fun f l S h => ?_, fun f fs I h => ?_, bldOk⟩
  · simp only [env68] at h
    cases h
  · simp only [env68] at h
    split at h
    · cases h; exact full69
    · cases h
  · simp only [env68] at h
    cases h
theorem full68 : Meets2 Tryz.prog glob 68 sp68 := meets68 envOk68 mixed
theorem envOk43 : EnvOk Tryz.prog env43 := by
  refine ⟨tabOk, fun f S h => ?_, fun f l S h => ?_, fun f fs I h => ?_, bldOk⟩
  · simp only [env43] at h
    split at h
    · cases h; exact full65
    · cases h
  · simp only [env43] at h
    split at h
    · cases h; exact full68
    · cases h
  · simp only [env43] at h
    cases h
theorem full43 : Meets Tryz.prog glob 43 spec43 := meets43 envOk43 mixed
theorem envOk85 : EnvOk Tryz.prog env85 := by
  refine ⟨tabOk, fun f S h => ?_, fun f l S h => ?_, fun f fs I h => ?_, bldOk⟩
  · simp only [env85] at h
    cases h
  · simp only [env85] at h
    cases h
  · simp only [env85] at h
    cases h
theorem full85 : Meets Tryz.prog glob 85 spec85 := meets85 envOk85 mixed
theorem envOk72 : EnvOk Tryz.prog env72 := by
  refine ⟨tabOk, fun f S h => ?_, fun f l S h => ?_, fun f fs I h => ?_, bldOk⟩
  · simp only [env72] at h
    split at h
    · cases h; exact full85
    · cases h
  · simp only [env72] at h
    cases h
  · simp only [env72] at h
    cases h
theorem full72 : Meets Tryz.prog glob 72 spec72 := meets72 envOk72 mixed
theorem envOk60 : EnvOk Tryz.prog env60 := by
  refine ⟨tabOk, fun f S h => ?_, fun f l S h => ?_, fun f fs I h => ?_, bldOk⟩
  · simp only [env60] at h
    cases h
  · simp only [env60] at h
    cases h
  · simp only [env60] at h
    cases h
theorem full60 : Meets2 Tryz.prog glob 60 sp60 := meets60 envOk60 mixed
theorem envOk78 : EnvOk Tryz.prog env78 := by
  refine ⟨tabOk, fun f S h => ?_, fun f l S h => ?_, fun f fs I h => ?_, bldOk⟩
  · simp only [env78] at h
    cases h
  · simp only [env78] at h
    cases h
  · simp only [env78] at h
    cases h
theorem fullI78 : IterOk Tryz.prog glob 78 I78 := iter78 envOk78 mixed
theorem envOk46 : EnvOk Tryz.prog env46 := by
  refine ⟨tabOk, fun f S h => ?_, fun f l S h => ?_, fun f fs I h => ?_, bldOk⟩
  · simp only [env46] at h
    split at h
    · cases h; exact full72
    · cases h
  · simp only [env46] at h
    split at h
    · cases h; exact full60
    · cases h
  · simp only [env46] at h
    cases h
theorem full46 : Meets2 Tryz.prog glob 46 sp46 := meets46 envOk46 mixed fullI78
theorem envOk71 : EnvOk Tryz.prog env71 := by
  refine ⟨tabOk, fun f S h => ?_, fun f l S h => ?_, fun f fs I h => ?_, bldOk⟩
  · simp only [env71] at h
    split at h
    · cases h; exact full70
    · cases h
  · simp only [env71] at h
    cases h
  · simp only [env71] at h
    cases h
theorem full71 : Meets2 Tryz.prog glob 71 sp71 := meets71 envOk71 mixed
theorem envOk10068 : EnvOk Tryz.prog env10068 := by
  refine ⟨tabOk, fun f S h => ?_, fun f l S h => ?_, fun f fs I h => ?_, bldOk⟩
  · simp only [env10068] at h
    cases h
  · simp only [env10068] at h
    split at h
    · cases h; exact full71
    · cases h
  · simp only [env10068] at h
    cases h
theorem full10068 : Meets2 Tryz.prog glob 68 sp10068 := meets10068 envOk10068 mixed
theorem envOk45 : EnvOk Tryz.prog env45 := by
  refine ⟨tabOk, fun f S h => ?_, fun f l S h => ?_, fun f fs I h => ?_, bldOk⟩
  · simp only [env45] at h
    split at h
    · cases h; exact full65
    · cases h
  · simp only [env45] at h
    split at h
    · cases h; exact full10068
    · cases h
  · simp only [env45] at h
    cases h
theorem full45 : Meets Tryz.prog glob 45 spec45 := meets45 envOk45 mixed
theorem envOk39 : EnvOk Tryz.prog env39 := by
  refine ⟨tabOk, fun f S h => ?_, fun f l S h => ?_, fun f fs I h => ?_, bldOk⟩
  · simp only [env39] at h
    split at h
    · cases h; exact full43
    · cases h; exact full45
    · cases h
  · simp only [env39] at h
    split at h
    · cases h; exact full46
    · cases h
  · simp only [env39] at h
    cases h
theorem full39 : Meets2 Tryz.prog glob 39 sp39 := meets39 envOk39 mixed
theorem envOk40 : EnvOk Tryz.prog env40 := by
  refine ⟨tabOk, fun f S h => ?_, fun f l S h => ?_, fun f fs I h => ?_, bldOk⟩
  · simp only [env40] at h
    split at h
    · cases h; exact full58
    · cases h; exact full61
    · cases h
  · simp only [env40] at h
    split at h
    · cases h; exact full60
    · cases h
  · simp only [env40] at h
    cases h
theorem full40 : Meets Tryz.prog glob 40 spec40 := meets40 envOk40 mixed fullI78
theorem envOk14 : EnvOk Tryz.prog env14 := by
  refine ⟨tabOk, fun f S h => ?_, fun f l S h => ?_, fun f fs I h => ?_, bldOk⟩
  · simp only [env14] at h
    split at h
    · cases h; exact full40
    · cases h
  · simp only [env14] at h
    split at h
    · cases h; exact full38
    · cases h; exact full39
    · cases h
  · simp only [env14] at h
    cases h
theorem full14 : Meets Tryz.prog glob 14 spec14 := meets14 envOk14 mixed
theorem envOk16 : EnvOk Tryz.prog env16 := by
  refine ⟨tabOk, fun f S h => ?_, fun f l S h => ?_, fun f fs I h => ?_, bldOk⟩
  · simp only [env16] at h
    split at h
    · cases h; exact full40
    · cases h
  · simp only [env16] at h
    split at h
    · cases h; exact full38
    · cases h; exact full39
    · cases h
  · simp only [env16] at h
    cases h
theorem full16 : Meets Tryz.prog glob 16 spec16 := meets16 envOk16 mixed
theorem envOk84 : EnvOk Tryz.prog env84 := by
  refine ⟨tabOk, fun f S h => ?_, fun f l S h => ?_, fun f fs I h => ?_, bldOk⟩
  · simp only [env84] at h
    split at h
    · cases h; exact full70
    · cases h
  · simp only [env84] at h
    cases h
  · simp only [env84] at h
    cases h
theorem full84 : Meets2 Tryz.prog glob 84 sp84 := meets84 envOk84 mixed
theorem envOk20068 : EnvOk Tryz.prog env20068 := by
  refine ⟨tabOk, fun f S h => ?_, fun f l S h => ?_, fun f fs I h => ?_, bldOk⟩
  · simp only [env20068] at h
    cases h
  · simp only [env20068] at h
    split at h
    · cases h; exact full84
    · cases h
  · simp only [env20068] at h
    cases h
theorem full20068 : Meets2 Tryz.prog glob 68 sp20068 := meets20068 envOk20068 mixed
theorem envOk64 : EnvOk Tryz.prog env64 := by
  refine ⟨tabOk, fun f S h => ?_, fun f l S h => ?_, fun f fs I h => ?_, bldOk⟩
  · simp only [env64] at h
    split at h
    · cases h; exact full65
    · cases h
  · simp only [env64] at h
    split at h
    · cases h; exact full20068
    · cases h
  · simp only [env64] at h
    cases h
theorem full64 : Meets Tryz.prog glob 64 spec64 := meets64 envOk64 mixed
theorem envOk41 : EnvOk Tryz.prog env41 := by
  refine ⟨tabOk, fun f S h => ?_, fun f l S h => ?_, fun f fs I h => ?_, bldOk⟩
  · simp only [env41] at h
    split at h
    · cases h; exact full43
    · cases h; exact full64
    · cases h
  · simp only [env41] at h
    split at h
    · cases h; exact full60
    · cases h
  · simp only [env41] at h
    cases h
theorem full41 : Meets Tryz.prog glob 41 spec41 := meets41 envOk41 mixed fullI78
theorem envOk15 : EnvOk Tryz.prog env15 := by
  refine ⟨tabOk, fun f S h => ?_, fun f l S h => ?_, fun f fs I h => ?_, bldOk⟩
  · simp only [env15] at h
    split at h
    · cases h; exact full40
    · cases h; exact full41
    · cases h
  · simp only [env15] at h
    split at h
    · cases h; exact full38
    · cases h
  · simp only [env15] at h
    cases h
theorem full15 : Meets Tryz.prog glob 15 spec15 := meets15 envOk15 mixed
theorem envOk66 : EnvOk Tryz.prog env66 := by
  refine ⟨tabOk, fun f S h => ?_, fun f l S h => ?_, fun f fs I h => ?_, bldOk⟩
  · simp only [env66] at h
    split at h
    · cases h; exact full64
    · cases h
  · simp only [env66] at h
    split at h
    · cases h; exact full46
    · cases h
  · simp only [env66] at h
    cases h
theorem full66 : Meets2 Tryz.prog glob 66 sp66 := meets66 envOk66 mixed
theorem envOk67 : EnvOk Tryz.prog env67 := by
  refine ⟨tabOk, fun f S h => ?_, fun f l S h => ?_, fun f fs I h => ?_, bldOk⟩
  · simp only [env67] at h
    cases h
  · simp only [env67] at h
    split at h
    · cases h; exact full66
    · cases h
  · simp only [env67] at h
    cases h
theorem full67 : Meets2 Tryz.prog glob 67 sp67 := meets67 envOk67 mixed
theorem envOk42 : EnvOk Tryz.prog env42 := by
  refine ⟨tabOk, fun f S h => ?_, fun f l S h => ?_, fun f fs I h => ?_, bldOk⟩
  · simp only [env42] at h
    split at h
    · cases h; exact full45
    · cases h; exact full64
    · cases h; exact full65
    · cases h
  · simp only [env42] at h
    split at h
    · cases h; exact full60
    · cases h; exact full67
    · cases h
  · simp only [env42] at h
    cases h
theorem full42 : Meets2 Tryz.prog glob 42 sp42 := meets42 envOk42 mixed fullI78
theorem envOk44 : EnvOk Tryz.prog env44 := by
  refine ⟨tabOk, fun f S h => ?_, fun f l S h => ?_, fun f fs I h => ?_, bldOk⟩
  · simp only [env44] at h
    cases h
  · simp only [env44] at h
    cases h
  · simp only [env44] at h
    cases h
theorem full44 : Meets Tryz.prog glob 44 spec44 := meets44 envOk44 mixed
theorem envOk17 : EnvOk Tryz.prog env17 := by
  refine ⟨tabOk, fun f S h => ?_, fun f l S h => ?_, fun f fs I h => ?_, bldOk⟩
  · simp only [env17] at h
    split at h
    · cases h; exact full40
    · cases h; exact full43
    · cases h; exact full44
    · cases h; exact full45
    · cases h
  · simp only [env17] at h
    split at h
    · cases h; exact full38
    · cases h; exact full42
    · cases h
  · simp only [env17] at h
    cases h
theorem full17 : Meets Tryz.prog glob 17 spec17 := meets17 envOk17 mixed
theorem envOk20 : EnvOk Tryz.prog env20 := by
  refine ⟨tabOk, fun f S h => ?_, fun f l S h => ?_, fun f fs I h => ?_, bldOk⟩
  · simp only [env20] at h
    split at h
    · cases h; exact full40
    · cases h
  · simp only [env20] at h
    split at h
    · cases h; exact full38
    · cases h; exact full42
    · cases h
  · simp only [env20] at h
    cases h
theorem full20 : Meets Tryz.prog glob 20 spec20 := meets20 envOk20 mixed
theorem envOk21 : EnvOk Tryz.prog env21 := by
  refine ⟨tabOk, fun f S h => ?_, fun f l S h => ?_, fun f fs I h => ?_, bldOk⟩
  · simp only [env21] at h
    split at h
    · cases h; exact full40
    · cases h; exact full43
    · cases h
  · simp only [env21] at h
    split at h
    · cases h; exact full38
    · cases h; exact full42
    · cases h; exact full46
    · cases h
  · simp only [env21] at h
    cases h
theorem full21 : Meets Tryz.prog glob 21 spec21 := meets21 envOk21 mixed
theorem envOk19 : EnvOk Tryz.prog env19 := by
  refine ⟨tabOk, fun f S h => ?_, fun f l S h => ?_, fun f fs I h => ?_, bldOk⟩
  · simp only [env19] at h
    split at h
    · cases h; exact full47
    · cases h
  · simp only [env19] at h
    cases h
  · simp only [env19] at h
    cases h
theorem full19 : Meets Tryz.prog glob 19 spec19 := meets19 envOk19 mixed
theorem envOk18 : EnvOk Tryz.prog env18 := by
  refine ⟨tabOk, fun f S h => ?_, fun f l S h => ?_, fun f fs I h => ?_, bldOk⟩
  · simp only [env18] at h
    cases h
  · simp only [env18] at h
    split at h
    · cases h; exact full38
    · cases h; exact full46
    · cases h
  · simp only [env18] at h
    cases h
theorem full18 : Meets Tryz.prog glob 18 spec18 := meets18 envOk18 mixed
theorem envOk12 : EnvOk Tryz.prog env12 := by
  refine ⟨tabOk, fun f S h => ?_, fun f l S h => ?_, fun f fs I h => ?_, bldOk⟩
  · simp only [env12] at h
    split at h
    · cases h; exact full14
    · cases h; exact full15
    · cases h; exact full16
    · cases h; exact full17
    · cases h; exact full18
    · cases h; exact full19
    · cases h; exact full20
    · cases h; exact full21
    · cases h
  · simp only [env12] at h
    cases h
  · simp only [env12] at h
    cases h
theorem full12 : Meets Tryz.prog glob 12 spec12 := meets12 envOk12 mixed
theorem envOk37 : EnvOk Tryz.prog env37 := by
  refine ⟨tabOk, fun f S h => ?_, fun f l S h => ?_, fun f fs I h => ?_, bldOk⟩
  · simp only [env37] at h
    cases h
  · simp only [env37] at h
    cases h
  · simp only [env37] at h
    cases h
theorem full37 : Meets Tryz.prog glob 37 spec37 := meets37 envOk37 mixed
theorem envOk36 : EnvOk Tryz.prog env36 := by
  refine ⟨tabOk, fun f S h => ?_, fun f l S h => ?_, fun f fs I h => ?_, bldOk⟩
  · simp only [env36] at h
    cases h
  · simp only [env36] at h
    cases h
  · simp only [env36] at h
    cases h
theorem full36 : Meets Tryz.prog glob 36 spec36 := meets36 envOk36 mixed
theorem envOk13 : EnvOk Tryz.prog env13 := by
  refine ⟨tabOk, fun f S h => ?_, fun f l S h => ?_, fun f fs I h => ?_, bldOk⟩
  · simp only [env13] at h
    split at h
    · cases h; exact full36
    · cases h; exact full37
    · cases h
  · simp only [env13] at h
    cases h
  · simp only [env13] at h
    cases h
theorem full13 : Meets Tryz.prog glob 13 spec13 := meets13 envOk13 mixed
theorem envOk6 : EnvOk Tryz.prog env6 := by
  refine ⟨tabOk, fun f S h => ?_, fun f l S h => ?_, fun f fs I h => ?_, bldOk⟩
  · simp only [env6] at h
    split at h
    · cases h; exact full12
    · cases h; exact full13
    · cases h; exact full14
    · cases h; exact full15
    · cases h; exact full18
    · cases h; exact full21
    · cases h
  · simp only [env6] at h
    cases h
  · simp only [env6] at h
    cases h
theorem full6 : Meets Tryz.prog glob 6 spec6 := meets6 envOk6 mixed
end
end Go.Ev.I
