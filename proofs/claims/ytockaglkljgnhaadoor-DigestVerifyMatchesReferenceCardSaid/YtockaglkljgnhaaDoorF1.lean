/- The functions of the program as functions of Lean, with the proofs that they are. -/
import Derived.Test.YtockaglkljgnhaaDoorPa
import Derived.Test.YtockaglkljgnhaaDoorProg
import Derived.KernelRfl
set_option linter.unusedSimpArgs false
set_option linter.unusedVariables false
set_option linter.deprecated false
namespace Go.Ev.D
open Go Go.Proofs Go.Ev
noncomputable section
abbrev t13 : Ty := (.pair .str (.pair (.int .u64) .unit))
abbrev D57 : Type := ((List UInt8) × (Bool × Unit))
abbrev t57 : Ty := (.pair .str (.pair .bool .unit))
abbrev z57 : D57 := (([] : List UInt8), (false, ()))
abbrev t7 : Ty := (.pair (.int .i64) (.pair (.int .i64) (.pair .bool (.pair (.int .u8) .unit))))
def tab : Tab := ⟨fun
  | 2 => some (.int .i64)
  | 3 => some (.int .i64)
  | 4 => some .bool
  | 5 => some (.int .u8)
  | 6 => some (.int .u8)
  | 7 => some t7
  | 8 => some t7
  | 9 => some .str
  | 10 => some .str
  | 11 => some .str
  | 12 => some (.int .u64)
  | 13 => some t13
  | 14 => some t13
  | 21 => some (.int .i32)
  | 22 => some (.list .str)
  | 25 => some (.int .i64)
  | 46 => some (.list (.int .u8))
  | 49 => some (.list (.int .i64))
  | 54 => some (.list t57)
  | 57 => some t57
  | 58 => some t57
  | 69 => some (.int .u32)
  | 70 => some (.arr 8 (.int .u32))
  | 71 => some (.arr 8 (.int .u32))
  | 77 => some (.list (.int .u32))
  | 80 => some (.int .u64)
  | 88 => some (.arr 64 (.int .u32))
  | 91 => some (.arr 32 (.int .u8))
  | 96 => some (.int .u64)
  | 116 => some (.int .u8)
  | 117 => some (.int .u8)
  | 119 => some (.int .i32)
  | 120 => some (.int .i32)
  | _ => none, fun
  | 22 => some 9
  | 46 => some 5
  | 49 => some 3
  | 54 => some 58
  | 77 => some 69
  | _ => none, fun | 4 => true | _ => false, fun
  | 22 => [(0, 9, .str)]
  | 46 => [(0, 5, (.int .u8))]
  | 49 => [(0, 3, (.int .i64))]
  | 54 => [(0, 58, t57)]
  | 77 => [(0, 69, (.int .u32))]
  | _ => [], fun
  | 1 => some false
  | 15 => some true
  | 16 => some true
  | 17 => some true
  | 23 => some false
  | 24 => some false
  | 27 => some false
  | 28 => some false
  | 29 => some false
  | 30 => some false
  | 31 => some false
  | 32 => some false
  | 33 => some false
  | 34 => some false
  | 35 => some false
  | 37 => some false
  | 38 => some false
  | 39 => some false
  | 40 => some false
  | 41 => some false
  | 42 => some false
  | 43 => some false
  | 44 => some false
  | 45 => some false
  | 47 => some false
  | 48 => some false
  | 50 => some false
  | 51 => some false
  | 52 => some false
  | 53 => some false
  | 56 => some false
  | 59 => some false
  | 60 => some false
  | 61 => some false
  | 63 => some false
  | 64 => some false
  | 66 => some false
  | 67 => some false
  | 68 => some false
  | 72 => some false
  | 73 => some false
  | 74 => some false
  | 75 => some false
  | 76 => some false
  | 78 => some false
  | 79 => some false
  | 81 => some false
  | 82 => some false
  | 83 => some false
  | 84 => some false
  | 85 => some false
  | 86 => some false
  | 87 => some true
  | 89 => some false
  | 90 => some false
  | 92 => some false
  | 93 => some false
  | 94 => some false
  | 95 => some false
  | 97 => some false
  | 98 => some true
  | 101 => some false
  | 105 => some false
  | 106 => some true
  | 108 => some false
  | 109 => some false
  | 115 => some false
  | 118 => some false
  | _ => none⟩
def roundK : List Int := [1116352408, 1899447441, 3049323471, 3921009573, 961987163, 1508970993, 2453635748, 2870763221, 3624381080, 310598401, 607225278, 1426881987, 1925078388, 2162078206, 2614888103, 3248222580, 3835390401, 4022224774, 264347078, 604807628, 770255983, 1249150122, 1555081692, 1996064986, 2554220882, 2821834349, 2952996808, 3210313671, 3336571891, 3584528711, 113926993, 338241895, 666307205, 773529912, 1294757372, 1396182291, 1695183700, 1986661051, 2177026350, 2456956037, 2730485921, 2820302411, 3259730800, 3345764771, 3516065817, 3600352804, 4094571909, 275423344, 430227734, 506948616, 659060556, 883997877, 958139571, 1322822218, 1537002063, 1747873779, 1955562222, 2024104815, 2227730452, 2361852424, 2428436474, 2756734187, 3204031479, 3329325298]
def glob : Nat → Option Dat := fun | 0 => some ⟨.arr 64 (.int .u32), roundK⟩ | _ => none
theorem full65 : Meets Tryd.prog glob 65 spec65 := join_meets glob
theorem inOk41 : MeetsIn Tryd.prog 41 [] in41 := reverse_meets
theorem tyOk2 : TyOk Tryd.prog tab 2 (.int .i64) := ⟨Tryd.underlying2, by kernel_rfl⟩
theorem tyOk3 : TyOk Tryd.prog tab 3 (.int .i64) := ⟨Tryd.underlying3, by kernel_rfl⟩
theorem tyOk4 : TyOk Tryd.prog tab 4 .bool := ⟨Tryd.underlying4, by kernel_rfl⟩
theorem tyOk5 : TyOk Tryd.prog tab 5 (.int .u8) := ⟨Tryd.underlying5, by kernel_rfl⟩
theorem tyOk6 : TyOk Tryd.prog tab 6 (.int .u8) := ⟨Tryd.underlying6, by kernel_rfl⟩
theorem tyOk7 : TyOk Tryd.prog tab 7 t7 := ⟨⟨_, Tryd.underlying7, (And.intro rfl (And.intro rfl (And.intro rfl (And.intro rfl (And.intro rfl (And.intro rfl (And.intro rfl (And.intro rfl trivial))))))))⟩, by kernel_rfl⟩
theorem tyOk8 : TyOk Tryd.prog tab 8 t7 := ⟨⟨_, Tryd.underlying8, (And.intro rfl (And.intro rfl (And.intro rfl (And.intro rfl (And.intro rfl (And.intro rfl (And.intro rfl (And.intro rfl trivial))))))))⟩, by kernel_rfl⟩
theorem tyOk9 : TyOk Tryd.prog tab 9 .str := ⟨Tryd.underlying9, by kernel_rfl⟩
theorem tyOk10 : TyOk Tryd.prog tab 10 .str := ⟨Tryd.underlying10, by kernel_rfl⟩
theorem tyOk11 : TyOk Tryd.prog tab 11 .str := ⟨Tryd.underlying11, by kernel_rfl⟩
theorem tyOk12 : TyOk Tryd.prog tab 12 (.int .u64) := ⟨Tryd.underlying12, by kernel_rfl⟩
theorem tyOk13 : TyOk Tryd.prog tab 13 t13 := ⟨⟨_, Tryd.underlying13, (And.intro rfl (And.intro rfl (And.intro rfl (And.intro rfl trivial))))⟩, by kernel_rfl⟩
theorem tyOk14 : TyOk Tryd.prog tab 14 t13 := ⟨⟨_, Tryd.underlying14, (And.intro rfl (And.intro rfl (And.intro rfl (And.intro rfl trivial))))⟩, by kernel_rfl⟩
theorem tyOk21 : TyOk Tryd.prog tab 21 (.int .i32) := ⟨Tryd.underlying21, by kernel_rfl⟩
theorem tyOk22 : TyOk Tryd.prog tab 22 (.list .str) := ⟨⟨9, Tryd.underlying22, rfl, rfl, by decide, Tryd.t9.bytes, Nat.le_of_ble_eq_true (by kernel_rfl), by kernel_rfl⟩, by kernel_rfl⟩
theorem tyOk25 : TyOk Tryd.prog tab 25 (.int .i64) := ⟨Tryd.underlying25, by kernel_rfl⟩
theorem tyOk46 : TyOk Tryd.prog tab 46 (.list (.int .u8)) := ⟨⟨5, Tryd.underlying46, rfl, rfl, by decide, Tryd.t5.bytes, Nat.le_of_ble_eq_true (by kernel_rfl), by kernel_rfl⟩, by kernel_rfl⟩
theorem tyOk49 : TyOk Tryd.prog tab 49 (.list (.int .i64)) := ⟨⟨3, Tryd.underlying49, rfl, rfl, by decide, Tryd.t3.bytes, Nat.le_of_ble_eq_true (by kernel_rfl), by kernel_rfl⟩, by kernel_rfl⟩
theorem tyOk54 : TyOk Tryd.prog tab 54 (.list t57) := ⟨⟨58, Tryd.underlying54, rfl, rfl, by decide, Tryd.t58.bytes, Nat.le_of_ble_eq_true (by kernel_rfl), by kernel_rfl⟩, by kernel_rfl⟩
theorem tyOk57 : TyOk Tryd.prog tab 57 t57 := ⟨⟨_, Tryd.underlying57, (And.intro rfl (And.intro rfl (And.intro rfl (And.intro rfl trivial))))⟩, by kernel_rfl⟩
theorem tyOk58 : TyOk Tryd.prog tab 58 t57 := ⟨⟨_, Tryd.underlying58, (And.intro rfl (And.intro rfl (And.intro rfl (And.intro rfl trivial))))⟩, by kernel_rfl⟩
theorem tyOk69 : TyOk Tryd.prog tab 69 (.int .u32) := ⟨Tryd.underlying69, by kernel_rfl⟩
theorem tyOk70 : TyOk Tryd.prog tab 70 (.arr 8 (.int .u32)) := ⟨⟨69, Tryd.underlying70, rfl, by decide, by kernel_rfl⟩, by kernel_rfl⟩
theorem tyOk71 : TyOk Tryd.prog tab 71 (.arr 8 (.int .u32)) := ⟨⟨69, Tryd.underlying71, rfl, by decide, by kernel_rfl⟩, by kernel_rfl⟩
theorem tyOk77 : TyOk Tryd.prog tab 77 (.list (.int .u32)) := ⟨⟨69, Tryd.underlying77, rfl, rfl, by decide, Tryd.t69.bytes, Nat.le_of_ble_eq_true (by kernel_rfl), by kernel_rfl⟩, by kernel_rfl⟩
theorem tyOk80 : TyOk Tryd.prog tab 80 (.int .u64) := ⟨Tryd.underlying80, by kernel_rfl⟩
theorem tyOk88 : TyOk Tryd.prog tab 88 (.arr 64 (.int .u32)) := ⟨⟨69, Tryd.underlying88, rfl, by decide, by kernel_rfl⟩, by kernel_rfl⟩
theorem tyOk91 : TyOk Tryd.prog tab 91 (.arr 32 (.int .u8)) := ⟨⟨5, Tryd.underlying91, rfl, by decide, by kernel_rfl⟩, by kernel_rfl⟩
theorem tyOk96 : TyOk Tryd.prog tab 96 (.int .u64) := ⟨Tryd.underlying96, by kernel_rfl⟩
theorem tyOk116 : TyOk Tryd.prog tab 116 (.int .u8) := ⟨Tryd.underlying116, by kernel_rfl⟩
theorem tyOk117 : TyOk Tryd.prog tab 117 (.int .u8) := ⟨Tryd.underlying117, by kernel_rfl⟩
theorem tyOk119 : TyOk Tryd.prog tab 119 (.int .i32) := ⟨Tryd.underlying119, by kernel_rfl⟩
theorem tyOk120 : TyOk Tryd.prog tab 120 (.int .i32) := ⟨Tryd.underlying120, by kernel_rfl⟩
theorem refOk1 : RefOk Tryd.prog 1 false := ⟨by kernel_rfl, _, Tryd.underlying1, trivial⟩
theorem refOk15 : RefOk Tryd.prog 15 true := ⟨by kernel_rfl, _, Tryd.underlying15, trivial⟩
theorem refOk16 : RefOk Tryd.prog 16 true := ⟨by kernel_rfl, _, Tryd.underlying16, trivial⟩
theorem refOk17 : RefOk Tryd.prog 17 true := ⟨by kernel_rfl, _, Tryd.underlying17, trivial⟩
theorem refOk23 : RefOk Tryd.prog 23 false := ⟨by kernel_rfl, _, Tryd.underlying23, trivial⟩
theorem refOk24 : RefOk Tryd.prog 24 false := ⟨by kernel_rfl, _, Tryd.underlying24, trivial⟩
theorem refOk27 : RefOk Tryd.prog 27 false := ⟨by kernel_rfl, _, Tryd.underlying27, trivial⟩
theorem refOk28 : RefOk Tryd.prog 28 false := ⟨by kernel_rfl, _, Tryd.underlying28, trivial⟩
theorem refOk29 : RefOk Tryd.prog 29 false := ⟨by kernel_rfl, _, Tryd.underlying29, trivial⟩
theorem refOk30 : RefOk Tryd.prog 30 false := ⟨by kernel_rfl, _, Tryd.underlying30, trivial⟩
theorem refOk31 : RefOk Tryd.prog 31 false := ⟨by kernel_rfl, _, Tryd.underlying31, trivial⟩
theorem refOk32 : RefOk Tryd.prog 32 false := ⟨by kernel_rfl, _, Tryd.underlying32, trivial⟩
theorem refOk33 : RefOk Tryd.prog 33 false := ⟨by kernel_rfl, _, Tryd.underlying33, trivial⟩
theorem refOk34 : RefOk Tryd.prog 34 false := ⟨by kernel_rfl, _, Tryd.underlying34, trivial⟩
theorem refOk35 : RefOk Tryd.prog 35 false := ⟨by kernel_rfl, _, Tryd.underlying35, trivial⟩
theorem refOk37 : RefOk Tryd.prog 37 false := ⟨by kernel_rfl, _, Tryd.underlying37, trivial⟩
theorem refOk38 : RefOk Tryd.prog 38 false := ⟨by kernel_rfl, _, Tryd.underlying38, trivial⟩
theorem refOk39 : RefOk Tryd.prog 39 false := ⟨by kernel_rfl, _, Tryd.underlying39, trivial⟩
theorem refOk40 : RefOk Tryd.prog 40 false := ⟨by kernel_rfl, _, Tryd.underlying40, trivial⟩
theorem refOk41 : RefOk Tryd.prog 41 false := ⟨by kernel_rfl, _, Tryd.underlying41, trivial⟩
theorem refOk42 : RefOk Tryd.prog 42 false := ⟨by kernel_rfl, _, Tryd.underlying42, trivial⟩
theorem refOk43 : RefOk Tryd.prog 43 false := ⟨by kernel_rfl, _, Tryd.underlying43, trivial⟩
theorem refOk44 : RefOk Tryd.prog 44 false := ⟨by kernel_rfl, _, Tryd.underlying44, trivial⟩
theorem refOk45 : RefOk Tryd.prog 45 false := ⟨by kernel_rfl, _, Tryd.underlying45, trivial⟩
theorem refOk47 : RefOk Tryd.prog 47 false := ⟨by kernel_rfl, _, Tryd.underlying47, trivial⟩
theorem refOk48 : RefOk Tryd.prog 48 false := ⟨by kernel_rfl, _, Tryd.underlying48, trivial⟩
theorem refOk50 : RefOk Tryd.prog 50 false := ⟨by kernel_rfl, _, Tryd.underlying50, trivial⟩
theorem refOk51 : RefOk Tryd.prog 51 false := ⟨by kernel_rfl, _, Tryd.underlying51, trivial⟩
theorem refOk52 : RefOk Tryd.prog 52 false := ⟨by kernel_rfl, _, Tryd.underlying52, trivial⟩
theorem refOk53 : RefOk Tryd.prog 53 false := ⟨by kernel_rfl, _, Tryd.underlying53, trivial⟩
theorem refOk56 : RefOk Tryd.prog 56 false := ⟨by kernel_rfl, _, Tryd.underlying56, trivial⟩
theorem refOk59 : RefOk Tryd.prog 59 false := ⟨by kernel_rfl, _, Tryd.underlying59, trivial⟩
theorem refOk60 : RefOk Tryd.prog 60 false := ⟨by kernel_rfl, _, Tryd.underlying60, trivial⟩
theorem refOk61 : RefOk Tryd.prog 61 false := ⟨by kernel_rfl, _, Tryd.underlying61, trivial⟩
theorem refOk63 : RefOk Tryd.prog 63 false := ⟨by kernel_rfl, _, Tryd.underlying63, trivial⟩
theorem refOk64 : RefOk Tryd.prog 64 false := ⟨by kernel_rfl, _, Tryd.underlying64, trivial⟩
theorem refOk66 : RefOk Tryd.prog 66 false := ⟨by kernel_rfl, _, Tryd.underlying66, trivial⟩
theorem refOk67 : RefOk Tryd.prog 67 false := ⟨by kernel_rfl, _, Tryd.underlying67, trivial⟩
theorem refOk68 : RefOk Tryd.prog 68 false := ⟨by kernel_rfl, _, Tryd.underlying68, trivial⟩
theorem refOk72 : RefOk Tryd.prog 72 false := ⟨by kernel_rfl, _, Tryd.underlying72, trivial⟩
theorem refOk73 : RefOk Tryd.prog 73 false := ⟨by kernel_rfl, _, Tryd.underlying73, trivial⟩
theorem refOk74 : RefOk Tryd.prog 74 false := ⟨by kernel_rfl, _, Tryd.underlying74, trivial⟩
theorem refOk75 : RefOk Tryd.prog 75 false := ⟨by kernel_rfl, _, Tryd.underlying75, trivial⟩
theorem refOk76 : RefOk Tryd.prog 76 false := ⟨by kernel_rfl, _, Tryd.underlying76, trivial⟩
theorem refOk78 : RefOk Tryd.prog 78 false := ⟨by kernel_rfl, _, Tryd.underlying78, trivial⟩
theorem refOk79 : RefOk Tryd.prog 79 false := ⟨by kernel_rfl, _, Tryd.underlying79, trivial⟩
theorem refOk81 : RefOk Tryd.prog 81 false := ⟨by kernel_rfl, _, Tryd.underlying81, trivial⟩
theorem refOk82 : RefOk Tryd.prog 82 false := ⟨by kernel_rfl, _, Tryd.underlying82, trivial⟩
theorem refOk83 : RefOk Tryd.prog 83 false := ⟨by kernel_rfl, _, Tryd.underlying83, trivial⟩
theorem refOk84 : RefOk Tryd.prog 84 false := ⟨by kernel_rfl, _, Tryd.underlying84, trivial⟩
theorem refOk85 : RefOk Tryd.prog 85 false := ⟨by kernel_rfl, _, Tryd.underlying85, trivial⟩
theorem refOk86 : RefOk Tryd.prog 86 false := ⟨by kernel_rfl, _, Tryd.underlying86, trivial⟩
theorem refOk87 : RefOk Tryd.prog 87 true := ⟨by kernel_rfl, _, Tryd.underlying87, trivial⟩
theorem refOk89 : RefOk Tryd.prog 89 false := ⟨by kernel_rfl, _, Tryd.underlying89, trivial⟩
theorem refOk90 : RefOk Tryd.prog 90 false := ⟨by kernel_rfl, _, Tryd.underlying90, trivial⟩
theorem refOk92 : RefOk Tryd.prog 92 false := ⟨by kernel_rfl, _, Tryd.underlying92, trivial⟩
theorem refOk93 : RefOk Tryd.prog 93 false := ⟨by kernel_rfl, _, Tryd.underlying93, trivial⟩
theorem refOk94 : RefOk Tryd.prog 94 false := ⟨by kernel_rfl, _, Tryd.underlying94, trivial⟩
theorem refOk95 : RefOk Tryd.prog 95 false := ⟨by kernel_rfl, _, Tryd.underlying95, trivial⟩
theorem refOk97 : RefOk Tryd.prog 97 false := ⟨by kernel_rfl, _, Tryd.underlying97, trivial⟩
theorem refOk98 : RefOk Tryd.prog 98 true := ⟨by kernel_rfl, _, Tryd.underlying98, trivial⟩
theorem refOk101 : RefOk Tryd.prog 101 false := ⟨by kernel_rfl, _, Tryd.underlying101, trivial⟩
theorem refOk105 : RefOk Tryd.prog 105 false := ⟨by kernel_rfl, _, Tryd.underlying105, trivial⟩
theorem refOk106 : RefOk Tryd.prog 106 true := ⟨by kernel_rfl, _, Tryd.underlying106, trivial⟩
theorem refOk108 : RefOk Tryd.prog 108 false := ⟨by kernel_rfl, _, Tryd.underlying108, trivial⟩
theorem refOk109 : RefOk Tryd.prog 109 false := ⟨by kernel_rfl, _, Tryd.underlying109, trivial⟩
theorem refOk115 : RefOk Tryd.prog 115 false := ⟨by kernel_rfl, _, Tryd.underlying115, trivial⟩
theorem refOk118 : RefOk Tryd.prog 118 false := ⟨by kernel_rfl, _, Tryd.underlying118, trivial⟩
theorem tabOk : TabOk Tryd.prog tab := by
  refine ⟨fun id t h => ?_, fun id t h he => ?_, fun id b h => ?_⟩
  · unfold tab at h
    dsimp only at h
    split at h
    · cases h; exact tyOk2
    · cases h; exact tyOk3
    · cases h; exact tyOk4
    · cases h; exact tyOk5
    · cases h; exact tyOk6
    · cases h; exact tyOk7
    · cases h; exact tyOk8
    · cases h; exact tyOk9
    · cases h; exact tyOk10
    · cases h; exact tyOk11
    · cases h; exact tyOk12
    · cases h; exact tyOk13
    · cases h; exact tyOk14
    · cases h; exact tyOk21
    · cases h; exact tyOk22
    · cases h; exact tyOk25
    · cases h; exact tyOk46
    · cases h; exact tyOk49
    · cases h; exact tyOk54
    · cases h; exact tyOk57
    · cases h; exact tyOk58
    · cases h; exact tyOk69
    · cases h; exact tyOk70
    · cases h; exact tyOk71
    · cases h; exact tyOk77
    · cases h; exact tyOk80
    · cases h; exact tyOk88
    · cases h; exact tyOk91
    · cases h; exact tyOk96
    · cases h; exact tyOk116
    · cases h; exact tyOk117
    · cases h; exact tyOk119
    · cases h; exact tyOk120
    · cases h
  · unfold tab at he
    dsimp only at he
    split at he
    · cases h; exact eqOk_bool Tryd.underlying4
    · cases he
  · unfold tab at h
    dsimp only at h
    split at h
    · cases h; exact refOk1
    · cases h; exact refOk15
    · cases h; exact refOk16
    · cases h; exact refOk17
    · cases h; exact refOk23
    · cases h; exact refOk24
    · cases h; exact refOk27
    · cases h; exact refOk28
    · cases h; exact refOk29
    · cases h; exact refOk30
    · cases h; exact refOk31
    · cases h; exact refOk32
    · cases h; exact refOk33
    · cases h; exact refOk34
    · cases h; exact refOk35
    · cases h; exact refOk37
    · cases h; exact refOk38
    · cases h; exact refOk39
    · cases h; exact refOk40
    · cases h; exact refOk41
    · cases h; exact refOk42
    · cases h; exact refOk43
    · cases h; exact refOk44
    · cases h; exact refOk45
    · cases h; exact refOk47
    · cases h; exact refOk48
    · cases h; exact refOk50
    · cases h; exact refOk51
    · cases h; exact refOk52
    · cases h; exact refOk53
    · cases h; exact refOk56
    · cases h; exact refOk59
    · cases h; exact refOk60
    · cases h; exact refOk61
    · cases h; exact refOk63
    · cases h; exact refOk64
    · cases h; exact refOk66
    · cases h; exact refOk67
    · cases h; exact refOk68
    · cases h; exact refOk72
    · cases h; exact refOk73
    · cases h; exact refOk74
    · cases h; exact refOk75
    · cases h; exact refOk76
    · cases h; exact refOk78
    · cases h; exact refOk79
    · cases h; exact refOk81
    · cases h; exact refOk82
    · cases h; exact refOk83
    · cases h; exact refOk84
    · cases h; exact refOk85
    · cases h; exact refOk86
    · cases h; exact refOk87
    · cases h; exact refOk89
    · cases h; exact refOk90
    · cases h; exact refOk92
    · cases h; exact refOk93
    · cases h; exact refOk94
    · cases h; exact refOk95
    · cases h; exact refOk97
    · cases h; exact refOk98
    · cases h; exact refOk101
    · cases h; exact refOk105
    · cases h; exact refOk106
    · cases h; exact refOk108
    · cases h; exact refOk109
    · cases h; exact refOk115
    · cases h; exact refOk118
    · cases h
def env72 : Env := {
  tab := tab
  glob := glob
  spec := fun
    | _ => none }

def orc72 : Orc := ⟨25, fun _ => none, fun
  | 0 => kp [0, 2] []
  | 1 => kp [0, 2, 4] []
  | 2 => kp [0] []
  | 3 => kp [0, 2] []
  | 4 => kp [0, 2, 8] []
  | 5 => kp [0, 2] []
  | 6 => kp [0, 2] []
  | 7 => kp [0, 2, 14] []
  | 8 => kp [0, 2] []
  | 9 => kp [0, 2] []
  | 10 => kp [2] []
  | _ => [], fun | _ => false⟩
noncomputable def body72 : Code := Tryd.f72.body.getD .skip
def loops72 : Nat → Option (Sum) := fun | _ => none
theorem loops72_nat : ∀ q f, loops72 q = some f → Natural f := by
  intro q f h
  cases h
theorem loops72_ok : LoopsOk env72 orc72 loops72 body72 := loopsOk_nil (by kernel_rfl)
def G72 (x0 : Int) : Option (Int) :=
  let v1 : Bool := (decide (x0 ≥ (4294967296 : Int)))
  bif v1 then
  let v2 : Int := (Int.fdiv x0 (2 ^ min (Int.toNat (32 : Int)) (IntKind.u64.bits)))
  let v3 : Bool := (decide (v2 ≥ (65536 : Int)))
  bif v3 then
  let v4 : Int := (Int.fdiv v2 (2 ^ min (Int.toNat (16 : Int)) (IntKind.u64.bits)))
  let v5 : Bool := (decide (v4 ≥ (256 : Int)))
  bif v5 then
  let v6 : Int := (Int.fdiv v4 (2 ^ min (Int.toNat (8 : Int)) (IntKind.u64.bits)))
  let v7 : Int := (IntKind.u8.wrap v6)
  bif (decide (0 ≤ v7) && decide (v7 < List.length ([0, 1, 2, 2, 3, 3, 3, 3, 4, 4, 4, 4, 4, 4, 4, 4, 5, 5, 5, 5, 5, 5, 5, 5, 5, 5, 5, 5, 5, 5, 5, 5, 6, 6, 6, 6, 6, 6, 6, 6, 6, 6, 6, 6, 6, 6, 6, 6, 6, 6, 6, 6, 6, 6, 6, 6, 6, 6, 6, 6, 6, 6, 6, 6, 7, 7, 7, 7, 7, 7, 7, 7, 7, 7, 7, 7, 7, 7, 7, 7, 7, 7, 7, 7, 7, 7, 7, 7, 7, 7, 7, 7, 7, 7, 7, 7, 7, 7, 7, 7, 7, 7, 7, 7, 7, 7, 7, 7, 7, 7, 7, 7, 7, 7, 7, 7, 7, 7, 7, 7, 7, 7, 7, 7, 7, 7, 7, 7, 8, 8, 8, 8, 8, 8, 8, 8, 8, 8, 8, 8, 8, 8, 8, 8, 8, 8, 8, 8, 8, 8, 8, 8, 8, 8, 8, 8, 8, 8, 8, 8, 8, 8, 8, 8, 8, 8, 8, 8, 8, 8, 8, 8, 8, 8, 8, 8, 8, 8, 8, 8, 8, 8, 8, 8, 8, 8, 8, 8, 8, 8, 8, 8, 8, 8, 8, 8, 8, 8, 8, 8, 8, 8, 8, 8, 8, 8, 8, 8, 8, 8, 8, 8, 8, 8, 8, 8, 8, 8, 8, 8, 8, 8, 8, 8, 8, 8, 8, 8, 8, 8, 8, 8, 8, 8, 8, 8, 8, 8, 8, 8, 8, 8, 8, 8, 8, 8, 8, 8, 8, 8, 8, 8, 8, 8, 8, 8] : List UInt8))) then
  let v8 : Int := ((List.getD ([0, 1, 2, 2, 3, 3, 3, 3, 4, 4, 4, 4, 4, 4, 4, 4, 5, 5, 5, 5, 5, 5, 5, 5, 5, 5, 5, 5, 5, 5, 5, 5, 6, 6, 6, 6, 6, 6, 6, 6, 6, 6, 6, 6, 6, 6, 6, 6, 6, 6, 6, 6, 6, 6, 6, 6, 6, 6, 6, 6, 6, 6, 6, 6, 7, 7, 7, 7, 7, 7, 7, 7, 7, 7, 7, 7, 7, 7, 7, 7, 7, 7, 7, 7, 7, 7, 7, 7, 7, 7, 7, 7, 7, 7, 7, 7, 7, 7, 7, 7, 7, 7, 7, 7, 7, 7, 7, 7, 7, 7, 7, 7, 7, 7, 7, 7, 7, 7, 7, 7, 7, 7, 7, 7, 7, 7, 7, 7, 8, 8, 8, 8, 8, 8, 8, 8, 8, 8, 8, 8, 8, 8, 8, 8, 8, 8, 8, 8, 8, 8, 8, 8, 8, 8, 8, 8, 8, 8, 8, 8, 8, 8, 8, 8, 8, 8, 8, 8, 8, 8, 8, 8, 8, 8, 8, 8, 8, 8, 8, 8, 8, 8, 8, 8, 8, 8, 8, 8, 8, 8, 8, 8, 8, 8, 8, 8, 8, 8, 8, 8, 8, 8, 8, 8, 8, 8, 8, 8, 8, 8, 8, 8, 8, 8, 8, 8, 8, 8, 8, 8, 8, 8, 8, 8, 8, 8, 8, 8, 8, 8, 8, 8, 8, 8, 8, 8, 8, 8, 8, 8, 8, 8, 8, 8, 8, 8, 8, 8, 8, 8, 8, 8, 8, 8, 8, 8] : List UInt8) (Int.toNat v7) 0).toNat : Int)
  let v9 : Int := (IntKind.i64.wrap v8)
  let v10 : Int := (IntKind.i64.wrap ((56 : Int) + v9))
  some (v10)
  else none
  else
  let v11 : Int := (IntKind.u8.wrap v4)
  bif (decide (0 ≤ v11) && decide (v11 < List.length ([0, 1, 2, 2, 3, 3, 3, 3, 4, 4, 4, 4, 4, 4, 4, 4, 5, 5, 5, 5, 5, 5, 5, 5, 5, 5, 5, 5, 5, 5, 5, 5, 6, 6, 6, 6, 6, 6, 6, 6, 6, 6, 6, 6, 6, 6, 6, 6, 6, 6, 6, 6, 6, 6, 6, 6, 6, 6, 6, 6, 6, 6, 6, 6, 7, 7, 7, 7, 7, 7, 7, 7, 7, 7, 7, 7, 7, 7, 7, 7, 7, 7, 7, 7, 7, 7, 7, 7, 7, 7, 7, 7, 7, 7, 7, 7, 7, 7, 7, 7, 7, 7, 7, 7, 7, 7, 7, 7, 7, 7, 7, 7, 7, 7, 7, 7, 7, 7, 7, 7, 7, 7, 7, 7, 7, 7, 7, 7, 8, 8, 8, 8, 8, 8, 8, 8, 8, 8, 8, 8, 8, 8, 8, 8, 8, 8, 8, 8, 8, 8, 8, 8, 8, 8, 8, 8, 8, 8, 8, 8, 8, 8, 8, 8, 8, 8, 8, 8, 8, 8, 8, 8, 8, 8, 8, 8, 8, 8, 8, 8, 8, 8, 8, 8, 8, 8, 8, 8, 8, 8, 8, 8, 8, 8, 8, 8, 8, 8, 8, 8, 8, 8, 8, 8, 8, 8, 8, 8, 8, 8, 8, 8, 8, 8, 8, 8, 8, 8, 8, 8, 8, 8, 8, 8, 8, 8, 8, 8, 8, 8, 8, 8, 8, 8, 8, 8, 8, 8, 8, 8, 8, 8, 8, 8, 8, 8, 8, 8, 8, 8, 8, 8, 8, 8, 8, 8] : List UInt8))) then
  let v12 : Int := ((List.getD ([0, 1, 2, 2, 3, 3, 3, 3, 4, 4, 4, 4, 4, 4, 4, 4, 5, 5, 5, 5, 5, 5, 5, 5, 5, 5, 5, 5, 5, 5, 5, 5, 6, 6, 6, 6, 6, 6, 6, 6, 6, 6, 6, 6, 6, 6, 6, 6, 6, 6, 6, 6, 6, 6, 6, 6, 6, 6, 6, 6, 6, 6, 6, 6, 7, 7, 7, 7, 7, 7, 7, 7, 7, 7, 7, 7, 7, 7, 7, 7, 7, 7, 7, 7, 7, 7, 7, 7, 7, 7, 7, 7, 7, 7, 7, 7, 7, 7, 7, 7, 7, 7, 7, 7, 7, 7, 7, 7, 7, 7, 7, 7, 7, 7, 7, 7, 7, 7, 7, 7, 7, 7, 7, 7, 7, 7, 7, 7, 8, 8, 8, 8, 8, 8, 8, 8, 8, 8, 8, 8, 8, 8, 8, 8, 8, 8, 8, 8, 8, 8, 8, 8, 8, 8, 8, 8, 8, 8, 8, 8, 8, 8, 8, 8, 8, 8, 8, 8, 8, 8, 8, 8, 8, 8, 8, 8, 8, 8, 8, 8, 8, 8, 8, 8, 8, 8, 8, 8, 8, 8, 8, 8, 8, 8, 8, 8, 8, 8, 8, 8, 8, 8, 8, 8, 8, 8, 8, 8, 8, 8, 8, 8, 8, 8, 8, 8, 8, 8, 8, 8, 8, 8, 8, 8, 8, 8, 8, 8, 8, 8, 8, 8, 8, 8, 8, 8, 8, 8, 8, 8, 8, 8, 8, 8, 8, 8, 8, 8, 8, 8, 8, 8, 8, 8, 8, 8] : List UInt8) (Int.toNat v11) 0).toNat : Int)
  let v13 : Int := (IntKind.i64.wrap v12)
  let v14 : Int := (IntKind.i64.wrap ((48 : Int) + v13))
  some (v14)
  else none
  else
  let v15 : Bool := (decide (v2 ≥ (256 : Int)))
  bif v15 then
  let v16 : Int := (Int.fdiv v2 (2 ^ min (Int.toNat (8 : Int)) (IntKind.u64.bits)))
  let v17 : Int := (IntKind.u8.wrap v16)
  bif (decide (0 ≤ v17) && decide (v17 < List.length ([0, 1, 2, 2, 3, 3, 3, 3, 4, 4, 4, 4, 4, 4, 4, 4, 5, 5, 5, 5, 5, 5, 5, 5, 5, 5, 5, 5, 5, 5, 5, 5, 6, 6, 6, 6, 6, 6, 6, 6, 6, 6, 6, 6, 6, 6, 6, 6, 6, 6, 6, 6, 6, 6, 6, 6, 6, 6, 6, 6, 6, 6, 6, 6, 7, 7, 7, 7, 7, 7, 7, 7, 7, 7, 7, 7, 7, 7, 7, 7, 7, 7, 7, 7, 7, 7, 7, 7, 7, 7, 7, 7, 7, 7, 7, 7, 7, 7, 7, 7, 7, 7, 7, 7, 7, 7, 7, 7, 7, 7, 7, 7, 7, 7, 7, 7, 7, 7, 7, 7, 7, 7, 7, 7, 7, 7, 7, 7, 8, 8, 8, 8, 8, 8, 8, 8, 8, 8, 8, 8, 8, 8, 8, 8, 8, 8, 8, 8, 8, 8, 8, 8, 8, 8, 8, 8, 8, 8, 8, 8, 8, 8, 8, 8, 8, 8, 8, 8, 8, 8, 8, 8, 8, 8, 8, 8, 8, 8, 8, 8, 8, 8, 8, 8, 8, 8, 8, 8, 8, 8, 8, 8, 8, 8, 8, 8, 8, 8, 8, 8, 8, 8, 8, 8, 8, 8, 8, 8, 8, 8, 8, 8, 8, 8, 8, 8, 8, 8, 8, 8, 8, 8, 8, 8, 8, 8, 8, 8, 8, 8, 8, 8, 8, 8, 8, 8, 8, 8, 8, 8, 8, 8, 8, 8, 8, 8, 8, 8, 8, 8, 8, 8, 8, 8, 8, 8] : List UInt8))) then
  let v18 : Int := ((List.getD ([0, 1, 2, 2, 3, 3, 3, 3, 4, 4, 4, 4, 4, 4, 4, 4, 5, 5, 5, 5, 5, 5, 5, 5, 5, 5, 5, 5, 5, 5, 5, 5, 6, 6, 6, 6, 6, 6, 6, 6, 6, 6, 6, 6, 6, 6, 6, 6, 6, 6, 6, 6, 6, 6, 6, 6, 6, 6, 6, 6, 6, 6, 6, 6, 7, 7, 7, 7, 7, 7, 7, 7, 7, 7, 7, 7, 7, 7, 7, 7, 7, 7, 7, 7, 7, 7, 7, 7, 7, 7, 7, 7, 7, 7, 7, 7, 7, 7, 7, 7, 7, 7, 7, 7, 7, 7, 7, 7, 7, 7, 7, 7, 7, 7, 7, 7, 7, 7, 7, 7, 7, 7, 7, 7, 7, 7, 7, 7, 8, 8, 8, 8, 8, 8, 8, 8, 8, 8, 8, 8, 8, 8, 8, 8, 8, 8, 8, 8, 8, 8, 8, 8, 8, 8, 8, 8, 8, 8, 8, 8, 8, 8, 8, 8, 8, 8, 8, 8, 8, 8, 8, 8, 8, 8, 8, 8, 8, 8, 8, 8, 8, 8, 8, 8, 8, 8, 8, 8, 8, 8, 8, 8, 8, 8, 8, 8, 8, 8, 8, 8, 8, 8, 8, 8, 8, 8, 8, 8, 8, 8, 8, 8, 8, 8, 8, 8, 8, 8, 8, 8, 8, 8, 8, 8, 8, 8, 8, 8, 8, 8, 8, 8, 8, 8, 8, 8, 8, 8, 8, 8, 8, 8, 8, 8, 8, 8, 8, 8, 8, 8, 8, 8, 8, 8, 8, 8] : List UInt8) (Int.toNat v17) 0).toNat : Int)
  let v19 : Int := (IntKind.i64.wrap v18)
  let v20 : Int := (IntKind.i64.wrap ((40 : Int) + v19))
  some (v20)
  else none
  else
  let v21 : Int := (IntKind.u8.wrap v2)
  bif (decide (0 ≤ v21) && decide (v21 < List.length ([0, 1, 2, 2, 3, 3, 3, 3, 4, 4, 4, 4, 4, 4, 4, 4, 5, 5, 5, 5, 5, 5, 5, 5, 5, 5, 5, 5, 5, 5, 5, 5, 6, 6, 6, 6, 6, 6, 6, 6, 6, 6, 6, 6, 6, 6, 6, 6, 6, 6, 6, 6, 6, 6, 6, 6, 6, 6, 6, 6, 6, 6, 6, 6, 7, 7, 7, 7, 7, 7, 7, 7, 7, 7, 7, 7, 7, 7, 7, 7, 7, 7, 7, 7, 7, 7, 7, 7, 7, 7, 7, 7, 7, 7, 7, 7, 7, 7, 7, 7, 7, 7, 7, 7, 7, 7, 7, 7, 7, 7, 7, 7, 7, 7, 7, 7, 7, 7, 7, 7, 7, 7, 7, 7, 7, 7, 7, 7, 8, 8, 8, 8, 8, 8, 8, 8, 8, 8, 8, 8, 8, 8, 8, 8, 8, 8, 8, 8, 8, 8, 8, 8, 8, 8, 8, 8, 8, 8, 8, 8, 8, 8, 8, 8, 8, 8, 8, 8, 8, 8, 8, 8, 8, 8, 8, 8, 8, 8, 8, 8, 8, 8, 8, 8, 8, 8, 8, 8, 8, 8, 8, 8, 8, 8, 8, 8, 8, 8, 8, 8, 8, 8, 8, 8, 8, 8, 8, 8, 8, 8, 8, 8, 8, 8, 8, 8, 8, 8, 8, 8, 8, 8, 8, 8, 8, 8, 8, 8, 8, 8, 8, 8, 8, 8, 8, 8, 8, 8, 8, 8, 8, 8, 8, 8, 8, 8, 8, 8, 8, 8, 8, 8, 8, 8, 8, 8] : List UInt8))) then
  let v22 : Int := ((List.getD ([0, 1, 2, 2, 3, 3, 3, 3, 4, 4, 4, 4, 4, 4, 4, 4, 5, 5, 5, 5, 5, 5, 5, 5, 5, 5, 5, 5, 5, 5, 5, 5, 6, 6, 6, 6, 6, 6, 6, 6, 6, 6, 6, 6, 6, 6, 6, 6, 6, 6, 6, 6, 6, 6, 6, 6, 6, 6, 6, 6, 6, 6, 6, 6, 7, 7, 7, 7, 7, 7, 7, 7, 7, 7, 7, 7, 7, 7, 7, 7, 7, 7, 7, 7, 7, 7, 7, 7, 7, 7, 7, 7, 7, 7, 7, 7, 7, 7, 7, 7, 7, 7, 7, 7, 7, 7, 7, 7, 7, 7, 7, 7, 7, 7, 7, 7, 7, 7, 7, 7, 7, 7, 7, 7, 7, 7, 7, 7, 8, 8, 8, 8, 8, 8, 8, 8, 8, 8, 8, 8, 8, 8, 8, 8, 8, 8, 8, 8, 8, 8, 8, 8, 8, 8, 8, 8, 8, 8, 8, 8, 8, 8, 8, 8, 8, 8, 8, 8, 8, 8, 8, 8, 8, 8, 8, 8, 8, 8, 8, 8, 8, 8, 8, 8, 8, 8, 8, 8, 8, 8, 8, 8, 8, 8, 8, 8, 8, 8, 8, 8, 8, 8, 8, 8, 8, 8, 8, 8, 8, 8, 8, 8, 8, 8, 8, 8, 8, 8, 8, 8, 8, 8, 8, 8, 8, 8, 8, 8, 8, 8, 8, 8, 8, 8, 8, 8, 8, 8, 8, 8, 8, 8, 8, 8, 8, 8, 8, 8, 8, 8, 8, 8, 8, 8, 8, 8] : List UInt8) (Int.toNat v21) 0).toNat : Int)
  let v23 : Int := (IntKind.i64.wrap v22)
  let v24 : Int := (IntKind.i64.wrap ((32 : Int) + v23))
  some (v24)
  else none
  else
  let v25 : Bool := (decide (x0 ≥ (65536 : Int)))
  bif v25 then
  let v26 : Int := (Int.fdiv x0 (2 ^ min (Int.toNat (16 : Int)) (IntKind.u64.bits)))
  let v27 : Bool := (decide (v26 ≥ (256 : Int)))
  bif v27 then
  let v28 : Int := (Int.fdiv v26 (2 ^ min (Int.toNat (8 : Int)) (IntKind.u64.bits)))
  let v29 : Int := (IntKind.u8.wrap v28)
  bif (decide (0 ≤ v29) && decide (v29 < List.length ([0, 1, 2, 2, 3, 3, 3, 3, 4, 4, 4, 4, 4, 4, 4, 4, 5, 5, 5, 5, 5, 5, 5, 5, 5, 5, 5, 5, 5, 5, 5, 5, 6, 6, 6, 6, 6, 6, 6, 6, 6, 6, 6, 6, 6, 6, 6, 6, 6, 6, 6, 6, 6, 6, 6, 6, 6, 6, 6, 6, 6, 6, 6, 6, 7, 7, 7, 7, 7, 7, 7, 7, 7, 7, 7, 7, 7, 7, 7, 7, 7, 7, 7, 7, 7, 7, 7, 7, 7, 7, 7, 7, 7, 7, 7, 7, 7, 7, 7, 7, 7, 7, 7, 7, 7, 7, 7, 7, 7, 7, 7, 7, 7, 7, 7, 7, 7, 7, 7, 7, 7, 7, 7, 7, 7, 7, 7, 7, 8, 8, 8, 8, 8, 8, 8, 8, 8, 8, 8, 8, 8, 8, 8, 8, 8, 8, 8, 8, 8, 8, 8, 8, 8, 8, 8, 8, 8, 8, 8, 8, 8, 8, 8, 8, 8, 8, 8, 8, 8, 8, 8, 8, 8, 8, 8, 8, 8, 8, 8, 8, 8, 8, 8, 8, 8, 8, 8, 8, 8, 8, 8, 8, 8, 8, 8, 8, 8, 8, 8, 8, 8, 8, 8, 8, 8, 8, 8, 8, 8, 8, 8, 8, 8, 8, 8, 8, 8, 8, 8, 8, 8, 8, 8, 8, 8, 8, 8, 8, 8, 8, 8, 8, 8, 8, 8, 8, 8, 8, 8, 8, 8, 8, 8, 8, 8, 8, 8, 8, 8, 8, 8, 8, 8, 8, 8, 8] : List UInt8))) then
  let v30 : Int := ((List.getD ([0, 1, 2, 2, 3, 3, 3, 3, 4, 4, 4, 4, 4, 4, 4, 4, 5, 5, 5, 5, 5, 5, 5, 5, 5, 5, 5, 5, 5, 5, 5, 5, 6, 6, 6, 6, 6, 6, 6, 6, 6, 6, 6, 6, 6, 6, 6, 6, 6, 6, 6, 6, 6, 6, 6, 6, 6, 6, 6, 6, 6, 6, 6, 6, 7, 7, 7, 7, 7, 7, 7, 7, 7, 7, 7, 7, 7, 7, 7, 7, 7, 7, 7, 7, 7, 7, 7, 7, 7, 7, 7, 7, 7, 7, 7, 7, 7, 7, 7, 7, 7, 7, 7, 7, 7, 7, 7, 7, 7, 7, 7, 7, 7, 7, 7, 7, 7, 7, 7, 7, 7, 7, 7, 7, 7, 7, 7, 7, 8, 8, 8, 8, 8, 8, 8, 8, 8, 8, 8, 8, 8, 8, 8, 8, 8, 8, 8, 8, 8, 8, 8, 8, 8, 8, 8, 8, 8, 8, 8, 8, 8, 8, 8, 8, 8, 8, 8, 8, 8, 8, 8, 8, 8, 8, 8, 8, 8, 8, 8, 8, 8, 8, 8, 8, 8, 8, 8, 8, 8, 8, 8, 8, 8, 8, 8, 8, 8, 8, 8, 8, 8, 8, 8, 8, 8, 8, 8, 8, 8, 8, 8, 8, 8, 8, 8, 8, 8, 8, 8, 8, 8, 8, 8, 8, 8, 8, 8, 8, 8, 8, 8, 8, 8, 8, 8, 8, 8, 8, 8, 8, 8, 8, 8, 8, 8, 8, 8, 8, 8, 8, 8, 8, 8, 8, 8, 8] : List UInt8) (Int.toNat v29) 0).toNat : Int)
  let v31 : Int := (IntKind.i64.wrap v30)
  let v32 : Int := (IntKind.i64.wrap ((24 : Int) + v31))
  some (v32)
  else none
  else
  let v33 : Int := (IntKind.u8.wrap v26)
  bif (decide (0 ≤ v33) && decide (v33 < List.length ([0, 1, 2, 2, 3, 3, 3, 3, 4, 4, 4, 4, 4, 4, 4, 4, 5, 5, 5, 5, 5, 5, 5, 5, 5, 5, 5, 5, 5, 5, 5, 5, 6, 6, 6, 6, 6, 6, 6, 6, 6, 6, 6, 6, 6, 6, 6, 6, 6, 6, 6, 6, 6, 6, 6, 6, 6, 6, 6, 6, 6, 6, 6, 6, 7, 7, 7, 7, 7, 7, 7, 7, 7, 7, 7, 7, 7, 7, 7, 7, 7, 7, 7, 7, 7, 7, 7, 7, 7, 7, 7, 7, 7, 7, 7, 7, 7, 7, 7, 7, 7, 7, 7, 7, 7, 7, 7, 7, 7, 7, 7, 7, 7, 7, 7, 7, 7, 7, 7, 7, 7, 7, 7, 7, 7, 7, 7, 7, 8, 8, 8, 8, 8, 8, 8, 8, 8, 8, 8, 8, 8, 8, 8, 8, 8, 8, 8, 8, 8, 8, 8, 8, 8, 8, 8, 8, 8, 8, 8, 8, 8, 8, 8, 8, 8, 8, 8, 8, 8, 8, 8, 8, 8, 8, 8, 8, 8, 8, 8, 8, 8, 8, 8, 8, 8, 8, 8, 8, 8, 8, 8, 8, 8, 8, 8, 8, 8, 8, 8, 8, 8, 8, 8, 8, 8, 8, 8, 8, 8, 8, 8, 8, 8, 8, 8, 8, 8, 8, 8, 8, 8, 8, 8, 8, 8, 8, 8, 8, 8, 8, 8, 8, 8, 8, 8, 8, 8, 8, 8, 8, 8, 8, 8, 8, 8, 8, 8, 8, 8, 8, 8, 8, 8, 8, 8, 8] : List UInt8))) then
  let v34 : Int := ((List.getD ([0, 1, 2, 2, 3, 3, 3, 3, 4, 4, 4, 4, 4, 4, 4, 4, 5, 5, 5, 5, 5, 5, 5, 5, 5, 5, 5, 5, 5, 5, 5, 5, 6, 6, 6, 6, 6, 6, 6, 6, 6, 6, 6, 6, 6, 6, 6, 6, 6, 6, 6, 6, 6, 6, 6, 6, 6, 6, 6, 6, 6, 6, 6, 6, 7, 7, 7, 7, 7, 7, 7, 7, 7, 7, 7, 7, 7, 7, 7, 7, 7, 7, 7, 7, 7, 7, 7, 7, 7, 7, 7, 7, 7, 7, 7, 7, 7, 7, 7, 7, 7, 7, 7, 7, 7, 7, 7, 7, 7, 7, 7, 7, 7, 7, 7, 7, 7, 7, 7, 7, 7, 7, 7, 7, 7, 7, 7, 7, 8, 8, 8, 8, 8, 8, 8, 8, 8, 8, 8, 8, 8, 8, 8, 8, 8, 8, 8, 8, 8, 8, 8, 8, 8, 8, 8, 8, 8, 8, 8, 8, 8, 8, 8, 8, 8, 8, 8, 8, 8, 8, 8, 8, 8, 8, 8, 8, 8, 8, 8, 8, 8, 8, 8, 8, 8, 8, 8, 8, 8, 8, 8, 8, 8, 8, 8, 8, 8, 8, 8, 8, 8, 8, 8, 8, 8, 8, 8, 8, 8, 8, 8, 8, 8, 8, 8, 8, 8, 8, 8, 8, 8, 8, 8, 8, 8, 8, 8, 8, 8, 8, 8, 8, 8, 8, 8, 8, 8, 8, 8, 8, 8, 8, 8, 8, 8, 8, 8, 8, 8, 8, 8, 8, 8, 8, 8, 8] : List UInt8) (Int.toNat v33) 0).toNat : Int)
  let v35 : Int := (IntKind.i64.wrap v34)
  let v36 : Int := (IntKind.i64.wrap ((16 : Int) + v35))
  some (v36)
  else none
  else
  let v37 : Bool := (decide (x0 ≥ (256 : Int)))
  bif v37 then
  let v38 : Int := (Int.fdiv x0 (2 ^ min (Int.toNat (8 : Int)) (IntKind.u64.bits)))
  let v39 : Int := (IntKind.u8.wrap v38)
  bif (decide (0 ≤ v39) && decide (v39 < List.length ([0, 1, 2, 2, 3, 3, 3, 3, 4, 4, 4, 4, 4, 4, 4, 4, 5, 5, 5, 5, 5, 5, 5, 5, 5, 5, 5, 5, 5, 5, 5, 5, 6, 6, 6, 6, 6, 6, 6, 6, 6, 6, 6, 6, 6, 6, 6, 6, 6, 6, 6, 6, 6, 6, 6, 6, 6, 6, 6, 6, 6, 6, 6, 6, 7, 7, 7, 7, 7, 7, 7, 7, 7, 7, 7, 7, 7, 7, 7, 7, 7, 7, 7, 7, 7, 7, 7, 7, 7, 7, 7, 7, 7, 7, 7, 7, 7, 7, 7, 7, 7, 7, 7, 7, 7, 7, 7, 7, 7, 7, 7, 7, 7, 7, 7, 7, 7, 7, 7, 7, 7, 7, 7, 7, 7, 7, 7, 7, 8, 8, 8, 8, 8, 8, 8, 8, 8, 8, 8, 8, 8, 8, 8, 8, 8, 8, 8, 8, 8, 8, 8, 8, 8, 8, 8, 8, 8, 8, 8, 8, 8, 8, 8, 8, 8, 8, 8, 8, 8, 8, 8, 8, 8, 8, 8, 8, 8, 8, 8, 8, 8, 8, 8, 8, 8, 8, 8, 8, 8, 8, 8, 8, 8, 8, 8, 8, 8, 8, 8, 8, 8, 8, 8, 8, 8, 8, 8, 8, 8, 8, 8, 8, 8, 8, 8, 8, 8, 8, 8, 8, 8, 8, 8, 8, 8, 8, 8, 8, 8, 8, 8, 8, 8, 8, 8, 8, 8, 8, 8, 8, 8, 8, 8, 8, 8, 8, 8, 8, 8, 8, 8, 8, 8, 8, 8, 8] : List UInt8))) then
  let v40 : Int := ((List.getD ([0, 1, 2, 2, 3, 3, 3, 3, 4, 4, 4, 4, 4, 4, 4, 4, 5, 5, 5, 5, 5, 5, 5, 5, 5, 5, 5, 5, 5, 5, 5, 5, 6, 6, 6, 6, 6, 6, 6, 6, 6, 6, 6, 6, 6, 6, 6, 6, 6, 6, 6, 6, 6, 6, 6, 6, 6, 6, 6, 6, 6, 6, 6, 6, 7, 7, 7, 7, 7, 7, 7, 7, 7, 7, 7, 7, 7, 7, 7, 7, 7, 7, 7, 7, 7, 7, 7, 7, 7, 7, 7, 7, 7, 7, 7, 7, 7, 7, 7, 7, 7, 7, 7, 7, 7, 7, 7, 7, 7, 7, 7, 7, 7, 7, 7, 7, 7, 7, 7, 7, 7, 7, 7, 7, 7, 7, 7, 7, 8, 8, 8, 8, 8, 8, 8, 8, 8, 8, 8, 8, 8, 8, 8, 8, 8, 8, 8, 8, 8, 8, 8, 8, 8, 8, 8, 8, 8, 8, 8, 8, 8, 8, 8, 8, 8, 8, 8, 8, 8, 8, 8, 8, 8, 8, 8, 8, 8, 8, 8, 8, 8, 8, 8, 8, 8, 8, 8, 8, 8, 8, 8, 8, 8, 8, 8, 8, 8, 8, 8, 8, 8, 8, 8, 8, 8, 8, 8, 8, 8, 8, 8, 8, 8, 8, 8, 8, 8, 8, 8, 8, 8, 8, 8, 8, 8, 8, 8, 8, 8, 8, 8, 8, 8, 8, 8, 8, 8, 8, 8, 8, 8, 8, 8, 8, 8, 8, 8, 8, 8, 8, 8, 8, 8, 8, 8, 8] : List UInt8) (Int.toNat v39) 0).toNat : Int)
  let v41 : Int := (IntKind.i64.wrap v40)
  let v42 : Int := (IntKind.i64.wrap ((8 : Int) + v41))
  some (v42)
  else none
  else
  let v43 : Int := (IntKind.u8.wrap x0)
  bif (decide (0 ≤ v43) && decide (v43 < List.length ([0, 1, 2, 2, 3, 3, 3, 3, 4, 4, 4, 4, 4, 4, 4, 4, 5, 5, 5, 5, 5, 5, 5, 5, 5, 5, 5, 5, 5, 5, 5, 5, 6, 6, 6, 6, 6, 6, 6, 6, 6, 6, 6, 6, 6, 6, 6, 6, 6, 6, 6, 6, 6, 6, 6, 6, 6, 6, 6, 6, 6, 6, 6, 6, 7, 7, 7, 7, 7, 7, 7, 7, 7, 7, 7, 7, 7, 7, 7, 7, 7, 7, 7, 7, 7, 7, 7, 7, 7, 7, 7, 7, 7, 7, 7, 7, 7, 7, 7, 7, 7, 7, 7, 7, 7, 7, 7, 7, 7, 7, 7, 7, 7, 7, 7, 7, 7, 7, 7, 7, 7, 7, 7, 7, 7, 7, 7, 7, 8, 8, 8, 8, 8, 8, 8, 8, 8, 8, 8, 8, 8, 8, 8, 8, 8, 8, 8, 8, 8, 8, 8, 8, 8, 8, 8, 8, 8, 8, 8, 8, 8, 8, 8, 8, 8, 8, 8, 8, 8, 8, 8, 8, 8, 8, 8, 8, 8, 8, 8, 8, 8, 8, 8, 8, 8, 8, 8, 8, 8, 8, 8, 8, 8, 8, 8, 8, 8, 8, 8, 8, 8, 8, 8, 8, 8, 8, 8, 8, 8, 8, 8, 8, 8, 8, 8, 8, 8, 8, 8, 8, 8, 8, 8, 8, 8, 8, 8, 8, 8, 8, 8, 8, 8, 8, 8, 8, 8, 8, 8, 8, 8, 8, 8, 8, 8, 8, 8, 8, 8, 8, 8, 8, 8, 8, 8, 8] : List UInt8))) then
  let v44 : Int := ((List.getD ([0, 1, 2, 2, 3, 3, 3, 3, 4, 4, 4, 4, 4, 4, 4, 4, 5, 5, 5, 5, 5, 5, 5, 5, 5, 5, 5, 5, 5, 5, 5, 5, 6, 6, 6, 6, 6, 6, 6, 6, 6, 6, 6, 6, 6, 6, 6, 6, 6, 6, 6, 6, 6, 6, 6, 6, 6, 6, 6, 6, 6, 6, 6, 6, 7, 7, 7, 7, 7, 7, 7, 7, 7, 7, 7, 7, 7, 7, 7, 7, 7, 7, 7, 7, 7, 7, 7, 7, 7, 7, 7, 7, 7, 7, 7, 7, 7, 7, 7, 7, 7, 7, 7, 7, 7, 7, 7, 7, 7, 7, 7, 7, 7, 7, 7, 7, 7, 7, 7, 7, 7, 7, 7, 7, 7, 7, 7, 7, 8, 8, 8, 8, 8, 8, 8, 8, 8, 8, 8, 8, 8, 8, 8, 8, 8, 8, 8, 8, 8, 8, 8, 8, 8, 8, 8, 8, 8, 8, 8, 8, 8, 8, 8, 8, 8, 8, 8, 8, 8, 8, 8, 8, 8, 8, 8, 8, 8, 8, 8, 8, 8, 8, 8, 8, 8, 8, 8, 8, 8, 8, 8, 8, 8, 8, 8, 8, 8, 8, 8, 8, 8, 8, 8, 8, 8, 8, 8, 8, 8, 8, 8, 8, 8, 8, 8, 8, 8, 8, 8, 8, 8, 8, 8, 8, 8, 8, 8, 8, 8, 8, 8, 8, 8, 8, 8, 8, 8, 8, 8, 8, 8, 8, 8, 8, 8, 8, 8, 8, 8, 8, 8, 8, 8, 8, 8, 8] : List UInt8) (Int.toNat v43) 0).toNat : Int)
  let v45 : Int := (IntKind.i64.wrap v44)
  let v46 : Int := (IntKind.i64.wrap ((0 : Int) + v45))
  some (v46)
  else none
theorem ev72 (x0 : Int) : ev2 env72 orc72 loops72 body72 (initSt 0 [⟨(.int .u64), x0⟩]) (retT [(2, .dat (.int .i64))] [(.int .i64)] fun x => x.1) = G72 x0 := by kernel_rfl
def P72 (x0 : Int) : Bool := (hold (G72 x0)).isSome
def F72 (x0 : Int) : Int := (hold (G72 x0)).getD default
theorem G72_some (x0 : Int) (h : P72 x0 = true) : G72 x0 = some (F72 x0) := by
  unfold P72 at h; unfold F72
  rw [hold_eq] at h ⊢
  exact some_getD h
theorem P72_of (x0 : Int) {r : Int} (h : G72 x0 = some r) : P72 x0 = true := by unfold P72; rw [hold_eq, h]; rfl
theorem F72_of (x0 : Int) {r : Int} (h : G72 x0 = some r) : F72 x0 = r := by unfold F72; rw [hold_eq, h]; rfl
def spec72 : Spec := ⟨[(.int .u64)], [.dat (.int .i64)], fun | [a0] => P72 (a0.as (.int .u64)) | _ => false, fun | [a0] => [⟨(.int .i64), (F72 (a0.as (.int .u64)))⟩] | _ => []⟩
theorem meets72 (hE : EnvOk Tryd.prog env72) (hm : Tryd.prog.follows .mixedOrders = true) : Meets Tryd.prog glob 72 spec72 :=
  meets_of_ev2 (O := orc72) (L := loops72) (c := body72) (slots := [2]) hE hm Tryd.func72 Tryd.call72 (by kernel_rfl) (by kernel_rfl) loops72_ok (rangesOk_nil (by kernel_rfl)) (by kernel_rfl) rfl (by decide) (fun ds hds hpre => by
  obtain ⟨x0, ds0, rfl, h0⟩ := datsS hds
  have h9 := dats0 h0; subst h9
  exact ev_ret (un := fun r => [⟨(.int .i64), r⟩]) loops72_nat (fun _ => rfl) ((ev72 x0).trans (G72_some x0 hpre)))
def env59 : Env := {
  tab := tab
  glob := glob
  spec := fun
    | 72 => some spec72
    | _ => none }

def orc59 : Orc := ⟨8, fun _ => none, fun
  | 0 => kp [0] []
  | 2 => kp [2] []
  | _ => [], fun | _ => false⟩
noncomputable def body59 : Code := Tryd.f59.body.getD .skip
def loops59 : Nat → Option (Sum) := fun | _ => none
theorem loops59_nat : ∀ q f, loops59 q = some f → Natural f := by
  intro q f h
  cases h
theorem loops59_ok : LoopsOk env59 orc59 loops59 body59 := loopsOk_nil (by kernel_rfl)
def G59 (x0 : Int) : Option (Int) :=
  bif (P72 x0) then
  let v1 : Int := (F72 x0)
  some (v1)
  else none
theorem ev59 (x0 : Int) : ev2 env59 orc59 loops59 body59 (initSt 0 [⟨(.int .u64), x0⟩]) (retT [(2, .dat (.int .i64))] [(.int .i64)] fun x => x.1) = G59 x0 := by kernel_rfl
def P59 (x0 : Int) : Bool := (hold (G59 x0)).isSome
def F59 (x0 : Int) : Int := (hold (G59 x0)).getD default
theorem G59_some (x0 : Int) (h : P59 x0 = true) : G59 x0 = some (F59 x0) := by
  unfold P59 at h; unfold F59
  rw [hold_eq] at h ⊢
  exact some_getD h
theorem P59_of (x0 : Int) {r : Int} (h : G59 x0 = some r) : P59 x0 = true := by unfold P59; rw [hold_eq, h]; rfl
theorem F59_of (x0 : Int) {r : Int} (h : G59 x0 = some r) : F59 x0 = r := by unfold F59; rw [hold_eq, h]; rfl
def spec59 : Spec := ⟨[(.int .u64)], [.dat (.int .i64)], fun | [a0] => P59 (a0.as (.int .u64)) | _ => false, fun | [a0] => [⟨(.int .i64), (F59 (a0.as (.int .u64)))⟩] | _ => []⟩
theorem meets59 (hE : EnvOk Tryd.prog env59) (hm : Tryd.prog.follows .mixedOrders = true) : Meets Tryd.prog glob 59 spec59 :=
  meets_of_ev2 (O := orc59) (L := loops59) (c := body59) (slots := [2]) hE hm Tryd.func59 Tryd.call59 (by kernel_rfl) (by kernel_rfl) loops59_ok (rangesOk_nil (by kernel_rfl)) (by kernel_rfl) rfl (by decide) (fun ds hds hpre => by
  obtain ⟨x0, ds0, rfl, h0⟩ := datsS hds
  have h9 := dats0 h0; subst h9
  exact ev_ret (un := fun r => [⟨(.int .i64), r⟩]) loops59_nat (fun _ => rfl) ((ev59 x0).trans (G59_some x0 hpre)))
def env40 : Env := {
  tab := tab
  glob := glob
  spec := fun
    | 59 => some spec59
    | _ => none }

def orc40 : Orc := ⟨9, fun _ => none, fun
  | 0 => kp [0] []
  | 1 => kp [2] []
  | _ => [], fun | _ => false⟩
noncomputable def body40 : Code := Tryd.f40.body.getD .skip
def loops40 : Nat → Option (Sum) := fun | _ => none
theorem loops40_nat : ∀ q f, loops40 q = some f → Natural f := by
  intro q f h
  cases h
theorem loops40_ok : LoopsOk env40 orc40 loops40 body40 := loopsOk_nil (by kernel_rfl)
def G40 (x0 : Int) : Option (Int) :=
  let v1 : Int := (IntKind.i64.wrap (x0 - (1 : Int)))
  let v2 : Int := (IntKind.u64.wrap v1)
  bif (P59 v2) then
  let v3 : Int := (F59 v2)
  let v4 : Int := (IntKind.i64.wrap (v3 - (1 : Int)))
  bif (decide (0 ≤ v4)) then
  let v5 : Int := (IntKind.i64.wrap ((1 : Int) * 2 ^ min (Int.toNat v4) (IntKind.i64.bits)))
  some (v5)
  else none
  else none
theorem ev40 (x0 : Int) : ev2 env40 orc40 loops40 body40 (initSt 0 [⟨(.int .i64), x0⟩]) (retT [(2, .dat (.int .i64))] [(.int .i64)] fun x => x.1) = G40 x0 := by kernel_rfl
def P40 (x0 : Int) : Bool := (hold (G40 x0)).isSome
def F40 (x0 : Int) : Int := (hold (G40 x0)).getD default
theorem G40_some (x0 : Int) (h : P40 x0 = true) : G40 x0 = some (F40 x0) := by
  unfold P40 at h; unfold F40
  rw [hold_eq] at h ⊢
  exact some_getD h
theorem P40_of (x0 : Int) {r : Int} (h : G40 x0 = some r) : P40 x0 = true := by unfold P40; rw [hold_eq, h]; rfl
theorem F40_of (x0 : Int) {r : Int} (h : G40 x0 = some r) : F40 x0 = r := by unfold F40; rw [hold_eq, h]; rfl
def spec40 : Spec := ⟨[(.int .i64)], [.dat (.int .i64)], fun | [a0] => P40 (a0.as (.int .i64)) | _ => false, fun | [a0] => [⟨(.int .i64), (F40 (a0.as (.int .i64)))⟩] | _ => []⟩
theorem meets40 (hE : EnvOk Tryd.prog env40) (hm : Tryd.prog.follows .mixedOrders = true) : Meets Tryd.prog glob 40 spec40 :=
  meets_of_ev2 (O := orc40) (L := loops40) (c := body40) (slots := [2]) hE hm Tryd.func40 Tryd.call40 (by kernel_rfl) (by kernel_rfl) loops40_ok (rangesOk_nil (by kernel_rfl)) (by kernel_rfl) rfl (by decide) (fun ds hds hpre => by
  obtain ⟨x0, ds0, rfl, h0⟩ := datsS hds
  have h9 := dats0 h0; subst h9
  exact ev_ret (un := fun r => [⟨(.int .i64), r⟩]) loops40_nat (fun _ => rfl) ((ev40 x0).trans (G40_some x0 hpre)))
def pin53 : Shape := [(.slot 0, .dat .str)]
def pout53 : Shape := [(.slot 0, .fn 64 [1]), (.box 1, .bx 9 1), (.cell 1 0, .dat .str)]
def env53 : Env := {
  tab := tab
  glob := glob
  spec := fun
    | _ => none }

def orc53 : Orc := ⟨4, fun _ => none, fun
  | 0 => kp [1] [(1, [0])]
  | 1 => kp [2] [(1, [0])]
  | _ => [], fun | _ => false⟩
noncomputable def body53 : Code := Tryd.f53.body.getD .skip
def loops53 : Nat → Option (Sum) := fun | _ => none
theorem loops53_ok : LoopsOk env53 orc53 loops53 body53 := loopsOk_nil (by kernel_rfl)
def G53 (x0 : (List UInt8)) : Option (Unit × (Unit × ((List UInt8) × Unit))) :=
  some ((), ((), (x0, ())))
def P53 (x0 : (List UInt8)) : Bool := (hold (G53 x0)).isSome
def F53 (x0 : (List UInt8)) : (Unit × (Unit × ((List UInt8) × Unit))) := (hold (G53 x0)).getD (Tup.zero pout53)
theorem P53_of (x0 : (List UInt8)) {r : (Unit × (Unit × ((List UInt8) × Unit)))} (h : G53 x0 = some r) : P53 x0 = true := by unfold P53; rw [hold_eq, h]; rfl
theorem F53_of (x0 : (List UInt8)) {r : (Unit × (Unit × ((List UInt8) × Unit)))} (h : G53 x0 = some r) : F53 x0 = r := by unfold F53; rw [hold_eq, h]; rfl
theorem ev53 (x0 : (List UInt8)) : ev2 env53 orc53 loops53 body53 (mkSt pin53 (x0, ())) (retK3 env53 [.slot 2] pout53) = G53 x0 := by kernel_rfl
def sp53 : Spec2 := ⟨pin53, pout53, fun s => hold (G53 s.1)⟩
theorem fit53 : Fit Tryd.f53 [.slot 2] sp53 := ⟨by kernel_rfl, by kernel_rfl, by kernel_rfl, by kernel_rfl, by kernel_rfl, by decide, by decide, by decide⟩
theorem meets53 (hE : EnvOk Tryd.prog env53) (hm : Tryd.prog.follows .mixedOrders = true) : Meets2 Tryd.prog glob 53 sp53 :=
  meets2_of_ev2 (O := orc53) (L := loops53) (c := body53) (rs := [.slot 2]) hE (fun _ => rfl) hm Tryd.func53 Tryd.call53 (by kernel_rfl) (by kernel_rfl) loops53_ok (rangesOk_nil (by kernel_rfl)) fit53 (fun s o h => (ev53 s.1).trans ((hold_eq _).symm.trans h))
def pin54 : Shape := [(.slot 0, .dat (.list (.int .u8))), (.slot 1, .dat (.int .i64))]
def pout54 : Shape := [(.slot 0, .fn 66 [2, 3]), (.box 2, .bx 46 1), (.cell 2 0, .dat (.list (.int .u8))), (.box 3, .bx 3 1), (.cell 3 0, .dat (.int .i64))]
def env54 : Env := {
  tab := tab
  glob := glob
  spec := fun
    | _ => none }

def orc54 : Orc := ⟨9, fun _ => none, fun
  | 0 => kp [2, 3] [(2, [0]), (3, [0])]
  | 1 => kp [2, 3, 6] [(2, [0]), (3, [0])]
  | 3 => kp [4] [(2, [0]), (3, [0])]
  | _ => [], fun | _ => false⟩
noncomputable def body54 : Code := Tryd.f54.body.getD .skip
def loops54 : Nat → Option (Sum) := fun | _ => none
theorem loops54_ok : LoopsOk env54 orc54 loops54 body54 := loopsOk_nil (by kernel_rfl)
def G54 (x0 : (List Int)) (x1 : Int) : Option (Unit × (Unit × ((List Int) × (Unit × (Int × Unit))))) :=
  let v1 : Bool := (decide (x1 < (1 : Int)))
  bif v1 then
  none
  else
  some ((), ((), (x0, ((), (x1, ())))))
def P54 (x0 : (List Int)) (x1 : Int) : Bool := (hold (G54 x0 x1)).isSome
def F54 (x0 : (List Int)) (x1 : Int) : (Unit × (Unit × ((List Int) × (Unit × (Int × Unit))))) := (hold (G54 x0 x1)).getD (Tup.zero pout54)
theorem P54_of (x0 : (List Int)) (x1 : Int) {r : (Unit × (Unit × ((List Int) × (Unit × (Int × Unit)))))} (h : G54 x0 x1 = some r) : P54 x0 x1 = true := by unfold P54; rw [hold_eq, h]; rfl
theorem F54_of (x0 : (List Int)) (x1 : Int) {r : (Unit × (Unit × ((List Int) × (Unit × (Int × Unit)))))} (h : G54 x0 x1 = some r) : F54 x0 x1 = r := by unfold F54; rw [hold_eq, h]; rfl
theorem ev54 (x0 : (List Int)) (x1 : Int) : ev2 env54 orc54 loops54 body54 (mkSt pin54 (x0, (x1, ()))) (retK3 env54 [.slot 4] pout54) = G54 x0 x1 := by kernel_rfl
def sp54 : Spec2 := ⟨pin54, pout54, fun s => hold (G54 s.1 s.2.1)⟩
theorem fit54 : Fit Tryd.f54 [.slot 4] sp54 := ⟨by kernel_rfl, by kernel_rfl, by kernel_rfl, by kernel_rfl, by kernel_rfl, by decide, by decide, by decide⟩
theorem meets54 (hE : EnvOk Tryd.prog env54) (hm : Tryd.prog.follows .mixedOrders = true) : Meets2 Tryd.prog glob 54 sp54 :=
  meets2_of_ev2 (O := orc54) (L := loops54) (c := body54) (rs := [.slot 4]) hE (fun _ => rfl) hm Tryd.func54 Tryd.call54 (by kernel_rfl) (by kernel_rfl) loops54_ok (rangesOk_nil (by kernel_rfl)) fit54 (fun s o h => (ev54 s.1 s.2.1).trans ((hold_eq _).symm.trans h))
def pin66 : Shape := [(.slot 1, .ptr 50000 0), (.slot 2, .ptr 50001 0), (.box 50000, .bx 46 1), (.cell 50000 0, .dat (.list (.int .u8))), (.box 50001, .bx 3 1), (.cell 50001 0, .dat (.int .i64))]
abbrev Y66 : Type := (List Int)
def mk66 : List Dat → Option Y66 := mkT [(.list (.int .u8))] fun x => x.1
def env66 : Env := {
  tab := tab
  glob := glob
  spec := fun
    | _ => none }

def orc66 : Orc := ⟨31, fun _ => none, fun
  | 0 => kp [0, 1, 2, 4] [(50000, [0]), (50001, [0])]
  | 1 => kp [0, 1, 2, 4, 9] [(50000, [0]), (50001, [0])]
  | 2 => kp [0, 1, 2, 4] [(50000, [0]), (50001, [0])]
  | 3 => kp [0, 1, 2, 4, 5] [(50000, [0]), (50001, [0])]
  | 4 => kp [0, 1, 2, 4, 30] [(50000, [0]), (50001, [0])]
  | _ => [], fun | _ => false⟩
noncomputable def body66 : Code := Tryd.f66.body.getD .skip
def L66_1_sh : Shape := [(.slot 0, .yld), (.slot 1, .ptr 50000 0), (.slot 2, .ptr 50001 0), (.slot 4, .dat (.int .i64)), (.box 50000, .bx 46 1), (.cell 50000 0, .dat (.list (.int .u8))), (.box 50001, .bx 3 1), (.cell 50001 0, .dat (.int .i64))]
def L66_1_x0 : Shape := [(.slot 0, .yld), (.slot 1, .ptr 50000 0), (.slot 2, .ptr 50001 0), (.slot 4, .dat (.int .i64)), (.box 50000, .bx 46 1), (.cell 50000 0, .dat (.list (.int .u8))), (.box 50001, .bx 3 1), (.cell 50001 0, .dat (.int .i64))]
def L66_1_x1 : Shape := [(.slot 0, .yld), (.slot 1, .ptr 50000 0), (.slot 2, .ptr 50001 0), (.slot 4, .dat (.int .i64)), (.box 50000, .bx 46 1), (.cell 50000 0, .dat (.list (.int .u8))), (.box 50001, .bx 3 1), (.cell 50001 0, .dat (.int .i64))]
def L66_1_pk (s : Tup L66_1_sh) : Int × (List Int) × Int := (s.2.2.2.1, s.2.2.2.2.2.1, s.2.2.2.2.2.2.2.1)
def L66_1_un (s : Int × (List Int) × Int) : Tup L66_1_sh := ((), ((), ((), (s.1, ((), (s.2.1, ((), (s.2.2, ()))))))))
def L66_1_leave (x : (Int × (List Int) × Int) ⊕ (Int × (List Int) × Int)) (V : Type) (K : Exit → St → YW Y66 V) : YW Y66 V := match x with
  | (.inl a) => K .ret (mkSt L66_1_x0 ((), ((), ((), (a.1, ((), (a.2.1, ((), (a.2.2, ())))))))))
  | (.inr a) => K (.exit 0) (mkSt L66_1_x1 ((), ((), ((), (a.1, ((), (a.2.1, ((), (a.2.2, ())))))))))
def L66_1_d (e : Exit) (st : St) : Option ((Int × (List Int) × Int) ⊕ (Int × (List Int) × Int)) := match e with
  | .ret => (match unSt L66_1_x0 st with
    | some s => some (.inl (s.2.2.2.1, s.2.2.2.2.2.1, s.2.2.2.2.2.2.2.1))
    | none => none)
  | .exit 0 => (match unSt L66_1_x1 st with
    | some s => some (.inr (s.2.2.2.1, s.2.2.2.2.2.1, s.2.2.2.2.2.2.2.1))
    | none => none)
  | _ => none
def L66_1_r (s0 : Int) (s1 : (List Int)) (s2 : Int) : YW Y66 ((Int × (List Int) × Int) ⊕ ((Int × (List Int) × Int) ⊕ (Int × (List Int) × Int))) :=
  let v1 : Int := ((List.length s1 : Nat) : Int)
  let v2 : Bool := (decide (s0 < v1))
  bif v2 then
  bif (sliceTest s0 ((List.length s1 : Nat) : Int) (List.length s1)) then
  let v3 : (List Int) := (cut s1 s0 ((List.length s1 : Nat) : Int))
  let v4 : Int := ((List.length v3 : Nat) : Int)
  let v5 : Int := (if v4 < s2 then v4 else s2)
  let v6 : Int := (IntKind.i64.wrap (s0 + v5))
  let v7 : Int := (IntKind.i64.wrap (s0 + v5))
  bif (sliceTest s0 v6 (List.length s1) && (decide (v6 ≤ v7) && decide (v7 ≤ List.length s1))) then
  let v8 : (List Int) := (cut s1 s0 v6)
  yieldW true v8 (let v11 : Bool := (!false)
  bif v11 then
  some ()
  else
  let v12 : Int := (IntKind.i64.wrap (s0 + s2))
  none) (
  let v9 : Bool := (!true)
  bif v9 then
  some ([], .inr (.inl (s0, s1, s2)))
  else
  let v10 : Int := (IntKind.i64.wrap (s0 + s2))
  some ([], .inl (v10, s1, s2)))
  else none
  else none
  else
  some ([], .inr (.inr (s0, s1, s2)))
def L66_1 : Int × (List Int) × Int → YW Y66 ((Int × (List Int) × Int) ⊕ (Int × (List Int) × Int)) := LimW (fun s => L66_1_r s.1 s.2.1 s.2.2)
def L66_1_sum : SumY Y66 := limSumW L66_1_sh L66_1_pk (fun s => L66_1_r s.1 s.2.1 s.2.2) L66_1_leave
theorem L66_1_nat : NaturalY L66_1_sum := natural_limW fun x V K => by
  rcases x with x|x <;> exact (YW.bind_pure _ _).symm
theorem L66_1_dok : ∀ e st x, e ≠ .normal → L66_1_d e st = some x → ∀ V (K : Exit → St → YW Y66 V), K e st = L66_1_leave x V K := by
  intro e st x _ h R K
  unfold L66_1_d at h
  split at h
  · split at h
    · rename_i s hs; cases h; rw [unSt_some hs]; rfl
    · cases h
  · split at h
    · rename_i s hs; cases h; rw [unSt_some hs]; rfl
    · cases h
  · cases h
def loops66 : Nat → Option (SumY Y66) := fun | 1 => some L66_1_sum | _ => none
theorem loops66_nat : ∀ q f, loops66 q = some f → NaturalY f := by
  intro q f h
  unfold loops66 at h
  split at h
  · cases h; exact L66_1_nat
  · cases h
noncomputable def L66_1_code : Code := (loopsOf body66).getD 0 .skip
theorem L66_1_round (s0 : Int) (s1 : (List Int)) (s2 : Int) : evY env66 orc66 loops66 [(.list (.int .u8))] mk66 L66_1_code (mkSt L66_1_sh ((), ((), ((), (s0, ((), (s1, ((), (s2, ()))))))))) (backW (back L66_1_sh L66_1_pk L66_1_d)) retOnly = L66_1_r s0 s1 s2 := by kernel_rfl
theorem L66_1_ok : SumYOk env66 orc66 loops66 [(.list (.int .u8))] mk66 L66_1_code L66_1_sum := sumYOk_lim (un := L66_1_un) loops66_nat (fun _ => rfl) L66_1_dok fun s => L66_1_round s.1 s.2.1 s.2.2
theorem loops66_all : loopsOf body66 = [L66_1_code] := by kernel_rfl
theorem L66_1_key : lookY loops66 (keyOf L66_1_code) = some L66_1_sum := by kernel_rfl
theorem loops66_ok : LoopsYOk env66 orc66 loops66 [(.list (.int .u8))] mk66 body66 := by
  intro c hc f hf
  rw [loops66_all] at hc
  simp only [List.mem_cons, List.not_mem_nil, or_false] at hc
  subst hc
  · rw [L66_1_key] at hf; cases hf; exact L66_1_ok
def W66 (x0 : (List Int)) (x1 : Int) : YW Y66 Unit :=
  YW.bind (L66_1 ((0 : Int), x0, x1)) fun x => match x with
  | (.inl r13) =>
  some ([], ())
  | (.inr r14) =>
  some ([], ())
theorem ev66 (x0 : (List Int)) (x1 : Int) : evY env66 orc66 loops66 [(.list (.int .u8))] mk66 body66 (mkSt ((.slot 0, .yld) :: pin66) ((), ((), ((), ((), (x0, ((), (x1, ())))))))) endY retOnly = W66 x0 x1 := by kernel_rfl
def I66 : ISpec := ⟨pin66, Y66, fun (y : Y66) => datsOf [(.list (.int .u8))] (y, ()), fun s => (W66 s.2.2.2.1 s.2.2.2.2.2.1).ys⟩
theorem iter66 (hE : EnvOk Tryd.prog env66) (hm : Tryd.prog.follows .mixedOrders = true) : IterOk Tryd.prog glob 66 I66 :=
  iterOk_of_evY (I := I66) (O := orc66) (L := loops66) (c := body66) (mk := mk66) hE hm Tryd.func66 Tryd.call66 (by kernel_rfl) (by kernel_rfl) (mkT_ok (ts := [(.list (.int .u8))]) (un := fun (y : Y66) => (y, ())) fun _ => rfl) loops66_ok (by kernel_rfl) (by decide) (by decide) (fun s ys h => (ev66 s.2.2.2.1 s.2.2.2.2.2.1).trans (YW.ys_some h))
def env77 : Env := {
  tab := tab
  glob := glob
  spec := fun
    | _ => none }

def orc77 : Orc := ⟨17, fun _ => none, fun
  | 0 => kp [0, 1] []
  | 1 => kp [0, 5] []
  | 2 => kp [4] []
  | _ => [], fun | _ => false⟩
noncomputable def body77 : Code := Tryd.f77.body.getD .skip
def loops77 : Nat → Option (Sum) := fun | _ => none
theorem loops77_nat : ∀ q f, loops77 q = some f → Natural f := by
  intro q f h
  cases h
theorem loops77_ok : LoopsOk env77 orc77 loops77 body77 := loopsOk_nil (by kernel_rfl)
def G77 (x0 : Int) (x1 : Int) : Option (Int) :=
  let v1 : Int := (IntKind.u64.wrap x1)
  let v2 : Int := (bits .and .u64 v1 (31 : Int))
  bif (decide (0 ≤ v2)) then
  let v3 : Int := (IntKind.u32.wrap (x0 * 2 ^ min (Int.toNat v2) (IntKind.u32.bits)))
  let v4 : Int := (IntKind.u64.wrap ((32 : Int) - v2))
  bif (decide (0 ≤ v4)) then
  let v5 : Int := (Int.fdiv x0 (2 ^ min (Int.toNat v4) (IntKind.u32.bits)))
  let v6 : Int := (bits .or .u32 v3 v5)
  some (v6)
  else none
  else none
theorem ev77 (x0 : Int) (x1 : Int) : ev2 env77 orc77 loops77 body77 (initSt 0 [⟨(.int .u32), x0⟩, ⟨(.int .i64), x1⟩]) (retT [(4, .dat (.int .u32))] [(.int .u32)] fun x => x.1) = G77 x0 x1 := by kernel_rfl
def P77 (x0 : Int) (x1 : Int) : Bool := (hold (G77 x0 x1)).isSome
def F77 (x0 : Int) (x1 : Int) : Int := (hold (G77 x0 x1)).getD default
theorem G77_some (x0 : Int) (x1 : Int) (h : P77 x0 x1 = true) : G77 x0 x1 = some (F77 x0 x1) := by
  unfold P77 at h; unfold F77
  rw [hold_eq] at h ⊢
  exact some_getD h
theorem P77_of (x0 : Int) (x1 : Int) {r : Int} (h : G77 x0 x1 = some r) : P77 x0 x1 = true := by unfold P77; rw [hold_eq, h]; rfl
theorem F77_of (x0 : Int) (x1 : Int) {r : Int} (h : G77 x0 x1 = some r) : F77 x0 x1 = r := by unfold F77; rw [hold_eq, h]; rfl
def spec77 : Spec := ⟨[(.int .u32), (.int .i64)], [.dat (.int .u32)], fun | [a0, a1] => P77 (a0.as (.int .u32)) (a1.as (.int .i64)) | _ => false, fun | [a0, a1] => [⟨(.int .u32), (F77 (a0.as (.int .u32)) (a1.as (.int .i64)))⟩] | _ => []⟩
theorem meets77 (hE : EnvOk Tryd.prog env77) (hm : Tryd.prog.follows .mixedOrders = true) : Meets Tryd.prog glob 77 spec77 :=
  meets_of_ev2 (O := orc77) (L := loops77) (c := body77) (slots := [4]) hE hm Tryd.func77 Tryd.call77 (by kernel_rfl) (by kernel_rfl) loops77_ok (rangesOk_nil (by kernel_rfl)) (by kernel_rfl) rfl (by decide) (fun ds hds hpre => by
  obtain ⟨x0, ds0, rfl, h0⟩ := datsS hds
  obtain ⟨x1, ds1, rfl, h1⟩ := datsS h0
  have h9 := dats0 h1; subst h9
  exact ev_ret (un := fun r => [⟨(.int .u32), r⟩]) loops77_nat (fun _ => rfl) ((ev77 x0 x1).trans (G77_some x0 x1 hpre)))
def env68 : Env := {
  tab := tab
  glob := glob
  spec := fun
    | 77 => some spec77
    | _ => none }

def orc68 : Orc := ⟨22, fun _ => none, fun
  | 0 => kp [0, 1] []
  | 1 => kp [0, 1, 5] []
  | 2 => kp [0, 5, 8, 9, 10] []
  | 3 => kp [0, 5, 8, 9, 10, 11] []
  | 4 => kp [0, 5, 7, 8, 9, 10] []
  | 5 => kp [0, 5, 8, 9, 10] []
  | 6 => kp [0, 5, 8, 9, 10] []
  | 7 => kp [4] []
  | _ => [], fun | _ => false⟩
noncomputable def body68 : Code := Tryd.f68.body.getD .skip
def L68_3_sh : Shape := [(.slot 0, .dat (.int .u32)), (.slot 5, .dat (.int .u32)), (.slot 8, .dat (.list (.int .i64))), (.slot 9, .dat (.int .i64)), (.slot 10, .dat (.int .i64))]
def L68_3_x0 : Shape := [(.slot 0, .dat (.int .u32)), (.slot 5, .dat (.int .u32)), (.slot 8, .dat (.list (.int .i64))), (.slot 9, .dat (.int .i64)), (.slot 10, .dat (.int .i64))]
def L68_3_pk (s : Tup L68_3_sh) : Int × Int × (List Int) × Int × Int := (s.1, s.2.1, s.2.2.1, s.2.2.2.1, s.2.2.2.2.1)
def L68_3_un (s : Int × Int × (List Int) × Int × Int) : Tup L68_3_sh := (s.1, (s.2.1, (s.2.2.1, (s.2.2.2.1, (s.2.2.2.2, ())))))
def L68_3_leave (x : (Int × Int × (List Int) × Int × Int)) (R : Type) (K : Cont R) : Option R := match x with
  | a => K (.exit 0) (mkSt L68_3_x0 (a.1, (a.2.1, (a.2.2.1, (a.2.2.2.1, (a.2.2.2.2, ()))))))
def L68_3_d (e : Exit) (st : St) : Option ((Int × Int × (List Int) × Int × Int)) := match e with
  | .exit 0 => (match unSt L68_3_x0 st with
    | some s => some (s.1, s.2.1, s.2.2.1, s.2.2.2.1, s.2.2.2.2.1)
    | none => none)
  | _ => none
def L68_3_r (s0 : Int) (s1 : Int) (s2 : (List Int)) (s3 : Int) (s4 : Int) : Option ((Int × Int × (List Int) × Int × Int) ⊕ ((Int × Int × (List Int) × Int × Int))) :=
  let v2 : Bool := (decide (s4 < s3))
  bif v2 then
  bif (decide (0 ≤ s4) && decide (s4 < List.length s2)) then
  let v3 : Int := (List.getD s2 (Int.toNat s4) (0 : Int))
  let v4 : Int := (IntKind.i64.wrap (0 - v3))
  bif (P77 s0 v4) then
  let v5 : Int := (F77 s0 v4)
  let v6 : Int := (bits .xor .u32 s1 v5)
  let v7 : Int := (IntKind.i64.wrap (s4 + (1 : Int)))
  some (.inl (s0, v6, s2, s3, v7))
  else none
  else none
  else
  some (.inr (s0, s1, s2, s3, s4))
def L68_3 : Int × Int × (List Int) × Int × Int → Option ((Int × Int × (List Int) × Int × Int)) := Lim (fun s => L68_3_r s.1 s.2.1 s.2.2.1 s.2.2.2.1 s.2.2.2.2)
def L68_3_sum : Sum := limSum L68_3_sh L68_3_pk (fun s => L68_3_r s.1 s.2.1 s.2.2.1 s.2.2.2.1 s.2.2.2.2) L68_3_leave
theorem L68_3_nat : Natural L68_3_sum := natural_lim fun x R K => by
  rfl
theorem L68_3_dok : ∀ e st x, e ≠ .normal → L68_3_d e st = some x → ∀ R (K : Cont R), K e st = L68_3_leave x R K := by
  intro e st x _ h R K
  unfold L68_3_d at h
  split at h
  · split at h
    · rename_i s hs; cases h; rw [unSt_some hs]; rfl
    · cases h
  · cases h
def loops68 : Nat → Option (Sum) := fun | 3 => some L68_3_sum | _ => none
theorem loops68_nat : ∀ q f, loops68 q = some f → Natural f := by
  intro q f h
  unfold loops68 at h
  split at h
  · cases h; exact L68_3_nat
  · cases h
noncomputable def L68_3_code : Code := (loopsOf body68).getD 0 .skip
theorem L68_3_round (s0 : Int) (s1 : Int) (s2 : (List Int)) (s3 : Int) (s4 : Int) : ev2 env68 orc68 loops68 L68_3_code (mkSt L68_3_sh (s0, (s1, (s2, (s3, (s4, ())))))) (back L68_3_sh L68_3_pk L68_3_d) = L68_3_r s0 s1 s2 s3 s4 := by kernel_rfl
theorem L68_3_ok : SumOk env68 orc68 loops68 L68_3_code L68_3_sum := sumOk_lim (un := L68_3_un) loops68_nat (fun _ => rfl) L68_3_dok fun s => L68_3_round s.1 s.2.1 s.2.2.1 s.2.2.2.1 s.2.2.2.2
theorem loops68_all : loopsOf body68 = [L68_3_code] := by kernel_rfl
theorem L68_3_key : lookL loops68 (keyOf L68_3_code) = some L68_3_sum := by kernel_rfl
theorem loops68_ok : LoopsOk env68 orc68 loops68 body68 := by
  intro c hc f hf
  rw [loops68_all] at hc
  simp only [List.mem_cons, List.not_mem_nil, or_false] at hc
  subst hc
  · rw [L68_3_key] at hf; cases hf; exact L68_3_ok
def G68 (x0 : Int) (x1 : (List Int)) : Option (Int) :=
  let v1 : Int := ((List.length x1 : Nat) : Int)
  Option.bind (L68_3 (x0, (0 : Int), x1, v1, (0 : Int))) fun (r8 : Int × Int × (List Int) × Int × Int) =>
  some (r8.2.1)
theorem ev68 (x0 : Int) (x1 : (List Int)) : ev2 env68 orc68 loops68 body68 (initSt 0 [⟨(.int .u32), x0⟩, ⟨(.list (.int .i64)), x1⟩]) (retT [(4, .dat (.int .u32))] [(.int .u32)] fun x => x.1) = G68 x0 x1 := by kernel_rfl
def P68 (x0 : Int) (x1 : (List Int)) : Bool := (hold (G68 x0 x1)).isSome
def F68 (x0 : Int) (x1 : (List Int)) : Int := (hold (G68 x0 x1)).getD default
theorem G68_some (x0 : Int) (x1 : (List Int)) (h : P68 x0 x1 = true) : G68 x0 x1 = some (F68 x0 x1) := by
  unfold P68 at h; unfold F68
  rw [hold_eq] at h ⊢
  exact some_getD h
theorem P68_of (x0 : Int) (x1 : (List Int)) {r : Int} (h : G68 x0 x1 = some r) : P68 x0 x1 = true := by unfold P68; rw [hold_eq, h]; rfl
theorem F68_of (x0 : Int) (x1 : (List Int)) {r : Int} (h : G68 x0 x1 = some r) : F68 x0 x1 = r := by unfold F68; rw [hold_eq, h]; rfl
def spec68 : Spec := ⟨[(.int .u32), (.list (.int .i64))], [.dat (.int .u32)], fun | [a0, a1] => P68 (a0.as (.int .u32)) (a1.as (.list (.int .i64))) | _ => false, fun | [a0, a1] => [⟨(.int .u32), (F68 (a0.as (.int .u32)) (a1.as (.list (.int .i64))))⟩] | _ => []⟩
theorem meets68 (hE : EnvOk Tryd.prog env68) (hm : Tryd.prog.follows .mixedOrders = true) : Meets Tryd.prog glob 68 spec68 :=
  meets_of_ev2 (O := orc68) (L := loops68) (c := body68) (slots := [4]) hE hm Tryd.func68 Tryd.call68 (by kernel_rfl) (by kernel_rfl) loops68_ok (rangesOk_nil (by kernel_rfl)) (by kernel_rfl) rfl (by decide) (fun ds hds hpre => by
  obtain ⟨x0, ds0, rfl, h0⟩ := datsS hds
  obtain ⟨x1, ds1, rfl, h1⟩ := datsS h0
  have h9 := dats0 h1; subst h9
  exact ev_ret (un := fun r => [⟨(.int .u32), r⟩]) loops68_nat (fun _ => rfl) ((ev68 x0 x1).trans (G68_some x0 x1 hpre)))
def pin67 : Shape := [(.slot 0, .dat (.list (.int .u8)))]
def pout67 : Shape := [(.slot 0, .dat (.arr 64 (.int .u32)))]
def env67 : Env := {
  tab := tab
  glob := glob
  spec := fun
    | 68 => some spec68
    | _ => none }

def orc67 : Orc := ⟨84, fun _ => none, fun
  | 0 => kp [0, 2] [(2, [0])]
  | 1 => kp [0, 2, 7] [(2, [0])]
  | 2 => kp [0, 2, 7, 8] [(2, [0])]
  | 3 => kp [0, 2, 3, 7] [(2, [0])]
  | 4 => kp [0, 2, 7] [(2, [0])]
  | 5 => kp [0, 2, 7] [(2, [0])]
  | 6 => kp [2, 4] [(2, [0])]
  | 7 => kp [2, 4, 47] [(2, [0])]
  | 8 => kp [2, 4] [(2, [0])]
  | 9 => kp [2, 4, 5, 6] [(2, [0])]
  | 10 => kp [2, 4] [(2, [0])]
  | 11 => kp [2] [(2, [0])]
  | _ => [], fun | _ => false⟩
noncomputable def body67 : Code := Tryd.f67.body.getD .skip
def L67_7_sh : Shape := [(.slot 2, .ptr 2 0), (.slot 4, .dat (.int .i64)), (.box 2, .bx 88 64), (.cell 2 0, .dat (.arr 64 (.int .u32)))]
def L67_7_x0 : Shape := [(.slot 2, .ptr 2 0), (.slot 4, .dat (.int .i64)), (.box 2, .bx 88 64), (.cell 2 0, .dat (.arr 64 (.int .u32)))]
def L67_7_pk (s : Tup L67_7_sh) : Int × (List Int) := (s.2.1, s.2.2.2.1)
def L67_7_un (s : Int × (List Int)) : Tup L67_7_sh := ((), (s.1, ((), (s.2, ()))))
def L67_7_leave (x : (Int × (List Int))) (R : Type) (K : Cont R) : Option R := match x with
  | a => K (.exit 2) (mkSt L67_7_x0 ((), (a.1, ((), (a.2, ())))))
def L67_7_d (e : Exit) (st : St) : Option ((Int × (List Int))) := match e with
  | .exit 2 => (match unSt L67_7_x0 st with
    | some s => some (s.2.1, s.2.2.2.1)
    | none => none)
  | _ => none
def L67_7_r (s0 : Int) (s1 : (List Int)) : Option ((Int × (List Int)) ⊕ ((Int × (List Int)))) :=
  let v27 : Bool := (decide (s0 < (64 : Int)))
  bif v27 then
  let v28 : Int := (IntKind.i64.wrap (s0 - (15 : Int)))
  bif (decide (0 ≤ v28) && decide (v28 < (64 : Nat))) then
  bif (decide ((Int.toNat v28) < List.length s1)) then
  let v29 : Int := (List.getD s1 (Int.toNat v28) (0 : Int))
  let v30 : Int := (IntKind.i64.wrap (s0 - (2 : Int)))
  bif (decide (0 ≤ v30) && decide (v30 < (64 : Nat))) then
  bif (decide ((Int.toNat v30) < List.length s1)) then
  let v31 : Int := (List.getD s1 (Int.toNat v30) (0 : Int))
  let v32 : Int := (IntKind.i64.wrap (s0 - (16 : Int)))
  bif (decide (0 ≤ v32) && decide (v32 < (64 : Nat))) then
  bif (decide ((Int.toNat v32) < List.length s1)) then
  let v33 : Int := (List.getD s1 (Int.toNat v32) (0 : Int))
  let v34 : (List Int) := (List.set (List.set (List.replicate 2 (0 : Int)) 0 (7 : Int)) 1 (18 : Int))
  bif (P68 v29 v34) then
  let v35 : Int := (F68 v29 v34)
  let v36 : Int := (Int.fdiv v29 (2 ^ min (Int.toNat (3 : Int)) (IntKind.u32.bits)))
  let v37 : Int := (bits .xor .u32 v35 v36)
  let v38 : Int := (IntKind.u32.wrap (v33 + v37))
  let v39 : Int := (IntKind.i64.wrap (s0 - (7 : Int)))
  bif (decide (0 ≤ v39) && decide (v39 < (64 : Nat))) then
  bif (decide ((Int.toNat v39) < List.length s1)) then
  let v40 : Int := (List.getD s1 (Int.toNat v39) (0 : Int))
  let v41 : Int := (IntKind.u32.wrap (v38 + v40))
  let v42 : (List Int) := (List.set (List.set (List.replicate 2 (0 : Int)) 0 (17 : Int)) 1 (19 : Int))
  bif (P68 v31 v42) then
  let v43 : Int := (F68 v31 v42)
  let v44 : Int := (Int.fdiv v31 (2 ^ min (Int.toNat (10 : Int)) (IntKind.u32.bits)))
  let v45 : Int := (bits .xor .u32 v43 v44)
  let v46 : Int := (IntKind.u32.wrap (v41 + v45))
  bif (decide (0 ≤ s0) && decide (s0 < (64 : Nat))) then
  bif (decide ((Int.toNat s0) < List.length s1)) then
  let v47 : (List Int) := (List.set s1 (Int.toNat s0) v46)
  let v48 : Int := (IntKind.i64.wrap (s0 + (1 : Int)))
  some (.inl (v48, v47))
  else none
  else none
  else none
  else none
  else none
  else none
  else none
  else none
  else none
  else none
  else none
  else none
  else
  some (.inr (s0, s1))
def L67_7 : Int × (List Int) → Option ((Int × (List Int))) := Lim (fun s => L67_7_r s.1 s.2)
def L67_7_sum : Sum := limSum L67_7_sh L67_7_pk (fun s => L67_7_r s.1 s.2) L67_7_leave
theorem L67_7_nat : Natural L67_7_sum := natural_lim fun x R K => by
  rfl
theorem L67_7_dok : ∀ e st x, e ≠ .normal → L67_7_d e st = some x → ∀ R (K : Cont R), K e st = L67_7_leave x R K := by
  intro e st x _ h R K
  unfold L67_7_d at h
  split at h
  · split at h
    · rename_i s hs; cases h; rw [unSt_some hs]; rfl
    · cases h
  · cases h
def L67_2_sh : Shape := [(.slot 0, .dat (.list (.int .u8))), (.slot 2, .ptr 2 0), (.slot 7, .dat (.int .i64)), (.box 2, .bx 88 64), (.cell 2 0, .dat (.arr 64 (.int .u32)))]
def L67_2_x0 : Shape := [(.slot 0, .dat (.list (.int .u8))), (.slot 2, .ptr 2 0), (.slot 7, .dat (.int .i64)), (.box 2, .bx 88 64), (.cell 2 0, .dat (.arr 64 (.int .u32)))]
def L67_2_pk (s : Tup L67_2_sh) : (List Int) × Int × (List Int) := (s.1, s.2.2.1, s.2.2.2.2.1)
def L67_2_un (s : (List Int) × Int × (List Int)) : Tup L67_2_sh := (s.1, ((), (s.2.1, ((), (s.2.2, ())))))
def L67_2_leave (x : ((List Int) × Int × (List Int))) (R : Type) (K : Cont R) : Option R := match x with
  | a => K (.exit 0) (mkSt L67_2_x0 (a.1, ((), (a.2.1, ((), (a.2.2, ()))))))
def L67_2_d (e : Exit) (st : St) : Option (((List Int) × Int × (List Int))) := match e with
  | .exit 0 => (match unSt L67_2_x0 st with
    | some s => some (s.1, s.2.2.1, s.2.2.2.2.1)
    | none => none)
  | _ => none
def L67_2_r (s0 : (List Int)) (s1 : Int) (s2 : (List Int)) : Option (((List Int) × Int × (List Int)) ⊕ (((List Int) × Int × (List Int)))) :=
  let v2 : Bool := (decide (s1 < (16 : Int)))
  bif v2 then
  let v3 : Int := (IntKind.i64.wrap ((4 : Int) * s1))
  bif (decide (0 ≤ v3) && decide (v3 < List.length s0)) then
  let v4 : Int := (List.getD s0 (Int.toNat v3) (0 : Int))
  let v5 : Int := (IntKind.u32.wrap v4)
  let v6 : Int := (IntKind.u32.wrap (v5 * 2 ^ min (Int.toNat (24 : Int)) (IntKind.u32.bits)))
  let v7 : Int := (IntKind.i64.wrap ((4 : Int) * s1))
  let v8 : Int := (IntKind.i64.wrap (v7 + (1 : Int)))
  bif (decide (0 ≤ v8) && decide (v8 < List.length s0)) then
  let v9 : Int := (List.getD s0 (Int.toNat v8) (0 : Int))
  let v10 : Int := (IntKind.u32.wrap v9)
  let v11 : Int := (IntKind.u32.wrap (v10 * 2 ^ min (Int.toNat (16 : Int)) (IntKind.u32.bits)))
  let v12 : Int := (bits .or .u32 v6 v11)
  let v13 : Int := (IntKind.i64.wrap ((4 : Int) * s1))
  let v14 : Int := (IntKind.i64.wrap (v13 + (2 : Int)))
  bif (decide (0 ≤ v14) && decide (v14 < List.length s0)) then
  let v15 : Int := (List.getD s0 (Int.toNat v14) (0 : Int))
  let v16 : Int := (IntKind.u32.wrap v15)
  let v17 : Int := (IntKind.u32.wrap (v16 * 2 ^ min (Int.toNat (8 : Int)) (IntKind.u32.bits)))
  let v18 : Int := (bits .or .u32 v12 v17)
  let v19 : Int := (IntKind.i64.wrap ((4 : Int) * s1))
  let v20 : Int := (IntKind.i64.wrap (v19 + (3 : Int)))
  bif (decide (0 ≤ v20) && decide (v20 < List.length s0)) then
  let v21 : Int := (List.getD s0 (Int.toNat v20) (0 : Int))
  let v22 : Int := (IntKind.u32.wrap v21)
  let v23 : Int := (bits .or .u32 v18 v22)
  bif (decide (0 ≤ s1) && decide (s1 < (64 : Nat))) then
  bif (decide ((Int.toNat s1) < List.length s2)) then
  let v24 : (List Int) := (List.set s2 (Int.toNat s1) v23)
  let v25 : Int := (IntKind.i64.wrap (s1 + (1 : Int)))
  some (.inl (s0, v25, v24))
  else none
  else none
  else none
  else none
  else none
  else none
  else
  some (.inr (s0, s1, s2))
def L67_2 : (List Int) × Int × (List Int) → Option (((List Int) × Int × (List Int))) := Lim (fun s => L67_2_r s.1 s.2.1 s.2.2)
def L67_2_sum : Sum := limSum L67_2_sh L67_2_pk (fun s => L67_2_r s.1 s.2.1 s.2.2) L67_2_leave
theorem L67_2_nat : Natural L67_2_sum := natural_lim fun x R K => by
  rfl
theorem L67_2_dok : ∀ e st x, e ≠ .normal → L67_2_d e st = some x → ∀ R (K : Cont R), K e st = L67_2_leave x R K := by
  intro e st x _ h R K
  unfold L67_2_d at h
  split at h
  · split at h
    · rename_i s hs; cases h; rw [unSt_some hs]; rfl
    · cases h
  · cases h
def loops67 : Nat → Option (Sum) := fun | 2 => some L67_2_sum | 7 => some L67_7_sum | _ => none
theorem loops67_nat : ∀ q f, loops67 q = some f → Natural f := by
  intro q f h
  unfold loops67 at h
  split at h
  · cases h; exact L67_2_nat
  · cases h; exact L67_7_nat
  · cases h
noncomputable def L67_2_code : Code := (loopsOf body67).getD 0 .skip
theorem L67_2_round (s0 : (List Int)) (s1 : Int) (s2 : (List Int)) : ev2 env67 orc67 loops67 L67_2_code (mkSt L67_2_sh (s0, ((), (s1, ((), (s2, ())))))) (back L67_2_sh L67_2_pk L67_2_d) = L67_2_r s0 s1 s2 := by kernel_rfl
theorem L67_2_ok : SumOk env67 orc67 loops67 L67_2_code L67_2_sum := sumOk_lim (un := L67_2_un) loops67_nat (fun _ => rfl) L67_2_dok fun s => L67_2_round s.1 s.2.1 s.2.2
noncomputable def L67_7_code : Code := (loopsOf body67).getD 1 .skip
theorem L67_7_round (s0 : Int) (s1 : (List Int)) : ev2 env67 orc67 loops67 L67_7_code (mkSt L67_7_sh ((), (s0, ((), (s1, ()))))) (back L67_7_sh L67_7_pk L67_7_d) = L67_7_r s0 s1 := by kernel_rfl
theorem L67_7_ok : SumOk env67 orc67 loops67 L67_7_code L67_7_sum := sumOk_lim (un := L67_7_un) loops67_nat (fun _ => rfl) L67_7_dok fun s => L67_7_round s.1 s.2
theorem loops67_all : loopsOf body67 = [L67_2_code, L67_7_code] := by kernel_rfl
theorem L67_2_key : lookL loops67 (keyOf L67_2_code) = some L67_2_sum := by kernel_rfl
theorem L67_7_key : lookL loops67 (keyOf L67_7_code) = some L67_7_sum := by kernel_rfl
theorem loops67_ok : LoopsOk env67 orc67 loops67 body67 := by
  intro c hc f hf
  rw [loops67_all] at hc
  simp only [List.mem_cons, List.not_mem_nil, or_false] at hc
  rcases hc with rfl | rfl
  · rw [L67_2_key] at hf; cases hf; exact L67_2_ok
  · rw [L67_7_key] at hf; cases hf; exact L67_7_ok
def G67 (x0 : (List Int)) : Option ((List Int) × Unit) :=
  let v1 : (List Int) := (List.replicate 64 (0 : Int))
  Option.bind (L67_2 (x0, (0 : Int), v1)) fun (r26 : (List Int) × Int × (List Int)) =>
  Option.bind (L67_7 ((16 : Int), r26.2.2)) fun (r49 : Int × (List Int)) =>
  some (r49.2, ())
def P67 (x0 : (List Int)) : Bool := (hold (G67 x0)).isSome
def F67 (x0 : (List Int)) : ((List Int) × Unit) := (hold (G67 x0)).getD (Tup.zero pout67)
theorem P67_of (x0 : (List Int)) {r : ((List Int) × Unit)} (h : G67 x0 = some r) : P67 x0 = true := by unfold P67; rw [hold_eq, h]; rfl
theorem F67_of (x0 : (List Int)) {r : ((List Int) × Unit)} (h : G67 x0 = some r) : F67 x0 = r := by unfold F67; rw [hold_eq, h]; rfl
theorem ev67 (x0 : (List Int)) : ev2 env67 orc67 loops67 body67 (mkSt pin67 (x0, ())) (retK3 env67 [.cell 2 88] pout67) = G67 x0 := by kernel_rfl
def sp67 : Spec2 := ⟨pin67, pout67, fun s => hold (G67 s.1)⟩
theorem fit67 : Fit Tryd.f67 [.cell 2 88] sp67 := ⟨by kernel_rfl, by kernel_rfl, by kernel_rfl, by kernel_rfl, by kernel_rfl, by decide, by decide, by decide⟩
theorem meets67 (hE : EnvOk Tryd.prog env67) (hm : Tryd.prog.follows .mixedOrders = true) : Meets2 Tryd.prog glob 67 sp67 :=
  meets2_of_ev2 (O := orc67) (L := loops67) (c := body67) (rs := [.cell 2 88]) hE (fun _ => rfl) hm Tryd.func67 Tryd.call67 (by kernel_rfl) (by kernel_rfl) loops67_ok (rangesOk_nil (by kernel_rfl)) fit67 (fun s o h => (ev67 s.1).trans ((hold_eq _).symm.trans h))
def pin55 : Shape := [(.slot 0, .ptr 50000 0), (.slot 1, .dat (.list (.int .u8))), (.box 50000, .bx 71 8), (.cell 50000 0, .dat (.arr 8 (.int .u32)))]
def pout55 : Shape := [(.box 50000, .bx 71 8), (.cell 50000 0, .dat (.arr 8 (.int .u32)))]
def env55 : Env := {
  tab := tab
  glob := glob
  spec := fun
    | 68 => some spec68
    | _ => none
  spec2 := fun
    | 67, [] => some sp67
    | _, _ => none }

def orc55 : Orc := ⟨97, fun _ => none, fun
  | 0 => kp [0, 4] [(4, [0]), (50000, [0])]
  | 1 => kp [0, 4, 5] [(4, [0]), (5, [0]), (50000, [0])]
  | 2 => kp [0, 4, 5, 18, 19] [(4, [0]), (5, [0]), (50000, [0])]
  | 3 => kp [0, 4, 5, 18, 19, 20] [(4, [0]), (5, [0]), (50000, [0])]
  | 4 => kp [0, 4, 5, 6, 7, 18, 19] [(4, [0]), (5, [0]), (50000, [0])]
  | 5 => kp [0, 4, 5, 6, 7, 8, 9, 18, 19] [(4, [0]), (5, [0]), (50000, [0])]
  | 6 => kp [0, 4, 5, 8, 10, 18, 19] [(4, [0]), (5, [0]), (50000, [0])]
  | 7 => kp [0, 4, 5, 10, 11, 18, 19] [(4, [0]), (5, [0]), (50000, [0])]
  | 8 => kp [0, 4, 5, 10, 11, 18, 19] [(4, [0]), (5, [0]), (50000, [0])]
  | 9 => kp [0, 4, 5, 18, 19] [(4, [0]), (5, [0]), (50000, [0])]
  | 10 => kp [0, 4, 5, 18, 19] [(4, [0]), (5, [0]), (50000, [0])]
  | 11 => kp [0, 5, 82] [(5, [0]), (50000, [0])]
  | 12 => kp [0, 5, 82, 83] [(5, [0]), (50000, [0])]
  | 13 => kp [0, 5, 12, 82] [(5, [0]), (50000, [0])]
  | 14 => kp [0, 5, 82] [(5, [0]), (50000, [0])]
  | 15 => kp [0, 5, 82] [(5, [0]), (50000, [0])]
  | _ => [], fun | _ => false⟩
noncomputable def body55 : Code := Tryd.f55.body.getD .skip
def L55_12_sh : Shape := [(.slot 0, .ptr 50000 0), (.slot 5, .ptr 5 0), (.slot 82, .dat (.int .i64)), (.box 5, .bx 71 8), (.cell 5 0, .dat (.arr 8 (.int .u32))), (.box 50000, .bx 71 8), (.cell 50000 0, .dat (.arr 8 (.int .u32)))]
def L55_12_x0 : Shape := [(.slot 0, .ptr 50000 0), (.slot 5, .ptr 5 0), (.slot 82, .dat (.int .i64)), (.box 5, .bx 71 8), (.cell 5 0, .dat (.arr 8 (.int .u32))), (.box 50000, .bx 71 8), (.cell 50000 0, .dat (.arr 8 (.int .u32)))]
def L55_12_pk (s : Tup L55_12_sh) : Int × (List Int) × (List Int) := (s.2.2.1, s.2.2.2.2.1, s.2.2.2.2.2.2.1)
def L55_12_un (s : Int × (List Int) × (List Int)) : Tup L55_12_sh := ((), ((), (s.1, ((), (s.2.1, ((), (s.2.2, ())))))))
def L55_12_leave (x : (Int × (List Int) × (List Int))) (R : Type) (K : Cont R) : Option R := match x with
  | a => K (.exit 2) (mkSt L55_12_x0 ((), ((), (a.1, ((), (a.2.1, ((), (a.2.2, ()))))))))
def L55_12_d (e : Exit) (st : St) : Option ((Int × (List Int) × (List Int))) := match e with
  | .exit 2 => (match unSt L55_12_x0 st with
    | some s => some (s.2.2.1, s.2.2.2.2.1, s.2.2.2.2.2.2.1)
    | none => none)
  | _ => none
def L55_12_r (s0 : Int) (s1 : (List Int)) (s2 : (List Int)) : Option ((Int × (List Int) × (List Int)) ⊕ ((Int × (List Int) × (List Int)))) :=
  let v43 : Bool := (decide (s0 < (8 : Int)))
  bif v43 then
  bif (decide (0 ≤ s0) && decide (s0 < (8 : Nat))) then
  bif (decide ((Int.toNat s0) < List.length s2)) then
  let v44 : Int := (List.getD s2 (Int.toNat s0) (0 : Int))
  bif (decide (0 ≤ s0) && decide (s0 < (8 : Nat))) then
  bif (decide ((Int.toNat s0) < List.length s1)) then
  let v45 : Int := (List.getD s1 (Int.toNat s0) (0 : Int))
  let v46 : Int := (IntKind.u32.wrap (v44 + v45))
  bif (decide (0 ≤ s0) && decide (s0 < (8 : Nat))) then
  bif (decide ((Int.toNat s0) < List.length s2)) then
  let v47 : (List Int) := (List.set s2 (Int.toNat s0) v46)
  let v48 : Int := (IntKind.i64.wrap (s0 + (1 : Int)))
  some (.inl (v48, s1, v47))
  else none
  else none
  else none
  else none
  else none
  else none
  else
  some (.inr (s0, s1, s2))
def L55_12 : Int × (List Int) × (List Int) → Option ((Int × (List Int) × (List Int))) := Lim (fun s => L55_12_r s.1 s.2.1 s.2.2)
def L55_12_sum : Sum := limSum L55_12_sh L55_12_pk (fun s => L55_12_r s.1 s.2.1 s.2.2) L55_12_leave
theorem L55_12_nat : Natural L55_12_sum := natural_lim fun x R K => by
  rfl
theorem L55_12_dok : ∀ e st x, e ≠ .normal → L55_12_d e st = some x → ∀ R (K : Cont R), K e st = L55_12_leave x R K := by
  intro e st x _ h R K
  unfold L55_12_d at h
  split at h
  · split at h
    · rename_i s hs; cases h; rw [unSt_some hs]; rfl
    · cases h
  · cases h
def L55_3_sh : Shape := [(.slot 0, .ptr 50000 0), (.slot 4, .ptr 4 0), (.slot 5, .ptr 5 0), (.slot 18, .dat (.arr 64 (.int .u32))), (.slot 19, .dat (.int .i64)), (.box 4, .bx 88 64), (.cell 4 0, .dat (.arr 64 (.int .u32))), (.box 5, .bx 71 8), (.cell 5 0, .dat (.arr 8 (.int .u32))), (.box 50000, .bx 71 8), (.cell 50000 0, .dat (.arr 8 (.int .u32)))]
def L55_3_x0 : Shape := [(.slot 0, .ptr 50000 0), (.slot 4, .ptr 4 0), (.slot 5, .ptr 5 0), (.slot 18, .dat (.arr 64 (.int .u32))), (.slot 19, .dat (.int .i64)), (.box 4, .bx 88 64), (.cell 4 0, .dat (.arr 64 (.int .u32))), (.box 5, .bx 71 8), (.cell 5 0, .dat (.arr 8 (.int .u32))), (.box 50000, .bx 71 8), (.cell 50000 0, .dat (.arr 8 (.int .u32)))]
def L55_3_pk (s : Tup L55_3_sh) : (List Int) × Int × (List Int) × (List Int) × (List Int) := (s.2.2.2.1, s.2.2.2.2.1, s.2.2.2.2.2.2.1, s.2.2.2.2.2.2.2.2.1, s.2.2.2.2.2.2.2.2.2.2.1)
def L55_3_un (s : (List Int) × Int × (List Int) × (List Int) × (List Int)) : Tup L55_3_sh := ((), ((), ((), (s.1, (s.2.1, ((), (s.2.2.1, ((), (s.2.2.2.1, ((), (s.2.2.2.2, ())))))))))))
def L55_3_leave (x : ((List Int) × Int × (List Int) × (List Int) × (List Int))) (R : Type) (K : Cont R) : Option R := match x with
  | a => K (.exit 0) (mkSt L55_3_x0 ((), ((), ((), (a.1, (a.2.1, ((), (a.2.2.1, ((), (a.2.2.2.1, ((), (a.2.2.2.2, ()))))))))))))
def L55_3_d (e : Exit) (st : St) : Option (((List Int) × Int × (List Int) × (List Int) × (List Int))) := match e with
  | .exit 0 => (match unSt L55_3_x0 st with
    | some s => some (s.2.2.2.1, s.2.2.2.2.1, s.2.2.2.2.2.2.1, s.2.2.2.2.2.2.2.2.1, s.2.2.2.2.2.2.2.2.2.2.1)
    | none => none)
  | _ => none
def L55_3_r (s0 : (List Int)) (s1 : Int) (s2 : (List Int)) (s3 : (List Int)) (s4 : (List Int)) : Option (((List Int) × Int × (List Int) × (List Int) × (List Int)) ⊕ (((List Int) × Int × (List Int) × (List Int) × (List Int)))) :=
  let v4 : Bool := (decide (s1 < (64 : Int)))
  bif v4 then
  bif (decide (0 ≤ s1) && decide (s1 < (64 : Nat))) then
  let v5 : Int := (List.getD s0 (Int.toNat s1) (0 : Int))
  bif (decide (0 ≤ (0 : Int)) && decide ((0 : Int) < (8 : Nat))) then
  bif (decide ((Int.toNat (0 : Int)) < List.length s3)) then
  let v6 : Int := (List.getD s3 (Int.toNat (0 : Int)) (0 : Int))
  bif (decide (0 ≤ (4 : Int)) && decide ((4 : Int) < (8 : Nat))) then
  bif (decide ((Int.toNat (4 : Int)) < List.length s3)) then
  let v7 : Int := (List.getD s3 (Int.toNat (4 : Int)) (0 : Int))
  bif (decide (0 ≤ (7 : Int)) && decide ((7 : Int) < (8 : Nat))) then
  bif (decide ((Int.toNat (7 : Int)) < List.length s3)) then
  let v8 : Int := (List.getD s3 (Int.toNat (7 : Int)) (0 : Int))
  let v9 : (List Int) := (List.set (List.set (List.set (List.replicate 3 (0 : Int)) 0 (6 : Int)) 1 (11 : Int)) 2 (25 : Int))
  bif (P68 v7 v9) then
  let v10 : Int := (F68 v7 v9)
  let v11 : Int := (IntKind.u32.wrap (v8 + v10))
  bif (decide (0 ≤ (5 : Int)) && decide ((5 : Int) < (8 : Nat))) then
  bif (decide ((Int.toNat (5 : Int)) < List.length s3)) then
  let v12 : Int := (List.getD s3 (Int.toNat (5 : Int)) (0 : Int))
  let v13 : Int := (bits .and .u32 v7 v12)
  let v14 : Int := (bits .xor .u32 (if IntKind.u32.signed then -1 else IntKind.u32.max) v7)
  bif (decide (0 ≤ (6 : Int)) && decide ((6 : Int) < (8 : Nat))) then
  bif (decide ((Int.toNat (6 : Int)) < List.length s3)) then
  let v15 : Int := (List.getD s3 (Int.toNat (6 : Int)) (0 : Int))
  let v16 : Int := (bits .and .u32 v14 v15)
  let v17 : Int := (bits .xor .u32 v13 v16)
  let v18 : Int := (IntKind.u32.wrap (v11 + v17))
  let v19 : Int := (IntKind.u32.wrap (v18 + v5))
  bif (decide (0 ≤ s1) && decide (s1 < (64 : Nat))) then
  bif (decide ((Int.toNat s1) < List.length s2)) then
  let v20 : Int := (List.getD s2 (Int.toNat s1) (0 : Int))
  let v21 : Int := (IntKind.u32.wrap (v19 + v20))
  let v22 : (List Int) := (List.set (List.set (List.set (List.replicate 3 (0 : Int)) 0 (2 : Int)) 1 (13 : Int)) 2 (22 : Int))
  bif (P68 v6 v22) then
  let v23 : Int := (F68 v6 v22)
  bif (decide (0 ≤ (1 : Int)) && decide ((1 : Int) < (8 : Nat))) then
  bif (decide ((Int.toNat (1 : Int)) < List.length s3)) then
  let v24 : Int := (List.getD s3 (Int.toNat (1 : Int)) (0 : Int))
  let v25 : Int := (bits .and .u32 v6 v24)
  bif (decide (0 ≤ (2 : Int)) && decide ((2 : Int) < (8 : Nat))) then
  bif (decide ((Int.toNat (2 : Int)) < List.length s3)) then
  let v26 : Int := (List.getD s3 (Int.toNat (2 : Int)) (0 : Int))
  let v27 : Int := (bits .and .u32 v6 v26)
  let v28 : Int := (bits .xor .u32 v25 v27)
  bif (decide (0 ≤ (1 : Int)) && decide ((1 : Int) < (8 : Nat))) then
  bif (decide ((Int.toNat (1 : Int)) < List.length s3)) then
  let v29 : Int := (List.getD s3 (Int.toNat (1 : Int)) (0 : Int))
  bif (decide (0 ≤ (2 : Int)) && decide ((2 : Int) < (8 : Nat))) then
  bif (decide ((Int.toNat (2 : Int)) < List.length s3)) then
  let v30 : Int := (List.getD s3 (Int.toNat (2 : Int)) (0 : Int))
  let v31 : Int := (bits .and .u32 v29 v30)
  let v32 : Int := (bits .xor .u32 v28 v31)
  let v33 : Int := (IntKind.u32.wrap (v23 + v32))
  bif (sliceTest (1 : Int) ((8 : Nat) : Int) (8 : Nat) && decide ((1 : Int) < ((8 : Nat) : Int))) then
  bif (sliceTest (0 : Int) (7 : Int) (8 : Nat)) then
  bif (decide ((Int.toNat (1 : Int)) + (min (Int.toNat (7 : Int)) (Int.toNat ((8 : Nat) : Int) - Int.toNat (1 : Int))) ≤ 8) && decide (0 + (min (Int.toNat (7 : Int)) (Int.toNat ((8 : Nat) : Int) - Int.toNat (1 : Int))) ≤ 8)) then
  let v34 : (List Int) := (List.take (Int.toNat (1 : Int)) s3 ++ List.take (min (Int.toNat (7 : Int)) (Int.toNat ((8 : Nat) : Int) - Int.toNat (1 : Int))) (List.drop 0 s3) ++ List.drop ((Int.toNat (1 : Int)) + (min (Int.toNat (7 : Int)) (Int.toNat ((8 : Nat) : Int) - Int.toNat (1 : Int)))) s3)
  let v35 : Int := (((min (Int.toNat (7 : Int)) (Int.toNat ((8 : Nat) : Int) - Int.toNat (1 : Int))) : Nat) : Int)
  let v36 : Int := (IntKind.u32.wrap (v21 + v33))
  bif (decide (0 ≤ (4 : Int)) && decide ((4 : Int) < (8 : Nat))) then
  bif (decide ((Int.toNat (4 : Int)) < List.length v34)) then
  let v37 : Int := (List.getD v34 (Int.toNat (4 : Int)) (0 : Int))
  let v38 : Int := (IntKind.u32.wrap (v37 + v21))
  bif (decide (0 ≤ (0 : Int)) && decide ((0 : Int) < (8 : Nat))) then
  bif (decide ((Int.toNat (0 : Int)) < List.length v34)) then
  let v39 : (List Int) := (List.set v34 (Int.toNat (0 : Int)) v36)
  bif (decide (0 ≤ (4 : Int)) && decide ((4 : Int) < (8 : Nat))) then
  bif (decide ((Int.toNat (4 : Int)) < List.length v39)) then
  let v40 : (List Int) := (List.set v39 (Int.toNat (4 : Int)) v38)
  let v41 : Int := (IntKind.i64.wrap (s1 + (1 : Int)))
  some (.inl (s0, v41, s2, v40, s4))
  else none
  else none
  else none
  else none
  else none
  else none
  else none
  else none
  else none
  else none
  else none
  else none
  else none
  else none
  else none
  else none
  else none
  else none
  else none
  else none
  else none
  else none
  else none
  else none
  else none
  else none
  else none
  else none
  else none
  else none
  else none
  else none
  else
  some (.inr (s0, s1, s2, s3, s4))
def L55_3 : (List Int) × Int × (List Int) × (List Int) × (List Int) → Option (((List Int) × Int × (List Int) × (List Int) × (List Int))) := Lim (fun s => L55_3_r s.1 s.2.1 s.2.2.1 s.2.2.2.1 s.2.2.2.2)
def L55_3_sum : Sum := limSum L55_3_sh L55_3_pk (fun s => L55_3_r s.1 s.2.1 s.2.2.1 s.2.2.2.1 s.2.2.2.2) L55_3_leave
theorem L55_3_nat : Natural L55_3_sum := natural_lim fun x R K => by
  rfl
theorem L55_3_dok : ∀ e st x, e ≠ .normal → L55_3_d e st = some x → ∀ R (K : Cont R), K e st = L55_3_leave x R K := by
  intro e st x _ h R K
  unfold L55_3_d at h
  split at h
  · split at h
    · rename_i s hs; cases h; rw [unSt_some hs]; rfl
    · cases h
  · cases h
def loops55 : Nat → Option (Sum) := fun | 3 => some L55_3_sum | 12 => some L55_12_sum | _ => none
theorem loops55_nat : ∀ q f, loops55 q = some f → Natural f := by
  intro q f h
  unfold loops55 at h
  split at h
  · cases h; exact L55_3_nat
  · cases h; exact L55_12_nat
  · cases h
noncomputable def L55_3_code : Code := (loopsOf body55).getD 0 .skip
theorem L55_3_round (s0 : (List Int)) (s1 : Int) (s2 : (List Int)) (s3 : (List Int)) (s4 : (List Int)) : ev2 env55 orc55 loops55 L55_3_code (mkSt L55_3_sh ((), ((), ((), (s0, (s1, ((), (s2, ((), (s3, ((), (s4, ())))))))))))) (back L55_3_sh L55_3_pk L55_3_d) = L55_3_r s0 s1 s2 s3 s4 := by kernel_rfl
theorem L55_3_ok : SumOk env55 orc55 loops55 L55_3_code L55_3_sum := sumOk_lim (un := L55_3_un) loops55_nat (fun _ => rfl) L55_3_dok fun s => L55_3_round s.1 s.2.1 s.2.2.1 s.2.2.2.1 s.2.2.2.2
noncomputable def L55_12_code : Code := (loopsOf body55).getD 1 .skip
theorem L55_12_round (s0 : Int) (s1 : (List Int)) (s2 : (List Int)) : ev2 env55 orc55 loops55 L55_12_code (mkSt L55_12_sh ((), ((), (s0, ((), (s1, ((), (s2, ())))))))) (back L55_12_sh L55_12_pk L55_12_d) = L55_12_r s0 s1 s2 := by kernel_rfl
theorem L55_12_ok : SumOk env55 orc55 loops55 L55_12_code L55_12_sum := sumOk_lim (un := L55_12_un) loops55_nat (fun _ => rfl) L55_12_dok fun s => L55_12_round s.1 s.2.1 s.2.2
theorem loops55_all : loopsOf body55 = [L55_3_code, L55_12_code] := by kernel_rfl
theorem L55_3_key : lookL loops55 (keyOf L55_3_code) = some L55_3_sum := by kernel_rfl
theorem L55_12_key : lookL loops55 (keyOf L55_12_code) = some L55_12_sum := by kernel_rfl
theorem loops55_ok : LoopsOk env55 orc55 loops55 body55 := by
  intro c hc f hf
  rw [loops55_all] at hc
  simp only [List.mem_cons, List.not_mem_nil, or_false] at hc
  rcases hc with rfl | rfl
  · rw [L55_3_key] at hf; cases hf; exact L55_3_ok
  · rw [L55_12_key] at hf; cases hf; exact L55_12_ok
def G55 (x0 : (List Int)) (x1 : (List Int)) : Option (Unit × ((List Int) × Unit)) :=
  bif (P67 x0) then
  let q1 : ((List Int) × Unit) := F67 x0
  let v2 : (List Int) := (List.replicate 64 (0 : Int))
  let v3 : (List Int) := (List.replicate 8 (0 : Int))
  Option.bind (L55_3 (roundK, (0 : Int), q1.1, x1, x1)) fun (r42 : (List Int) × Int × (List Int) × (List Int) × (List Int)) =>
  Option.bind (L55_12 ((0 : Int), r42.2.2.2.1, r42.2.2.2.2)) fun (r49 : Int × (List Int) × (List Int)) =>
  some ((), (r49.2.2, ()))
  else none
def P55 (x0 : (List Int)) (x1 : (List Int)) : Bool := (hold (G55 x0 x1)).isSome
def F55 (x0 : (List Int)) (x1 : (List Int)) : (Unit × ((List Int) × Unit)) := (hold (G55 x0 x1)).getD (Tup.zero pout55)
theorem P55_of (x0 : (List Int)) (x1 : (List Int)) {r : (Unit × ((List Int) × Unit))} (h : G55 x0 x1 = some r) : P55 x0 x1 = true := by unfold P55; rw [hold_eq, h]; rfl
theorem F55_of (x0 : (List Int)) (x1 : (List Int)) {r : (Unit × ((List Int) × Unit))} (h : G55 x0 x1 = some r) : F55 x0 x1 = r := by unfold F55; rw [hold_eq, h]; rfl
theorem ev55 (x0 : (List Int)) (x1 : (List Int)) : ev2 env55 orc55 loops55 body55 (mkSt pin55 ((), (x0, ((), (x1, ()))))) (retK3 env55 [] pout55) = G55 x0 x1 := by kernel_rfl
def sp55 : Spec2 := ⟨pin55, pout55, fun s => hold (G55 s.2.1 s.2.2.2.1)⟩
theorem fit55 : Fit Tryd.f55 [] sp55 := ⟨by kernel_rfl, by kernel_rfl, by kernel_rfl, by kernel_rfl, by kernel_rfl, by decide, by decide, by decide⟩
theorem meets55 (hE : EnvOk Tryd.prog env55) (hm : Tryd.prog.follows .mixedOrders = true) : Meets2 Tryd.prog glob 55 sp55 :=
  meets2_of_ev2 (O := orc55) (L := loops55) (c := body55) (rs := []) hE (fun _ => rfl) hm Tryd.func55 Tryd.call55 (by kernel_rfl) (by kernel_rfl) loops55_ok (rangesOk_nil (by kernel_rfl)) fit55 (fun s o h => (ev55 s.2.1 s.2.2.2.1).trans ((hold_eq _).symm.trans h))
def env56 : Env := {
  tab := tab
  glob := glob
  spec := fun
    | _ => none }

def orc56 : Orc := ⟨30, fun _ => none, fun
  | 0 => kp [1] [(1, [0])]
  | 1 => kp [1, 3] [(1, [0]), (3, [0])]
  | 2 => kp [3, 7, 8] [(3, [0])]
  | 3 => kp [3, 7, 8, 9] [(3, [0])]
  | 4 => kp [3, 4, 5, 7, 8] [(3, [0])]
  | 5 => kp [3, 4, 5, 7, 8, 12] [(3, [0])]
  | 6 => kp [3, 4, 5, 7, 8, 12, 13] [(3, [0])]
  | 7 => kp [3, 4, 5, 6, 7, 8, 12] [(3, [0])]
  | 8 => kp [3, 4, 5, 7, 8, 12] [(3, [0])]
  | 9 => kp [3, 4, 5, 7, 8, 12] [(3, [0])]
  | 10 => kp [3, 7, 8] [(3, [0])]
  | 11 => kp [2] []
  | _ => [], fun | _ => false⟩
noncomputable def body56 : Code := Tryd.f56.body.getD .skip
def L56_6_sh : Shape := [(.slot 3, .ptr 3 0), (.slot 4, .dat (.int .i64)), (.slot 5, .dat (.int .u32)), (.slot 7, .dat (.arr 8 (.int .u32))), (.slot 8, .dat (.int .i64)), (.slot 12, .dat (.int .i64)), (.box 3, .bx 91 32), (.cell 3 0, .dat (.arr 32 (.int .u8)))]
def L56_6_x0 : Shape := [(.slot 3, .ptr 3 0), (.slot 4, .dat (.int .i64)), (.slot 5, .dat (.int .u32)), (.slot 7, .dat (.arr 8 (.int .u32))), (.slot 8, .dat (.int .i64)), (.slot 12, .dat (.int .i64)), (.box 3, .bx 91 32), (.cell 3 0, .dat (.arr 32 (.int .u8)))]
def L56_6_pk (s : Tup L56_6_sh) : Int × Int × (List Int) × Int × Int × (List Int) := (s.2.1, s.2.2.1, s.2.2.2.1, s.2.2.2.2.1, s.2.2.2.2.2.1, s.2.2.2.2.2.2.2.1)
def L56_6_un (s : Int × Int × (List Int) × Int × Int × (List Int)) : Tup L56_6_sh := ((), (s.1, (s.2.1, (s.2.2.1, (s.2.2.2.1, (s.2.2.2.2.1, ((), (s.2.2.2.2.2, ()))))))))
def L56_6_leave (x : (Int × Int × (List Int) × Int × Int × (List Int))) (R : Type) (K : Cont R) : Option R := match x with
  | a => K (.exit 2) (mkSt L56_6_x0 ((), (a.1, (a.2.1, (a.2.2.1, (a.2.2.2.1, (a.2.2.2.2.1, ((), (a.2.2.2.2.2, ())))))))))
def L56_6_d (e : Exit) (st : St) : Option ((Int × Int × (List Int) × Int × Int × (List Int))) := match e with
  | .exit 2 => (match unSt L56_6_x0 st with
    | some s => some (s.2.1, s.2.2.1, s.2.2.2.1, s.2.2.2.2.1, s.2.2.2.2.2.1, s.2.2.2.2.2.2.2.1)
    | none => none)
  | _ => none
def L56_6_r (s0 : Int) (s1 : Int) (s2 : (List Int)) (s3 : Int) (s4 : Int) (s5 : (List Int)) : Option ((Int × Int × (List Int) × Int × Int × (List Int)) ⊕ ((Int × Int × (List Int) × Int × Int × (List Int)))) :=
  let v4 : Bool := (decide (s4 < (4 : Int)))
  bif v4 then
  let v5 : Int := (IntKind.i64.wrap ((4 : Int) * s0))
  let v6 : Int := (IntKind.i64.wrap (v5 + s4))
  let v7 : Int := (IntKind.i64.wrap ((8 : Int) * s4))
  let v8 : Int := (IntKind.i64.wrap ((24 : Int) - v7))
  bif (decide (0 ≤ v8)) then
  let v9 : Int := (Int.fdiv s1 (2 ^ min (Int.toNat v8) (IntKind.u32.bits)))
  let v10 : Int := (IntKind.u8.wrap v9)
  bif (decide (0 ≤ v6) && decide (v6 < (32 : Nat))) then
  bif (decide ((Int.toNat v6) < List.length s5)) then
  let v11 : (List Int) := (List.set s5 (Int.toNat v6) v10)
  let v12 : Int := (IntKind.i64.wrap (s4 + (1 : Int)))
  some (.inl (s0, s1, s2, s3, v12, v11))
  else none
  else none
  else none
  else
  some (.inr (s0, s1, s2, s3, s4, s5))
def L56_6 : Int × Int × (List Int) × Int × Int × (List Int) → Option ((Int × Int × (List Int) × Int × Int × (List Int))) := Lim (fun s => L56_6_r s.1 s.2.1 s.2.2.1 s.2.2.2.1 s.2.2.2.2.1 s.2.2.2.2.2)
def L56_6_sum : Sum := limSum L56_6_sh L56_6_pk (fun s => L56_6_r s.1 s.2.1 s.2.2.1 s.2.2.2.1 s.2.2.2.2.1 s.2.2.2.2.2) L56_6_leave
theorem L56_6_nat : Natural L56_6_sum := natural_lim fun x R K => by
  rfl
theorem L56_6_dok : ∀ e st x, e ≠ .normal → L56_6_d e st = some x → ∀ R (K : Cont R), K e st = L56_6_leave x R K := by
  intro e st x _ h R K
  unfold L56_6_d at h
  split at h
  · split at h
    · rename_i s hs; cases h; rw [unSt_some hs]; rfl
    · cases h
  · cases h
def L56_3_sh : Shape := [(.slot 3, .ptr 3 0), (.slot 7, .dat (.arr 8 (.int .u32))), (.slot 8, .dat (.int .i64)), (.box 3, .bx 91 32), (.cell 3 0, .dat (.arr 32 (.int .u8)))]
def L56_3_x0 : Shape := [(.slot 3, .ptr 3 0), (.slot 7, .dat (.arr 8 (.int .u32))), (.slot 8, .dat (.int .i64)), (.box 3, .bx 91 32), (.cell 3 0, .dat (.arr 32 (.int .u8)))]
def L56_3_pk (s : Tup L56_3_sh) : (List Int) × Int × (List Int) := (s.2.1, s.2.2.1, s.2.2.2.2.1)
def L56_3_un (s : (List Int) × Int × (List Int)) : Tup L56_3_sh := ((), (s.1, (s.2.1, ((), (s.2.2, ())))))
def L56_3_leave (x : ((List Int) × Int × (List Int))) (R : Type) (K : Cont R) : Option R := match x with
  | a => K (.exit 0) (mkSt L56_3_x0 ((), (a.1, (a.2.1, ((), (a.2.2, ()))))))
def L56_3_d (e : Exit) (st : St) : Option (((List Int) × Int × (List Int))) := match e with
  | .exit 0 => (match unSt L56_3_x0 st with
    | some s => some (s.2.1, s.2.2.1, s.2.2.2.2.1)
    | none => none)
  | _ => none
def L56_3_r (s0 : (List Int)) (s1 : Int) (s2 : (List Int)) : Option (((List Int) × Int × (List Int)) ⊕ (((List Int) × Int × (List Int)))) :=
  let v2 : Bool := (decide (s1 < (8 : Int)))
  bif v2 then
  bif (decide (0 ≤ s1) && decide (s1 < (8 : Nat))) then
  let v3 : Int := (List.getD s0 (Int.toNat s1) (0 : Int))
  Option.bind (L56_6 (s1, v3, s0, s1, (0 : Int), s2)) fun (r13 : Int × Int × (List Int) × Int × Int × (List Int)) =>
  let v14 : Int := (IntKind.i64.wrap (r13.2.2.2.1 + (1 : Int)))
  some (.inl (r13.2.2.1, v14, r13.2.2.2.2.2))
  else none
  else
  some (.inr (s0, s1, s2))
def L56_3 : (List Int) × Int × (List Int) → Option (((List Int) × Int × (List Int))) := Lim (fun s => L56_3_r s.1 s.2.1 s.2.2)
def L56_3_sum : Sum := limSum L56_3_sh L56_3_pk (fun s => L56_3_r s.1 s.2.1 s.2.2) L56_3_leave
theorem L56_3_nat : Natural L56_3_sum := natural_lim fun x R K => by
  rfl
theorem L56_3_dok : ∀ e st x, e ≠ .normal → L56_3_d e st = some x → ∀ R (K : Cont R), K e st = L56_3_leave x R K := by
  intro e st x _ h R K
  unfold L56_3_d at h
  split at h
  · split at h
    · rename_i s hs; cases h; rw [unSt_some hs]; rfl
    · cases h
  · cases h
def loops56 : Nat → Option (Sum) := fun | 3 => some L56_3_sum | 6 => some L56_6_sum | _ => none
theorem loops56_nat : ∀ q f, loops56 q = some f → Natural f := by
  intro q f h
  unfold loops56 at h
  split at h
  · cases h; exact L56_3_nat
  · cases h; exact L56_6_nat
  · cases h
noncomputable def L56_3_code : Code := (loopsOf body56).getD 0 .skip
theorem L56_3_round (s0 : (List Int)) (s1 : Int) (s2 : (List Int)) : ev2 env56 orc56 loops56 L56_3_code (mkSt L56_3_sh ((), (s0, (s1, ((), (s2, ())))))) (back L56_3_sh L56_3_pk L56_3_d) = L56_3_r s0 s1 s2 := by kernel_rfl
theorem L56_3_ok : SumOk env56 orc56 loops56 L56_3_code L56_3_sum := sumOk_lim (un := L56_3_un) loops56_nat (fun _ => rfl) L56_3_dok fun s => L56_3_round s.1 s.2.1 s.2.2
noncomputable def L56_6_code : Code := (loopsOf body56).getD 1 .skip
theorem L56_6_round (s0 : Int) (s1 : Int) (s2 : (List Int)) (s3 : Int) (s4 : Int) (s5 : (List Int)) : ev2 env56 orc56 loops56 L56_6_code (mkSt L56_6_sh ((), (s0, (s1, (s2, (s3, (s4, ((), (s5, ()))))))))) (back L56_6_sh L56_6_pk L56_6_d) = L56_6_r s0 s1 s2 s3 s4 s5 := by kernel_rfl
theorem L56_6_ok : SumOk env56 orc56 loops56 L56_6_code L56_6_sum := sumOk_lim (un := L56_6_un) loops56_nat (fun _ => rfl) L56_6_dok fun s => L56_6_round s.1 s.2.1 s.2.2.1 s.2.2.2.1 s.2.2.2.2.1 s.2.2.2.2.2
theorem loops56_all : loopsOf body56 = [L56_3_code, L56_6_code] := by kernel_rfl
theorem L56_3_key : lookL loops56 (keyOf L56_3_code) = some L56_3_sum := by kernel_rfl
theorem L56_6_key : lookL loops56 (keyOf L56_6_code) = some L56_6_sum := by kernel_rfl
theorem loops56_ok : LoopsOk env56 orc56 loops56 body56 := by
  intro c hc f hf
  rw [loops56_all] at hc
  simp only [List.mem_cons, List.not_mem_nil, or_false] at hc
  rcases hc with rfl | rfl
  · rw [L56_3_key] at hf; cases hf; exact L56_3_ok
  · rw [L56_6_key] at hf; cases hf; exact L56_6_ok
def G56 (x0 : (List Int)) : Option ((List UInt8)) :=
  let v1 : (List Int) := (List.replicate 32 (0 : Int))
  Option.bind (L56_3 (x0, (0 : Int), v1)) fun (r15 : (List Int) × Int × (List Int)) =>
  bif (sliceTest (0 : Int) ((32 : Nat) : Int) (32 : Nat)) then
  bif (decide (0 + (Int.toNat ((32 : Nat) : Int)) ≤ 32)) then
  let v16 : (List UInt8) := (List.map (fun (n : Int) => UInt8.ofNat n.toNat) (List.take (Int.toNat ((32 : Nat) : Int)) (List.drop 0 r15.2.2)))
  some (v16)
  else none
  else none
theorem ev56 (x0 : (List Int)) : ev2 env56 orc56 loops56 body56 (initSt 0 [⟨(.arr 8 (.int .u32)), x0⟩]) (retT [(2, .dat .str)] [.str] fun x => x.1) = G56 x0 := by kernel_rfl
def P56 (x0 : (List Int)) : Bool := (hold (G56 x0)).isSome
def F56 (x0 : (List Int)) : (List UInt8) := (hold (G56 x0)).getD default
theorem G56_some (x0 : (List Int)) (h : P56 x0 = true) : G56 x0 = some (F56 x0) := by
  unfold P56 at h; unfold F56
  rw [hold_eq] at h ⊢
  exact some_getD h
theorem P56_of (x0 : (List Int)) {r : (List UInt8)} (h : G56 x0 = some r) : P56 x0 = true := by unfold P56; rw [hold_eq, h]; rfl
theorem F56_of (x0 : (List Int)) {r : (List UInt8)} (h : G56 x0 = some r) : F56 x0 = r := by unfold F56; rw [hold_eq, h]; rfl
def spec56 : Spec := ⟨[(.arr 8 (.int .u32))], [.dat .str], fun | [a0] => P56 (a0.as (.arr 8 (.int .u32))) | _ => false, fun | [a0] => [⟨.str, (F56 (a0.as (.arr 8 (.int .u32))))⟩] | _ => []⟩
theorem meets56 (hE : EnvOk Tryd.prog env56) (hm : Tryd.prog.follows .mixedOrders = true) : Meets Tryd.prog glob 56 spec56 :=
  meets_of_ev2 (O := orc56) (L := loops56) (c := body56) (slots := [2]) hE hm Tryd.func56 Tryd.call56 (by kernel_rfl) (by kernel_rfl) loops56_ok (rangesOk_nil (by kernel_rfl)) (by kernel_rfl) rfl (by decide) (fun ds hds hpre => by
  obtain ⟨x0, ds0, rfl, h0⟩ := datsS hds
  have h9 := dats0 h0; subst h9
  exact ev_ret (un := fun r => [⟨.str, r⟩]) loops56_nat (fun _ => rfl) ((ev56 x0).trans (G56_some x0 hpre)))
def env30 : Env := {
  tab := tab
  glob := glob
  spec := fun
    | 56 => some spec56
    | _ => none
  spec2 := fun
    | 54, [] => some sp54
    | 55, [] => some sp55
    | _, _ => none }

def orc30 : Orc := ⟨40, fun _ => none, fun
  | 0 => kp [0] []
  | 1 => kp [0, 3] [(3, [0])]
  | 2 => kp [0, 3, 4] [(3, [0])]
  | 3 => kp [0, 3, 4, 15] [(3, [0])]
  | 4 => kp [0, 3, 4] [(3, [0])]
  | 5 => kp [0, 3, 4, 5] [(3, [0])]
  | 6 => kp [0, 3, 4, 5, 20] [(3, [0])]
  | 7 => kp [0, 3, 4, 5] [(3, [0])]
  | 8 => kp [0, 3, 4, 5] [(3, [0])]
  | 9 => kp [3, 34] [(3, [0]), (3500002, [0]), (3500003, [0])]
  | 10 => kp [3, 6, 34] [(3, [0])]
  | 11 => kp [3, 34] [(3, [0])]
  | 12 => kp [2] []
  | _ => [], fun | _ => false⟩
noncomputable def body30 : Code := Tryd.f30.body.getD .skip
def L30_6_sh : Shape := [(.slot 0, .dat .str), (.slot 3, .ptr 3 0), (.slot 4, .own 5 (.int .u8)), (.slot 5, .dat (.int .i64)), (.box 3, .bx 71 8), (.cell 3 0, .dat (.arr 8 (.int .u32)))]
def L30_6_x0 : Shape := [(.slot 0, .dat .str), (.slot 3, .ptr 3 0), (.slot 4, .own 5 (.int .u8)), (.slot 5, .dat (.int .i64)), (.box 3, .bx 71 8), (.cell 3 0, .dat (.arr 8 (.int .u32)))]
def L30_6_pk (s : Tup L30_6_sh) : (List UInt8) × (List Int) × Int × (List Int) := (s.1, s.2.2.1, s.2.2.2.1, s.2.2.2.2.2.1)
def L30_6_un (s : (List UInt8) × (List Int) × Int × (List Int)) : Tup L30_6_sh := (s.1, ((), (s.2.1, (s.2.2.1, ((), (s.2.2.2, ()))))))
def L30_6_leave (x : ((List UInt8) × (List Int) × Int × (List Int))) (R : Type) (K : Cont R) : Option R := match x with
  | a => K (.exit 2) (mkSt L30_6_x0 (a.1, ((), (a.2.1, (a.2.2.1, ((), (a.2.2.2, ())))))))
def L30_6_d (e : Exit) (st : St) : Option (((List UInt8) × (List Int) × Int × (List Int))) := match e with
  | .exit 2 => (match unSt L30_6_x0 st with
    | some s => some (s.1, s.2.2.1, s.2.2.2.1, s.2.2.2.2.2.1)
    | none => none)
  | _ => none
def L30_6_r (s0 : (List UInt8)) (s1 : (List Int)) (s2 : Int) (s3 : (List Int)) : Option (((List UInt8) × (List Int) × Int × (List Int)) ⊕ (((List UInt8) × (List Int) × Int × (List Int)))) :=
  let v12 : Bool := (decide (s2 ≥ (0 : Int)))
  bif v12 then
  let v13 : Int := ((List.length s0 : Nat) : Int)
  let v14 : Int := (IntKind.i64.wrap ((8 : Int) * v13))
  let v15 : Int := (IntKind.i64.wrap ((8 : Int) * s2))
  bif (decide (0 ≤ v15)) then
  let v16 : Int := (Int.fdiv v14 (2 ^ min (Int.toNat v15) (IntKind.i64.bits)))
  let v17 : Int := (IntKind.u8.wrap v16)
  let v18 : (List Int) := (List.set (List.replicate 1 (0 : Int)) 0 v17)
  bif (decide (List.length (List.take (List.length s1) s1) + List.length v18 ≤ 100000000000)) then
  let v19 : (List Int) := ((List.take (List.length s1) s1) ++ v18)
  let v20 : Int := (IntKind.i64.wrap (s2 - (1 : Int)))
  some (.inl (s0, v19, v20, s3))
  else none
  else none
  else
  some (.inr (s0, s1, s2, s3))
def L30_6 : (List UInt8) × (List Int) × Int × (List Int) → Option (((List UInt8) × (List Int) × Int × (List Int))) := Lim (fun s => L30_6_r s.1 s.2.1 s.2.2.1 s.2.2.2)
def L30_6_sum : Sum := limSum L30_6_sh L30_6_pk (fun s => L30_6_r s.1 s.2.1 s.2.2.1 s.2.2.2) L30_6_leave
theorem L30_6_nat : Natural L30_6_sum := natural_lim fun x R K => by
  rfl
theorem L30_6_dok : ∀ e st x, e ≠ .normal → L30_6_d e st = some x → ∀ R (K : Cont R), K e st = L30_6_leave x R K := by
  intro e st x _ h R K
  unfold L30_6_d at h
  split at h
  · split at h
    · rename_i s hs; cases h; rw [unSt_some hs]; rfl
    · cases h
  · cases h
def L30_3_sh : Shape := [(.slot 0, .dat .str), (.slot 3, .ptr 3 0), (.slot 4, .own 5 (.int .u8)), (.box 3, .bx 71 8), (.cell 3 0, .dat (.arr 8 (.int .u32)))]
def L30_3_x0 : Shape := [(.slot 0, .dat .str), (.slot 3, .ptr 3 0), (.slot 4, .own 5 (.int .u8)), (.box 3, .bx 71 8), (.cell 3 0, .dat (.arr 8 (.int .u32)))]
def L30_3_pk (s : Tup L30_3_sh) : (List UInt8) × (List Int) × (List Int) := (s.1, s.2.2.1, s.2.2.2.2.1)
def L30_3_un (s : (List UInt8) × (List Int) × (List Int)) : Tup L30_3_sh := (s.1, ((), (s.2.1, ((), (s.2.2, ())))))
def L30_3_leave (x : ((List UInt8) × (List Int) × (List Int))) (R : Type) (K : Cont R) : Option R := match x with
  | a => K (.exit 0) (mkSt L30_3_x0 (a.1, ((), (a.2.1, ((), (a.2.2, ()))))))
def L30_3_d (e : Exit) (st : St) : Option (((List UInt8) × (List Int) × (List Int))) := match e with
  | .exit 0 => (match unSt L30_3_x0 st with
    | some s => some (s.1, s.2.2.1, s.2.2.2.2.1)
    | none => none)
  | _ => none
def L30_3_r (s0 : (List UInt8)) (s1 : (List Int)) (s2 : (List Int)) : Option (((List UInt8) × (List Int) × (List Int)) ⊕ (((List UInt8) × (List Int) × (List Int)))) :=
  let v6 : Int := (((List.length s1) : Nat) : Int)
  let v7 : Int := (Int.tmod v6 (64 : Int))
  let v8 : Bool := (v7 != (56 : Int))
  bif v8 then
  let v9 : (List Int) := (List.set (List.replicate 1 (0 : Int)) 0 (0 : Int))
  bif (decide (List.length (List.take (List.length s1) s1) + List.length v9 ≤ 100000000000)) then
  let v10 : (List Int) := ((List.take (List.length s1) s1) ++ v9)
  some (.inl (s0, v10, s2))
  else none
  else
  some (.inr (s0, s1, s2))
def L30_3 : (List UInt8) × (List Int) × (List Int) → Option (((List UInt8) × (List Int) × (List Int))) := Lim (fun s => L30_3_r s.1 s.2.1 s.2.2)
def L30_3_sum : Sum := limSum L30_3_sh L30_3_pk (fun s => L30_3_r s.1 s.2.1 s.2.2) L30_3_leave
theorem L30_3_nat : Natural L30_3_sum := natural_lim fun x R K => by
  rfl
theorem L30_3_dok : ∀ e st x, e ≠ .normal → L30_3_d e st = some x → ∀ R (K : Cont R), K e st = L30_3_leave x R K := by
  intro e st x _ h R K
  unfold L30_3_d at h
  split at h
  · split at h
    · rename_i s hs; cases h; rw [unSt_some hs]; rfl
    · cases h
  · cases h
def R30_10_esh : Shape := [(.slot 3, .ptr 3 0), (.box 3, .bx 71 8), (.cell 3 0, .dat (.arr 8 (.int .u32)))]
def R30_10_pk (s : Tup R30_10_esh) : (List Int) := s.2.2.1
def R30_10_un (s : (List Int)) : Tup R30_10_esh := ((), ((), (s, ())))
def R30_10_xo (x : ((List Int))) : Exit × Tup R30_10_esh := match x with
  | a => (.ret, R30_10_un a)
def R30_10_leave (x : ((List Int))) (R : Type) (K : Cont R) : Option R := match x with
  | a => K .ret (mkSt R30_10_esh (R30_10_un a))
theorem R30_10_lv (x : ((List Int))) (R : Type) (K : Cont R) : R30_10_leave x R K = K (R30_10_xo x).1 (mkSt R30_10_esh (R30_10_xo x).2) := by
  rfl
theorem R30_10_lvn (x : ((List Int))) (R : Type) (K : Cont R) : R30_10_leave x R K = (R30_10_leave x _ pairK).bind fun p => K p.1 p.2 := by
  rfl
def R30_10_d (e : Exit) (s : Tup R30_10_esh) : Option (((List Int))) := match e with
  | _ => none
theorem R30_10_dk : ∀ x e v, R30_10_d x e = some v → R30_10_xo v = (x, e) ∧ ∃ c, jumpOf x = some c := by
  intro x e v h
  cases x <;> cases h
def R30_10_r (s0 : (List Int)) (y0 : (List Int)) : Option (((List Int)) ⊕ (((List Int)))) :=
  bif (P55 y0 s0) then
  let q23 : (Unit × ((List Int) × Unit)) := F55 y0 s0
  some (.inl q23.2.1)
  else none
def R30_10_step (b : (List Int)) (y : Y66) : Option (((List Int)) ⊕ (((List Int)))) := R30_10_r b y
def loops30 : Nat → Option (Sum) := fun | 3 => some L30_3_sum | 6 => some L30_6_sum | 10 => some (rangeSum env30 66 34 R30_10_esh I66 R30_10_pk R30_10_un R30_10_step R30_10_leave) | _ => none
theorem loops30_nat : ∀ q f, loops30 q = some f → Natural f := by
  intro q f h
  unfold loops30 at h
  split at h
  · cases h; exact L30_3_nat
  · cases h; exact L30_6_nat
  · cases h; exact natural_range R30_10_lvn
  · cases h
noncomputable def L30_3_code : Code := (loopsOf body30).getD 0 .skip
theorem L30_3_round (s0 : (List UInt8)) (s1 : (List Int)) (s2 : (List Int)) : ev2 env30 orc30 loops30 L30_3_code (mkSt L30_3_sh (s0, ((), (s1, ((), (s2, ())))))) (back L30_3_sh L30_3_pk L30_3_d) = L30_3_r s0 s1 s2 := by kernel_rfl
theorem L30_3_ok : SumOk env30 orc30 loops30 L30_3_code L30_3_sum := sumOk_lim (un := L30_3_un) loops30_nat (fun _ => rfl) L30_3_dok fun s => L30_3_round s.1 s.2.1 s.2.2
noncomputable def L30_6_code : Code := (loopsOf body30).getD 1 .skip
theorem L30_6_round (s0 : (List UInt8)) (s1 : (List Int)) (s2 : Int) (s3 : (List Int)) : ev2 env30 orc30 loops30 L30_6_code (mkSt L30_6_sh (s0, ((), (s1, (s2, ((), (s3, ()))))))) (back L30_6_sh L30_6_pk L30_6_d) = L30_6_r s0 s1 s2 s3 := by kernel_rfl
theorem L30_6_ok : SumOk env30 orc30 loops30 L30_6_code L30_6_sum := sumOk_lim (un := L30_6_un) loops30_nat (fun _ => rfl) L30_6_dok fun s => L30_6_round s.1 s.2.1 s.2.2.1 s.2.2.2
theorem loops30_all : loopsOf body30 = [L30_3_code, L30_6_code] := by kernel_rfl
theorem L30_3_key : lookL loops30 (keyOf L30_3_code) = some L30_3_sum := by kernel_rfl
theorem L30_6_key : lookL loops30 (keyOf L30_6_code) = some L30_6_sum := by kernel_rfl
theorem loops30_ok : LoopsOk env30 orc30 loops30 body30 := by
  intro c hc f hf
  rw [loops30_all] at hc
  simp only [List.mem_cons, List.not_mem_nil, or_false] at hc
  rcases hc with rfl | rfl
  · rw [L30_3_key] at hf; cases hf; exact L30_3_ok
  · rw [L30_6_key] at hf; cases hf; exact L30_6_ok
noncomputable def R30_10_code : Code := (rangesOf body30).getD 0 .skip
theorem R30_10_round (s0 : (List Int)) (y0 : (List Int)) : roundQ env30 orc30 loops30 R30_10_esh R30_10_pk R30_10_d R30_10_code (I66.enc y0) ((), ((), (s0, ()))) = R30_10_r s0 y0 := by kernel_rfl
theorem R30_10_form : R30_10_code = .rangeFunc (.tmp 34) (rgPs R30_10_code) (rgAsg R30_10_code) (rgBody R30_10_code) := by kernel_rfl
theorem R30_10_len (y : Y66) : (rgPs R30_10_code).toList.length = (I66.enc y).length := by kernel_rfl
theorem R30_10_ok (hE : EnvOk Tryd.prog env30) (hm : Tryd.prog.follows .mixedOrders = true) (hI : IterOk Tryd.prog glob 66 I66) : RangeOk Tryd.prog env30 orc30.n R30_10_code (rangeSum env30 66 34 R30_10_esh I66 R30_10_pk R30_10_un R30_10_step R30_10_leave) :=
  rangeOk' (L := loops30) hE hm hI R30_10_form (loopsOk_nil (by kernel_rfl)) (loopsOk_nil (by kernel_rfl)) (by kernel_rfl) (by kernel_rfl) (by kernel_rfl) (by kernel_rfl) (pk := R30_10_pk) (un := R30_10_un) (fun _ => rfl) R30_10_dk R30_10_lv R30_10_len fun b y => R30_10_round b y
theorem ranges30_all : rangesOf body30 = [R30_10_code] := by kernel_rfl
theorem R30_10_key : lookL loops30 (keyOf R30_10_code) = some (rangeSum env30 66 34 R30_10_esh I66 R30_10_pk R30_10_un R30_10_step R30_10_leave) := by kernel_rfl
theorem ranges30_ok (hE : EnvOk Tryd.prog env30) (hm : Tryd.prog.follows .mixedOrders = true) (hI66 : IterOk Tryd.prog glob 66 I66) : RangesOk Tryd.prog env30 orc30.n loops30 body30 := by
  intro c hc f hf
  rw [ranges30_all] at hc
  simp only [List.mem_cons, List.not_mem_nil, or_false] at hc
  subst hc
  · rw [R30_10_key] at hf; cases hf; exact R30_10_ok hE hm hI66
def G30 (x0 : (List UInt8)) : Option ((List UInt8)) :=
  let v1 : (List Int) := (List.set (List.set (List.set (List.set (List.set (List.set (List.set (List.set (List.replicate 8 (0 : Int)) 0 (1779033703 : Int)) 1 (3144134277 : Int)) 2 (1013904242 : Int)) 3 (2773480762 : Int)) 4 (1359893119 : Int)) 5 (2600822924 : Int)) 6 (528734635 : Int)) 7 (1541459225 : Int))
  let v2 : (List Int) := (List.replicate 8 (0 : Int))
  bif (decide (List.length x0 ≤ 9223372036854775807)) then
  let v3 : (List Int) := (List.map (fun (b : UInt8) => (b.toNat : Int)) x0)
  let v4 : (List Int) := (List.set (List.replicate 1 (0 : Int)) 0 (128 : Int))
  bif (decide (List.length (List.take (List.length v3) v3) + List.length v4 ≤ 100000000000)) then
  let v5 : (List Int) := ((List.take (List.length v3) v3) ++ v4)
  Option.bind (L30_3 (x0, v5, v1)) fun (r11 : (List UInt8) × (List Int) × (List Int)) =>
  Option.bind (L30_6 (r11.1, r11.2.1, (7 : Int), r11.2.2)) fun (r21 : (List UInt8) × (List Int) × Int × (List Int)) =>
  bif (P54 (List.take (List.length r21.2.1) r21.2.1) (64 : Int)) then
  let q22 : (Unit × (Unit × ((List Int) × (Unit × (Int × Unit))))) := F54 (List.take (List.length r21.2.1) r21.2.1) (64 : Int)
  Option.bind ((W66 q22.2.2.1 q22.2.2.2.2.1).ys) fun ys => Option.bind (foldX R30_10_step ys r21.2.2.2) fun z => match z with
  | .inl (r24 : (List Int)) =>
  bif (P56 r24) then
  let v25 : (List UInt8) := (F56 r24)
  some (v25)
  else none
  | .inr r24 =>
  none
  else none
  else none
  else none
theorem ev30 (x0 : (List UInt8)) : ev2 env30 orc30 loops30 body30 (initSt 0 [⟨.str, x0⟩]) (retT [(2, .dat .str)] [.str] fun x => x.1) = G30 x0 := by kernel_rfl
def P30 (x0 : (List UInt8)) : Bool := (hold (G30 x0)).isSome
def F30 (x0 : (List UInt8)) : (List UInt8) := (hold (G30 x0)).getD default
theorem G30_some (x0 : (List UInt8)) (h : P30 x0 = true) : G30 x0 = some (F30 x0) := by
  unfold P30 at h; unfold F30
  rw [hold_eq] at h ⊢
  exact some_getD h
theorem P30_of (x0 : (List UInt8)) {r : (List UInt8)} (h : G30 x0 = some r) : P30 x0 = true := by unfold P30; rw [hold_eq, h]; rfl
theorem F30_of (x0 : (List UInt8)) {r : (List UInt8)} (h : G30 x0 = some r) : F30 x0 = r := by unfold F30; rw [hold_eq, h]; rfl
def spec30 : Spec := ⟨[.str], [.dat .str], fun | [a0] => P30 (a0.as .str) | _ => false, fun | [a0] => [⟨.str, (F30 (a0.as .str))⟩] | _ => []⟩
theorem meets30 (hE : EnvOk Tryd.prog env30) (hm : Tryd.prog.follows .mixedOrders = true) (hI66 : IterOk Tryd.prog glob 66 I66) : Meets Tryd.prog glob 30 spec30 :=
  meets_of_ev2 (O := orc30) (L := loops30) (c := body30) (slots := [2]) hE hm Tryd.func30 Tryd.call30 (by kernel_rfl) (by kernel_rfl) loops30_ok (ranges30_ok hE hm hI66) (by kernel_rfl) rfl (by decide) (fun ds hds hpre => by
  obtain ⟨x0, ds0, rfl, h0⟩ := datsS hds
  have h9 := dats0 h0; subst h9
  exact ev_ret (un := fun r => [⟨.str, r⟩]) loops30_nat (fun _ => rfl) ((ev30 x0).trans (G30_some x0 hpre)))
def pin64 : Shape := [(.slot 0, .dat (.list .str)), (.slot 1, .ptr 50000 0), (.box 50000, .bx 9 1), (.cell 50000 0, .dat .str)]
def pout64 : Shape := [(.slot 0, .dat .str), (.box 50000, .bx 9 1), (.cell 50000 0, .dat .str)]
def env64 : Env := {
  tab := tab
  glob := glob
  spec := fun
    | 30 => some spec30
    | 65 => some spec65
    | _ => none }

def orc64 : Orc := ⟨9, fun _ => none, fun
  | 0 => kp [0, 1] [(50000, [0])]
  | 1 => kp [3] [(50000, [0])]
  | _ => [], fun | _ => false⟩
noncomputable def body64 : Code := Tryd.f64.body.getD .skip
def loops64 : Nat → Option (Sum) := fun | _ => none
theorem loops64_ok : LoopsOk env64 orc64 loops64 body64 := loopsOk_nil (by kernel_rfl)
def G64 (x0 : (List (List UInt8))) (x1 : (List UInt8)) : Option ((List UInt8) × (Unit × ((List UInt8) × Unit))) :=
  bif (P65 x0 ([] : List UInt8)) then
  let v1 : (List UInt8) := (F65 x0 ([] : List UInt8))
  bif (decide (List.length x1 + List.length v1 ≤ 9223372036854775807)) then
  let v2 : (List UInt8) := (x1 ++ v1)
  bif (P30 v2) then
  let v3 : (List UInt8) := (F30 v2)
  some (v3, ((), (x1, ())))
  else none
  else none
  else none
def P64 (x0 : (List (List UInt8))) (x1 : (List UInt8)) : Bool := (hold (G64 x0 x1)).isSome
def F64 (x0 : (List (List UInt8))) (x1 : (List UInt8)) : ((List UInt8) × (Unit × ((List UInt8) × Unit))) := (hold (G64 x0 x1)).getD (Tup.zero pout64)
theorem P64_of (x0 : (List (List UInt8))) (x1 : (List UInt8)) {r : ((List UInt8) × (Unit × ((List UInt8) × Unit)))} (h : G64 x0 x1 = some r) : P64 x0 x1 = true := by unfold P64; rw [hold_eq, h]; rfl
theorem F64_of (x0 : (List (List UInt8))) (x1 : (List UInt8)) {r : ((List UInt8) × (Unit × ((List UInt8) × Unit)))} (h : G64 x0 x1 = some r) : F64 x0 x1 = r := by unfold F64; rw [hold_eq, h]; rfl
theorem ev64 (x0 : (List (List UInt8))) (x1 : (List UInt8)) : ev2 env64 orc64 loops64 body64 (mkSt pin64 (x0, ((), ((), (x1, ()))))) (retK3 env64 [.slot 3] pout64) = G64 x0 x1 := by kernel_rfl
def sp64 : Spec2 := ⟨pin64, pout64, fun s => hold (G64 s.1 s.2.2.2.1)⟩
theorem fit64 : Fit Tryd.f64 [.slot 3] sp64 := ⟨by kernel_rfl, by kernel_rfl, by kernel_rfl, by kernel_rfl, by kernel_rfl, by decide, by decide, by decide⟩
theorem meets64 (hE : EnvOk Tryd.prog env64) (hm : Tryd.prog.follows .mixedOrders = true) : Meets2 Tryd.prog glob 64 sp64 :=
  meets2_of_ev2 (O := orc64) (L := loops64) (c := body64) (rs := [.slot 3]) hE (fun _ => rfl) hm Tryd.func64 Tryd.call64 (by kernel_rfl) (by kernel_rfl) loops64_ok (rangesOk_nil (by kernel_rfl)) fit64 (fun s o h => (ev64 s.1 s.2.2.2.1).trans ((hold_eq _).symm.trans h))
def env29 : Env := {
  tab := tab
  glob := glob
  spec := fun
    | _ => none
  spec2 := fun
    | 53, [] => some sp53
    | 64, [] => some sp64
    | _, _ => none }

def orc29 : Orc := ⟨7, fun _ => none, fun
  | 0 => kp [0] []
  | 1 => kp [2] []
  | _ => [], fun | _ => false⟩
noncomputable def body29 : Code := Tryd.f29.body.getD .skip
def loops29 : Nat → Option (Sum) := fun | _ => none
theorem loops29_nat : ∀ q f, loops29 q = some f → Natural f := by
  intro q f h
  cases h
theorem loops29_ok : LoopsOk env29 orc29 loops29 body29 := loopsOk_nil (by kernel_rfl)
def G29 (x0 : (List UInt8)) : Option ((List UInt8)) :=
  bif (P53 ([0] : List UInt8)) then
  let q1 : (Unit × (Unit × ((List UInt8) × Unit))) := F53 ([0] : List UInt8)
  let v2 : (List (List UInt8)) := (List.set (List.replicate 1 ([] : List UInt8)) 0 x0)
  bif (P64 v2 q1.2.2.1) then
  let q3 : ((List UInt8) × (Unit × ((List UInt8) × Unit))) := F64 v2 q1.2.2.1
  some (q3.1)
  else none
  else none
theorem ev29 (x0 : (List UInt8)) : ev2 env29 orc29 loops29 body29 (initSt 0 [⟨.str, x0⟩]) (retT [(2, .dat .str)] [.str] fun x => x.1) = G29 x0 := by kernel_rfl
def P29 (x0 : (List UInt8)) : Bool := (hold (G29 x0)).isSome
def F29 (x0 : (List UInt8)) : (List UInt8) := (hold (G29 x0)).getD default
theorem G29_some (x0 : (List UInt8)) (h : P29 x0 = true) : G29 x0 = some (F29 x0) := by
  unfold P29 at h; unfold F29
  rw [hold_eq] at h ⊢
  exact some_getD h
theorem P29_of (x0 : (List UInt8)) {r : (List UInt8)} (h : G29 x0 = some r) : P29 x0 = true := by unfold P29; rw [hold_eq, h]; rfl
theorem F29_of (x0 : (List UInt8)) {r : (List UInt8)} (h : G29 x0 = some r) : F29 x0 = r := by unfold F29; rw [hold_eq, h]; rfl
def spec29 : Spec := ⟨[.str], [.dat .str], fun | [a0] => P29 (a0.as .str) | _ => false, fun | [a0] => [⟨.str, (F29 (a0.as .str))⟩] | _ => []⟩
theorem meets29 (hE : EnvOk Tryd.prog env29) (hm : Tryd.prog.follows .mixedOrders = true) : Meets Tryd.prog glob 29 spec29 :=
  meets_of_ev2 (O := orc29) (L := loops29) (c := body29) (slots := [2]) hE hm Tryd.func29 Tryd.call29 (by kernel_rfl) (by kernel_rfl) loops29_ok (rangesOk_nil (by kernel_rfl)) (by kernel_rfl) rfl (by decide) (fun ds hds hpre => by
  obtain ⟨x0, ds0, rfl, h0⟩ := datsS hds
  have h9 := dats0 h0; subst h9
  exact ev_ret (un := fun r => [⟨.str, r⟩]) loops29_nat (fun _ => rfl) ((ev29 x0).trans (G29_some x0 hpre)))
def env32 : Env := {
  tab := tab
  glob := glob
  spec := fun
    | _ => none
  spec2 := fun
    | 53, [] => some sp53
    | 64, [] => some sp64
    | _, _ => none }

def orc32 : Orc := ⟨10, fun _ => none, fun
  | 0 => kp [0, 1] []
  | 1 => kp [4] []
  | _ => [], fun | _ => false⟩
noncomputable def body32 : Code := Tryd.f32.body.getD .skip
def loops32 : Nat → Option (Sum) := fun | _ => none
theorem loops32_nat : ∀ q f, loops32 q = some f → Natural f := by
  intro q f h
  cases h
theorem loops32_ok : LoopsOk env32 orc32 loops32 body32 := loopsOk_nil (by kernel_rfl)
def G32 (x0 : (List UInt8)) (x1 : (List UInt8)) : Option ((List UInt8)) :=
  bif (P53 ([1] : List UInt8)) then
  let q1 : (Unit × (Unit × ((List UInt8) × Unit))) := F53 ([1] : List UInt8)
  let v2 : (List (List UInt8)) := (List.set (List.set (List.replicate 2 ([] : List UInt8)) 0 x0) 1 x1)
  bif (P64 v2 q1.2.2.1) then
  let q3 : ((List UInt8) × (Unit × ((List UInt8) × Unit))) := F64 v2 q1.2.2.1
  some (q3.1)
  else none
  else none
theorem ev32 (x0 : (List UInt8)) (x1 : (List UInt8)) : ev2 env32 orc32 loops32 body32 (initSt 0 [⟨.str, x0⟩, ⟨.str, x1⟩]) (retT [(4, .dat .str)] [.str] fun x => x.1) = G32 x0 x1 := by kernel_rfl
def P32 (x0 : (List UInt8)) (x1 : (List UInt8)) : Bool := (hold (G32 x0 x1)).isSome
def F32 (x0 : (List UInt8)) (x1 : (List UInt8)) : (List UInt8) := (hold (G32 x0 x1)).getD default
theorem G32_some (x0 : (List UInt8)) (x1 : (List UInt8)) (h : P32 x0 x1 = true) : G32 x0 x1 = some (F32 x0 x1) := by
  unfold P32 at h; unfold F32
  rw [hold_eq] at h ⊢
  exact some_getD h
theorem P32_of (x0 : (List UInt8)) (x1 : (List UInt8)) {r : (List UInt8)} (h : G32 x0 x1 = some r) : P32 x0 x1 = true := by unfold P32; rw [hold_eq, h]; rfl
theorem F32_of (x0 : (List UInt8)) (x1 : (List UInt8)) {r : (List UInt8)} (h : G32 x0 x1 = some r) : F32 x0 x1 = r := by unfold F32; rw [hold_eq, h]; rfl
def spec32 : Spec := ⟨[.str, .str], [.dat .str], fun | [a0, a1] => P32 (a0.as .str) (a1.as .str) | _ => false, fun | [a0, a1] => [⟨.str, (F32 (a0.as .str) (a1.as .str))⟩] | _ => []⟩
theorem meets32 (hE : EnvOk Tryd.prog env32) (hm : Tryd.prog.follows .mixedOrders = true) : Meets Tryd.prog glob 32 spec32 :=
  meets_of_ev2 (O := orc32) (L := loops32) (c := body32) (slots := [4]) hE hm Tryd.func32 Tryd.call32 (by kernel_rfl) (by kernel_rfl) loops32_ok (rangesOk_nil (by kernel_rfl)) (by kernel_rfl) rfl (by decide) (fun ds hds hpre => by
  obtain ⟨x0, ds0, rfl, h0⟩ := datsS hds
  obtain ⟨x1, ds1, rfl, h1⟩ := datsS h0
  have h9 := dats0 h1; subst h9
  exact ev_ret (un := fun r => [⟨.str, r⟩]) loops32_nat (fun _ => rfl) ((ev32 x0 x1).trans (G32_some x0 x1 hpre)))
def pin44 : Shape := [(.slot 0, .dat (.list .str))]
def pout44 : Shape := [(.slot 0, .fn 60 [1]), (.box 1, .bx 22 1), (.cell 1 0, .dat (.list .str))]
def env44 : Env := {
  tab := tab
  glob := glob
  spec := fun
    | _ => none }

def orc44 : Orc := ⟨4, fun _ => none, fun
  | 0 => kp [1] [(1, [0])]
  | 1 => kp [2] [(1, [0])]
  | _ => [], fun | _ => false⟩
noncomputable def body44 : Code := Tryd.f44.body.getD .skip
def loops44 : Nat → Option (Sum) := fun | _ => none
theorem loops44_ok : LoopsOk env44 orc44 loops44 body44 := loopsOk_nil (by kernel_rfl)
def G44 (x0 : (List (List UInt8))) : Option (Unit × (Unit × ((List (List UInt8)) × Unit))) :=
  some ((), ((), (x0, ())))
def P44 (x0 : (List (List UInt8))) : Bool := (hold (G44 x0)).isSome
def F44 (x0 : (List (List UInt8))) : (Unit × (Unit × ((List (List UInt8)) × Unit))) := (hold (G44 x0)).getD (Tup.zero pout44)
theorem P44_of (x0 : (List (List UInt8))) {r : (Unit × (Unit × ((List (List UInt8)) × Unit)))} (h : G44 x0 = some r) : P44 x0 = true := by unfold P44; rw [hold_eq, h]; rfl
theorem F44_of (x0 : (List (List UInt8))) {r : (Unit × (Unit × ((List (List UInt8)) × Unit)))} (h : G44 x0 = some r) : F44 x0 = r := by unfold F44; rw [hold_eq, h]; rfl
theorem ev44 (x0 : (List (List UInt8))) : ev2 env44 orc44 loops44 body44 (mkSt pin44 (x0, ())) (retK3 env44 [.slot 2] pout44) = G44 x0 := by kernel_rfl
def sp44 : Spec2 := ⟨pin44, pout44, fun s => hold (G44 s.1)⟩
theorem fit44 : Fit Tryd.f44 [.slot 2] sp44 := ⟨by kernel_rfl, by kernel_rfl, by kernel_rfl, by kernel_rfl, by kernel_rfl, by decide, by decide, by decide⟩
theorem meets44 (hE : EnvOk Tryd.prog env44) (hm : Tryd.prog.follows .mixedOrders = true) : Meets2 Tryd.prog glob 44 sp44 :=
  meets2_of_ev2 (O := orc44) (L := loops44) (c := body44) (rs := [.slot 2]) hE (fun _ => rfl) hm Tryd.func44 Tryd.call44 (by kernel_rfl) (by kernel_rfl) loops44_ok (rangesOk_nil (by kernel_rfl)) fit44 (fun s o h => (ev44 s.1).trans ((hold_eq _).symm.trans h))
def pin60 : Shape := [(.slot 1, .ptr 50000 0), (.box 50000, .bx 22 1), (.cell 50000 0, .dat (.list .str))]
abbrev Y60 : Type := Int × (List UInt8)
def mk60 : List Dat → Option Y60 := mkT [(.int .i64), .str] fun x => (x.1, x.2.1)
def env60 : Env := {
  tab := tab
  glob := glob
  spec := fun
    | _ => none }

def orc60 : Orc := ⟨19, fun _ => none, fun
  | 0 => kp [0, 1, 3] [(50000, [0])]
  | 1 => kp [0, 1, 3, 8] [(50000, [0])]
  | 2 => kp [0, 1, 3] [(50000, [0])]
  | 3 => kp [0, 1, 3, 18] [(50000, [0])]
  | _ => [], fun | _ => false⟩
noncomputable def body60 : Code := Tryd.f60.body.getD .skip
def L60_1_sh : Shape := [(.slot 0, .yld), (.slot 1, .ptr 50000 0), (.slot 3, .dat (.int .i64)), (.box 50000, .bx 22 1), (.cell 50000 0, .dat (.list .str))]
def L60_1_x0 : Shape := [(.slot 0, .yld), (.slot 1, .ptr 50000 0), (.slot 3, .dat (.int .i64)), (.box 50000, .bx 22 1), (.cell 50000 0, .dat (.list .str))]
def L60_1_x1 : Shape := [(.slot 0, .yld), (.slot 1, .ptr 50000 0), (.slot 3, .dat (.int .i64)), (.box 50000, .bx 22 1), (.cell 50000 0, .dat (.list .str))]
def L60_1_pk (s : Tup L60_1_sh) : Int × (List (List UInt8)) := (s.2.2.1, s.2.2.2.2.1)
def L60_1_un (s : Int × (List (List UInt8))) : Tup L60_1_sh := ((), ((), (s.1, ((), (s.2, ())))))
def L60_1_leave (x : (Int × (List (List UInt8))) ⊕ (Int × (List (List UInt8)))) (V : Type) (K : Exit → St → YW Y60 V) : YW Y60 V := match x with
  | (.inl a) => K .ret (mkSt L60_1_x0 ((), ((), (a.1, ((), (a.2, ()))))))
  | (.inr a) => K (.exit 0) (mkSt L60_1_x1 ((), ((), (a.1, ((), (a.2, ()))))))
def L60_1_d (e : Exit) (st : St) : Option ((Int × (List (List UInt8))) ⊕ (Int × (List (List UInt8)))) := match e with
  | .ret => (match unSt L60_1_x0 st with
    | some s => some (.inl (s.2.2.1, s.2.2.2.2.1))
    | none => none)
  | .exit 0 => (match unSt L60_1_x1 st with
    | some s => some (.inr (s.2.2.1, s.2.2.2.2.1))
    | none => none)
  | _ => none
def L60_1_r (s0 : Int) (s1 : (List (List UInt8))) : YW Y60 ((Int × (List (List UInt8))) ⊕ ((Int × (List (List UInt8))) ⊕ (Int × (List (List UInt8))))) :=
  let v3 : Bool := (decide (s0 ≥ (0 : Int)))
  bif v3 then
  bif (decide (0 ≤ s0) && decide (s0 < List.length s1)) then
  let v4 : (List UInt8) := (List.getD s1 (Int.toNat s0) ([] : List UInt8))
  yieldW true (s0, v4) (let v7 : Bool := (!false)
  bif v7 then
  some ()
  else
  let v8 : Int := (IntKind.i64.wrap (s0 - (1 : Int)))
  none) (
  let v5 : Bool := (!true)
  bif v5 then
  some ([], .inr (.inl (s0, s1)))
  else
  let v6 : Int := (IntKind.i64.wrap (s0 - (1 : Int)))
  some ([], .inl (v6, s1)))
  else none
  else
  some ([], .inr (.inr (s0, s1)))
def L60_1 : Int × (List (List UInt8)) → YW Y60 ((Int × (List (List UInt8))) ⊕ (Int × (List (List UInt8)))) := LimW (fun s => L60_1_r s.1 s.2)
def L60_1_sum : SumY Y60 := limSumW L60_1_sh L60_1_pk (fun s => L60_1_r s.1 s.2) L60_1_leave
theorem L60_1_nat : NaturalY L60_1_sum := natural_limW fun x V K => by
  rcases x with x|x <;> exact (YW.bind_pure _ _).symm
theorem L60_1_dok : ∀ e st x, e ≠ .normal → L60_1_d e st = some x → ∀ V (K : Exit → St → YW Y60 V), K e st = L60_1_leave x V K := by
  intro e st x _ h R K
  unfold L60_1_d at h
  split at h
  · split at h
    · rename_i s hs; cases h; rw [unSt_some hs]; rfl
    · cases h
  · split at h
    · rename_i s hs; cases h; rw [unSt_some hs]; rfl
    · cases h
  · cases h
def loops60 : Nat → Option (SumY Y60) := fun | 1 => some L60_1_sum | _ => none
theorem loops60_nat : ∀ q f, loops60 q = some f → NaturalY f := by
  intro q f h
  unfold loops60 at h
  split at h
  · cases h; exact L60_1_nat
  · cases h
noncomputable def L60_1_code : Code := (loopsOf body60).getD 0 .skip
theorem L60_1_round (s0 : Int) (s1 : (List (List UInt8))) : evY env60 orc60 loops60 [(.int .i64), .str] mk60 L60_1_code (mkSt L60_1_sh ((), ((), (s0, ((), (s1, ())))))) (backW (back L60_1_sh L60_1_pk L60_1_d)) retOnly = L60_1_r s0 s1 := by kernel_rfl
theorem L60_1_ok : SumYOk env60 orc60 loops60 [(.int .i64), .str] mk60 L60_1_code L60_1_sum := sumYOk_lim (un := L60_1_un) loops60_nat (fun _ => rfl) L60_1_dok fun s => L60_1_round s.1 s.2
theorem loops60_all : loopsOf body60 = [L60_1_code] := by kernel_rfl
theorem L60_1_key : lookY loops60 (keyOf L60_1_code) = some L60_1_sum := by kernel_rfl
theorem loops60_ok : LoopsYOk env60 orc60 loops60 [(.int .i64), .str] mk60 body60 := by
  intro c hc f hf
  rw [loops60_all] at hc
  simp only [List.mem_cons, List.not_mem_nil, or_false] at hc
  subst hc
  · rw [L60_1_key] at hf; cases hf; exact L60_1_ok
def W60 (x0 : (List (List UInt8))) : YW Y60 Unit :=
  let v1 : Int := ((List.length x0 : Nat) : Int)
  let v2 : Int := (IntKind.i64.wrap (v1 - (1 : Int)))
  YW.bind (L60_1 (v2, x0)) fun x => match x with
  | (.inl r9) =>
  some ([], ())
  | (.inr r10) =>
  some ([], ())
theorem ev60 (x0 : (List (List UInt8))) : evY env60 orc60 loops60 [(.int .i64), .str] mk60 body60 (mkSt ((.slot 0, .yld) :: pin60) ((), ((), ((), (x0, ()))))) endY retOnly = W60 x0 := by kernel_rfl
def I60 : ISpec := ⟨pin60, Y60, fun (y : Y60) => datsOf [(.int .i64), .str] (y.1, (y.2, ())), fun s => (W60 s.2.2.1).ys⟩
theorem iter60 (hE : EnvOk Tryd.prog env60) (hm : Tryd.prog.follows .mixedOrders = true) : IterOk Tryd.prog glob 60 I60 :=
  iterOk_of_evY (I := I60) (O := orc60) (L := loops60) (c := body60) (mk := mk60) hE hm Tryd.func60 Tryd.call60 (by kernel_rfl) (by kernel_rfl) (mkT_ok (ts := [(.int .i64), .str]) (un := fun (y : Y60) => (y.1, (y.2, ()))) fun _ => rfl) loops60_ok (by kernel_rfl) (by decide) (by decide) (fun s ys h => (ev60 s.2.2.1).trans (YW.ys_some h))
def env19 : Env := {
  tab := tab
  glob := glob
  spec := fun
    | 29 => some spec29
    | 30 => some spec30
    | 32 => some spec32
    | _ => none
  spec2 := fun
    | 44, [] => some sp44
    | _, _ => none }

def orc19 : Orc := ⟨96, fun _ => none, fun
  | 0 => kp [0] []
  | 1 => kp [0, 3] []
  | 2 => kp [0, 3, 4] []
  | 3 => kp [3, 4, 11, 12, 13] []
  | 4 => kp [3, 4, 11, 12, 13, 14] []
  | 5 => kp [3, 4, 6, 11, 12, 13] []
  | 6 => kp [3, 4, 11, 12, 13] []
  | 7 => kp [3, 4, 7, 11, 12, 13] []
  | 8 => kp [3, 4, 7, 11, 12, 13, 41] []
  | 9 => kp [3, 4, 7, 11, 12, 13] []
  | 10 => kp [3, 4, 7, 11, 12, 13] []
  | 11 => kp [3, 4, 7, 11, 12, 13] []
  | 12 => kp [3, 4, 11, 12, 13] []
  | 13 => kp [3, 76] []
  | 14 => kp [2] []
  | 15 => kp [3, 8] [(8, [0])]
  | 16 => kp [8, 89] [(8, [0]), (9000001, [0])]
  | 17 => kp [8, 10, 89] [(8, [0])]
  | 18 => kp [8, 89] [(8, [0])]
  | 19 => kp [2] []
  | _ => [], fun | _ => false⟩
noncomputable def body19 : Code := Tryd.f19.body.getD .skip
def L19_8_sh : Shape := [(.slot 3, .own 9 .str), (.slot 4, .own 3 (.int .i64)), (.slot 7, .dat (.int .i64)), (.slot 11, .dat (.list .str)), (.slot 12, .dat (.int .i64)), (.slot 13, .dat (.int .i64))]
def L19_8_x0 : Shape := [(.slot 3, .own 9 .str), (.slot 4, .own 3 (.int .i64)), (.slot 7, .dat (.int .i64)), (.slot 11, .dat (.list .str)), (.slot 12, .dat (.int .i64)), (.slot 13, .dat (.int .i64))]
def L19_8_pk (s : Tup L19_8_sh) : (List (List UInt8)) × (List Int) × Int × (List (List UInt8)) × Int × Int := (s.1, s.2.1, s.2.2.1, s.2.2.2.1, s.2.2.2.2.1, s.2.2.2.2.2.1)
def L19_8_un (s : (List (List UInt8)) × (List Int) × Int × (List (List UInt8)) × Int × Int) : Tup L19_8_sh := (s.1, (s.2.1, (s.2.2.1, (s.2.2.2.1, (s.2.2.2.2.1, (s.2.2.2.2.2, ()))))))
def L19_8_leave (x : ((List (List UInt8)) × (List Int) × Int × (List (List UInt8)) × Int × Int)) (R : Type) (K : Cont R) : Option R := match x with
  | a => K (.exit 2) (mkSt L19_8_x0 (a.1, (a.2.1, (a.2.2.1, (a.2.2.2.1, (a.2.2.2.2.1, (a.2.2.2.2.2, ())))))))
def L19_8_d (e : Exit) (st : St) : Option (((List (List UInt8)) × (List Int) × Int × (List (List UInt8)) × Int × Int)) := match e with
  | .exit 2 => (match unSt L19_8_x0 st with
    | some s => some (s.1, s.2.1, s.2.2.1, s.2.2.2.1, s.2.2.2.2.1, s.2.2.2.2.2.1)
    | none => none)
  | _ => none
def L19_8_r (s0 : (List (List UInt8))) (s1 : (List Int)) (s2 : Int) (s3 : (List (List UInt8))) (s4 : Int) (s5 : Int) : Option (((List (List UInt8)) × (List Int) × Int × (List (List UInt8)) × Int × Int) ⊕ (((List (List UInt8)) × (List Int) × Int × (List (List UInt8)) × Int × Int))) :=
  let v12 : Bool := (decide (s2 > (1 : Int)))
  let v13 : Int := (IntKind.i64.wrap (s2 - (2 : Int)))
  bif ((decide (0 ≤ v13) && decide (v13 < (List.length s1))) || !(v12 && true)) then
  bif ((decide ((Int.toNat v13) < List.length s1)) || !(v12 && true)) then
  let v14 : Int := (List.getD s1 (Int.toNat v13) (0 : Int))
  let v15 : Int := (IntKind.i64.wrap (s2 - (1 : Int)))
  bif ((decide (0 ≤ v15) && decide (v15 < (List.length s1))) || !(v12 && true)) then
  bif ((decide ((Int.toNat v15) < List.length s1)) || !(v12 && true)) then
  let v16 : Int := (List.getD s1 (Int.toNat v15) (0 : Int))
  let v17 : Bool := (v14 == v16)
  let v18 : Bool := (bif v12 then v17 else false)
  bif v18 then
  let v19 : Int := (IntKind.i64.wrap (s2 - (2 : Int)))
  bif (sliceTest (0 : Int) v19 (List.length s0)) then
  let v20 : Int := (IntKind.i64.wrap (s2 - (2 : Int)))
  bif (decide (0 ≤ v20) && decide (v20 < (List.length s0))) then
  bif (decide ((Int.toNat v20) < List.length s0)) then
  let v21 : (List UInt8) := (List.getD s0 (Int.toNat v20) ([] : List UInt8))
  let v22 : Int := (IntKind.i64.wrap (s2 - (1 : Int)))
  bif (decide (0 ≤ v22) && decide (v22 < (List.length s0))) then
  bif (decide ((Int.toNat v22) < List.length s0)) then
  let v23 : (List UInt8) := (List.getD s0 (Int.toNat v22) ([] : List UInt8))
  bif (P32 v21 v23) then
  let v24 : (List UInt8) := (F32 v21 v23)
  let v25 : (List (List UInt8)) := (List.set (List.replicate 1 ([] : List UInt8)) 0 v24)
  bif (decide (List.length (List.take (Int.toNat v19) s0) + List.length v25 ≤ 100000000000)) then
  let v26 : (List (List UInt8)) := ((List.take (Int.toNat v19) s0) ++ v25)
  let v27 : Int := (IntKind.i64.wrap (s2 - (2 : Int)))
  bif (sliceTest (0 : Int) v27 (List.length s1)) then
  let v28 : Int := (IntKind.i64.wrap (s2 - (1 : Int)))
  bif (decide (0 ≤ v28) && decide (v28 < (List.length s1))) then
  bif (decide ((Int.toNat v28) < List.length s1)) then
  let v29 : Int := (List.getD s1 (Int.toNat v28) (0 : Int))
  let v30 : Int := (IntKind.i64.wrap ((2 : Int) * v29))
  let v31 : (List Int) := (List.set (List.replicate 1 (0 : Int)) 0 v30)
  bif (decide (List.length (List.take (Int.toNat v27) s1) + List.length v31 ≤ 100000000000)) then
  let v32 : (List Int) := ((List.take (Int.toNat v27) s1) ++ v31)
  let v33 : Int := (IntKind.i64.wrap (s2 - (1 : Int)))
  some (.inl (v26, v32, v33, s3, s4, s5))
  else none
  else none
  else none
  else none
  else none
  else none
  else none
  else none
  else none
  else none
  else none
  else
  some (.inr (s0, s1, s2, s3, s4, s5))
  else none
  else none
  else none
  else none
def L19_8 : (List (List UInt8)) × (List Int) × Int × (List (List UInt8)) × Int × Int → Option (((List (List UInt8)) × (List Int) × Int × (List (List UInt8)) × Int × Int)) := Lim (fun s => L19_8_r s.1 s.2.1 s.2.2.1 s.2.2.2.1 s.2.2.2.2.1 s.2.2.2.2.2)
def L19_8_sum : Sum := limSum L19_8_sh L19_8_pk (fun s => L19_8_r s.1 s.2.1 s.2.2.1 s.2.2.2.1 s.2.2.2.2.1 s.2.2.2.2.2) L19_8_leave
theorem L19_8_nat : Natural L19_8_sum := natural_lim fun x R K => by
  rfl
theorem L19_8_dok : ∀ e st x, e ≠ .normal → L19_8_d e st = some x → ∀ R (K : Cont R), K e st = L19_8_leave x R K := by
  intro e st x _ h R K
  unfold L19_8_d at h
  split at h
  · split at h
    · rename_i s hs; cases h; rw [unSt_some hs]; rfl
    · cases h
  · cases h
def L19_4_sh : Shape := [(.slot 3, .own 9 .str), (.slot 4, .own 3 (.int .i64)), (.slot 11, .dat (.list .str)), (.slot 12, .dat (.int .i64)), (.slot 13, .dat (.int .i64))]
def L19_4_x0 : Shape := [(.slot 3, .own 9 .str), (.slot 4, .own 3 (.int .i64)), (.slot 11, .dat (.list .str)), (.slot 12, .dat (.int .i64)), (.slot 13, .dat (.int .i64))]
def L19_4_pk (s : Tup L19_4_sh) : (List (List UInt8)) × (List Int) × (List (List UInt8)) × Int × Int := (s.1, s.2.1, s.2.2.1, s.2.2.2.1, s.2.2.2.2.1)
def L19_4_un (s : (List (List UInt8)) × (List Int) × (List (List UInt8)) × Int × Int) : Tup L19_4_sh := (s.1, (s.2.1, (s.2.2.1, (s.2.2.2.1, (s.2.2.2.2, ())))))
def L19_4_leave (x : ((List (List UInt8)) × (List Int) × (List (List UInt8)) × Int × Int)) (R : Type) (K : Cont R) : Option R := match x with
  | a => K (.exit 0) (mkSt L19_4_x0 (a.1, (a.2.1, (a.2.2.1, (a.2.2.2.1, (a.2.2.2.2, ()))))))
def L19_4_d (e : Exit) (st : St) : Option (((List (List UInt8)) × (List Int) × (List (List UInt8)) × Int × Int)) := match e with
  | .exit 0 => (match unSt L19_4_x0 st with
    | some s => some (s.1, s.2.1, s.2.2.1, s.2.2.2.1, s.2.2.2.2.1)
    | none => none)
  | _ => none
def L19_4_r (s0 : (List (List UInt8))) (s1 : (List Int)) (s2 : (List (List UInt8))) (s3 : Int) (s4 : Int) : Option (((List (List UInt8)) × (List Int) × (List (List UInt8)) × Int × Int) ⊕ (((List (List UInt8)) × (List Int) × (List (List UInt8)) × Int × Int))) :=
  let v4 : Bool := (decide (s4 < s3))
  bif v4 then
  bif (decide (0 ≤ s4) && decide (s4 < List.length s2)) then
  let v5 : (List UInt8) := (List.getD s2 (Int.toNat s4) ([] : List UInt8))
  bif (P29 v5) then
  let v6 : (List UInt8) := (F29 v5)
  let v7 : (List (List UInt8)) := (List.set (List.replicate 1 ([] : List UInt8)) 0 v6)
  bif (decide (List.length (List.take (List.length s0) s0) + List.length v7 ≤ 100000000000)) then
  let v8 : (List (List UInt8)) := ((List.take (List.length s0) s0) ++ v7)
  let v9 : (List Int) := (List.set (List.replicate 1 (0 : Int)) 0 (1 : Int))
  bif (decide (List.length (List.take (List.length s1) s1) + List.length v9 ≤ 100000000000)) then
  let v10 : (List Int) := ((List.take (List.length s1) s1) ++ v9)
  let v11 : Int := (((List.length v10) : Nat) : Int)
  Option.bind (L19_8 (v8, v10, v11, s2, s3, s4)) fun (r34 : (List (List UInt8)) × (List Int) × Int × (List (List UInt8)) × Int × Int) =>
  let v35 : Int := (IntKind.i64.wrap (r34.2.2.2.2.2 + (1 : Int)))
  some (.inl (r34.1, r34.2.1, r34.2.2.2.1, r34.2.2.2.2.1, v35))
  else none
  else none
  else none
  else none
  else
  some (.inr (s0, s1, s2, s3, s4))
def L19_4 : (List (List UInt8)) × (List Int) × (List (List UInt8)) × Int × Int → Option (((List (List UInt8)) × (List Int) × (List (List UInt8)) × Int × Int)) := Lim (fun s => L19_4_r s.1 s.2.1 s.2.2.1 s.2.2.2.1 s.2.2.2.2)
def L19_4_sum : Sum := limSum L19_4_sh L19_4_pk (fun s => L19_4_r s.1 s.2.1 s.2.2.1 s.2.2.2.1 s.2.2.2.2) L19_4_leave
theorem L19_4_nat : Natural L19_4_sum := natural_lim fun x R K => by
  rfl
theorem L19_4_dok : ∀ e st x, e ≠ .normal → L19_4_d e st = some x → ∀ R (K : Cont R), K e st = L19_4_leave x R K := by
  intro e st x _ h R K
  unfold L19_4_d at h
  split at h
  · split at h
    · rename_i s hs; cases h; rw [unSt_some hs]; rfl
    · cases h
  · cases h
def R19_17_esh : Shape := [(.slot 8, .ptr 8 0), (.box 8, .bx 9 1), (.cell 8 0, .dat .str)]
def R19_17_pk (s : Tup R19_17_esh) : (List UInt8) := s.2.2.1
def R19_17_un (s : (List UInt8)) : Tup R19_17_esh := ((), ((), (s, ())))
def R19_17_xo (x : ((List UInt8))) : Exit × Tup R19_17_esh := match x with
  | a => (.ret, R19_17_un a)
def R19_17_leave (x : ((List UInt8))) (R : Type) (K : Cont R) : Option R := match x with
  | a => K .ret (mkSt R19_17_esh (R19_17_un a))
theorem R19_17_lv (x : ((List UInt8))) (R : Type) (K : Cont R) : R19_17_leave x R K = K (R19_17_xo x).1 (mkSt R19_17_esh (R19_17_xo x).2) := by
  rfl
theorem R19_17_lvn (x : ((List UInt8))) (R : Type) (K : Cont R) : R19_17_leave x R K = (R19_17_leave x _ pairK).bind fun p => K p.1 p.2 := by
  rfl
def R19_17_d (e : Exit) (s : Tup R19_17_esh) : Option (((List UInt8))) := match e with
  | _ => none
theorem R19_17_dk : ∀ x e v, R19_17_d x e = some v → R19_17_xo v = (x, e) ∧ ∃ c, jumpOf x = some c := by
  intro x e v h
  cases x <;> cases h
def R19_17_r (s0 : (List UInt8)) (y0 : Int) (y1 : (List UInt8)) : Option (((List UInt8)) ⊕ (((List UInt8)))) :=
  bif (P32 y1 s0) then
  let v46 : (List UInt8) := (F32 y1 s0)
  some (.inl v46)
  else none
def R19_17_step (b : (List UInt8)) (y : Y60) : Option (((List UInt8)) ⊕ (((List UInt8)))) := R19_17_r b y.1 y.2
def loops19 : Nat → Option (Sum) := fun | 4 => some L19_4_sum | 8 => some L19_8_sum | 17 => some (rangeSum env19 60 89 R19_17_esh I60 R19_17_pk R19_17_un R19_17_step R19_17_leave) | _ => none
theorem loops19_nat : ∀ q f, loops19 q = some f → Natural f := by
  intro q f h
  unfold loops19 at h
  split at h
  · cases h; exact L19_4_nat
  · cases h; exact L19_8_nat
  · cases h; exact natural_range R19_17_lvn
  · cases h
noncomputable def L19_4_code : Code := (loopsOf body19).getD 0 .skip
theorem L19_4_round (s0 : (List (List UInt8))) (s1 : (List Int)) (s2 : (List (List UInt8))) (s3 : Int) (s4 : Int) : ev2 env19 orc19 loops19 L19_4_code (mkSt L19_4_sh (s0, (s1, (s2, (s3, (s4, ())))))) (back L19_4_sh L19_4_pk L19_4_d) = L19_4_r s0 s1 s2 s3 s4 := by kernel_rfl
theorem L19_4_ok : SumOk env19 orc19 loops19 L19_4_code L19_4_sum := sumOk_lim (un := L19_4_un) loops19_nat (fun _ => rfl) L19_4_dok fun s => L19_4_round s.1 s.2.1 s.2.2.1 s.2.2.2.1 s.2.2.2.2
noncomputable def L19_8_code : Code := (loopsOf body19).getD 1 .skip
theorem L19_8_round (s0 : (List (List UInt8))) (s1 : (List Int)) (s2 : Int) (s3 : (List (List UInt8))) (s4 : Int) (s5 : Int) : ev2 env19 orc19 loops19 L19_8_code (mkSt L19_8_sh (s0, (s1, (s2, (s3, (s4, (s5, ()))))))) (back L19_8_sh L19_8_pk L19_8_d) = L19_8_r s0 s1 s2 s3 s4 s5 := by kernel_rfl
theorem L19_8_ok : SumOk env19 orc19 loops19 L19_8_code L19_8_sum := sumOk_lim (un := L19_8_un) loops19_nat (fun _ => rfl) L19_8_dok fun s => L19_8_round s.1 s.2.1 s.2.2.1 s.2.2.2.1 s.2.2.2.2.1 s.2.2.2.2.2
theorem loops19_all : loopsOf body19 = [L19_4_code, L19_8_code] := by kernel_rfl
theorem L19_4_key : lookL loops19 (keyOf L19_4_code) = some L19_4_sum := by kernel_rfl
theorem L19_8_key : lookL loops19 (keyOf L19_8_code) = some L19_8_sum := by kernel_rfl
theorem loops19_ok : LoopsOk env19 orc19 loops19 body19 := by
  intro c hc f hf
  rw [loops19_all] at hc
  simp only [List.mem_cons, List.not_mem_nil, or_false] at hc
  rcases hc with rfl | rfl
  · rw [L19_4_key] at hf; cases hf; exact L19_4_ok
  · rw [L19_8_key] at hf; cases hf; exact L19_8_ok
noncomputable def R19_17_code : Code := (rangesOf body19).getD 0 .skip
theorem R19_17_round (s0 : (List UInt8)) (y0 : Int) (y1 : (List UInt8)) : roundQ env19 orc19 loops19 R19_17_esh R19_17_pk R19_17_d R19_17_code (I60.enc (y0, y1)) ((), ((), (s0, ()))) = R19_17_r s0 y0 y1 := by kernel_rfl
theorem R19_17_form : R19_17_code = .rangeFunc (.tmp 89) (rgPs R19_17_code) (rgAsg R19_17_code) (rgBody R19_17_code) := by kernel_rfl
theorem R19_17_len (y : Y60) : (rgPs R19_17_code).toList.length = (I60.enc y).length := by kernel_rfl
theorem R19_17_ok (hE : EnvOk Tryd.prog env19) (hm : Tryd.prog.follows .mixedOrders = true) (hI : IterOk Tryd.prog glob 60 I60) : RangeOk Tryd.prog env19 orc19.n R19_17_code (rangeSum env19 60 89 R19_17_esh I60 R19_17_pk R19_17_un R19_17_step R19_17_leave) :=
  rangeOk' (L := loops19) hE hm hI R19_17_form (loopsOk_nil (by kernel_rfl)) (loopsOk_nil (by kernel_rfl)) (by kernel_rfl) (by kernel_rfl) (by kernel_rfl) (by kernel_rfl) (pk := R19_17_pk) (un := R19_17_un) (fun _ => rfl) R19_17_dk R19_17_lv R19_17_len fun b y => R19_17_round b y.1 y.2
theorem ranges19_all : rangesOf body19 = [R19_17_code] := by kernel_rfl
theorem R19_17_key : lookL loops19 (keyOf R19_17_code) = some (rangeSum env19 60 89 R19_17_esh I60 R19_17_pk R19_17_un R19_17_step R19_17_leave) := by kernel_rfl
theorem ranges19_ok (hE : EnvOk Tryd.prog env19) (hm : Tryd.prog.follows .mixedOrders = true) (hI60 : IterOk Tryd.prog glob 60 I60) : RangesOk Tryd.prog env19 orc19.n loops19 body19 := by
  intro c hc f hf
  rw [ranges19_all] at hc
  simp only [List.mem_cons, List.not_mem_nil, or_false] at hc
  subst hc
  · rw [R19_17_key] at hf; cases hf; exact R19_17_ok hE hm hI60
def G19 (x0 : (List (List UInt8))) : Option ((List UInt8)) :=
  let v1 : (List (List UInt8)) := ([] : (List (List UInt8)))
  let v2 : (List Int) := ([] : (List Int))
  let v3 : Int := ((List.length x0 : Nat) : Int)
  Option.bind (L19_4 (v1, v2, x0, v3, (0 : Int))) fun (r36 : (List (List UInt8)) × (List Int) × (List (List UInt8)) × Int × Int) =>
  let v37 : Int := (((List.length r36.1) : Nat) : Int)
  let v38 : Bool := (v37 == (0 : Int))
  bif v38 then
  bif (P30 ([] : List UInt8)) then
  let v39 : (List UInt8) := (F30 ([] : List UInt8))
  some (v39)
  else none
  else
  let v40 : Int := (((List.length r36.1) : Nat) : Int)
  let v41 : Int := (IntKind.i64.wrap (v40 - (1 : Int)))
  bif (decide (0 ≤ v41) && decide (v41 < (List.length r36.1))) then
  bif (decide ((Int.toNat v41) < List.length r36.1)) then
  let v42 : (List UInt8) := (List.getD r36.1 (Int.toNat v41) ([] : List UInt8))
  let v43 : Int := (((List.length r36.1) : Nat) : Int)
  let v44 : Int := (IntKind.i64.wrap (v43 - (1 : Int)))
  bif (sliceTest (0 : Int) v44 (List.length r36.1)) then
  bif (P44 (List.take (Int.toNat v44) r36.1)) then
  let q45 : (Unit × (Unit × ((List (List UInt8)) × Unit))) := F44 (List.take (Int.toNat v44) r36.1)
  Option.bind ((W60 q45.2.2.1).ys) fun ys => Option.bind (foldX R19_17_step ys v42) fun z => match z with
  | .inl (r47 : (List UInt8)) =>
  some (r47)
  | .inr r47 =>
  none
  else none
  else none
  else none
  else none
theorem ev19 (x0 : (List (List UInt8))) : ev2 env19 orc19 loops19 body19 (initSt 0 [⟨(.list .str), x0⟩]) (retT [(2, .dat .str)] [.str] fun x => x.1) = G19 x0 := by kernel_rfl
def P19 (x0 : (List (List UInt8))) : Bool := (hold (G19 x0)).isSome
def F19 (x0 : (List (List UInt8))) : (List UInt8) := (hold (G19 x0)).getD default
theorem G19_some (x0 : (List (List UInt8))) (h : P19 x0 = true) : G19 x0 = some (F19 x0) := by
  unfold P19 at h; unfold F19
  rw [hold_eq] at h ⊢
  exact some_getD h
theorem P19_of (x0 : (List (List UInt8))) {r : (List UInt8)} (h : G19 x0 = some r) : P19 x0 = true := by unfold P19; rw [hold_eq, h]; rfl
theorem F19_of (x0 : (List (List UInt8))) {r : (List UInt8)} (h : G19 x0 = some r) : F19 x0 = r := by unfold F19; rw [hold_eq, h]; rfl
def spec19 : Spec := ⟨[(.list .str)], [.dat .str], fun | [a0] => P19 (a0.as (.list .str)) | _ => false, fun | [a0] => [⟨.str, (F19 (a0.as (.list .str)))⟩] | _ => []⟩
theorem meets19 (hE : EnvOk Tryd.prog env19) (hm : Tryd.prog.follows .mixedOrders = true) (hI60 : IterOk Tryd.prog glob 60 I60) : Meets Tryd.prog glob 19 spec19 :=
  meets_of_ev2 (O := orc19) (L := loops19) (c := body19) (slots := [2]) hE hm Tryd.func19 Tryd.call19 (by kernel_rfl) (by kernel_rfl) loops19_ok (ranges19_ok hE hm hI60) (by kernel_rfl) rfl (by decide) (fun ds hds hpre => by
  obtain ⟨x0, ds0, rfl, h0⟩ := datsS hds
  have h9 := dats0 h0; subst h9
  exact ev_ret (un := fun r => [⟨.str, r⟩]) loops19_nat (fun _ => rfl) ((ev19 x0).trans (G19_some x0 hpre)))
def env14 : Env := {
  tab := tab
  glob := glob
  spec := fun
    | 19 => some spec19
    | 40 => some spec40
    | _ => none
  inpl := fun
    | 41 => some ([], in41)
    | _ => none }

def orc14 : Orc := ⟨47, fun _ => none, fun
  | 0 => kp [0, 1] []
  | 1 => kp [0, 1, 17] []
  | 2 => kp [4, 5] []
  | 3 => kp [0, 1, 6] []
  | 4 => kp [0, 1, 6, 20] []
  | 5 => kp [0, 1, 6, 7] []
  | 6 => kp [1, 6, 7, 8, 9] []
  | 7 => kp [1, 6, 7, 8, 9, 32] []
  | 8 => kp [1, 6, 8, 9] []
  | 9 => kp [1, 6, 8] []
  | 10 => kp [0, 1, 6] []
  | 11 => kp [6] []
  | 12 => kp [4, 5] []
  | _ => [], fun | _ => false⟩
noncomputable def body14 : Code := Tryd.f14.body.getD .skip
def L14_4_sh : Shape := [(.slot 0, .dat (.list .str)), (.slot 1, .dat (.int .i64)), (.slot 6, .own 9 .str)]
def L14_4_x0 : Shape := [(.slot 0, .dat (.list .str)), (.slot 1, .dat (.int .i64)), (.slot 6, .own 9 .str)]
def L14_4_pk (s : Tup L14_4_sh) : (List (List UInt8)) × Int × (List (List UInt8)) := (s.1, s.2.1, s.2.2.1)
def L14_4_un (s : (List (List UInt8)) × Int × (List (List UInt8))) : Tup L14_4_sh := (s.1, (s.2.1, (s.2.2, ())))
def L14_4_leave (x : ((List (List UInt8)) × Int × (List (List UInt8)))) (R : Type) (K : Cont R) : Option R := match x with
  | a => K (.exit 0) (mkSt L14_4_x0 (a.1, (a.2.1, (a.2.2, ()))))
def L14_4_d (e : Exit) (st : St) : Option (((List (List UInt8)) × Int × (List (List UInt8)))) := match e with
  | .exit 0 => (match unSt L14_4_x0 st with
    | some s => some (s.1, s.2.1, s.2.2.1)
    | none => none)
  | _ => none
def L14_4_r (s0 : (List (List UInt8))) (s1 : Int) (s2 : (List (List UInt8))) : Option (((List (List UInt8)) × Int × (List (List UInt8))) ⊕ (((List (List UInt8)) × Int × (List (List UInt8))))) :=
  let v8 : Int := ((List.length s0 : Nat) : Int)
  let v9 : Bool := (v8 == (1 : Int))
  bif v9 then
  some (.inr (s0, s1, s2))
  else
  let v10 : Int := ((List.length s0 : Nat) : Int)
  bif (P40 v10) then
  let v11 : Int := (F40 v10)
  bif (sliceTest (0 : Int) v11 (List.length s0)) then
  let v12 : (List (List UInt8)) := (cut s0 (0 : Int) v11)
  bif (sliceTest v11 ((List.length s0 : Nat) : Int) (List.length s0)) then
  let v13 : (List (List UInt8)) := (cut s0 v11 ((List.length s0 : Nat) : Int))
  let v14 : Bool := (decide (s1 ≥ v11))
  bif v14 then
  let v15 : Int := (IntKind.i64.wrap (s1 - v11))
  bif (P19 v12) then
  let v16 : (List UInt8) := (F19 v12)
  let v17 : (List (List UInt8)) := (List.set (List.replicate 1 ([] : List UInt8)) 0 v16)
  bif (decide (List.length (List.take (List.length s2) s2) + List.length v17 ≤ 100000000000)) then
  let v18 : (List (List UInt8)) := ((List.take (List.length s2) s2) ++ v17)
  some (.inl (v13, v15, v18))
  else none
  else none
  else
  bif (P19 v13) then
  let v19 : (List UInt8) := (F19 v13)
  let v20 : (List (List UInt8)) := (List.set (List.replicate 1 ([] : List UInt8)) 0 v19)
  bif (decide (List.length (List.take (List.length s2) s2) + List.length v20 ≤ 100000000000)) then
  let v21 : (List (List UInt8)) := ((List.take (List.length s2) s2) ++ v20)
  some (.inl (v12, s1, v21))
  else none
  else none
  else none
  else none
  else none
def L14_4 : (List (List UInt8)) × Int × (List (List UInt8)) → Option (((List (List UInt8)) × Int × (List (List UInt8)))) := Lim (fun s => L14_4_r s.1 s.2.1 s.2.2)
def L14_4_sum : Sum := limSum L14_4_sh L14_4_pk (fun s => L14_4_r s.1 s.2.1 s.2.2) L14_4_leave
theorem L14_4_nat : Natural L14_4_sum := natural_lim fun x R K => by
  rfl
theorem L14_4_dok : ∀ e st x, e ≠ .normal → L14_4_d e st = some x → ∀ R (K : Cont R), K e st = L14_4_leave x R K := by
  intro e st x _ h R K
  unfold L14_4_d at h
  split at h
  · split at h
    · rename_i s hs; cases h; rw [unSt_some hs]; rfl
    · cases h
  · cases h
def loops14 : Nat → Option (Sum) := fun | 4 => some L14_4_sum | _ => none
theorem loops14_nat : ∀ q f, loops14 q = some f → Natural f := by
  intro q f h
  unfold loops14 at h
  split at h
  · cases h; exact L14_4_nat
  · cases h
noncomputable def L14_4_code : Code := (loopsOf body14).getD 0 .skip
theorem L14_4_round (s0 : (List (List UInt8))) (s1 : Int) (s2 : (List (List UInt8))) : ev2 env14 orc14 loops14 L14_4_code (mkSt L14_4_sh (s0, (s1, (s2, ())))) (back L14_4_sh L14_4_pk L14_4_d) = L14_4_r s0 s1 s2 := by kernel_rfl
theorem L14_4_ok : SumOk env14 orc14 loops14 L14_4_code L14_4_sum := sumOk_lim (un := L14_4_un) loops14_nat (fun _ => rfl) L14_4_dok fun s => L14_4_round s.1 s.2.1 s.2.2
theorem loops14_all : loopsOf body14 = [L14_4_code] := by kernel_rfl
theorem L14_4_key : lookL loops14 (keyOf L14_4_code) = some L14_4_sum := by kernel_rfl
theorem loops14_ok : LoopsOk env14 orc14 loops14 body14 := by
  intro c hc f hf
  rw [loops14_all] at hc
  simp only [List.mem_cons, List.not_mem_nil, or_false] at hc
  subst hc
  · rw [L14_4_key] at hf; cases hf; exact L14_4_ok
def G14 (x0 : (List (List UInt8))) (x1 : Int) : Option ((List (List UInt8)) × Int) :=
  let v1 : (List (List UInt8)) := ([] : (List (List UInt8)))
  let v2 : Bool := (decide (x1 < (0 : Int)))
  let v3 : Int := ((List.length x0 : Nat) : Int)
  let v4 : Bool := (decide (x1 ≥ v3))
  let v5 : Bool := (bif v2 then true else v4)
  bif v5 then
  let v6 : (List (List UInt8)) := ([] : (List (List UInt8)))
  some (v6, (2 : Int))
  else
  let v7 : (List (List UInt8)) := ([] : (List (List UInt8)))
  Option.bind (L14_4 (x0, x1, v7)) fun (r22 : (List (List UInt8)) × Int × (List (List UInt8))) =>
  bif (decide ((List.length r22.2.2) = List.length r22.2.2) && true) then
  let v23 : (List (List UInt8)) := (List.reverse r22.2.2)
  let v24 : (List (List UInt8)) := (List.take (List.length v23) v23)
  some (v24, (0 : Int))
  else none
theorem ev14 (x0 : (List (List UInt8))) (x1 : Int) : ev2 env14 orc14 loops14 body14 (initSt 0 [⟨(.list .str), x0⟩, ⟨(.int .i64), x1⟩]) (retT [(4, .dat (.list .str)), (5, .dat (.int .i64))] [(.list .str), (.int .i64)] fun x => (x.1, x.2.1)) = G14 x0 x1 := by kernel_rfl
def P14 (x0 : (List (List UInt8))) (x1 : Int) : Bool := (hold (G14 x0 x1)).isSome
def F14 (x0 : (List (List UInt8))) (x1 : Int) : (List (List UInt8)) × Int := (hold (G14 x0 x1)).getD default
theorem G14_some (x0 : (List (List UInt8))) (x1 : Int) (h : P14 x0 x1 = true) : G14 x0 x1 = some (F14 x0 x1) := by
  unfold P14 at h; unfold F14
  rw [hold_eq] at h ⊢
  exact some_getD h
theorem P14_of (x0 : (List (List UInt8))) (x1 : Int) {r : (List (List UInt8)) × Int} (h : G14 x0 x1 = some r) : P14 x0 x1 = true := by unfold P14; rw [hold_eq, h]; rfl
theorem F14_of (x0 : (List (List UInt8))) (x1 : Int) {r : (List (List UInt8)) × Int} (h : G14 x0 x1 = some r) : F14 x0 x1 = r := by unfold F14; rw [hold_eq, h]; rfl
def spec14 : Spec := ⟨[(.list .str), (.int .i64)], [.dat (.list .str), .dat (.int .i64)], fun | [a0, a1] => P14 (a0.as (.list .str)) (a1.as (.int .i64)) | _ => false, fun | [a0, a1] => [⟨(.list .str), (F14 (a0.as (.list .str)) (a1.as (.int .i64))).1⟩, ⟨(.int .i64), (F14 (a0.as (.list .str)) (a1.as (.int .i64))).2⟩] | _ => []⟩
theorem meets14 (hE : EnvOk Tryd.prog env14) (hm : Tryd.prog.follows .mixedOrders = true) : Meets Tryd.prog glob 14 spec14 :=
  meets_of_ev2 (O := orc14) (L := loops14) (c := body14) (slots := [4, 5]) hE hm Tryd.func14 Tryd.call14 (by kernel_rfl) (by kernel_rfl) loops14_ok (rangesOk_nil (by kernel_rfl)) (by kernel_rfl) rfl (by decide) (fun ds hds hpre => by
  obtain ⟨x0, ds0, rfl, h0⟩ := datsS hds
  obtain ⟨x1, ds1, rfl, h1⟩ := datsS h0
  have h9 := dats0 h1; subst h9
  exact ev_ret (un := fun r => [⟨(.list .str), r.1⟩, ⟨(.int .i64), r.2⟩]) loops14_nat (fun _ => rfl) ((ev14 x0 x1).trans (G14_some x0 x1 hpre)))
def env16 : Env := {
  tab := tab
  glob := glob
  spec := fun
    | 19 => some spec19
    | 40 => some spec40
    | _ => none
  inpl := fun
    | 41 => some ([], in41)
    | _ => none }

def orc16 : Orc := ⟨60, fun _ => none, fun
  | 0 => kp [0, 1] []
  | 1 => kp [0, 1, 11] []
  | 2 => kp [4, 5] []
  | 3 => kp [0, 1, 20] []
  | 4 => kp [4, 5] []
  | 5 => kp [0, 1, 6] []
  | 6 => kp [0, 1, 6, 7] []
  | 7 => kp [0, 1, 6, 7, 26] []
  | 8 => kp [0, 1, 6, 7, 8] []
  | 9 => kp [1, 6, 7, 8, 9, 10] []
  | 10 => kp [1, 6, 7, 8, 9, 10, 38] []
  | 11 => kp [1, 6, 7, 9, 10] []
  | 12 => kp [1, 6, 7, 9] []
  | 13 => kp [0, 1, 6, 7] []
  | 14 => kp [0, 6, 51] []
  | 15 => kp [6] []
  | 16 => kp [6] []
  | 17 => kp [4, 5] []
  | _ => [], fun | _ => false⟩
noncomputable def body16 : Code := Tryd.f16.body.getD .skip
def L16_7_sh : Shape := [(.slot 0, .dat (.list .str)), (.slot 1, .dat (.int .i64)), (.slot 6, .own 9 .str), (.slot 7, .dat .bool)]
def L16_7_x0 : Shape := [(.slot 0, .dat (.list .str)), (.slot 1, .dat (.int .i64)), (.slot 6, .own 9 .str), (.slot 7, .dat .bool)]
def L16_7_pk (s : Tup L16_7_sh) : (List (List UInt8)) × Int × (List (List UInt8)) × Bool := (s.1, s.2.1, s.2.2.1, s.2.2.2.1)
def L16_7_un (s : (List (List UInt8)) × Int × (List (List UInt8)) × Bool) : Tup L16_7_sh := (s.1, (s.2.1, (s.2.2.1, (s.2.2.2, ()))))
def L16_7_leave (x : ((List (List UInt8)) × Int × (List (List UInt8)) × Bool)) (R : Type) (K : Cont R) : Option R := match x with
  | a => K (.exit 1) (mkSt L16_7_x0 (a.1, (a.2.1, (a.2.2.1, (a.2.2.2, ())))))
def L16_7_d (e : Exit) (st : St) : Option (((List (List UInt8)) × Int × (List (List UInt8)) × Bool)) := match e with
  | .exit 1 => (match unSt L16_7_x0 st with
    | some s => some (s.1, s.2.1, s.2.2.1, s.2.2.2.1)
    | none => none)
  | _ => none
def L16_7_r (s0 : (List (List UInt8))) (s1 : Int) (s2 : (List (List UInt8))) (s3 : Bool) : Option (((List (List UInt8)) × Int × (List (List UInt8)) × Bool) ⊕ (((List (List UInt8)) × Int × (List (List UInt8)) × Bool))) :=
  let v10 : Int := ((List.length s0 : Nat) : Int)
  let v11 : Bool := (decide (s1 < v10))
  bif v11 then
  let v12 : Int := ((List.length s0 : Nat) : Int)
  bif (P40 v12) then
  let v13 : Int := (F40 v12)
  bif (sliceTest (0 : Int) v13 (List.length s0)) then
  let v14 : (List (List UInt8)) := (cut s0 (0 : Int) v13)
  bif (sliceTest v13 ((List.length s0 : Nat) : Int) (List.length s0)) then
  let v15 : (List (List UInt8)) := (cut s0 v13 ((List.length s0 : Nat) : Int))
  let v16 : Bool := (decide (s1 > v13))
  bif v16 then
  let v17 : Int := (IntKind.i64.wrap (s1 - v13))
  bif (P19 v14) then
  let v18 : (List UInt8) := (F19 v14)
  let v19 : (List (List UInt8)) := (List.set (List.replicate 1 ([] : List UInt8)) 0 v18)
  bif (decide (List.length (List.take (List.length s2) s2) + List.length v19 ≤ 100000000000)) then
  let v20 : (List (List UInt8)) := ((List.take (List.length s2) s2) ++ v19)
  some (.inl (v15, v17, v20, false))
  else none
  else none
  else
  bif (P19 v15) then
  let v21 : (List UInt8) := (F19 v15)
  let v22 : (List (List UInt8)) := (List.set (List.replicate 1 ([] : List UInt8)) 0 v21)
  bif (decide (List.length (List.take (List.length s2) s2) + List.length v22 ≤ 100000000000)) then
  let v23 : (List (List UInt8)) := ((List.take (List.length s2) s2) ++ v22)
  some (.inl (v14, s1, v23, s3))
  else none
  else none
  else none
  else none
  else none
  else
  some (.inr (s0, s1, s2, s3))
def L16_7 : (List (List UInt8)) × Int × (List (List UInt8)) × Bool → Option (((List (List UInt8)) × Int × (List (List UInt8)) × Bool)) := Lim (fun s => L16_7_r s.1 s.2.1 s.2.2.1 s.2.2.2)
def L16_7_sum : Sum := limSum L16_7_sh L16_7_pk (fun s => L16_7_r s.1 s.2.1 s.2.2.1 s.2.2.2) L16_7_leave
theorem L16_7_nat : Natural L16_7_sum := natural_lim fun x R K => by
  rfl
theorem L16_7_dok : ∀ e st x, e ≠ .normal → L16_7_d e st = some x → ∀ R (K : Cont R), K e st = L16_7_leave x R K := by
  intro e st x _ h R K
  unfold L16_7_d at h
  split at h
  · split at h
    · rename_i s hs; cases h; rw [unSt_some hs]; rfl
    · cases h
  · cases h
def loops16 : Nat → Option (Sum) := fun | 7 => some L16_7_sum | _ => none
theorem loops16_nat : ∀ q f, loops16 q = some f → Natural f := by
  intro q f h
  unfold loops16 at h
  split at h
  · cases h; exact L16_7_nat
  · cases h
noncomputable def L16_7_code : Code := (loopsOf body16).getD 0 .skip
theorem L16_7_round (s0 : (List (List UInt8))) (s1 : Int) (s2 : (List (List UInt8))) (s3 : Bool) : ev2 env16 orc16 loops16 L16_7_code (mkSt L16_7_sh (s0, (s1, (s2, (s3, ()))))) (back L16_7_sh L16_7_pk L16_7_d) = L16_7_r s0 s1 s2 s3 := by kernel_rfl
theorem L16_7_ok : SumOk env16 orc16 loops16 L16_7_code L16_7_sum := sumOk_lim (un := L16_7_un) loops16_nat (fun _ => rfl) L16_7_dok fun s => L16_7_round s.1 s.2.1 s.2.2.1 s.2.2.2
theorem loops16_all : loopsOf body16 = [L16_7_code] := by kernel_rfl
theorem L16_7_key : lookL loops16 (keyOf L16_7_code) = some L16_7_sum := by kernel_rfl
theorem loops16_ok : LoopsOk env16 orc16 loops16 body16 := by
  intro c hc f hf
  rw [loops16_all] at hc
  simp only [List.mem_cons, List.not_mem_nil, or_false] at hc
  subst hc
  · rw [L16_7_key] at hf; cases hf; exact L16_7_ok
def G16 (x0 : (List (List UInt8))) (x1 : Int) : Option ((List (List UInt8)) × Int) :=
  let v1 : (List (List UInt8)) := ([] : (List (List UInt8)))
  let v2 : Bool := (decide (x1 < (0 : Int)))
  let v3 : Int := ((List.length x0 : Nat) : Int)
  let v4 : Bool := (decide (x1 > v3))
  let v5 : Bool := (bif v2 then true else v4)
  bif v5 then
  let v6 : (List (List UInt8)) := ([] : (List (List UInt8)))
  some (v6, (2 : Int))
  else
  let v7 : Bool := (x1 == (0 : Int))
  bif v7 then
  let v8 : (List (List UInt8)) := ([] : (List (List UInt8)))
  some (v8, (0 : Int))
  else
  let v9 : (List (List UInt8)) := ([] : (List (List UInt8)))
  Option.bind (L16_7 (x0, x1, v9, true)) fun (r24 : (List (List UInt8)) × Int × (List (List UInt8)) × Bool) =>
  let v25 : Bool := (!r24.2.2.2)
  bif v25 then
  bif (P19 r24.1) then
  let v26 : (List UInt8) := (F19 r24.1)
  let v27 : (List (List UInt8)) := (List.set (List.replicate 1 ([] : List UInt8)) 0 v26)
  bif (decide (List.length (List.take (List.length r24.2.2.1) r24.2.2.1) + List.length v27 ≤ 100000000000)) then
  let v28 : (List (List UInt8)) := ((List.take (List.length r24.2.2.1) r24.2.2.1) ++ v27)
  bif (decide ((List.length v28) = List.length v28) && true) then
  let v29 : (List (List UInt8)) := (List.reverse v28)
  let v30 : (List (List UInt8)) := (List.take (List.length v29) v29)
  some (v30, (0 : Int))
  else none
  else none
  else none
  else
  bif (decide ((List.length r24.2.2.1) = List.length r24.2.2.1) && true) then
  let v31 : (List (List UInt8)) := (List.reverse r24.2.2.1)
  let v32 : (List (List UInt8)) := (List.take (List.length v31) v31)
  some (v32, (0 : Int))
  else none
theorem ev16 (x0 : (List (List UInt8))) (x1 : Int) : ev2 env16 orc16 loops16 body16 (initSt 0 [⟨(.list .str), x0⟩, ⟨(.int .i64), x1⟩]) (retT [(4, .dat (.list .str)), (5, .dat (.int .i64))] [(.list .str), (.int .i64)] fun x => (x.1, x.2.1)) = G16 x0 x1 := by kernel_rfl
def P16 (x0 : (List (List UInt8))) (x1 : Int) : Bool := (hold (G16 x0 x1)).isSome
def F16 (x0 : (List (List UInt8))) (x1 : Int) : (List (List UInt8)) × Int := (hold (G16 x0 x1)).getD default
theorem G16_some (x0 : (List (List UInt8))) (x1 : Int) (h : P16 x0 x1 = true) : G16 x0 x1 = some (F16 x0 x1) := by
  unfold P16 at h; unfold F16
  rw [hold_eq] at h ⊢
  exact some_getD h
theorem P16_of (x0 : (List (List UInt8))) (x1 : Int) {r : (List (List UInt8)) × Int} (h : G16 x0 x1 = some r) : P16 x0 x1 = true := by unfold P16; rw [hold_eq, h]; rfl
theorem F16_of (x0 : (List (List UInt8))) (x1 : Int) {r : (List (List UInt8)) × Int} (h : G16 x0 x1 = some r) : F16 x0 x1 = r := by unfold F16; rw [hold_eq, h]; rfl
def spec16 : Spec := ⟨[(.list .str), (.int .i64)], [.dat (.list .str), .dat (.int .i64)], fun | [a0, a1] => P16 (a0.as (.list .str)) (a1.as (.int .i64)) | _ => false, fun | [a0, a1] => [⟨(.list .str), (F16 (a0.as (.list .str)) (a1.as (.int .i64))).1⟩, ⟨(.int .i64), (F16 (a0.as (.list .str)) (a1.as (.int .i64))).2⟩] | _ => []⟩
theorem meets16 (hE : EnvOk Tryd.prog env16) (hm : Tryd.prog.follows .mixedOrders = true) : Meets Tryd.prog glob 16 spec16 :=
  meets_of_ev2 (O := orc16) (L := loops16) (c := body16) (slots := [4, 5]) hE hm Tryd.func16 Tryd.call16 (by kernel_rfl) (by kernel_rfl) loops16_ok (rangesOk_nil (by kernel_rfl)) (by kernel_rfl) rfl (by decide) (fun ds hds hpre => by
  obtain ⟨x0, ds0, rfl, h0⟩ := datsS hds
  obtain ⟨x1, ds1, rfl, h1⟩ := datsS h0
  have h9 := dats0 h1; subst h9
  exact ev_ret (un := fun r => [⟨(.list .str), r.1⟩, ⟨(.int .i64), r.2⟩]) loops16_nat (fun _ => rfl) ((ev16 x0 x1).trans (G16_some x0 x1 hpre)))
def env39 : Env := {
  tab := tab
  glob := glob
  spec := fun
    | _ => none }

def orc39 : Orc := ⟨35, fun _ => none, fun
  | 0 => kp [0] []
  | 1 => kp [0, 3] []
  | 2 => kp [0, 3, 4] []
  | 3 => kp [0, 3, 4, 8] []
  | 4 => kp [0, 3, 4] []
  | 5 => kp [0, 3, 4] []
  | 6 => kp [2] []
  | _ => [], fun | _ => false⟩
noncomputable def body39 : Code := Tryd.f39.body.getD .skip
def L39_3_sh : Shape := [(.slot 0, .dat .str), (.slot 3, .dat .str), (.slot 4, .dat (.int .i64))]
def L39_3_x0 : Shape := [(.slot 0, .dat .str), (.slot 3, .dat .str), (.slot 4, .dat (.int .i64))]
def L39_3_pk (s : Tup L39_3_sh) : (List UInt8) × (List UInt8) × Int := (s.1, s.2.1, s.2.2.1)
def L39_3_un (s : (List UInt8) × (List UInt8) × Int) : Tup L39_3_sh := (s.1, (s.2.1, (s.2.2, ())))
def L39_3_leave (x : ((List UInt8) × (List UInt8) × Int)) (R : Type) (K : Cont R) : Option R := match x with
  | a => K (.exit 0) (mkSt L39_3_x0 (a.1, (a.2.1, (a.2.2, ()))))
def L39_3_d (e : Exit) (st : St) : Option (((List UInt8) × (List UInt8) × Int)) := match e with
  | .exit 0 => (match unSt L39_3_x0 st with
    | some s => some (s.1, s.2.1, s.2.2.1)
    | none => none)
  | _ => none
def L39_3_r (s0 : (List UInt8)) (s1 : (List UInt8)) (s2 : Int) : Option (((List UInt8) × (List UInt8) × Int) ⊕ (((List UInt8) × (List UInt8) × Int))) :=
  let v1 : Int := ((List.length s0 : Nat) : Int)
  let v2 : Bool := (decide (s2 < v1))
  bif v2 then
  bif (decide (0 ≤ s2) && decide (s2 < List.length s0)) then
  let v3 : Int := ((List.getD s0 (Int.toNat s2) 0).toNat : Int)
  let v4 : Int := (IntKind.u8.wrap (Int.tdiv v3 (16 : Int)))
  bif (decide (0 ≤ s2) && decide (s2 < List.length s0)) then
  let v5 : Int := ((List.getD s0 (Int.toNat s2) 0).toNat : Int)
  let v6 : Int := (IntKind.u8.wrap (Int.tdiv v5 (16 : Int)))
  let v7 : Int := (IntKind.u8.wrap (v6 + (1 : Int)))
  bif (sliceTest v4 v7 (List.length ([48, 49, 50, 51, 52, 53, 54, 55, 56, 57, 97, 98, 99, 100, 101, 102] : List UInt8))) then
  let v8 : (List UInt8) := (cut ([48, 49, 50, 51, 52, 53, 54, 55, 56, 57, 97, 98, 99, 100, 101, 102] : List UInt8) v4 v7)
  bif (decide (List.length s1 + List.length v8 ≤ 9223372036854775807)) then
  let v9 : (List UInt8) := (s1 ++ v8)
  bif (decide (0 ≤ s2) && decide (s2 < List.length s0)) then
  let v10 : Int := ((List.getD s0 (Int.toNat s2) 0).toNat : Int)
  let v11 : Int := (Int.tmod v10 (16 : Int))
  bif (decide (0 ≤ s2) && decide (s2 < List.length s0)) then
  let v12 : Int := ((List.getD s0 (Int.toNat s2) 0).toNat : Int)
  let v13 : Int := (Int.tmod v12 (16 : Int))
  let v14 : Int := (IntKind.u8.wrap (v13 + (1 : Int)))
  bif (sliceTest v11 v14 (List.length ([48, 49, 50, 51, 52, 53, 54, 55, 56, 57, 97, 98, 99, 100, 101, 102] : List UInt8))) then
  let v15 : (List UInt8) := (cut ([48, 49, 50, 51, 52, 53, 54, 55, 56, 57, 97, 98, 99, 100, 101, 102] : List UInt8) v11 v14)
  bif (decide (List.length v9 + List.length v15 ≤ 9223372036854775807)) then
  let v16 : (List UInt8) := (v9 ++ v15)
  let v17 : Int := (IntKind.i64.wrap (s2 + (1 : Int)))
  some (.inl (s0, v16, v17))
  else none
  else none
  else none
  else none
  else none
  else none
  else none
  else none
  else
  some (.inr (s0, s1, s2))
def L39_3 : (List UInt8) × (List UInt8) × Int → Option (((List UInt8) × (List UInt8) × Int)) := Lim (fun s => L39_3_r s.1 s.2.1 s.2.2)
def L39_3_sum : Sum := limSum L39_3_sh L39_3_pk (fun s => L39_3_r s.1 s.2.1 s.2.2) L39_3_leave
theorem L39_3_nat : Natural L39_3_sum := natural_lim fun x R K => by
  rfl
theorem L39_3_dok : ∀ e st x, e ≠ .normal → L39_3_d e st = some x → ∀ R (K : Cont R), K e st = L39_3_leave x R K := by
  intro e st x _ h R K
  unfold L39_3_d at h
  split at h
  · split at h
    · rename_i s hs; cases h; rw [unSt_some hs]; rfl
    · cases h
  · cases h
def loops39 : Nat → Option (Sum) := fun | 3 => some L39_3_sum | _ => none
theorem loops39_nat : ∀ q f, loops39 q = some f → Natural f := by
  intro q f h
  unfold loops39 at h
  split at h
  · cases h; exact L39_3_nat
  · cases h
noncomputable def L39_3_code : Code := (loopsOf body39).getD 0 .skip
theorem L39_3_round (s0 : (List UInt8)) (s1 : (List UInt8)) (s2 : Int) : ev2 env39 orc39 loops39 L39_3_code (mkSt L39_3_sh (s0, (s1, (s2, ())))) (back L39_3_sh L39_3_pk L39_3_d) = L39_3_r s0 s1 s2 := by kernel_rfl
theorem L39_3_ok : SumOk env39 orc39 loops39 L39_3_code L39_3_sum := sumOk_lim (un := L39_3_un) loops39_nat (fun _ => rfl) L39_3_dok fun s => L39_3_round s.1 s.2.1 s.2.2
theorem loops39_all : loopsOf body39 = [L39_3_code] := by kernel_rfl
theorem L39_3_key : lookL loops39 (keyOf L39_3_code) = some L39_3_sum := by kernel_rfl
theorem loops39_ok : LoopsOk env39 orc39 loops39 body39 := by
  intro c hc f hf
  rw [loops39_all] at hc
  simp only [List.mem_cons, List.not_mem_nil, or_false] at hc
  subst hc
  · rw [L39_3_key] at hf; cases hf; exact L39_3_ok
def G39 (x0 : (List UInt8)) : Option ((List UInt8)) :=
  Option.bind (L39_3 (x0, ([] : List UInt8), (0 : Int))) fun (r18 : (List UInt8) × (List UInt8) × Int) =>
  some (r18.2.1)
theorem ev39 (x0 : (List UInt8)) : ev2 env39 orc39 loops39 body39 (initSt 0 [⟨.str, x0⟩]) (retT [(2, .dat .str)] [.str] fun x => x.1) = G39 x0 := by kernel_rfl
def P39 (x0 : (List UInt8)) : Bool := (hold (G39 x0)).isSome
def F39 (x0 : (List UInt8)) : (List UInt8) := (hold (G39 x0)).getD default
theorem G39_some (x0 : (List UInt8)) (h : P39 x0 = true) : G39 x0 = some (F39 x0) := by
  unfold P39 at h; unfold F39
  rw [hold_eq] at h ⊢
  exact some_getD h
theorem P39_of (x0 : (List UInt8)) {r : (List UInt8)} (h : G39 x0 = some r) : P39 x0 = true := by unfold P39; rw [hold_eq, h]; rfl
theorem F39_of (x0 : (List UInt8)) {r : (List UInt8)} (h : G39 x0 = some r) : F39 x0 = r := by unfold F39; rw [hold_eq, h]; rfl
def spec39 : Spec := ⟨[.str], [.dat .str], fun | [a0] => P39 (a0.as .str) | _ => false, fun | [a0] => [⟨.str, (F39 (a0.as .str))⟩] | _ => []⟩
theorem meets39 (hE : EnvOk Tryd.prog env39) (hm : Tryd.prog.follows .mixedOrders = true) : Meets Tryd.prog glob 39 spec39 :=
  meets_of_ev2 (O := orc39) (L := loops39) (c := body39) (slots := [2]) hE hm Tryd.func39 Tryd.call39 (by kernel_rfl) (by kernel_rfl) loops39_ok (rangesOk_nil (by kernel_rfl)) (by kernel_rfl) rfl (by decide) (fun ds hds hpre => by
  obtain ⟨x0, ds0, rfl, h0⟩ := datsS hds
  have h9 := dats0 h0; subst h9
  exact ev_ret (un := fun r => [⟨.str, r⟩]) loops39_nat (fun _ => rfl) ((ev39 x0).trans (G39_some x0 hpre)))
def env51 : Env := {
  tab := tab
  glob := glob
  spec := fun
    | _ => none }

def orc51 : Orc := ⟨6, fun _ => none, fun
  | 0 => kp [0] []
  | 1 => kp [2] []
  | _ => [], fun | _ => false⟩
noncomputable def body51 : Code := Tryd.f51.body.getD .skip
def loops51 : Nat → Option (Sum) := fun | _ => none
theorem loops51_nat : ∀ q f, loops51 q = some f → Natural f := by
  intro q f h
  cases h
theorem loops51_ok : LoopsOk env51 orc51 loops51 body51 := loopsOk_nil (by kernel_rfl)
def G51 (x0 : (List UInt8)) : Option (Bool) :=
  let v1 : Int := ((List.length x0 : Nat) : Int)
  let v2 : Bool := (v1 == (32 : Int))
  some (v2)
theorem ev51 (x0 : (List UInt8)) : ev2 env51 orc51 loops51 body51 (initSt 0 [⟨.str, x0⟩]) (retT [(2, .dat .bool)] [.bool] fun x => x.1) = G51 x0 := by kernel_rfl
def P51 (x0 : (List UInt8)) : Bool := (hold (G51 x0)).isSome
def F51 (x0 : (List UInt8)) : Bool := (hold (G51 x0)).getD default
theorem G51_some (x0 : (List UInt8)) (h : P51 x0 = true) : G51 x0 = some (F51 x0) := by
  unfold P51 at h; unfold F51
  rw [hold_eq] at h ⊢
  exact some_getD h
theorem P51_of (x0 : (List UInt8)) {r : Bool} (h : G51 x0 = some r) : P51 x0 = true := by unfold P51; rw [hold_eq, h]; rfl
theorem F51_of (x0 : (List UInt8)) {r : Bool} (h : G51 x0 = some r) : F51 x0 = r := by unfold F51; rw [hold_eq, h]; rfl
def spec51 : Spec := ⟨[.str], [.dat .bool], fun | [a0] => P51 (a0.as .str) | _ => false, fun | [a0] => [⟨.bool, (F51 (a0.as .str))⟩] | _ => []⟩
theorem meets51 (hE : EnvOk Tryd.prog env51) (hm : Tryd.prog.follows .mixedOrders = true) : Meets Tryd.prog glob 51 spec51 :=
  meets_of_ev2 (O := orc51) (L := loops51) (c := body51) (slots := [2]) hE hm Tryd.func51 Tryd.call51 (by kernel_rfl) (by kernel_rfl) loops51_ok (rangesOk_nil (by kernel_rfl)) (by kernel_rfl) rfl (by decide) (fun ds hds hpre => by
  obtain ⟨x0, ds0, rfl, h0⟩ := datsS hds
  have h9 := dats0 h0; subst h9
  exact ev_ret (un := fun r => [⟨.bool, r⟩]) loops51_nat (fun _ => rfl) ((ev51 x0).trans (G51_some x0 hpre)))
def pin61 : Shape := [(.slot 0, .dat .str)]
def pout61 : Shape := [(.slot 0, .dat .bool)]
def env61 : Env := {
  tab := tab
  glob := glob
  spec := fun
    | 51 => some spec51
    | _ => none }

def orc61 : Orc := ⟨6, fun _ => none, fun
  | 0 => kp [0] []
  | 1 => kp [2] []
  | _ => [], fun | _ => false⟩
noncomputable def body61 : Code := Tryd.f61.body.getD .skip
def loops61 : Nat → Option (Sum) := fun | _ => none
theorem loops61_ok : LoopsOk env61 orc61 loops61 body61 := loopsOk_nil (by kernel_rfl)
def G61 (x0 : (List UInt8)) : Option (Bool × Unit) :=
  bif (P51 x0) then
  let v1 : Bool := (F51 x0)
  let v2 : Bool := (!v1)
  some (v2, ())
  else none
def P61 (x0 : (List UInt8)) : Bool := (hold (G61 x0)).isSome
def F61 (x0 : (List UInt8)) : (Bool × Unit) := (hold (G61 x0)).getD (Tup.zero pout61)
theorem P61_of (x0 : (List UInt8)) {r : (Bool × Unit)} (h : G61 x0 = some r) : P61 x0 = true := by unfold P61; rw [hold_eq, h]; rfl
theorem F61_of (x0 : (List UInt8)) {r : (Bool × Unit)} (h : G61 x0 = some r) : F61 x0 = r := by unfold F61; rw [hold_eq, h]; rfl
theorem ev61 (x0 : (List UInt8)) : ev2 env61 orc61 loops61 body61 (mkSt pin61 (x0, ())) (retK3 env61 [.slot 2] pout61) = G61 x0 := by kernel_rfl
def sp61 : Spec2 := ⟨pin61, pout61, fun s => hold (G61 s.1)⟩
theorem fit61 : Fit Tryd.f61 [.slot 2] sp61 := ⟨by kernel_rfl, by kernel_rfl, by kernel_rfl, by kernel_rfl, by kernel_rfl, by decide, by decide, by decide⟩
theorem meets61 (hE : EnvOk Tryd.prog env61) (hm : Tryd.prog.follows .mixedOrders = true) : Meets2 Tryd.prog glob 61 sp61 :=
  meets2_of_ev2 (O := orc61) (L := loops61) (c := body61) (rs := [.slot 2]) hE (fun _ => rfl) hm Tryd.func61 Tryd.call61 (by kernel_rfl) (by kernel_rfl) loops61_ok (rangesOk_nil (by kernel_rfl)) fit61 (fun s o h => (ev61 s.1).trans ((hold_eq _).symm.trans h))
def pin73 : Shape := [(.slot 0, .dat (.list .str)), (.slot 1, .fn 61 [])]
def pout73 : Shape := [(.slot 0, .dat (.int .i64))]
def env73 : Env := {
  tab := tab
  glob := glob
  spec := fun
    | _ => none
  spec2 := fun
    | 61, [] => some sp61
    | _, _ => none }

def orc73 : Orc := ⟨19, fun _ => none, fun
  | 0 => kp [0, 1] []
  | 1 => kp [0, 1, 7, 8] []
  | 2 => kp [0, 1, 7, 8, 9] []
  | 3 => kp [0, 1, 5, 7, 8] []
  | 4 => kp [0, 1, 5, 7, 8, 16] []
  | 5 => kp [4] []
  | 6 => kp [0, 1, 7, 8] []
  | 7 => kp [4] []
  | _ => [], fun | _ => false⟩
noncomputable def body73 : Code := Tryd.f73.body.getD .skip
def L73_2_sh : Shape := [(.slot 0, .dat (.list .str)), (.slot 1, .fn 61 []), (.slot 7, .dat (.int .i64)), (.slot 8, .dat (.int .i64))]
def L73_2_x0 : Shape := [(.slot 4, .dat (.int .i64))]
def L73_2_x1 : Shape := [(.slot 0, .dat (.list .str)), (.slot 1, .fn 61 []), (.slot 7, .dat (.int .i64)), (.slot 8, .dat (.int .i64))]
def L73_2_pk (s : Tup L73_2_sh) : (List (List UInt8)) × Int × Int := (s.1, s.2.2.1, s.2.2.2.1)
def L73_2_un (s : (List (List UInt8)) × Int × Int) : Tup L73_2_sh := (s.1, ((), (s.2.1, (s.2.2, ()))))
def L73_2_leave (x : (Int) ⊕ ((List (List UInt8)) × Int × Int)) (R : Type) (K : Cont R) : Option R := match x with
  | (.inl a) => K .ret (mkSt L73_2_x0 (a, ()))
  | (.inr a) => K (.exit 0) (mkSt L73_2_x1 (a.1, ((), (a.2.1, (a.2.2, ())))))
def L73_2_d (e : Exit) (st : St) : Option ((Int) ⊕ ((List (List UInt8)) × Int × Int)) := match e with
  | .ret => (match unSt L73_2_x0 st with
    | some s => some (.inl s.1)
    | none => none)
  | .exit 0 => (match unSt L73_2_x1 st with
    | some s => some (.inr (s.1, s.2.2.1, s.2.2.2.1))
    | none => none)
  | _ => none
def L73_2_r (s0 : (List (List UInt8))) (s1 : Int) (s2 : Int) : Option (((List (List UInt8)) × Int × Int) ⊕ ((Int) ⊕ ((List (List UInt8)) × Int × Int))) :=
  let v2 : Bool := (decide (s2 < s1))
  bif v2 then
  bif (decide (0 ≤ s2) && decide (s2 < List.length s0)) then
  let v3 : (List UInt8) := (List.getD s0 (Int.toNat s2) ([] : List UInt8))
  bif (P61 v3) then
  let q4 : (Bool × Unit) := F61 v3
  bif q4.1 then
  some (.inr (.inl s2))
  else
  let v5 : Int := (IntKind.i64.wrap (s2 + (1 : Int)))
  some (.inl (s0, s1, v5))
  else none
  else none
  else
  some (.inr (.inr (s0, s1, s2)))
def L73_2 : (List (List UInt8)) × Int × Int → Option ((Int) ⊕ ((List (List UInt8)) × Int × Int)) := Lim (fun s => L73_2_r s.1 s.2.1 s.2.2)
def L73_2_sum : Sum := limSum L73_2_sh L73_2_pk (fun s => L73_2_r s.1 s.2.1 s.2.2) L73_2_leave
theorem L73_2_nat : Natural L73_2_sum := natural_lim fun x R K => by
  rcases x with x|x <;> rfl
theorem L73_2_dok : ∀ e st x, e ≠ .normal → L73_2_d e st = some x → ∀ R (K : Cont R), K e st = L73_2_leave x R K := by
  intro e st x _ h R K
  unfold L73_2_d at h
  split at h
  · split at h
    · rename_i s hs; cases h; rw [unSt_some hs]; rfl
    · cases h
  · split at h
    · rename_i s hs; cases h; rw [unSt_some hs]; rfl
    · cases h
  · cases h
def loops73 : Nat → Option (Sum) := fun | 2 => some L73_2_sum | _ => none
theorem loops73_nat : ∀ q f, loops73 q = some f → Natural f := by
  intro q f h
  unfold loops73 at h
  split at h
  · cases h; exact L73_2_nat
  · cases h
noncomputable def L73_2_code : Code := (loopsOf body73).getD 0 .skip
theorem L73_2_round (s0 : (List (List UInt8))) (s1 : Int) (s2 : Int) : ev2 env73 orc73 loops73 L73_2_code (mkSt L73_2_sh (s0, ((), (s1, (s2, ()))))) (back L73_2_sh L73_2_pk L73_2_d) = L73_2_r s0 s1 s2 := by kernel_rfl
theorem L73_2_ok : SumOk env73 orc73 loops73 L73_2_code L73_2_sum := sumOk_lim (un := L73_2_un) loops73_nat (fun _ => rfl) L73_2_dok fun s => L73_2_round s.1 s.2.1 s.2.2
theorem loops73_all : loopsOf body73 = [L73_2_code] := by kernel_rfl
theorem L73_2_key : lookL loops73 (keyOf L73_2_code) = some L73_2_sum := by kernel_rfl
theorem loops73_ok : LoopsOk env73 orc73 loops73 body73 := by
  intro c hc f hf
  rw [loops73_all] at hc
  simp only [List.mem_cons, List.not_mem_nil, or_false] at hc
  subst hc
  · rw [L73_2_key] at hf; cases hf; exact L73_2_ok
def G73 (x0 : (List (List UInt8))) : Option (Int × Unit) :=
  let v1 : Int := ((List.length x0 : Nat) : Int)
  Option.bind (L73_2 (x0, v1, (0 : Int))) fun x => match x with
  | (.inl r6) =>
  some (r6, ())
  | (.inr r7) =>
  some ((-1 : Int), ())
def P73 (x0 : (List (List UInt8))) : Bool := (hold (G73 x0)).isSome
def F73 (x0 : (List (List UInt8))) : (Int × Unit) := (hold (G73 x0)).getD (Tup.zero pout73)
theorem P73_of (x0 : (List (List UInt8))) {r : (Int × Unit)} (h : G73 x0 = some r) : P73 x0 = true := by unfold P73; rw [hold_eq, h]; rfl
theorem F73_of (x0 : (List (List UInt8))) {r : (Int × Unit)} (h : G73 x0 = some r) : F73 x0 = r := by unfold F73; rw [hold_eq, h]; rfl
theorem ev73 (x0 : (List (List UInt8))) : ev2 env73 orc73 loops73 body73 (mkSt pin73 (x0, ((), ()))) (retK3 env73 [.slot 4] pout73) = G73 x0 := by kernel_rfl
def sp73 : Spec2 := ⟨pin73, pout73, fun s => hold (G73 s.1)⟩
theorem fit73 : Fit Tryd.f73 [.slot 4] sp73 := ⟨by kernel_rfl, by kernel_rfl, by kernel_rfl, by kernel_rfl, by kernel_rfl, by decide, by decide, by decide⟩
theorem meets73 (hE : EnvOk Tryd.prog env73) (hm : Tryd.prog.follows .mixedOrders = true) : Meets2 Tryd.prog glob 73 sp73 :=
  meets2_of_ev2 (O := orc73) (L := loops73) (c := body73) (rs := [.slot 4]) hE (fun _ => rfl) hm Tryd.func73 Tryd.call73 (by kernel_rfl) (by kernel_rfl) loops73_ok (rangesOk_nil (by kernel_rfl)) fit73 (fun s o h => (ev73 s.1).trans ((hold_eq _).symm.trans h))
def pin62 : Shape := [(.slot 0, .dat (.list .str)), (.slot 1, .fn 61 [])]
def pout62 : Shape := [(.slot 0, .dat .bool)]
def env62 : Env := {
  tab := tab
  glob := glob
  spec := fun
    | _ => none
  spec2 := fun
    | 73, [61] => some sp73
    | _, _ => none }

def orc62 : Orc := ⟨9, fun _ => none, fun
  | 0 => kp [0, 1] []
  | 1 => kp [4] []
  | _ => [], fun | _ => false⟩
noncomputable def body62 : Code := Tryd.f62.body.getD .skip
def loops62 : Nat → Option (Sum) := fun | _ => none
theorem loops62_ok : LoopsOk env62 orc62 loops62 body62 := loopsOk_nil (by kernel_rfl)
def G62 (x0 : (List (List UInt8))) : Option (Bool × Unit) :=
  bif (P73 x0) then
  let q1 : (Int × Unit) := F73 x0
  let v2 : Bool := (decide (q1.1 ≥ (0 : Int)))
  some (v2, ())
  else none
def P62 (x0 : (List (List UInt8))) : Bool := (hold (G62 x0)).isSome
def F62 (x0 : (List (List UInt8))) : (Bool × Unit) := (hold (G62 x0)).getD (Tup.zero pout62)
theorem P62_of (x0 : (List (List UInt8))) {r : (Bool × Unit)} (h : G62 x0 = some r) : P62 x0 = true := by unfold P62; rw [hold_eq, h]; rfl
theorem F62_of (x0 : (List (List UInt8))) {r : (Bool × Unit)} (h : G62 x0 = some r) : F62 x0 = r := by unfold F62; rw [hold_eq, h]; rfl
theorem ev62 (x0 : (List (List UInt8))) : ev2 env62 orc62 loops62 body62 (mkSt pin62 (x0, ((), ()))) (retK3 env62 [.slot 4] pout62) = G62 x0 := by kernel_rfl
def sp62 : Spec2 := ⟨pin62, pout62, fun s => hold (G62 s.1)⟩
theorem fit62 : Fit Tryd.f62 [.slot 4] sp62 := ⟨by kernel_rfl, by kernel_rfl, by kernel_rfl, by kernel_rfl, by kernel_rfl, by decide, by decide, by decide⟩
theorem meets62 (hE : EnvOk Tryd.prog env62) (hm : Tryd.prog.follows .mixedOrders = true) : Meets2 Tryd.prog glob 62 sp62 :=
  meets2_of_ev2 (O := orc62) (L := loops62) (c := body62) (rs := [.slot 4]) hE (fun _ => rfl) hm Tryd.func62 Tryd.call62 (by kernel_rfl) (by kernel_rfl) loops62_ok (rangesOk_nil (by kernel_rfl)) fit62 (fun s o h => (ev62 s.1).trans ((hold_eq _).symm.trans h))
def env45 : Env := {
  tab := tab
  glob := glob
  spec := fun
    | _ => none
  spec2 := fun
    | 62, [61] => some sp62
    | _, _ => none }

def orc45 : Orc := ⟨8, fun _ => none, fun
  | 0 => kp [0] []
  | 1 => kp [0, 3] []
  | 2 => kp [2] []
  | _ => [], fun | _ => false⟩
noncomputable def body45 : Code := Tryd.f45.body.getD .skip
def loops45 : Nat → Option (Sum) := fun | _ => none
theorem loops45_nat : ∀ q f, loops45 q = some f → Natural f := by
  intro q f h
  cases h
theorem loops45_ok : LoopsOk env45 orc45 loops45 body45 := loopsOk_nil (by kernel_rfl)
def G45 (x0 : (List (List UInt8))) : Option (Bool) :=
  bif (P62 x0) then
  let q1 : (Bool × Unit) := F62 x0
  let v2 : Bool := (!q1.1)
  some (v2)
  else none
theorem ev45 (x0 : (List (List UInt8))) : ev2 env45 orc45 loops45 body45 (initSt 0 [⟨(.list .str), x0⟩]) (retT [(2, .dat .bool)] [.bool] fun x => x.1) = G45 x0 := by kernel_rfl
def P45 (x0 : (List (List UInt8))) : Bool := (hold (G45 x0)).isSome
def F45 (x0 : (List (List UInt8))) : Bool := (hold (G45 x0)).getD default
theorem G45_some (x0 : (List (List UInt8))) (h : P45 x0 = true) : G45 x0 = some (F45 x0) := by
  unfold P45 at h; unfold F45
  rw [hold_eq] at h ⊢
  exact some_getD h
theorem P45_of (x0 : (List (List UInt8))) {r : Bool} (h : G45 x0 = some r) : P45 x0 = true := by unfold P45; rw [hold_eq, h]; rfl
theorem F45_of (x0 : (List (List UInt8))) {r : Bool} (h : G45 x0 = some r) : F45 x0 = r := by unfold F45; rw [hold_eq, h]; rfl
def spec45 : Spec := ⟨[(.list .str)], [.dat .bool], fun | [a0] => P45 (a0.as (.list .str)) | _ => false, fun | [a0] => [⟨.bool, (F45 (a0.as (.list .str)))⟩] | _ => []⟩
theorem meets45 (hE : EnvOk Tryd.prog env45) (hm : Tryd.prog.follows .mixedOrders = true) : Meets Tryd.prog glob 45 spec45 :=
  meets_of_ev2 (O := orc45) (L := loops45) (c := body45) (slots := [2]) hE hm Tryd.func45 Tryd.call45 (by kernel_rfl) (by kernel_rfl) loops45_ok (rangesOk_nil (by kernel_rfl)) (by kernel_rfl) rfl (by decide) (fun ds hds hpre => by
  obtain ⟨x0, ds0, rfl, h0⟩ := datsS hds
  have h9 := dats0 h0; subst h9
  exact ev_ret (un := fun r => [⟨.bool, r⟩]) loops45_nat (fun _ => rfl) ((ev45 x0).trans (G45_some x0 hpre)))
def env46 : Env := {
  tab := tab
  glob := glob
  spec := fun
    | _ => none }

def orc46 : Orc := ⟨19, fun _ => none, fun
  | 0 => kp [0] []
  | 1 => kp [0, 8] []
  | 2 => kp [2, 3, 4] []
  | 3 => kp [0, 5] []
  | 4 => kp [2, 3, 4] []
  | _ => [], fun | _ => false⟩
noncomputable def body46 : Code := Tryd.f46.body.getD .skip
def loops46 : Nat → Option (Sum) := fun | _ => none
theorem loops46_nat : ∀ q f, loops46 q = some f → Natural f := by
  intro q f h
  cases h
theorem loops46_ok : LoopsOk env46 orc46 loops46 body46 := loopsOk_nil (by kernel_rfl)
def G46 (x0 : (List (List UInt8))) : Option ((List UInt8) × (List (List UInt8)) × Bool) :=
  let v1 : (List (List UInt8)) := ([] : (List (List UInt8)))
  let v2 : Int := ((List.length x0 : Nat) : Int)
  let v3 : Bool := (v2 == (0 : Int))
  bif v3 then
  let v4 : (List (List UInt8)) := ([] : (List (List UInt8)))
  some (([] : List UInt8), v4, false)
  else
  let v5 : Int := ((List.length x0 : Nat) : Int)
  let v6 : Int := (IntKind.i64.wrap (v5 - (1 : Int)))
  bif (decide (0 ≤ v6) && decide (v6 < List.length x0)) then
  let v7 : (List UInt8) := (List.getD x0 (Int.toNat v6) ([] : List UInt8))
  bif (sliceTest (0 : Int) v6 (List.length x0)) then
  let v8 : (List (List UInt8)) := (cut x0 (0 : Int) v6)
  some (v7, v8, true)
  else none
  else none
theorem ev46 (x0 : (List (List UInt8))) : ev2 env46 orc46 loops46 body46 (initSt 0 [⟨(.list .str), x0⟩]) (retT [(2, .dat .str), (3, .dat (.list .str)), (4, .dat .bool)] [.str, (.list .str), .bool] fun x => (x.1, x.2.1, x.2.2.1)) = G46 x0 := by kernel_rfl
def P46 (x0 : (List (List UInt8))) : Bool := (hold (G46 x0)).isSome
def F46 (x0 : (List (List UInt8))) : (List UInt8) × (List (List UInt8)) × Bool := (hold (G46 x0)).getD default
theorem G46_some (x0 : (List (List UInt8))) (h : P46 x0 = true) : G46 x0 = some (F46 x0) := by
  unfold P46 at h; unfold F46
  rw [hold_eq] at h ⊢
  exact some_getD h
theorem P46_of (x0 : (List (List UInt8))) {r : (List UInt8) × (List (List UInt8)) × Bool} (h : G46 x0 = some r) : P46 x0 = true := by unfold P46; rw [hold_eq, h]; rfl
theorem F46_of (x0 : (List (List UInt8))) {r : (List UInt8) × (List (List UInt8)) × Bool} (h : G46 x0 = some r) : F46 x0 = r := by unfold F46; rw [hold_eq, h]; rfl
def spec46 : Spec := ⟨[(.list .str)], [.dat .str, .dat (.list .str), .dat .bool], fun | [a0] => P46 (a0.as (.list .str)) | _ => false, fun | [a0] => [⟨.str, (F46 (a0.as (.list .str))).1⟩, ⟨(.list .str), (F46 (a0.as (.list .str))).2.1⟩, ⟨.bool, (F46 (a0.as (.list .str))).2.2⟩] | _ => []⟩
theorem meets46 (hE : EnvOk Tryd.prog env46) (hm : Tryd.prog.follows .mixedOrders = true) : Meets Tryd.prog glob 46 spec46 :=
  meets_of_ev2 (O := orc46) (L := loops46) (c := body46) (slots := [2, 3, 4]) hE hm Tryd.func46 Tryd.call46 (by kernel_rfl) (by kernel_rfl) loops46_ok (rangesOk_nil (by kernel_rfl)) (by kernel_rfl) rfl (by decide) (fun ds hds hpre => by
  obtain ⟨x0, ds0, rfl, h0⟩ := datsS hds
  have h9 := dats0 h0; subst h9
  exact ev_ret (un := fun r => [⟨.str, r.1⟩, ⟨(.list .str), r.2.1⟩, ⟨.bool, r.2.2⟩]) loops46_nat (fun _ => rfl) ((ev46 x0).trans (G46_some x0 hpre)))
def pin47 : Shape := [(.slot 0, .dat (.list t57))]
def pout47 : Shape := [(.slot 0, .fn 63 [1]), (.box 1, .bx 54 1), (.cell 1 0, .dat (.list t57))]
def env47 : Env := {
  tab := tab
  glob := glob
  spec := fun
    | _ => none }

def orc47 : Orc := ⟨4, fun _ => none, fun
  | 0 => kp [1] [(1, [0])]
  | 1 => kp [2] [(1, [0])]
  | _ => [], fun | _ => false⟩
noncomputable def body47 : Code := Tryd.f47.body.getD .skip
def loops47 : Nat → Option (Sum) := fun | _ => none
theorem loops47_ok : LoopsOk env47 orc47 loops47 body47 := loopsOk_nil (by kernel_rfl)
def G47 (x0 : (List D57)) : Option (Unit × (Unit × ((List D57) × Unit))) :=
  some ((), ((), (x0, ())))
def P47 (x0 : (List D57)) : Bool := (hold (G47 x0)).isSome
def F47 (x0 : (List D57)) : (Unit × (Unit × ((List D57) × Unit))) := (hold (G47 x0)).getD (Tup.zero pout47)
theorem P47_of (x0 : (List D57)) {r : (Unit × (Unit × ((List D57) × Unit)))} (h : G47 x0 = some r) : P47 x0 = true := by unfold P47; rw [hold_eq, h]; rfl
theorem F47_of (x0 : (List D57)) {r : (Unit × (Unit × ((List D57) × Unit)))} (h : G47 x0 = some r) : F47 x0 = r := by unfold F47; rw [hold_eq, h]; rfl
theorem ev47 (x0 : (List D57)) : ev2 env47 orc47 loops47 body47 (mkSt pin47 (x0, ())) (retK3 env47 [.slot 2] pout47) = G47 x0 := by kernel_rfl
def sp47 : Spec2 := ⟨pin47, pout47, fun s => hold (G47 s.1)⟩
theorem fit47 : Fit Tryd.f47 [.slot 2] sp47 := ⟨by kernel_rfl, by kernel_rfl, by kernel_rfl, by kernel_rfl, by kernel_rfl, by decide, by decide, by decide⟩
theorem meets47 (hE : EnvOk Tryd.prog env47) (hm : Tryd.prog.follows .mixedOrders = true) : Meets2 Tryd.prog glob 47 sp47 :=
  meets2_of_ev2 (O := orc47) (L := loops47) (c := body47) (rs := [.slot 2]) hE (fun _ => rfl) hm Tryd.func47 Tryd.call47 (by kernel_rfl) (by kernel_rfl) loops47_ok (rangesOk_nil (by kernel_rfl)) fit47 (fun s o h => (ev47 s.1).trans ((hold_eq _).symm.trans h))
def pin63 : Shape := [(.slot 1, .ptr 50000 0), (.box 50000, .bx 54 1), (.cell 50000 0, .dat (.list t57))]
abbrev Y63 : Type := Int × D57
def mk63 : List Dat → Option Y63 := mkT [(.int .i64), t57] fun x => (x.1, x.2.1)
def env63 : Env := {
  tab := tab
  glob := glob
  spec := fun
    | _ => none }

def orc63 : Orc := ⟨19, fun _ => none, fun
  | 0 => kp [0, 1, 3] [(50000, [0])]
  | 1 => kp [0, 1, 3, 8] [(50000, [0])]
  | 2 => kp [0, 1, 3] [(50000, [0])]
  | 3 => kp [0, 1, 3, 18] [(50000, [0])]
  | _ => [], fun | _ => false⟩
noncomputable def body63 : Code := Tryd.f63.body.getD .skip
def L63_1_sh : Shape := [(.slot 0, .yld), (.slot 1, .ptr 50000 0), (.slot 3, .dat (.int .i64)), (.box 50000, .bx 54 1), (.cell 50000 0, .dat (.list t57))]
def L63_1_x0 : Shape := [(.slot 0, .yld), (.slot 1, .ptr 50000 0), (.slot 3, .dat (.int .i64)), (.box 50000, .bx 54 1), (.cell 50000 0, .dat (.list t57))]
def L63_1_x1 : Shape := [(.slot 0, .yld), (.slot 1, .ptr 50000 0), (.slot 3, .dat (.int .i64)), (.box 50000, .bx 54 1), (.cell 50000 0, .dat (.list t57))]
def L63_1_pk (s : Tup L63_1_sh) : Int × (List D57) := (s.2.2.1, s.2.2.2.2.1)
def L63_1_un (s : Int × (List D57)) : Tup L63_1_sh := ((), ((), (s.1, ((), (s.2, ())))))
def L63_1_leave (x : (Int × (List D57)) ⊕ (Int × (List D57))) (V : Type) (K : Exit → St → YW Y63 V) : YW Y63 V := match x with
  | (.inl a) => K .ret (mkSt L63_1_x0 ((), ((), (a.1, ((), (a.2, ()))))))
  | (.inr a) => K (.exit 0) (mkSt L63_1_x1 ((), ((), (a.1, ((), (a.2, ()))))))
def L63_1_d (e : Exit) (st : St) : Option ((Int × (List D57)) ⊕ (Int × (List D57))) := match e with
  | .ret => (match unSt L63_1_x0 st with
    | some s => some (.inl (s.2.2.1, s.2.2.2.2.1))
    | none => none)
  | .exit 0 => (match unSt L63_1_x1 st with
    | some s => some (.inr (s.2.2.1, s.2.2.2.2.1))
    | none => none)
  | _ => none
def L63_1_r (s0 : Int) (s1 : (List D57)) : YW Y63 ((Int × (List D57)) ⊕ ((Int × (List D57)) ⊕ (Int × (List D57)))) :=
  let v3 : Bool := (decide (s0 ≥ (0 : Int)))
  bif v3 then
  bif (decide (0 ≤ s0) && decide (s0 < List.length s1)) then
  let v4 : D57 := (List.getD s1 (Int.toNat s0) z57)
  yieldW true (s0, v4) (let v7 : Bool := (!false)
  bif v7 then
  some ()
  else
  let v8 : Int := (IntKind.i64.wrap (s0 - (1 : Int)))
  none) (
  let v5 : Bool := (!true)
  bif v5 then
  some ([], .inr (.inl (s0, s1)))
  else
  let v6 : Int := (IntKind.i64.wrap (s0 - (1 : Int)))
  some ([], .inl (v6, s1)))
  else none
  else
  some ([], .inr (.inr (s0, s1)))
def L63_1 : Int × (List D57) → YW Y63 ((Int × (List D57)) ⊕ (Int × (List D57))) := LimW (fun s => L63_1_r s.1 s.2)
def L63_1_sum : SumY Y63 := limSumW L63_1_sh L63_1_pk (fun s => L63_1_r s.1 s.2) L63_1_leave
theorem L63_1_nat : NaturalY L63_1_sum := natural_limW fun x V K => by
  rcases x with x|x <;> exact (YW.bind_pure _ _).symm
theorem L63_1_dok : ∀ e st x, e ≠ .normal → L63_1_d e st = some x → ∀ V (K : Exit → St → YW Y63 V), K e st = L63_1_leave x V K := by
  intro e st x _ h R K
  unfold L63_1_d at h
  split at h
  · split at h
    · rename_i s hs; cases h; rw [unSt_some hs]; rfl
    · cases h
  · split at h
    · rename_i s hs; cases h; rw [unSt_some hs]; rfl
    · cases h
  · cases h
def loops63 : Nat → Option (SumY Y63) := fun | 1 => some L63_1_sum | _ => none
theorem loops63_nat : ∀ q f, loops63 q = some f → NaturalY f := by
  intro q f h
  unfold loops63 at h
  split at h
  · cases h; exact L63_1_nat
  · cases h
noncomputable def L63_1_code : Code := (loopsOf body63).getD 0 .skip
theorem L63_1_round (s0 : Int) (s1 : (List D57)) : evY env63 orc63 loops63 [(.int .i64), t57] mk63 L63_1_code (mkSt L63_1_sh ((), ((), (s0, ((), (s1, ())))))) (backW (back L63_1_sh L63_1_pk L63_1_d)) retOnly = L63_1_r s0 s1 := by kernel_rfl
theorem L63_1_ok : SumYOk env63 orc63 loops63 [(.int .i64), t57] mk63 L63_1_code L63_1_sum := sumYOk_lim (un := L63_1_un) loops63_nat (fun _ => rfl) L63_1_dok fun s => L63_1_round s.1 s.2
theorem loops63_all : loopsOf body63 = [L63_1_code] := by kernel_rfl
theorem L63_1_key : lookY loops63 (keyOf L63_1_code) = some L63_1_sum := by kernel_rfl
theorem loops63_ok : LoopsYOk env63 orc63 loops63 [(.int .i64), t57] mk63 body63 := by
  intro c hc f hf
  rw [loops63_all] at hc
  simp only [List.mem_cons, List.not_mem_nil, or_false] at hc
  subst hc
  · rw [L63_1_key] at hf; cases hf; exact L63_1_ok
def W63 (x0 : (List D57)) : YW Y63 Unit :=
  let v1 : Int := ((List.length x0 : Nat) : Int)
  let v2 : Int := (IntKind.i64.wrap (v1 - (1 : Int)))
  YW.bind (L63_1 (v2, x0)) fun x => match x with
  | (.inl r9) =>
  some ([], ())
  | (.inr r10) =>
  some ([], ())
theorem ev63 (x0 : (List D57)) : evY env63 orc63 loops63 [(.int .i64), t57] mk63 body63 (mkSt ((.slot 0, .yld) :: pin63) ((), ((), ((), (x0, ()))))) endY retOnly = W63 x0 := by kernel_rfl
def I63 : ISpec := ⟨pin63, Y63, fun (y : Y63) => datsOf [(.int .i64), t57] (y.1, (y.2, ())), fun s => (W63 s.2.2.1).ys⟩
theorem iter63 (hE : EnvOk Tryd.prog env63) (hm : Tryd.prog.follows .mixedOrders = true) : IterOk Tryd.prog glob 63 I63 :=
  iterOk_of_evY (I := I63) (O := orc63) (L := loops63) (c := body63) (mk := mk63) hE hm Tryd.func63 Tryd.call63 (by kernel_rfl) (by kernel_rfl) (mkT_ok (ts := [(.int .i64), t57]) (un := fun (y : Y63) => (y.1, (y.2, ()))) fun _ => rfl) loops63_ok (by kernel_rfl) (by decide) (by decide) (fun s ys h => (ev63 s.2.2.1).trans (YW.ys_some h))
def env48 : Env := {
  tab := tab
  glob := glob
  spec := fun
    | 32 => some spec32
    | _ => none }

def orc48 : Orc := ⟨15, fun _ => none, fun
  | 0 => kp [1, 2] [(2, [0, 1])]
  | 1 => kp [1, 2, 6] [(2, [0, 1])]
  | 2 => kp [4] []
  | 3 => kp [4] []
  | _ => [], fun | _ => false⟩
noncomputable def body48 : Code := Tryd.f48.body.getD .skip
def loops48 : Nat → Option (Sum) := fun | _ => none
theorem loops48_nat : ∀ q f, loops48 q = some f → Natural f := by
  intro q f h
  cases h
theorem loops48_ok : LoopsOk env48 orc48 loops48 body48 := loopsOk_nil (by kernel_rfl)
def G48 (x0 : D57) (x1 : (List UInt8)) : Option ((List UInt8)) :=
  bif x0.2.1 then
  bif (P32 x0.1 x1) then
  let v1 : (List UInt8) := (F32 x0.1 x1)
  some (v1)
  else none
  else
  bif (P32 x1 x0.1) then
  let v2 : (List UInt8) := (F32 x1 x0.1)
  some (v2)
  else none
theorem ev48 (x0 : D57) (x1 : (List UInt8)) : ev2 env48 orc48 loops48 body48 (initSt 0 [⟨t57, x0⟩, ⟨.str, x1⟩]) (retT [(4, .dat .str)] [.str] fun x => x.1) = G48 x0 x1 := by kernel_rfl
def P48 (x0 : D57) (x1 : (List UInt8)) : Bool := (hold (G48 x0 x1)).isSome
def F48 (x0 : D57) (x1 : (List UInt8)) : (List UInt8) := (hold (G48 x0 x1)).getD default
theorem G48_some (x0 : D57) (x1 : (List UInt8)) (h : P48 x0 x1 = true) : G48 x0 x1 = some (F48 x0 x1) := by
  unfold P48 at h; unfold F48
  rw [hold_eq] at h ⊢
  exact some_getD h
theorem P48_of (x0 : D57) (x1 : (List UInt8)) {r : (List UInt8)} (h : G48 x0 x1 = some r) : P48 x0 x1 = true := by unfold P48; rw [hold_eq, h]; rfl
theorem F48_of (x0 : D57) (x1 : (List UInt8)) {r : (List UInt8)} (h : G48 x0 x1 = some r) : F48 x0 x1 = r := by unfold F48; rw [hold_eq, h]; rfl
def spec48 : Spec := ⟨[t57, .str], [.dat .str], fun | [a0, a1] => P48 (a0.as t57) (a1.as .str) | _ => false, fun | [a0, a1] => [⟨.str, (F48 (a0.as t57) (a1.as .str))⟩] | _ => []⟩
theorem meets48 (hE : EnvOk Tryd.prog env48) (hm : Tryd.prog.follows .mixedOrders = true) : Meets Tryd.prog glob 48 spec48 :=
  meets_of_ev2 (O := orc48) (L := loops48) (c := body48) (slots := [4]) hE hm Tryd.func48 Tryd.call48 (by kernel_rfl) (by kernel_rfl) loops48_ok (rangesOk_nil (by kernel_rfl)) (by kernel_rfl) rfl (by decide) (fun ds hds hpre => by
  obtain ⟨x0, ds0, rfl, h0⟩ := datsS hds
  obtain ⟨x1, ds1, rfl, h1⟩ := datsS h0
  have h9 := dats0 h1; subst h9
  exact ev_ret (un := fun r => [⟨.str, r⟩]) loops48_nat (fun _ => rfl) ((ev48 x0 x1).trans (G48_some x0 x1 hpre)))
def env21 : Env := {
  tab := tab
  glob := glob
  spec := fun
    | 29 => some spec29
    | 40 => some spec40
    | 45 => some spec45
    | 46 => some spec46
    | 48 => some spec48
    | _ => none
  spec2 := fun
    | 47, [] => some sp47
    | _, _ => none }

def orc21 : Orc := ⟨79, fun _ => none, fun
  | 0 => kp [0, 1, 2, 3, 4] []
  | 1 => kp [0, 1, 2, 3, 4, 30] []
  | 2 => kp [10] []
  | 3 => kp [0, 1, 2, 3, 4, 11] []
  | 4 => kp [0, 1, 2, 3, 4, 11, 32] []
  | 5 => kp [0, 1, 2, 3, 11, 12, 13, 14] []
  | 6 => kp [0, 1, 2, 3, 11, 12, 13, 40] []
  | 7 => kp [10] []
  | 8 => kp [0, 1, 2, 3, 4, 11, 12] []
  | 9 => kp [0, 1, 2, 3, 4, 11, 12, 15] []
  | 10 => kp [0, 1, 2, 3, 4, 11, 15] []
  | 11 => kp [0, 1, 2, 3, 4, 11, 15, 54] []
  | 12 => kp [0, 1, 2, 3, 4, 11] []
  | 13 => kp [0, 1, 2, 3, 4, 11] []
  | 14 => kp [0, 4, 11, 16] [(16, [0])]
  | 15 => kp [0, 4, 16, 65] [(16, [0]), (6600001, [0])]
  | 16 => kp [0, 4, 16, 18, 65] [(16, [0]), (18, [0, 1])]
  | 17 => kp [0, 4, 16, 65] [(16, [0])]
  | 18 => kp [10] []
  | _ => [], fun | _ => false⟩
noncomputable def body21 : Code := Tryd.f21.body.getD .skip
def L21_4_sh : Shape := [(.slot 0, .dat .str), (.slot 1, .dat (.int .i64)), (.slot 2, .dat (.int .i64)), (.slot 3, .dat .str), (.slot 4, .dat (.list .str)), (.slot 11, .own 58 t57)]
def L21_4_x0 : Shape := [(.slot 10, .dat .bool)]
def L21_4_x1 : Shape := [(.slot 0, .dat .str), (.slot 1, .dat (.int .i64)), (.slot 2, .dat (.int .i64)), (.slot 3, .dat .str), (.slot 4, .dat (.list .str)), (.slot 11, .own 58 t57)]
def L21_4_pk (s : Tup L21_4_sh) : (List UInt8) × Int × Int × (List UInt8) × (List (List UInt8)) × (List D57) := (s.1, s.2.1, s.2.2.1, s.2.2.2.1, s.2.2.2.2.1, s.2.2.2.2.2.1)
def L21_4_un (s : (List UInt8) × Int × Int × (List UInt8) × (List (List UInt8)) × (List D57)) : Tup L21_4_sh := (s.1, (s.2.1, (s.2.2.1, (s.2.2.2.1, (s.2.2.2.2.1, (s.2.2.2.2.2, ()))))))
def L21_4_leave (x : (Bool) ⊕ ((List UInt8) × Int × Int × (List UInt8) × (List (List UInt8)) × (List D57))) (R : Type) (K : Cont R) : Option R := match x with
  | (.inl a) => K .ret (mkSt L21_4_x0 (a, ()))
  | (.inr a) => K (.exit 0) (mkSt L21_4_x1 (a.1, (a.2.1, (a.2.2.1, (a.2.2.2.1, (a.2.2.2.2.1, (a.2.2.2.2.2, ())))))))
def L21_4_d (e : Exit) (st : St) : Option ((Bool) ⊕ ((List UInt8) × Int × Int × (List UInt8) × (List (List UInt8)) × (List D57))) := match e with
  | .ret => (match unSt L21_4_x0 st with
    | some s => some (.inl s.1)
    | none => none)
  | .exit 0 => (match unSt L21_4_x1 st with
    | some s => some (.inr (s.1, s.2.1, s.2.2.1, s.2.2.2.1, s.2.2.2.2.1, s.2.2.2.2.2.1))
    | none => none)
  | _ => none
def L21_4_r (s0 : (List UInt8)) (s1 : Int) (s2 : Int) (s3 : (List UInt8)) (s4 : (List (List UInt8))) (s5 : (List D57)) : Option (((List UInt8) × Int × Int × (List UInt8) × (List (List UInt8)) × (List D57)) ⊕ ((Bool) ⊕ ((List UInt8) × Int × Int × (List UInt8) × (List (List UInt8)) × (List D57)))) :=
  let v8 : Bool := (decide (s1 > (1 : Int)))
  bif v8 then
  bif (P46 s4) then
  let v9 : ((List UInt8) × ((List (List UInt8)) × Bool)) := (F46 s4)
  let v10 : Bool := (!v9.2.2)
  bif v10 then
  some (.inr (.inl false))
  else
  bif (P40 s1) then
  let v11 : Int := (F40 s1)
  let v12 : Bool := (decide (s2 ≥ v11))
  let v13 : (List D57) := (List.set (List.replicate 1 z57) 0 (v9.1, (v12, ())))
  bif (decide (List.length (List.take (List.length s5) s5) + List.length v13 ≤ 100000000000)) then
  let v14 : (List D57) := ((List.take (List.length s5) s5) ++ v13)
  let v15 : Bool := (decide (s2 ≥ v11))
  bif v15 then
  let v16 : Int := (IntKind.i64.wrap (s1 - v11))
  let v17 : Int := (IntKind.i64.wrap (s2 - v11))
  some (.inl (s0, v16, v17, s3, v9.2.1, v14))
  else
  some (.inl (s0, v11, s2, s3, v9.2.1, v14))
  else none
  else none
  else none
  else
  some (.inr (.inr (s0, s1, s2, s3, s4, s5)))
def L21_4 : (List UInt8) × Int × Int × (List UInt8) × (List (List UInt8)) × (List D57) → Option ((Bool) ⊕ ((List UInt8) × Int × Int × (List UInt8) × (List (List UInt8)) × (List D57))) := Lim (fun s => L21_4_r s.1 s.2.1 s.2.2.1 s.2.2.2.1 s.2.2.2.2.1 s.2.2.2.2.2)
def L21_4_sum : Sum := limSum L21_4_sh L21_4_pk (fun s => L21_4_r s.1 s.2.1 s.2.2.1 s.2.2.2.1 s.2.2.2.2.1 s.2.2.2.2.2) L21_4_leave
theorem L21_4_nat : Natural L21_4_sum := natural_lim fun x R K => by
  rcases x with x|x <;> rfl
theorem L21_4_dok : ∀ e st x, e ≠ .normal → L21_4_d e st = some x → ∀ R (K : Cont R), K e st = L21_4_leave x R K := by
  intro e st x _ h R K
  unfold L21_4_d at h
  split at h
  · split at h
    · rename_i s hs; cases h; rw [unSt_some hs]; rfl
    · cases h
  · split at h
    · rename_i s hs; cases h; rw [unSt_some hs]; rfl
    · cases h
  · cases h
def R21_16_esh : Shape := [(.slot 0, .dat .str), (.slot 4, .dat (.list .str)), (.slot 16, .ptr 16 0), (.box 16, .bx 9 1), (.cell 16 0, .dat .str)]
def R21_16_pk (s : Tup R21_16_esh) : (List UInt8) × (List (List UInt8)) × (List UInt8) := (s.1, s.2.1, s.2.2.2.2.1)
def R21_16_un (s : (List UInt8) × (List (List UInt8)) × (List UInt8)) : Tup R21_16_esh := (s.1, (s.2.1, ((), ((), (s.2.2, ())))))
def R21_16_xo (x : ((List UInt8) × (List (List UInt8)) × (List UInt8))) : Exit × Tup R21_16_esh := match x with
  | a => (.ret, R21_16_un a)
def R21_16_leave (x : ((List UInt8) × (List (List UInt8)) × (List UInt8))) (R : Type) (K : Cont R) : Option R := match x with
  | a => K .ret (mkSt R21_16_esh (R21_16_un a))
theorem R21_16_lv (x : ((List UInt8) × (List (List UInt8)) × (List UInt8))) (R : Type) (K : Cont R) : R21_16_leave x R K = K (R21_16_xo x).1 (mkSt R21_16_esh (R21_16_xo x).2) := by
  rfl
theorem R21_16_lvn (x : ((List UInt8) × (List (List UInt8)) × (List UInt8))) (R : Type) (K : Cont R) : R21_16_leave x R K = (R21_16_leave x _ pairK).bind fun p => K p.1 p.2 := by
  rfl
def R21_16_d (e : Exit) (s : Tup R21_16_esh) : Option (((List UInt8) × (List (List UInt8)) × (List UInt8))) := match e with
  | _ => none
theorem R21_16_dk : ∀ x e v, R21_16_d x e = some v → R21_16_xo v = (x, e) ∧ ∃ c, jumpOf x = some c := by
  intro x e v h
  cases x <;> cases h
def R21_16_r (s0 : (List UInt8)) (s1 : (List (List UInt8))) (s2 : (List UInt8)) (y0 : Int) (y1 : D57) : Option (((List UInt8) × (List (List UInt8)) × (List UInt8)) ⊕ (((List UInt8) × (List (List UInt8)) × (List UInt8)))) :=
  bif (P48 y1 s2) then
  let v22 : (List UInt8) := (F48 y1 s2)
  some (.inl (s0, s1, v22))
  else none
def R21_16_step (b : (List UInt8) × (List (List UInt8)) × (List UInt8)) (y : Y63) : Option (((List UInt8) × (List (List UInt8)) × (List UInt8)) ⊕ (((List UInt8) × (List (List UInt8)) × (List UInt8)))) := R21_16_r b.1 b.2.1 b.2.2 y.1 y.2
def loops21 : Nat → Option (Sum) := fun | 4 => some L21_4_sum | 16 => some (rangeSum env21 63 65 R21_16_esh I63 R21_16_pk R21_16_un R21_16_step R21_16_leave) | _ => none
theorem loops21_nat : ∀ q f, loops21 q = some f → Natural f := by
  intro q f h
  unfold loops21 at h
  split at h
  · cases h; exact L21_4_nat
  · cases h; exact natural_range R21_16_lvn
  · cases h
noncomputable def L21_4_code : Code := (loopsOf body21).getD 0 .skip
theorem L21_4_round (s0 : (List UInt8)) (s1 : Int) (s2 : Int) (s3 : (List UInt8)) (s4 : (List (List UInt8))) (s5 : (List D57)) : ev2 env21 orc21 loops21 L21_4_code (mkSt L21_4_sh (s0, (s1, (s2, (s3, (s4, (s5, ()))))))) (back L21_4_sh L21_4_pk L21_4_d) = L21_4_r s0 s1 s2 s3 s4 s5 := by kernel_rfl
theorem L21_4_ok : SumOk env21 orc21 loops21 L21_4_code L21_4_sum := sumOk_lim (un := L21_4_un) loops21_nat (fun _ => rfl) L21_4_dok fun s => L21_4_round s.1 s.2.1 s.2.2.1 s.2.2.2.1 s.2.2.2.2.1 s.2.2.2.2.2
theorem loops21_all : loopsOf body21 = [L21_4_code] := by kernel_rfl
theorem L21_4_key : lookL loops21 (keyOf L21_4_code) = some L21_4_sum := by kernel_rfl
theorem loops21_ok : LoopsOk env21 orc21 loops21 body21 := by
  intro c hc f hf
  rw [loops21_all] at hc
  simp only [List.mem_cons, List.not_mem_nil, or_false] at hc
  subst hc
  · rw [L21_4_key] at hf; cases hf; exact L21_4_ok
noncomputable def R21_16_code : Code := (rangesOf body21).getD 0 .skip
theorem R21_16_round (s0 : (List UInt8)) (s1 : (List (List UInt8))) (s2 : (List UInt8)) (y0 : Int) (y1 : D57) : roundQ env21 orc21 loops21 R21_16_esh R21_16_pk R21_16_d R21_16_code (I63.enc (y0, y1)) (s0, (s1, ((), ((), (s2, ()))))) = R21_16_r s0 s1 s2 y0 y1 := by kernel_rfl
theorem R21_16_form : R21_16_code = .rangeFunc (.tmp 65) (rgPs R21_16_code) (rgAsg R21_16_code) (rgBody R21_16_code) := by kernel_rfl
theorem R21_16_len (y : Y63) : (rgPs R21_16_code).toList.length = (I63.enc y).length := by kernel_rfl
theorem R21_16_ok (hE : EnvOk Tryd.prog env21) (hm : Tryd.prog.follows .mixedOrders = true) (hI : IterOk Tryd.prog glob 63 I63) : RangeOk Tryd.prog env21 orc21.n R21_16_code (rangeSum env21 63 65 R21_16_esh I63 R21_16_pk R21_16_un R21_16_step R21_16_leave) :=
  rangeOk' (L := loops21) hE hm hI R21_16_form (loopsOk_nil (by kernel_rfl)) (loopsOk_nil (by kernel_rfl)) (by kernel_rfl) (by kernel_rfl) (by kernel_rfl) (by kernel_rfl) (pk := R21_16_pk) (un := R21_16_un) (fun _ => rfl) R21_16_dk R21_16_lv R21_16_len fun b y => R21_16_round b.1 b.2.1 b.2.2 y.1 y.2
theorem ranges21_all : rangesOf body21 = [R21_16_code] := by kernel_rfl
theorem R21_16_key : lookL loops21 (keyOf R21_16_code) = some (rangeSum env21 63 65 R21_16_esh I63 R21_16_pk R21_16_un R21_16_step R21_16_leave) := by kernel_rfl
theorem ranges21_ok (hE : EnvOk Tryd.prog env21) (hm : Tryd.prog.follows .mixedOrders = true) (hI63 : IterOk Tryd.prog glob 63 I63) : RangesOk Tryd.prog env21 orc21.n loops21 body21 := by
  intro c hc f hf
  rw [ranges21_all] at hc
  simp only [List.mem_cons, List.not_mem_nil, or_false] at hc
  subst hc
  · rw [R21_16_key] at hf; cases hf; exact R21_16_ok hE hm hI63
def G21 (x0 : (List UInt8)) (x1 : Int) (x2 : Int) (x3 : (List UInt8)) (x4 : (List (List UInt8))) : Option (Bool) :=
  let v1 : Bool := (decide (x2 < (0 : Int)))
  let v2 : Bool := (decide (x2 ≥ x1))
  let v3 : Bool := (bif v1 then true else v2)
  bif ((P45 x4) || !(!v3 && true)) then
  let v4 : Bool := (F45 x4)
  let v5 : Bool := (!v4)
  let v6 : Bool := (bif v3 then true else v5)
  bif v6 then
  some (false)
  else
  let v7 : (List D57) := ([] : (List D57))
  Option.bind (L21_4 (x0, x1, x2, x3, x4, v7)) fun x => match x with
  | (.inl r18) =>
  some (r18)
  | (.inr r19) =>
  bif (P29 r19.2.2.2.1) then
  let v20 : (List UInt8) := (F29 r19.2.2.2.1)
  bif (P47 (List.take (List.length r19.2.2.2.2.2) r19.2.2.2.2.2)) then
  let q21 : (Unit × (Unit × ((List D57) × Unit))) := F47 (List.take (List.length r19.2.2.2.2.2) r19.2.2.2.2.2)
  Option.bind ((W63 q21.2.2.1).ys) fun ys => Option.bind (foldX R21_16_step ys (r19.1, r19.2.2.2.2.1, v20)) fun z => match z with
  | .inl (r23 : (List UInt8) × (List (List UInt8)) × (List UInt8)) =>
  let v24 : Int := ((List.length r23.2.1 : Nat) : Int)
  let v25 : Bool := (v24 == (0 : Int))
  let v26 : Bool := (r23.2.2 == r23.1)
  let v27 : Bool := (bif v25 then v26 else false)
  some (v27)
  | .inr r23 =>
  none
  else none
  else none
  else none
theorem ev21 (x0 : (List UInt8)) (x1 : Int) (x2 : Int) (x3 : (List UInt8)) (x4 : (List (List UInt8))) : ev2 env21 orc21 loops21 body21 (initSt 0 [⟨.str, x0⟩, ⟨(.int .i64), x1⟩, ⟨(.int .i64), x2⟩, ⟨.str, x3⟩, ⟨(.list .str), x4⟩]) (retT [(10, .dat .bool)] [.bool] fun x => x.1) = G21 x0 x1 x2 x3 x4 := by kernel_rfl
def P21 (x0 : (List UInt8)) (x1 : Int) (x2 : Int) (x3 : (List UInt8)) (x4 : (List (List UInt8))) : Bool := (hold (G21 x0 x1 x2 x3 x4)).isSome
def F21 (x0 : (List UInt8)) (x1 : Int) (x2 : Int) (x3 : (List UInt8)) (x4 : (List (List UInt8))) : Bool := (hold (G21 x0 x1 x2 x3 x4)).getD default
theorem G21_some (x0 : (List UInt8)) (x1 : Int) (x2 : Int) (x3 : (List UInt8)) (x4 : (List (List UInt8))) (h : P21 x0 x1 x2 x3 x4 = true) : G21 x0 x1 x2 x3 x4 = some (F21 x0 x1 x2 x3 x4) := by
  unfold P21 at h; unfold F21
  rw [hold_eq] at h ⊢
  exact some_getD h
theorem P21_of (x0 : (List UInt8)) (x1 : Int) (x2 : Int) (x3 : (List UInt8)) (x4 : (List (List UInt8))) {r : Bool} (h : G21 x0 x1 x2 x3 x4 = some r) : P21 x0 x1 x2 x3 x4 = true := by unfold P21; rw [hold_eq, h]; rfl
theorem F21_of (x0 : (List UInt8)) (x1 : Int) (x2 : Int) (x3 : (List UInt8)) (x4 : (List (List UInt8))) {r : Bool} (h : G21 x0 x1 x2 x3 x4 = some r) : F21 x0 x1 x2 x3 x4 = r := by unfold F21; rw [hold_eq, h]; rfl
def spec21 : Spec := ⟨[.str, (.int .i64), (.int .i64), .str, (.list .str)], [.dat .bool], fun | [a0, a1, a2, a3, a4] => P21 (a0.as .str) (a1.as (.int .i64)) (a2.as (.int .i64)) (a3.as .str) (a4.as (.list .str)) | _ => false, fun | [a0, a1, a2, a3, a4] => [⟨.bool, (F21 (a0.as .str) (a1.as (.int .i64)) (a2.as (.int .i64)) (a3.as .str) (a4.as (.list .str)))⟩] | _ => []⟩
theorem meets21 (hE : EnvOk Tryd.prog env21) (hm : Tryd.prog.follows .mixedOrders = true) (hI63 : IterOk Tryd.prog glob 63 I63) : Meets Tryd.prog glob 21 spec21 :=
  meets_of_ev2 (O := orc21) (L := loops21) (c := body21) (slots := [10]) hE hm Tryd.func21 Tryd.call21 (by kernel_rfl) (by kernel_rfl) loops21_ok (ranges21_ok hE hm hI63) (by kernel_rfl) rfl (by decide) (fun ds hds hpre => by
  obtain ⟨x0, ds0, rfl, h0⟩ := datsS hds
  obtain ⟨x1, ds1, rfl, h1⟩ := datsS h0
  obtain ⟨x2, ds2, rfl, h2⟩ := datsS h1
  obtain ⟨x3, ds3, rfl, h3⟩ := datsS h2
  obtain ⟨x4, ds4, rfl, h4⟩ := datsS h3
  have h9 := dats0 h4; subst h9
  exact ev_ret (un := fun r => [⟨.bool, r⟩]) loops21_nat (fun _ => rfl) ((ev21 x0 x1 x2 x3 x4).trans (G21_some x0 x1 x2 x3 x4 hpre)))
def env23 : Env := {
  tab := tab
  glob := glob
  spec := fun
    | 30 => some spec30
    | 40 => some spec40
    | 45 => some spec45
    | 46 => some spec46
    | 48 => some spec48
    | 51 => some spec51
    | _ => none
  spec2 := fun
    | 47, [] => some sp47
    | _, _ => none }

def orc23 : Orc := ⟨137, fun _ => none, fun
  | 0 => kp [0, 1, 2, 3, 4] []
  | 1 => kp [0, 1, 2, 3, 4, 21] []
  | 2 => kp [10] []
  | 3 => kp [0, 1, 2, 3, 4, 44] []
  | 4 => kp [10] []
  | 5 => kp [0, 1, 2, 3, 4, 55] []
  | 6 => kp [10] []
  | 7 => kp [0, 1, 2, 3, 4, 11] []
  | 8 => kp [0, 1, 2, 3, 4, 11, 12] []
  | 9 => kp [0, 1, 2, 3, 4, 11, 12, 69] []
  | 10 => kp [0, 1, 2, 3, 11, 12, 13, 14, 15] []
  | 11 => kp [0, 1, 2, 3, 11, 12, 13, 14, 77] []
  | 12 => kp [10] []
  | 13 => kp [0, 1, 2, 3, 4, 11, 12, 13] []
  | 14 => kp [0, 1, 2, 3, 4, 11, 12, 13, 16] []
  | 15 => kp [0, 1, 2, 3, 4, 11, 12, 16] []
  | 16 => kp [0, 1, 2, 3, 4, 11, 12, 16, 91] []
  | 17 => kp [0, 1, 2, 3, 4, 11, 12] []
  | 18 => kp [0, 1, 2, 3, 4, 11, 12] []
  | 19 => kp [0, 2, 4, 11, 12, 17, 18] [(17, [0]), (18, [0])]
  | 20 => kp [0, 2, 4, 11, 17, 18, 102] [(17, [0]), (18, [0])]
  | 21 => kp [0, 2, 4, 11, 17, 18, 105] [(17, [0]), (18, [0])]
  | 22 => kp [10] []
  | 23 => kp [0, 2, 4, 11, 17, 18] [(17, [0]), (18, [0])]
  | 24 => kp [0, 2] [] ++ [(.slot 4, .frz)] ++ kp [17, 18, 113] [(17, [0]), (18, [0]), (11400001, [0])]
  | 25 => kp [0, 2, 4, 17, 18, 20, 113] [(17, [0]), (18, [0]), (20, [0, 1])]
  | 26 => kp [0, 2, 4, 17, 18, 20, 113, 117] [(17, [0]), (18, [0]), (20, [0, 1])]
  | 27 => kp [0, 2, 4, 17, 18, 20, 113] [(17, [0]), (18, [0]), (20, [0, 1])]
  | 28 => kp [0, 2, 4, 17, 18, 113] [(17, [0]), (18, [0])]
  | 29 => kp [10] []
  | _ => [], fun | _ => false⟩
noncomputable def body23 : Code := Tryd.f23.body.getD .skip
def L23_9_sh : Shape := [(.slot 0, .dat .str), (.slot 1, .dat (.int .i64)), (.slot 2, .dat .str), (.slot 3, .dat (.int .i64)), (.slot 4, .dat (.list .str)), (.slot 11, .own 58 t57), (.slot 12, .dat .bool)]
def L23_9_x0 : Shape := [(.slot 10, .dat .bool)]
def L23_9_x1 : Shape := [(.slot 0, .dat .str), (.slot 1, .dat (.int .i64)), (.slot 2, .dat .str), (.slot 3, .dat (.int .i64)), (.slot 4, .dat (.list .str)), (.slot 11, .own 58 t57), (.slot 12, .dat .bool)]
def L23_9_pk (s : Tup L23_9_sh) : (List UInt8) × Int × (List UInt8) × Int × (List (List UInt8)) × (List D57) × Bool := (s.1, s.2.1, s.2.2.1, s.2.2.2.1, s.2.2.2.2.1, s.2.2.2.2.2.1, s.2.2.2.2.2.2.1)
def L23_9_un (s : (List UInt8) × Int × (List UInt8) × Int × (List (List UInt8)) × (List D57) × Bool) : Tup L23_9_sh := (s.1, (s.2.1, (s.2.2.1, (s.2.2.2.1, (s.2.2.2.2.1, (s.2.2.2.2.2.1, (s.2.2.2.2.2.2, ())))))))
def L23_9_leave (x : (Bool) ⊕ ((List UInt8) × Int × (List UInt8) × Int × (List (List UInt8)) × (List D57) × Bool)) (R : Type) (K : Cont R) : Option R := match x with
  | (.inl a) => K .ret (mkSt L23_9_x0 (a, ()))
  | (.inr a) => K (.exit 1) (mkSt L23_9_x1 (a.1, (a.2.1, (a.2.2.1, (a.2.2.2.1, (a.2.2.2.2.1, (a.2.2.2.2.2.1, (a.2.2.2.2.2.2, ()))))))))
def L23_9_d (e : Exit) (st : St) : Option ((Bool) ⊕ ((List UInt8) × Int × (List UInt8) × Int × (List (List UInt8)) × (List D57) × Bool)) := match e with
  | .ret => (match unSt L23_9_x0 st with
    | some s => some (.inl s.1)
    | none => none)
  | .exit 1 => (match unSt L23_9_x1 st with
    | some s => some (.inr (s.1, s.2.1, s.2.2.1, s.2.2.2.1, s.2.2.2.2.1, s.2.2.2.2.2.1, s.2.2.2.2.2.2.1))
    | none => none)
  | _ => none
def L23_9_r (s0 : (List UInt8)) (s1 : Int) (s2 : (List UInt8)) (s3 : Int) (s4 : (List (List UInt8))) (s5 : (List D57)) (s6 : Bool) : Option (((List UInt8) × Int × (List UInt8) × Int × (List (List UInt8)) × (List D57) × Bool) ⊕ ((Bool) ⊕ ((List UInt8) × Int × (List UInt8) × Int × (List (List UInt8)) × (List D57) × Bool))) :=
  let v25 : Bool := (decide (s1 < s3))
  bif v25 then
  bif (P46 s4) then
  let v26 : ((List UInt8) × ((List (List UInt8)) × Bool)) := (F46 s4)
  let v27 : Bool := (!v26.2.2)
  bif v27 then
  some (.inr (.inl false))
  else
  bif (P40 s3) then
  let v28 : Int := (F40 s3)
  let v29 : Bool := (decide (s1 > v28))
  let v30 : (List D57) := (List.set (List.replicate 1 z57) 0 (v26.1, (v29, ())))
  bif (decide (List.length (List.take (List.length s5) s5) + List.length v30 ≤ 100000000000)) then
  let v31 : (List D57) := ((List.take (List.length s5) s5) ++ v30)
  let v32 : Bool := (decide (s1 > v28))
  bif v32 then
  let v33 : Int := (IntKind.i64.wrap (s1 - v28))
  let v34 : Int := (IntKind.i64.wrap (s3 - v28))
  some (.inl (s0, v33, s2, v34, v26.2.1, v31, false))
  else
  some (.inl (s0, s1, s2, v28, v26.2.1, v31, s6))
  else none
  else none
  else none
  else
  some (.inr (.inr (s0, s1, s2, s3, s4, s5, s6)))
def L23_9 : (List UInt8) × Int × (List UInt8) × Int × (List (List UInt8)) × (List D57) × Bool → Option ((Bool) ⊕ ((List UInt8) × Int × (List UInt8) × Int × (List (List UInt8)) × (List D57) × Bool)) := Lim (fun s => L23_9_r s.1 s.2.1 s.2.2.1 s.2.2.2.1 s.2.2.2.2.1 s.2.2.2.2.2.1 s.2.2.2.2.2.2)
def L23_9_sum : Sum := limSum L23_9_sh L23_9_pk (fun s => L23_9_r s.1 s.2.1 s.2.2.1 s.2.2.2.1 s.2.2.2.2.1 s.2.2.2.2.2.1 s.2.2.2.2.2.2) L23_9_leave
theorem L23_9_nat : Natural L23_9_sum := natural_lim fun x R K => by
  rcases x with x|x <;> rfl
theorem L23_9_dok : ∀ e st x, e ≠ .normal → L23_9_d e st = some x → ∀ R (K : Cont R), K e st = L23_9_leave x R K := by
  intro e st x _ h R K
  unfold L23_9_d at h
  split at h
  · split at h
    · rename_i s hs; cases h; rw [unSt_some hs]; rfl
    · cases h
  · split at h
    · rename_i s hs; cases h; rw [unSt_some hs]; rfl
    · cases h
  · cases h
def R23_25_esh : Shape := [(.slot 0, .dat .str), (.slot 2, .dat .str), (.slot 4, .dat (.list .str)), (.slot 17, .ptr 17 0), (.slot 18, .ptr 18 0), (.box 17, .bx 9 1), (.cell 17 0, .dat .str), (.box 18, .bx 9 1), (.cell 18 0, .dat .str)]
def R23_25_pk (s : Tup R23_25_esh) : (List UInt8) × (List UInt8) × (List (List UInt8)) × (List UInt8) × (List UInt8) := (s.1, s.2.1, s.2.2.1, s.2.2.2.2.2.2.1, s.2.2.2.2.2.2.2.2.1)
def R23_25_un (s : (List UInt8) × (List UInt8) × (List (List UInt8)) × (List UInt8) × (List UInt8)) : Tup R23_25_esh := (s.1, (s.2.1, (s.2.2.1, ((), ((), ((), (s.2.2.2.1, ((), (s.2.2.2.2, ())))))))))
def R23_25_xo (x : ((List UInt8) × (List UInt8) × (List (List UInt8)) × (List UInt8) × (List UInt8))) : Exit × Tup R23_25_esh := match x with
  | a => (.ret, R23_25_un a)
def R23_25_leave (x : ((List UInt8) × (List UInt8) × (List (List UInt8)) × (List UInt8) × (List UInt8))) (R : Type) (K : Cont R) : Option R := match x with
  | a => K .ret (mkSt R23_25_esh (R23_25_un a))
theorem R23_25_lv (x : ((List UInt8) × (List UInt8) × (List (List UInt8)) × (List UInt8) × (List UInt8))) (R : Type) (K : Cont R) : R23_25_leave x R K = K (R23_25_xo x).1 (mkSt R23_25_esh (R23_25_xo x).2) := by
  rfl
theorem R23_25_lvn (x : ((List UInt8) × (List UInt8) × (List (List UInt8)) × (List UInt8) × (List UInt8))) (R : Type) (K : Cont R) : R23_25_leave x R K = (R23_25_leave x _ pairK).bind fun p => K p.1 p.2 := by
  rfl
def R23_25_d (e : Exit) (s : Tup R23_25_esh) : Option (((List UInt8) × (List UInt8) × (List (List UInt8)) × (List UInt8) × (List UInt8))) := match e with
  | _ => none
theorem R23_25_dk : ∀ x e v, R23_25_d x e = some v → R23_25_xo v = (x, e) ∧ ∃ c, jumpOf x = some c := by
  intro x e v h
  cases x <;> cases h
def R23_25_r (s0 : (List UInt8)) (s1 : (List UInt8)) (s2 : (List (List UInt8))) (s3 : (List UInt8)) (s4 : (List UInt8)) (y0 : Int) (y1 : D57) : Option (((List UInt8) × (List UInt8) × (List (List UInt8)) × (List UInt8) × (List UInt8)) ⊕ (((List UInt8) × (List UInt8) × (List (List UInt8)) × (List UInt8) × (List UInt8)))) :=
  bif y1.2.1 then
  bif (P48 y1 s3) then
  let v55 : (List UInt8) := (F48 y1 s3)
  bif (P48 y1 s4) then
  let v56 : (List UInt8) := (F48 y1 s4)
  some (.inl (s0, s1, s2, v55, v56))
  else none
  else none
  else
  bif (P48 y1 s4) then
  let v57 : (List UInt8) := (F48 y1 s4)
  some (.inl (s0, s1, s2, s3, v57))
  else none
def R23_25_step (b : (List UInt8) × (List UInt8) × (List (List UInt8)) × (List UInt8) × (List UInt8)) (y : Y63) : Option (((List UInt8) × (List UInt8) × (List (List UInt8)) × (List UInt8) × (List UInt8)) ⊕ (((List UInt8) × (List UInt8) × (List (List UInt8)) × (List UInt8) × (List UInt8)))) := R23_25_r b.1 b.2.1 b.2.2.1 b.2.2.2.1 b.2.2.2.2 y.1 y.2
def loops23 : Nat → Option (Sum) := fun | 9 => some L23_9_sum | 25 => some (rangeSum env23 63 113 R23_25_esh I63 R23_25_pk R23_25_un R23_25_step R23_25_leave) | _ => none
theorem loops23_nat : ∀ q f, loops23 q = some f → Natural f := by
  intro q f h
  unfold loops23 at h
  split at h
  · cases h; exact L23_9_nat
  · cases h; exact natural_range R23_25_lvn
  · cases h
noncomputable def L23_9_code : Code := (loopsOf body23).getD 0 .skip
theorem L23_9_round (s0 : (List UInt8)) (s1 : Int) (s2 : (List UInt8)) (s3 : Int) (s4 : (List (List UInt8))) (s5 : (List D57)) (s6 : Bool) : ev2 env23 orc23 loops23 L23_9_code (mkSt L23_9_sh (s0, (s1, (s2, (s3, (s4, (s5, (s6, ())))))))) (back L23_9_sh L23_9_pk L23_9_d) = L23_9_r s0 s1 s2 s3 s4 s5 s6 := by kernel_rfl
theorem L23_9_ok : SumOk env23 orc23 loops23 L23_9_code L23_9_sum := sumOk_lim (un := L23_9_un) loops23_nat (fun _ => rfl) L23_9_dok fun s => L23_9_round s.1 s.2.1 s.2.2.1 s.2.2.2.1 s.2.2.2.2.1 s.2.2.2.2.2.1 s.2.2.2.2.2.2
theorem loops23_all : loopsOf body23 = [L23_9_code] := by kernel_rfl
theorem L23_9_key : lookL loops23 (keyOf L23_9_code) = some L23_9_sum := by kernel_rfl
theorem loops23_ok : LoopsOk env23 orc23 loops23 body23 := by
  intro c hc f hf
  rw [loops23_all] at hc
  simp only [List.mem_cons, List.not_mem_nil, or_false] at hc
  subst hc
  · rw [L23_9_key] at hf; cases hf; exact L23_9_ok
noncomputable def R23_25_code : Code := (rangesOf body23).getD 0 .skip
theorem R23_25_round (s0 : (List UInt8)) (s1 : (List UInt8)) (s2 : (List (List UInt8))) (s3 : (List UInt8)) (s4 : (List UInt8)) (y0 : Int) (y1 : D57) : roundQ env23 orc23 loops23 R23_25_esh R23_25_pk R23_25_d R23_25_code (I63.enc (y0, y1)) (s0, (s1, (s2, ((), ((), ((), (s3, ((), (s4, ()))))))))) = R23_25_r s0 s1 s2 s3 s4 y0 y1 := by kernel_rfl
theorem R23_25_form : R23_25_code = .rangeFunc (.tmp 113) (rgPs R23_25_code) (rgAsg R23_25_code) (rgBody R23_25_code) := by kernel_rfl
theorem R23_25_len (y : Y63) : (rgPs R23_25_code).toList.length = (I63.enc y).length := by kernel_rfl
theorem R23_25_ok (hE : EnvOk Tryd.prog env23) (hm : Tryd.prog.follows .mixedOrders = true) (hI : IterOk Tryd.prog glob 63 I63) : RangeOk Tryd.prog env23 orc23.n R23_25_code (rangeSum env23 63 113 R23_25_esh I63 R23_25_pk R23_25_un R23_25_step R23_25_leave) :=
  rangeOk' (L := loops23) hE hm hI R23_25_form (loopsOk_nil (by kernel_rfl)) (loopsOk_nil (by kernel_rfl)) (by kernel_rfl) (by kernel_rfl) (by kernel_rfl) (by kernel_rfl) (pk := R23_25_pk) (un := R23_25_un) (fun _ => rfl) R23_25_dk R23_25_lv R23_25_len fun b y => R23_25_round b.1 b.2.1 b.2.2.1 b.2.2.2.1 b.2.2.2.2 y.1 y.2
theorem ranges23_all : rangesOf body23 = [R23_25_code] := by kernel_rfl
theorem R23_25_key : lookL loops23 (keyOf R23_25_code) = some (rangeSum env23 63 113 R23_25_esh I63 R23_25_pk R23_25_un R23_25_step R23_25_leave) := by kernel_rfl
theorem ranges23_ok (hE : EnvOk Tryd.prog env23) (hm : Tryd.prog.follows .mixedOrders = true) (hI63 : IterOk Tryd.prog glob 63 I63) : RangesOk Tryd.prog env23 orc23.n loops23 body23 := by
  intro c hc f hf
  rw [ranges23_all] at hc
  simp only [List.mem_cons, List.not_mem_nil, or_false] at hc
  subst hc
  · rw [R23_25_key] at hf; cases hf; exact R23_25_ok hE hm hI63
def G23 (x0 : (List UInt8)) (x1 : Int) (x2 : (List UInt8)) (x3 : Int) (x4 : (List (List UInt8))) : Option (Bool) :=
  let v1 : Bool := (decide (x1 < (0 : Int)))
  let v2 : Bool := (decide (x1 > x3))
  let v3 : Bool := (bif v1 then true else v2)
  bif ((P45 x4) || !(!v3 && true)) then
  let v4 : Bool := (F45 x4)
  let v5 : Bool := (!v4)
  let v6 : Bool := (bif v3 then true else v5)
  bif ((P51 x0) || !(!v6 && true)) then
  let v7 : Bool := (F51 x0)
  let v8 : Bool := (!v7)
  let v9 : Bool := (bif v6 then true else v8)
  bif ((P51 x2) || !(!v9 && true)) then
  let v10 : Bool := (F51 x2)
  let v11 : Bool := (!v10)
  let v12 : Bool := (bif v9 then true else v11)
  bif v12 then
  some (false)
  else
  let v13 : Bool := (x1 == (0 : Int))
  bif v13 then
  let v14 : Int := ((List.length x4 : Nat) : Int)
  let v15 : Bool := (v14 == (0 : Int))
  bif ((P30 ([] : List UInt8)) || !(v15 && true)) then
  let v16 : (List UInt8) := (F30 ([] : List UInt8))
  let v17 : Bool := (x0 == v16)
  let v18 : Bool := (bif v15 then v17 else false)
  some (v18)
  else none
  else
  let v19 : Bool := (x1 == x3)
  bif v19 then
  let v20 : Int := ((List.length x4 : Nat) : Int)
  let v21 : Bool := (v20 == (0 : Int))
  let v22 : Bool := (x0 == x2)
  let v23 : Bool := (bif v21 then v22 else false)
  some (v23)
  else
  let v24 : (List D57) := ([] : (List D57))
  Option.bind (L23_9 (x0, x1, x2, x3, x4, v24, true)) fun x => match x with
  | (.inl r35) =>
  some (r35)
  | (.inr r36) =>
  let v37 : Bool := (!r36.2.2.2.2.2.2)
  bif v37 then
  let v38 : Int := ((List.length r36.2.2.2.2.1 : Nat) : Int)
  let v39 : Bool := (v38 != (1 : Int))
  bif v39 then
  some (false)
  else
  bif (decide (0 ≤ (0 : Int)) && decide ((0 : Int) < List.length r36.2.2.2.2.1)) then
  let v40 : (List UInt8) := (List.getD r36.2.2.2.2.1 (Int.toNat (0 : Int)) ([] : List UInt8))
  bif (decide (0 ≤ (0 : Int)) && decide ((0 : Int) < List.length r36.2.2.2.2.1)) then
  let v41 : (List UInt8) := (List.getD r36.2.2.2.2.1 (Int.toNat (0 : Int)) ([] : List UInt8))
  let v42 : (List (List UInt8)) := ([] : (List (List UInt8)))
  bif (P47 (List.take (List.length r36.2.2.2.2.2.1) r36.2.2.2.2.2.1)) then
  let q43 : (Unit × (Unit × ((List D57) × Unit))) := F47 (List.take (List.length r36.2.2.2.2.2.1) r36.2.2.2.2.2.1)
  Option.bind ((W63 q43.2.2.1).ys) fun ys => Option.bind (foldX R23_25_step ys (r36.1, r36.2.2.1, v42, v40, v41)) fun z => match z with
  | .inl (r47 : (List UInt8) × (List UInt8) × (List (List UInt8)) × (List UInt8) × (List UInt8)) =>
  let v48 : Int := ((List.length r47.2.2.1 : Nat) : Int)
  let v49 : Bool := (v48 == (0 : Int))
  let v50 : Bool := (r47.2.2.2.1 == r47.1)
  let v51 : Bool := (bif v49 then v50 else false)
  let v52 : Bool := (r47.2.2.2.2 == r47.2.1)
  let v53 : Bool := (bif v51 then v52 else false)
  some (v53)
  | .inr r47 =>
  none
  else none
  else none
  else none
  else
  bif (P47 (List.take (List.length r36.2.2.2.2.2.1) r36.2.2.2.2.2.1)) then
  let q54 : (Unit × (Unit × ((List D57) × Unit))) := F47 (List.take (List.length r36.2.2.2.2.2.1) r36.2.2.2.2.2.1)
  Option.bind ((W63 q54.2.2.1).ys) fun ys => Option.bind (foldX R23_25_step ys (r36.1, r36.2.2.1, r36.2.2.2.2.1, r36.1, r36.1)) fun z => match z with
  | .inl (r58 : (List UInt8) × (List UInt8) × (List (List UInt8)) × (List UInt8) × (List UInt8)) =>
  let v59 : Int := ((List.length r58.2.2.1 : Nat) : Int)
  let v60 : Bool := (v59 == (0 : Int))
  let v61 : Bool := (r58.2.2.2.1 == r58.1)
  let v62 : Bool := (bif v60 then v61 else false)
  let v63 : Bool := (r58.2.2.2.2 == r58.2.1)
  let v64 : Bool := (bif v62 then v63 else false)
  some (v64)
  | .inr r58 =>
  none
  else none
  else none
  else none
  else none
theorem ev23 (x0 : (List UInt8)) (x1 : Int) (x2 : (List UInt8)) (x3 : Int) (x4 : (List (List UInt8))) : ev2 env23 orc23 loops23 body23 (initSt 0 [⟨.str, x0⟩, ⟨(.int .i64), x1⟩, ⟨.str, x2⟩, ⟨(.int .i64), x3⟩, ⟨(.list .str), x4⟩]) (retT [(10, .dat .bool)] [.bool] fun x => x.1) = G23 x0 x1 x2 x3 x4 := by kernel_rfl
def P23 (x0 : (List UInt8)) (x1 : Int) (x2 : (List UInt8)) (x3 : Int) (x4 : (List (List UInt8))) : Bool := (hold (G23 x0 x1 x2 x3 x4)).isSome
def F23 (x0 : (List UInt8)) (x1 : Int) (x2 : (List UInt8)) (x3 : Int) (x4 : (List (List UInt8))) : Bool := (hold (G23 x0 x1 x2 x3 x4)).getD default
theorem G23_some (x0 : (List UInt8)) (x1 : Int) (x2 : (List UInt8)) (x3 : Int) (x4 : (List (List UInt8))) (h : P23 x0 x1 x2 x3 x4 = true) : G23 x0 x1 x2 x3 x4 = some (F23 x0 x1 x2 x3 x4) := by
  unfold P23 at h; unfold F23
  rw [hold_eq] at h ⊢
  exact some_getD h
theorem P23_of (x0 : (List UInt8)) (x1 : Int) (x2 : (List UInt8)) (x3 : Int) (x4 : (List (List UInt8))) {r : Bool} (h : G23 x0 x1 x2 x3 x4 = some r) : P23 x0 x1 x2 x3 x4 = true := by unfold P23; rw [hold_eq, h]; rfl
theorem F23_of (x0 : (List UInt8)) (x1 : Int) (x2 : (List UInt8)) (x3 : Int) (x4 : (List (List UInt8))) {r : Bool} (h : G23 x0 x1 x2 x3 x4 = some r) : F23 x0 x1 x2 x3 x4 = r := by unfold F23; rw [hold_eq, h]; rfl
def spec23 : Spec := ⟨[.str, (.int .i64), .str, (.int .i64), (.list .str)], [.dat .bool], fun | [a0, a1, a2, a3, a4] => P23 (a0.as .str) (a1.as (.int .i64)) (a2.as .str) (a3.as (.int .i64)) (a4.as (.list .str)) | _ => false, fun | [a0, a1, a2, a3, a4] => [⟨.bool, (F23 (a0.as .str) (a1.as (.int .i64)) (a2.as .str) (a3.as (.int .i64)) (a4.as (.list .str)))⟩] | _ => []⟩
theorem meets23 (hE : EnvOk Tryd.prog env23) (hm : Tryd.prog.follows .mixedOrders = true) (hI63 : IterOk Tryd.prog glob 63 I63) : Meets Tryd.prog glob 23 spec23 :=
  meets_of_ev2 (O := orc23) (L := loops23) (c := body23) (slots := [10]) hE hm Tryd.func23 Tryd.call23 (by kernel_rfl) (by kernel_rfl) loops23_ok (ranges23_ok hE hm hI63) (by kernel_rfl) rfl (by decide) (fun ds hds hpre => by
  obtain ⟨x0, ds0, rfl, h0⟩ := datsS hds
  obtain ⟨x1, ds1, rfl, h1⟩ := datsS h0
  obtain ⟨x2, ds2, rfl, h2⟩ := datsS h1
  obtain ⟨x3, ds3, rfl, h3⟩ := datsS h2
  obtain ⟨x4, ds4, rfl, h4⟩ := datsS h3
  have h9 := dats0 h4; subst h9
  exact ev_ret (un := fun r => [⟨.bool, r⟩]) loops23_nat (fun _ => rfl) ((ev23 x0 x1 x2 x3 x4).trans (G23_some x0 x1 x2 x3 x4 hpre)))
def env12 : Env := {
  tab := tab
  glob := glob
  spec := fun
    | 14 => some spec14
    | 16 => some spec16
    | 19 => some spec19
    | 21 => some spec21
    | 23 => some spec23
    | 30 => some spec30
    | 39 => some spec39
    | _ => none }

def orc12 : Orc := ⟨89, fun _ => none, fun
  | 0 => []
  | 1 => kp [1] []
  | 2 => kp [1, 2, 3] []
  | 3 => kp [1, 2, 3, 4, 5] []
  | 4 => kp [1, 2, 3, 4, 5, 7] []
  | 5 => kp [1, 2, 3, 4, 5, 7, 8] []
  | 6 => kp [1, 2, 3, 4, 5, 7, 8, 9] []
  | 7 => kp [1, 2, 4, 8, 9, 10] []
  | 8 => kp [0] []
  | _ => [], fun | _ => false⟩
noncomputable def body12 : Code := Tryd.f12.body.getD .skip
def loops12 : Nat → Option (Sum) := fun | _ => none
theorem loops12_nat : ∀ q f, loops12 q = some f → Natural f := by
  intro q f h
  cases h
theorem loops12_ok : LoopsOk env12 orc12 loops12 body12 := loopsOk_nil (by kernel_rfl)
def G12  : Option (Bool) :=
  let v1 : (List (List UInt8)) := (List.set (List.set (List.set (List.replicate 3 ([] : List UInt8)) 0 ([97] : List UInt8)) 1 ([98] : List UInt8)) 2 ([99] : List UInt8))
  bif (P14 (List.take (List.length v1) v1) (2 : Int)) then
  let v2 : ((List (List UInt8)) × Int) := (F14 (List.take (List.length v1) v1) (2 : Int))
  bif (P16 v1 (1 : Int)) then
  let v3 : ((List (List UInt8)) × Int) := (F16 v1 (1 : Int))
  bif (P14 v1 (3 : Int)) then
  let v4 : ((List (List UInt8)) × Int) := (F14 v1 (3 : Int))
  bif (P19 v1) then
  let v5 : (List UInt8) := (F19 v1)
  bif (P30 ([] : List UInt8)) then
  let v6 : (List UInt8) := (F30 ([] : List UInt8))
  bif (P39 v6) then
  let v7 : (List UInt8) := (F39 v6)
  let v8 : Bool := (v7 == ([101, 51, 98, 48, 99, 52, 52, 50, 57, 56, 102, 99, 49, 99, 49, 52, 57, 97, 102, 98, 102, 52, 99, 56, 57, 57, 54, 102, 98, 57, 50, 52, 50, 55, 97, 101, 52, 49, 101, 52, 54, 52, 57, 98, 57, 51, 52, 99, 97, 52, 57, 53, 57, 57, 49, 98, 55, 56, 53, 50, 98, 56, 53, 53] : List UInt8))
  bif ((P30 ([97, 98, 99] : List UInt8)) || !(v8 && true)) then
  let v9 : (List UInt8) := (F30 ([97, 98, 99] : List UInt8))
  bif ((P39 v9) || !(v8 && true)) then
  let v10 : (List UInt8) := (F39 v9)
  let v11 : Bool := (v10 == ([98, 97, 55, 56, 49, 54, 98, 102, 56, 102, 48, 49, 99, 102, 101, 97, 52, 49, 52, 49, 52, 48, 100, 101, 53, 100, 97, 101, 50, 50, 50, 51, 98, 48, 48, 51, 54, 49, 97, 51, 57, 54, 49, 55, 55, 97, 57, 99, 98, 52, 49, 48, 102, 102, 54, 49, 102, 50, 48, 48, 49, 53, 97, 100] : List UInt8))
  let v12 : Bool := (bif v8 then v11 else false)
  let v13 : Bool := (v2.2 == (0 : Int))
  let v14 : Int := ((List.length v2.1 : Nat) : Int)
  let v15 : Bool := (v14 == (1 : Int))
  let v16 : Bool := (bif v13 then v15 else false)
  let v17 : Bool := (v3.2 == (0 : Int))
  let v18 : Bool := (bif v16 then v17 else false)
  let v19 : Int := ((List.length v3.1 : Nat) : Int)
  let v20 : Bool := (v19 == (2 : Int))
  let v21 : Bool := (bif v18 then v20 else false)
  let v22 : Bool := (v4.2 == (2 : Int))
  let v23 : Bool := (bif v21 then v22 else false)
  let v24 : Bool := (bif v12 then v23 else false)
  bif ((P21 v5 (3 : Int) (2 : Int) ([99] : List UInt8) v2.1) || !(v24 && true)) then
  let v25 : Bool := (F21 v5 (3 : Int) (2 : Int) ([99] : List UInt8) v2.1)
  let v26 : Bool := (bif v24 then v25 else false)
  bif ((P21 v5 (3 : Int) (2 : Int) ([100] : List UInt8) v2.1) || !(v26 && true)) then
  let v27 : Bool := (F21 v5 (3 : Int) (2 : Int) ([100] : List UInt8) v2.1)
  let v28 : Bool := (!v27)
  let v29 : Bool := (bif v26 then v28 else false)
  bif ((sliceTest (0 : Int) (1 : Int) (List.length v1)) || !(v29 && true)) then
  let v30 : (List (List UInt8)) := (cut v1 (0 : Int) (1 : Int))
  bif ((P19 v30) || !(v29 && true)) then
  let v31 : (List UInt8) := (F19 v30)
  bif ((P23 v31 (1 : Int) v5 (3 : Int) v3.1) || !(v29 && true)) then
  let v32 : Bool := (F23 v31 (1 : Int) v5 (3 : Int) v3.1)
  let v33 : Bool := (bif v29 then v32 else false)
  bif ((sliceTest (0 : Int) (2 : Int) (List.length v1)) || !(v33 && true)) then
  let v34 : (List (List UInt8)) := (cut v1 (0 : Int) (2 : Int))
  bif ((P19 v34) || !(v33 && true)) then
  let v35 : (List UInt8) := (F19 v34)
  bif ((P23 v35 (1 : Int) v5 (3 : Int) v3.1) || !(v33 && true)) then
  let v36 : Bool := (F23 v35 (1 : Int) v5 (3 : Int) v3.1)
  let v37 : Bool := (!v36)
  let v38 : Bool := (bif v33 then v37 else false)
  some (v38)
  else none
  else none
  else none
  else none
  else none
  else none
  else none
  else none
  else none
  else none
  else none
  else none
  else none
  else none
  else none
  else none
theorem ev12  : ev2 env12 orc12 loops12 body12 (initSt 0 []) (retT [(0, .dat .bool)] [.bool] fun x => x.1) = G12  := by kernel_rfl
def P12  : Bool := (hold (G12 )).isSome
def F12  : Bool := (hold (G12 )).getD default
theorem G12_some  (h : P12  = true) : G12  = some (F12 ) := by
  unfold P12 at h; unfold F12
  rw [hold_eq] at h ⊢
  exact some_getD h
theorem P12_of  {r : Bool} (h : G12  = some r) : P12  = true := by unfold P12; rw [hold_eq, h]; rfl
theorem F12_of  {r : Bool} (h : G12  = some r) : F12  = r := by unfold F12; rw [hold_eq, h]; rfl
def spec12 : Spec := ⟨[], [.dat .bool], fun | [] => P12 | _ => false, fun | [] => [⟨.bool, F12⟩] | _ => []⟩
theorem meets12 (hE : EnvOk Tryd.prog env12) (hm : Tryd.prog.follows .mixedOrders = true) : Meets Tryd.prog glob 12 spec12 :=
  meets_of_ev2 (O := orc12) (L := loops12) (c := body12) (slots := [0]) hE hm Tryd.func12 Tryd.call12 (by kernel_rfl) (by kernel_rfl) loops12_ok (rangesOk_nil (by kernel_rfl)) (by kernel_rfl) rfl (by decide) (fun ds hds hpre => by
  have h9 := dats0 hds; subst h9
  exact ev_ret (un := fun r => [⟨.bool, r⟩]) loops12_nat (fun _ => rfl) ((ev12 ).trans (G12_some  hpre)))
def L31_2_r (s0 : Int) (s1 : Int) : Option ((Int × Int) ⊕ ((Int × Int))) :=
  let v1 : Int := (IntKind.i64.wrap (s0 - s1))
  let v2 : Bool := (decide (s1 < v1))
  bif v2 then
  let v3 : Int := (IntKind.i64.wrap ((2 : Int) * s1))
  some (.inl (s0, v3))
  else
  some (.inr (s0, s1))
def L31_2 : Int × Int → Option ((Int × Int)) := Lim (fun s => L31_2_r s.1 s.2)
def G31 (x0 : Int) : Option (Int) :=
  Option.bind (L31_2 (x0, (1 : Int))) fun (r4 : Int × Int) =>
  some (r4.2)
def env13 : Env := {
  tab := tab
  glob := glob
  spec := fun
    | _ => none }

def orc13 : Orc := ⟨33, fun _ => none, fun
  | 0 => kp [0, 1] []
  | 1 => kp [0, 1, 5] []
  | 2 => kp [0, 1, 5, 6] []
  | 3 => kp [0, 1, 5, 6, 15] []
  | 4 => kp [0, 1, 5, 6] []
  | 5 => kp [0, 1, 5, 6] []
  | 6 => kp [4] []
  | _ => [], fun | _ => false⟩
noncomputable def body13 : Code := Tryd.f13.body.getD .skip
def L13_3_sh : Shape := [(.slot 0, .dat (.list .str)), (.slot 1, .dat (.int .i64)), (.slot 5, .own 9 .str), (.slot 6, .dat (.int .i64))]
def L13_3_x0 : Shape := [(.slot 0, .dat (.list .str)), (.slot 1, .dat (.int .i64)), (.slot 5, .own 9 .str), (.slot 6, .dat (.int .i64))]
def L13_3_pk (s : Tup L13_3_sh) : (List (List UInt8)) × Int × (List (List UInt8)) × Int := (s.1, s.2.1, s.2.2.1, s.2.2.2.1)
def L13_3_un (s : (List (List UInt8)) × Int × (List (List UInt8)) × Int) : Tup L13_3_sh := (s.1, (s.2.1, (s.2.2.1, (s.2.2.2, ()))))
def L13_3_leave (x : ((List (List UInt8)) × Int × (List (List UInt8)) × Int)) (R : Type) (K : Cont R) : Option R := match x with
  | a => K (.exit 0) (mkSt L13_3_x0 (a.1, (a.2.1, (a.2.2.1, (a.2.2.2, ())))))
def L13_3_d (e : Exit) (st : St) : Option (((List (List UInt8)) × Int × (List (List UInt8)) × Int)) := match e with
  | .exit 0 => (match unSt L13_3_x0 st with
    | some s => some (s.1, s.2.1, s.2.2.1, s.2.2.2.1)
    | none => none)
  | _ => none
def L13_3_r (s0 : (List (List UInt8))) (s1 : Int) (s2 : (List (List UInt8))) (s3 : Int) : Option (((List (List UInt8)) × Int × (List (List UInt8)) × Int) ⊕ (((List (List UInt8)) × Int × (List (List UInt8)) × Int))) :=
  let v3 : Int := ((List.length s0 : Nat) : Int)
  let v4 : Bool := (decide (s3 < v3))
  let v5 : Bool := (decide (s3 < s1))
  let v6 : Bool := (bif v4 then v5 else false)
  bif v6 then
  bif (decide (0 ≤ s3) && decide (s3 < List.length s0)) then
  let v7 : (List UInt8) := (List.getD s0 (Int.toNat s3) ([] : List UInt8))
  bif (decide (0 ≤ s3) && decide (s3 < List.length s0)) then
  let v8 : (List UInt8) := (List.getD s0 (Int.toNat s3) ([] : List UInt8))
  let v9 : Int := ((List.length v8 : Nat) : Int)
  let v10 : Int := (if (60 : Int) < v9 then (60 : Int) else v9)
  bif (sliceTest (0 : Int) v10 (List.length v7)) then
  let v11 : (List UInt8) := (cut v7 (0 : Int) v10)
  let v12 : (List (List UInt8)) := (List.set (List.replicate 1 ([] : List UInt8)) 0 v11)
  bif (decide (List.length (List.take (List.length s2) s2) + List.length v12 ≤ 100000000000)) then
  let v13 : (List (List UInt8)) := ((List.take (List.length s2) s2) ++ v12)
  let v14 : Int := (IntKind.i64.wrap (s3 + (1 : Int)))
  some (.inl (s0, s1, v13, v14))
  else none
  else none
  else none
  else none
  else
  some (.inr (s0, s1, s2, s3))
def L13_3 : (List (List UInt8)) × Int × (List (List UInt8)) × Int → Option (((List (List UInt8)) × Int × (List (List UInt8)) × Int)) := Lim (fun s => L13_3_r s.1 s.2.1 s.2.2.1 s.2.2.2)
def L13_3_sum : Sum := limSum L13_3_sh L13_3_pk (fun s => L13_3_r s.1 s.2.1 s.2.2.1 s.2.2.2) L13_3_leave
theorem L13_3_nat : Natural L13_3_sum := natural_lim fun x R K => by
  rfl
theorem L13_3_dok : ∀ e st x, e ≠ .normal → L13_3_d e st = some x → ∀ R (K : Cont R), K e st = L13_3_leave x R K := by
  intro e st x _ h R K
  unfold L13_3_d at h
  split at h
  · split at h
    · rename_i s hs; cases h; rw [unSt_some hs]; rfl
    · cases h
  · cases h
def loops13 : Nat → Option (Sum) := fun | 3 => some L13_3_sum | _ => none
theorem loops13_nat : ∀ q f, loops13 q = some f → Natural f := by
  intro q f h
  unfold loops13 at h
  split at h
  · cases h; exact L13_3_nat
  · cases h
noncomputable def L13_3_code : Code := (loopsOf body13).getD 0 .skip
theorem L13_3_round (s0 : (List (List UInt8))) (s1 : Int) (s2 : (List (List UInt8))) (s3 : Int) : ev2 env13 orc13 loops13 L13_3_code (mkSt L13_3_sh (s0, (s1, (s2, (s3, ()))))) (back L13_3_sh L13_3_pk L13_3_d) = L13_3_r s0 s1 s2 s3 := by kernel_rfl
theorem L13_3_ok : SumOk env13 orc13 loops13 L13_3_code L13_3_sum := sumOk_lim (un := L13_3_un) loops13_nat (fun _ => rfl) L13_3_dok fun s => L13_3_round s.1 s.2.1 s.2.2.1 s.2.2.2
theorem loops13_all : loopsOf body13 = [L13_3_code] := by kernel_rfl
theorem L13_3_key : lookL loops13 (keyOf L13_3_code) = some L13_3_sum := by kernel_rfl
theorem loops13_ok : LoopsOk env13 orc13 loops13 body13 := by
  intro c hc f hf
  rw [loops13_all] at hc
  simp only [List.mem_cons, List.not_mem_nil, or_false] at hc
  subst hc
  · rw [L13_3_key] at hf; cases hf; exact L13_3_ok
def G13 (x0 : (List (List UInt8))) (x1 : Int) : Option ((List (List UInt8))) :=
  let v1 : (List (List UInt8)) := ([] : (List (List UInt8)))
  let v2 : (List (List UInt8)) := ([] : (List (List UInt8)))
  Option.bind (L13_3 (x0, x1, v2, (0 : Int))) fun (r15 : (List (List UInt8)) × Int × (List (List UInt8)) × Int) =>
  let v16 : (List (List UInt8)) := (List.take (List.length r15.2.2.1) r15.2.2.1)
  some (v16)
theorem ev13 (x0 : (List (List UInt8))) (x1 : Int) : ev2 env13 orc13 loops13 body13 (initSt 0 [⟨(.list .str), x0⟩, ⟨(.int .i64), x1⟩]) (retT [(4, .dat (.list .str))] [(.list .str)] fun x => x.1) = G13 x0 x1 := by kernel_rfl
def P13 (x0 : (List (List UInt8))) (x1 : Int) : Bool := (hold (G13 x0 x1)).isSome
def F13 (x0 : (List (List UInt8))) (x1 : Int) : (List (List UInt8)) := (hold (G13 x0 x1)).getD default
theorem G13_some (x0 : (List (List UInt8))) (x1 : Int) (h : P13 x0 x1 = true) : G13 x0 x1 = some (F13 x0 x1) := by
  unfold P13 at h; unfold F13
  rw [hold_eq] at h ⊢
  exact some_getD h
theorem P13_of (x0 : (List (List UInt8))) (x1 : Int) {r : (List (List UInt8))} (h : G13 x0 x1 = some r) : P13 x0 x1 = true := by unfold P13; rw [hold_eq, h]; rfl
theorem F13_of (x0 : (List (List UInt8))) (x1 : Int) {r : (List (List UInt8))} (h : G13 x0 x1 = some r) : F13 x0 x1 = r := by unfold F13; rw [hold_eq, h]; rfl
def spec13 : Spec := ⟨[(.list .str), (.int .i64)], [.dat (.list .str)], fun | [a0, a1] => P13 (a0.as (.list .str)) (a1.as (.int .i64)) | _ => false, fun | [a0, a1] => [⟨(.list .str), (F13 (a0.as (.list .str)) (a1.as (.int .i64)))⟩] | _ => []⟩
theorem meets13 (hE : EnvOk Tryd.prog env13) (hm : Tryd.prog.follows .mixedOrders = true) : Meets Tryd.prog glob 13 spec13 :=
  meets_of_ev2 (O := orc13) (L := loops13) (c := body13) (slots := [4]) hE hm Tryd.func13 Tryd.call13 (by kernel_rfl) (by kernel_rfl) loops13_ok (rangesOk_nil (by kernel_rfl)) (by kernel_rfl) rfl (by decide) (fun ds hds hpre => by
  obtain ⟨x0, ds0, rfl, h0⟩ := datsS hds
  obtain ⟨x1, ds1, rfl, h1⟩ := datsS h0
  have h9 := dats0 h1; subst h9
  exact ev_ret (un := fun r => [⟨(.list .str), r⟩]) loops13_nat (fun _ => rfl) ((ev13 x0 x1).trans (G13_some x0 x1 hpre)))
def env42 : Env := {
  tab := tab
  glob := glob
  spec := fun
    | _ => none }

def orc42 : Orc := ⟨12, fun _ => none, fun
  | 0 => kp [0] []
  | 1 => kp [0, 3] []
  | 2 => kp [0, 3, 8] []
  | 3 => kp [0, 3] []
  | 4 => kp [2] []
  | _ => [], fun | _ => false⟩
noncomputable def body42 : Code := Tryd.f42.body.getD .skip
def L42_2_sh : Shape := [(.slot 0, .dat (.int .i64)), (.slot 3, .dat (.int .i64))]
def L42_2_x0 : Shape := [(.slot 0, .dat (.int .i64)), (.slot 3, .dat (.int .i64))]
def L42_2_pk (s : Tup L42_2_sh) : Int × Int := (s.1, s.2.1)
def L42_2_un (s : Int × Int) : Tup L42_2_sh := (s.1, (s.2, ()))
def L42_2_leave (x : (Int × Int)) (R : Type) (K : Cont R) : Option R := match x with
  | a => K (.exit 0) (mkSt L42_2_x0 (a.1, (a.2, ())))
def L42_2_d (e : Exit) (st : St) : Option ((Int × Int)) := match e with
  | .exit 0 => (match unSt L42_2_x0 st with
    | some s => some (s.1, s.2.1)
    | none => none)
  | _ => none
def L42_2_r (s0 : Int) (s1 : Int) : Option ((Int × Int) ⊕ ((Int × Int))) :=
  let v1 : Int := (IntKind.i64.wrap (s0 - s1))
  let v2 : Bool := (decide (s1 < v1))
  bif v2 then
  let v3 : Int := (IntKind.i64.wrap ((2 : Int) * s1))
  some (.inl (s0, v3))
  else
  some (.inr (s0, s1))
def L42_2 : Int × Int → Option ((Int × Int)) := Lim (fun s => L42_2_r s.1 s.2)
def L42_2_sum : Sum := limSum L42_2_sh L42_2_pk (fun s => L42_2_r s.1 s.2) L42_2_leave
theorem L42_2_nat : Natural L42_2_sum := natural_lim fun x R K => by
  rfl
theorem L42_2_dok : ∀ e st x, e ≠ .normal → L42_2_d e st = some x → ∀ R (K : Cont R), K e st = L42_2_leave x R K := by
  intro e st x _ h R K
  unfold L42_2_d at h
  split at h
  · split at h
    · rename_i s hs; cases h; rw [unSt_some hs]; rfl
    · cases h
  · cases h
def loops42 : Nat → Option (Sum) := fun | 2 => some L42_2_sum | _ => none
theorem loops42_nat : ∀ q f, loops42 q = some f → Natural f := by
  intro q f h
  unfold loops42 at h
  split at h
  · cases h; exact L42_2_nat
  · cases h
noncomputable def L42_2_code : Code := (loopsOf body42).getD 0 .skip
theorem L42_2_round (s0 : Int) (s1 : Int) : ev2 env42 orc42 loops42 L42_2_code (mkSt L42_2_sh (s0, (s1, ()))) (back L42_2_sh L42_2_pk L42_2_d) = L42_2_r s0 s1 := by kernel_rfl
theorem L42_2_ok : SumOk env42 orc42 loops42 L42_2_code L42_2_sum := sumOk_lim (un := L42_2_un) loops42_nat (fun _ => rfl) L42_2_dok fun s => L42_2_round s.1 s.2
theorem loops42_all : loopsOf body42 = [L42_2_code] := by kernel_rfl
theorem L42_2_key : lookL loops42 (keyOf L42_2_code) = some L42_2_sum := by kernel_rfl
theorem loops42_ok : LoopsOk env42 orc42 loops42 body42 := by
  intro c hc f hf
  rw [loops42_all] at hc
  simp only [List.mem_cons, List.not_mem_nil, or_false] at hc
  subst hc
  · rw [L42_2_key] at hf; cases hf; exact L42_2_ok
def G42 (x0 : Int) : Option (Int) :=
  Option.bind (L42_2 (x0, (1 : Int))) fun (r4 : Int × Int) =>
  some (r4.2)
theorem ev42 (x0 : Int) : ev2 env42 orc42 loops42 body42 (initSt 0 [⟨(.int .i64), x0⟩]) (retT [(2, .dat (.int .i64))] [(.int .i64)] fun x => x.1) = G42 x0 := by kernel_rfl
def P42 (x0 : Int) : Bool := (hold (G42 x0)).isSome
def F42 (x0 : Int) : Int := (hold (G42 x0)).getD default
theorem G42_some (x0 : Int) (h : P42 x0 = true) : G42 x0 = some (F42 x0) := by
  unfold P42 at h; unfold F42
  rw [hold_eq] at h ⊢
  exact some_getD h
theorem P42_of (x0 : Int) {r : Int} (h : G42 x0 = some r) : P42 x0 = true := by unfold P42; rw [hold_eq, h]; rfl
theorem F42_of (x0 : Int) {r : Int} (h : G42 x0 = some r) : F42 x0 = r := by unfold F42; rw [hold_eq, h]; rfl
def spec42 : Spec := ⟨[(.int .i64)], [.dat (.int .i64)], fun | [a0] => P42 (a0.as (.int .i64)) | _ => false, fun | [a0] => [⟨(.int .i64), (F42 (a0.as (.int .i64)))⟩] | _ => []⟩
theorem meets42 (hE : EnvOk Tryd.prog env42) (hm : Tryd.prog.follows .mixedOrders = true) : Meets Tryd.prog glob 42 spec42 :=
  meets_of_ev2 (O := orc42) (L := loops42) (c := body42) (slots := [2]) hE hm Tryd.func42 Tryd.call42 (by kernel_rfl) (by kernel_rfl) loops42_ok (rangesOk_nil (by kernel_rfl)) (by kernel_rfl) rfl (by decide) (fun ds hds hpre => by
  obtain ⟨x0, ds0, rfl, h0⟩ := datsS hds
  have h9 := dats0 h0; subst h9
  exact ev_ret (un := fun r => [⟨(.int .i64), r⟩]) loops42_nat (fun _ => rfl) ((ev42 x0).trans (G42_some x0 hpre)))
def env57 : Env := {
  tab := tab
  glob := glob
  spec := fun
    | _ => none }

def orc57 : Orc := ⟨43, fun _ => none, fun
  | 0 => kp [0] []
  | 1 => kp [0, 3] []
  | 2 => kp [0, 3, 4] []
  | 3 => kp [0, 3, 4, 9] []
  | 4 => kp [0, 3, 4] []
  | 5 => kp [0, 3, 4] []
  | 6 => kp [0, 3] []
  | 7 => kp [0, 3, 24] []
  | 8 => kp [0, 3] []
  | 9 => kp [0, 3, 5] []
  | 10 => kp [0, 3, 5, 29] []
  | 11 => kp [0, 3, 5] []
  | 12 => kp [0, 3, 5] []
  | 13 => kp [2] []
  | _ => [], fun | _ => false⟩
noncomputable def body57 : Code := Tryd.f57.body.getD .skip
def L57_10_sh : Shape := [(.slot 0, .dat .str), (.slot 3, .own 5 (.int .u8)), (.slot 5, .dat (.int .i64))]
def L57_10_x0 : Shape := [(.slot 0, .dat .str), (.slot 3, .own 5 (.int .u8)), (.slot 5, .dat (.int .i64))]
def L57_10_pk (s : Tup L57_10_sh) : (List UInt8) × (List Int) × Int := (s.1, s.2.1, s.2.2.1)
def L57_10_un (s : (List UInt8) × (List Int) × Int) : Tup L57_10_sh := (s.1, (s.2.1, (s.2.2, ())))
def L57_10_leave (x : ((List UInt8) × (List Int) × Int)) (R : Type) (K : Cont R) : Option R := match x with
  | a => K (.exit 4) (mkSt L57_10_x0 (a.1, (a.2.1, (a.2.2, ()))))
def L57_10_d (e : Exit) (st : St) : Option (((List UInt8) × (List Int) × Int)) := match e with
  | .exit 4 => (match unSt L57_10_x0 st with
    | some s => some (s.1, s.2.1, s.2.2.1)
    | none => none)
  | _ => none
def L57_10_r (s0 : (List UInt8)) (s1 : (List Int)) (s2 : Int) : Option (((List UInt8) × (List Int) × Int) ⊕ (((List UInt8) × (List Int) × Int))) :=
  let v18 : Bool := (decide (s2 ≥ (0 : Int)))
  bif v18 then
  let v19 : Int := ((List.length s0 : Nat) : Int)
  let v20 : Int := (IntKind.i64.wrap ((8 : Int) * v19))
  let v21 : Int := (IntKind.i64.wrap ((8 : Int) * s2))
  bif (decide (0 ≤ v21)) then
  let v22 : Int := (Int.fdiv v20 (2 ^ min (Int.toNat v21) (IntKind.i64.bits)))
  let v23 : Int := (IntKind.u8.wrap v22)
  let v24 : (List Int) := (List.set (List.replicate 1 (0 : Int)) 0 v23)
  bif (decide (List.length (List.take (List.length s1) s1) + List.length v24 ≤ 100000000000)) then
  let v25 : (List Int) := ((List.take (List.length s1) s1) ++ v24)
  let v26 : Int := (IntKind.i64.wrap (s2 - (1 : Int)))
  some (.inl (s0, v25, v26))
  else none
  else none
  else
  some (.inr (s0, s1, s2))
def L57_10 : (List UInt8) × (List Int) × Int → Option (((List UInt8) × (List Int) × Int)) := Lim (fun s => L57_10_r s.1 s.2.1 s.2.2)
def L57_10_sum : Sum := limSum L57_10_sh L57_10_pk (fun s => L57_10_r s.1 s.2.1 s.2.2) L57_10_leave
theorem L57_10_nat : Natural L57_10_sum := natural_lim fun x R K => by
  rfl
theorem L57_10_dok : ∀ e st x, e ≠ .normal → L57_10_d e st = some x → ∀ R (K : Cont R), K e st = L57_10_leave x R K := by
  intro e st x _ h R K
  unfold L57_10_d at h
  split at h
  · split at h
    · rename_i s hs; cases h; rw [unSt_some hs]; rfl
    · cases h
  · cases h
def L57_7_sh : Shape := [(.slot 0, .dat .str), (.slot 3, .own 5 (.int .u8))]
def L57_7_x0 : Shape := [(.slot 0, .dat .str), (.slot 3, .own 5 (.int .u8))]
def L57_7_pk (s : Tup L57_7_sh) : (List UInt8) × (List Int) := (s.1, s.2.1)
def L57_7_un (s : (List UInt8) × (List Int)) : Tup L57_7_sh := (s.1, (s.2, ()))
def L57_7_leave (x : ((List UInt8) × (List Int))) (R : Type) (K : Cont R) : Option R := match x with
  | a => K (.exit 2) (mkSt L57_7_x0 (a.1, (a.2, ())))
def L57_7_d (e : Exit) (st : St) : Option (((List UInt8) × (List Int))) := match e with
  | .exit 2 => (match unSt L57_7_x0 st with
    | some s => some (s.1, s.2.1)
    | none => none)
  | _ => none
def L57_7_r (s0 : (List UInt8)) (s1 : (List Int)) : Option (((List UInt8) × (List Int)) ⊕ (((List UInt8) × (List Int)))) :=
  let v12 : Int := (((List.length s1) : Nat) : Int)
  let v13 : Int := (Int.tmod v12 (64 : Int))
  let v14 : Bool := (v13 != (56 : Int))
  bif v14 then
  let v15 : (List Int) := (List.set (List.replicate 1 (0 : Int)) 0 (0 : Int))
  bif (decide (List.length (List.take (List.length s1) s1) + List.length v15 ≤ 100000000000)) then
  let v16 : (List Int) := ((List.take (List.length s1) s1) ++ v15)
  some (.inl (s0, v16))
  else none
  else
  some (.inr (s0, s1))
def L57_7 : (List UInt8) × (List Int) → Option (((List UInt8) × (List Int))) := Lim (fun s => L57_7_r s.1 s.2)
def L57_7_sum : Sum := limSum L57_7_sh L57_7_pk (fun s => L57_7_r s.1 s.2) L57_7_leave
theorem L57_7_nat : Natural L57_7_sum := natural_lim fun x R K => by
  rfl
theorem L57_7_dok : ∀ e st x, e ≠ .normal → L57_7_d e st = some x → ∀ R (K : Cont R), K e st = L57_7_leave x R K := by
  intro e st x _ h R K
  unfold L57_7_d at h
  split at h
  · split at h
    · rename_i s hs; cases h; rw [unSt_some hs]; rfl
    · cases h
  · cases h
def L57_3_sh : Shape := [(.slot 0, .dat .str), (.slot 3, .own 5 (.int .u8)), (.slot 4, .dat (.int .i64))]
def L57_3_x0 : Shape := [(.slot 0, .dat .str), (.slot 3, .own 5 (.int .u8)), (.slot 4, .dat (.int .i64))]
def L57_3_pk (s : Tup L57_3_sh) : (List UInt8) × (List Int) × Int := (s.1, s.2.1, s.2.2.1)
def L57_3_un (s : (List UInt8) × (List Int) × Int) : Tup L57_3_sh := (s.1, (s.2.1, (s.2.2, ())))
def L57_3_leave (x : ((List UInt8) × (List Int) × Int)) (R : Type) (K : Cont R) : Option R := match x with
  | a => K (.exit 0) (mkSt L57_3_x0 (a.1, (a.2.1, (a.2.2, ()))))
def L57_3_d (e : Exit) (st : St) : Option (((List UInt8) × (List Int) × Int)) := match e with
  | .exit 0 => (match unSt L57_3_x0 st with
    | some s => some (s.1, s.2.1, s.2.2.1)
    | none => none)
  | _ => none
def L57_3_r (s0 : (List UInt8)) (s1 : (List Int)) (s2 : Int) : Option (((List UInt8) × (List Int) × Int) ⊕ (((List UInt8) × (List Int) × Int))) :=
  let v3 : Int := ((List.length s0 : Nat) : Int)
  let v4 : Bool := (decide (s2 < v3))
  bif v4 then
  bif (decide (0 ≤ s2) && decide (s2 < List.length s0)) then
  let v5 : Int := ((List.getD s0 (Int.toNat s2) 0).toNat : Int)
  let v6 : (List Int) := (List.set (List.replicate 1 (0 : Int)) 0 v5)
  bif (decide (List.length (List.take (List.length s1) s1) + List.length v6 ≤ 100000000000)) then
  let v7 : (List Int) := ((List.take (List.length s1) s1) ++ v6)
  let v8 : Int := (IntKind.i64.wrap (s2 + (1 : Int)))
  some (.inl (s0, v7, v8))
  else none
  else none
  else
  some (.inr (s0, s1, s2))
def L57_3 : (List UInt8) × (List Int) × Int → Option (((List UInt8) × (List Int) × Int)) := Lim (fun s => L57_3_r s.1 s.2.1 s.2.2)
def L57_3_sum : Sum := limSum L57_3_sh L57_3_pk (fun s => L57_3_r s.1 s.2.1 s.2.2) L57_3_leave
theorem L57_3_nat : Natural L57_3_sum := natural_lim fun x R K => by
  rfl
theorem L57_3_dok : ∀ e st x, e ≠ .normal → L57_3_d e st = some x → ∀ R (K : Cont R), K e st = L57_3_leave x R K := by
  intro e st x _ h R K
  unfold L57_3_d at h
  split at h
  · split at h
    · rename_i s hs; cases h; rw [unSt_some hs]; rfl
    · cases h
  · cases h
def loops57 : Nat → Option (Sum) := fun | 3 => some L57_3_sum | 7 => some L57_7_sum | 10 => some L57_10_sum | _ => none
theorem loops57_nat : ∀ q f, loops57 q = some f → Natural f := by
  intro q f h
  unfold loops57 at h
  split at h
  · cases h; exact L57_3_nat
  · cases h; exact L57_7_nat
  · cases h; exact L57_10_nat
  · cases h
noncomputable def L57_3_code : Code := (loopsOf body57).getD 0 .skip
theorem L57_3_round (s0 : (List UInt8)) (s1 : (List Int)) (s2 : Int) : ev2 env57 orc57 loops57 L57_3_code (mkSt L57_3_sh (s0, (s1, (s2, ())))) (back L57_3_sh L57_3_pk L57_3_d) = L57_3_r s0 s1 s2 := by kernel_rfl
theorem L57_3_ok : SumOk env57 orc57 loops57 L57_3_code L57_3_sum := sumOk_lim (un := L57_3_un) loops57_nat (fun _ => rfl) L57_3_dok fun s => L57_3_round s.1 s.2.1 s.2.2
noncomputable def L57_7_code : Code := (loopsOf body57).getD 1 .skip
theorem L57_7_round (s0 : (List UInt8)) (s1 : (List Int)) : ev2 env57 orc57 loops57 L57_7_code (mkSt L57_7_sh (s0, (s1, ()))) (back L57_7_sh L57_7_pk L57_7_d) = L57_7_r s0 s1 := by kernel_rfl
theorem L57_7_ok : SumOk env57 orc57 loops57 L57_7_code L57_7_sum := sumOk_lim (un := L57_7_un) loops57_nat (fun _ => rfl) L57_7_dok fun s => L57_7_round s.1 s.2
noncomputable def L57_10_code : Code := (loopsOf body57).getD 2 .skip
theorem L57_10_round (s0 : (List UInt8)) (s1 : (List Int)) (s2 : Int) : ev2 env57 orc57 loops57 L57_10_code (mkSt L57_10_sh (s0, (s1, (s2, ())))) (back L57_10_sh L57_10_pk L57_10_d) = L57_10_r s0 s1 s2 := by kernel_rfl
theorem L57_10_ok : SumOk env57 orc57 loops57 L57_10_code L57_10_sum := sumOk_lim (un := L57_10_un) loops57_nat (fun _ => rfl) L57_10_dok fun s => L57_10_round s.1 s.2.1 s.2.2
theorem loops57_all : loopsOf body57 = [L57_3_code, L57_7_code, L57_10_code] := by kernel_rfl
theorem L57_3_key : lookL loops57 (keyOf L57_3_code) = some L57_3_sum := by kernel_rfl
theorem L57_7_key : lookL loops57 (keyOf L57_7_code) = some L57_7_sum := by kernel_rfl
theorem L57_10_key : lookL loops57 (keyOf L57_10_code) = some L57_10_sum := by kernel_rfl
theorem loops57_ok : LoopsOk env57 orc57 loops57 body57 := by
  intro c hc f hf
  rw [loops57_all] at hc
  simp only [List.mem_cons, List.not_mem_nil, or_false] at hc
  rcases hc with rfl | rfl | rfl
  · rw [L57_3_key] at hf; cases hf; exact L57_3_ok
  · rw [L57_7_key] at hf; cases hf; exact L57_7_ok
  · rw [L57_10_key] at hf; cases hf; exact L57_10_ok
def G57 (x0 : (List UInt8)) : Option ((List Int)) :=
  let v1 : (List Int) := ([] : (List Int))
  let v2 : (List Int) := ([] : (List Int))
  Option.bind (L57_3 (x0, v2, (0 : Int))) fun (r9 : (List UInt8) × (List Int) × Int) =>
  let v10 : (List Int) := (List.set (List.replicate 1 (0 : Int)) 0 (128 : Int))
  bif (decide (List.length (List.take (List.length r9.2.1) r9.2.1) + List.length v10 ≤ 100000000000)) then
  let v11 : (List Int) := ((List.take (List.length r9.2.1) r9.2.1) ++ v10)
  Option.bind (L57_7 (r9.1, v11)) fun (r17 : (List UInt8) × (List Int)) =>
  Option.bind (L57_10 (r17.1, r17.2, (7 : Int))) fun (r27 : (List UInt8) × (List Int) × Int) =>
  let v28 : (List Int) := (List.take (List.length r27.2.1) r27.2.1)
  some (v28)
  else none
theorem ev57 (x0 : (List UInt8)) : ev2 env57 orc57 loops57 body57 (initSt 0 [⟨.str, x0⟩]) (retT [(2, .dat (.list (.int .u8)))] [(.list (.int .u8))] fun x => x.1) = G57 x0 := by kernel_rfl
def P57 (x0 : (List UInt8)) : Bool := (hold (G57 x0)).isSome
def F57 (x0 : (List UInt8)) : (List Int) := (hold (G57 x0)).getD default
theorem G57_some (x0 : (List UInt8)) (h : P57 x0 = true) : G57 x0 = some (F57 x0) := by
  unfold P57 at h; unfold F57
  rw [hold_eq] at h ⊢
  exact some_getD h
theorem P57_of (x0 : (List UInt8)) {r : (List Int)} (h : G57 x0 = some r) : P57 x0 = true := by unfold P57; rw [hold_eq, h]; rfl
theorem F57_of (x0 : (List UInt8)) {r : (List Int)} (h : G57 x0 = some r) : F57 x0 = r := by unfold F57; rw [hold_eq, h]; rfl
def spec57 : Spec := ⟨[.str], [.dat (.list (.int .u8))], fun | [a0] => P57 (a0.as .str) | _ => false, fun | [a0] => [⟨(.list (.int .u8)), (F57 (a0.as .str))⟩] | _ => []⟩
theorem meets57 (hE : EnvOk Tryd.prog env57) (hm : Tryd.prog.follows .mixedOrders = true) : Meets Tryd.prog glob 57 spec57 :=
  meets_of_ev2 (O := orc57) (L := loops57) (c := body57) (slots := [2]) hE hm Tryd.func57 Tryd.call57 (by kernel_rfl) (by kernel_rfl) loops57_ok (rangesOk_nil (by kernel_rfl)) (by kernel_rfl) rfl (by decide) (fun ds hds hpre => by
  obtain ⟨x0, ds0, rfl, h0⟩ := datsS hds
  have h9 := dats0 h0; subst h9
  exact ev_ret (un := fun r => [⟨(.list (.int .u8)), r⟩]) loops57_nat (fun _ => rfl) ((ev57 x0).trans (G57_some x0 hpre)))
def env69 : Env := {
  tab := tab
  glob := glob
  spec := fun
    | _ => none }

def orc69 : Orc := ⟨13, fun _ => none, fun
  | 0 => kp [0, 1] []
  | 1 => kp [4] []
  | _ => [], fun | _ => false⟩
noncomputable def body69 : Code := Tryd.f69.body.getD .skip
def loops69 : Nat → Option (Sum) := fun | _ => none
theorem loops69_nat : ∀ q f, loops69 q = some f → Natural f := by
  intro q f h
  cases h
theorem loops69_ok : LoopsOk env69 orc69 loops69 body69 := loopsOk_nil (by kernel_rfl)
def G69 (x0 : Int) (x1 : Int) : Option (Int) :=
  bif (decide (0 ≤ x1)) then
  let v1 : Int := (Int.fdiv x0 (2 ^ min (Int.toNat x1) (IntKind.u32.bits)))
  let v2 : Int := (IntKind.i64.wrap ((32 : Int) - x1))
  bif (decide (0 ≤ v2)) then
  let v3 : Int := (IntKind.u32.wrap (x0 * 2 ^ min (Int.toNat v2) (IntKind.u32.bits)))
  let v4 : Int := (bits .or .u32 v1 v3)
  some (v4)
  else none
  else none
theorem ev69 (x0 : Int) (x1 : Int) : ev2 env69 orc69 loops69 body69 (initSt 0 [⟨(.int .u32), x0⟩, ⟨(.int .i64), x1⟩]) (retT [(4, .dat (.int .u32))] [(.int .u32)] fun x => x.1) = G69 x0 x1 := by kernel_rfl
def P69 (x0 : Int) (x1 : Int) : Bool := (hold (G69 x0 x1)).isSome
def F69 (x0 : Int) (x1 : Int) : Int := (hold (G69 x0 x1)).getD default
theorem G69_some (x0 : Int) (x1 : Int) (h : P69 x0 x1 = true) : G69 x0 x1 = some (F69 x0 x1) := by
  unfold P69 at h; unfold F69
  rw [hold_eq] at h ⊢
  exact some_getD h
theorem P69_of (x0 : Int) (x1 : Int) {r : Int} (h : G69 x0 x1 = some r) : P69 x0 x1 = true := by unfold P69; rw [hold_eq, h]; rfl
theorem F69_of (x0 : Int) (x1 : Int) {r : Int} (h : G69 x0 x1 = some r) : F69 x0 x1 = r := by unfold F69; rw [hold_eq, h]; rfl
def spec69 : Spec := ⟨[(.int .u32), (.int .i64)], [.dat (.int .u32)], fun | [a0, a1] => P69 (a0.as (.int .u32)) (a1.as (.int .i64)) | _ => false, fun | [a0, a1] => [⟨(.int .u32), (F69 (a0.as (.int .u32)) (a1.as (.int .i64)))⟩] | _ => []⟩
theorem meets69 (hE : EnvOk Tryd.prog env69) (hm : Tryd.prog.follows .mixedOrders = true) : Meets Tryd.prog glob 69 spec69 :=
  meets_of_ev2 (O := orc69) (L := loops69) (c := body69) (slots := [4]) hE hm Tryd.func69 Tryd.call69 (by kernel_rfl) (by kernel_rfl) loops69_ok (rangesOk_nil (by kernel_rfl)) (by kernel_rfl) rfl (by decide) (fun ds hds hpre => by
  obtain ⟨x0, ds0, rfl, h0⟩ := datsS hds
  obtain ⟨x1, ds1, rfl, h1⟩ := datsS h0
  have h9 := dats0 h1; subst h9
  exact ev_ret (un := fun r => [⟨(.int .u32), r⟩]) loops69_nat (fun _ => rfl) ((ev69 x0 x1).trans (G69_some x0 x1 hpre)))
def env70 : Env := {
  tab := tab
  glob := glob
  spec := fun
    | _ => none }

def orc70 : Orc := ⟨2, fun _ => none, fun
  | 0 => []
  | 1 => kp [0] []
  | _ => [], fun | _ => false⟩
noncomputable def body70 : Code := Tryd.f70.body.getD .skip
def loops70 : Nat → Option (Sum) := fun | _ => none
theorem loops70_nat : ∀ q f, loops70 q = some f → Natural f := by
  intro q f h
  cases h
theorem loops70_ok : LoopsOk env70 orc70 loops70 body70 := loopsOk_nil (by kernel_rfl)
def G70  : Option ((List Int)) :=
  let v1 : (List Int) := ([] : (List Int))
  let v2 : (List Int) := (List.set (List.set (List.set (List.set (List.set (List.set (List.set (List.set (List.set (List.set (List.set (List.set (List.set (List.set (List.set (List.set (List.set (List.set (List.set (List.set (List.set (List.set (List.set (List.set (List.set (List.set (List.set (List.set (List.set (List.set (List.set (List.set (List.set (List.set (List.set (List.set (List.set (List.set (List.set (List.set (List.set (List.set (List.set (List.set (List.set (List.set (List.set (List.set (List.set (List.set (List.set (List.set (List.set (List.set (List.set (List.set (List.set (List.set (List.set (List.set (List.set (List.set (List.set (List.set (List.replicate 64 (0 : Int)) 0 (1116352408 : Int)) 1 (1899447441 : Int)) 2 (3049323471 : Int)) 3 (3921009573 : Int)) 4 (961987163 : Int)) 5 (1508970993 : Int)) 6 (2453635748 : Int)) 7 (2870763221 : Int)) 8 (3624381080 : Int)) 9 (310598401 : Int)) 10 (607225278 : Int)) 11 (1426881987 : Int)) 12 (1925078388 : Int)) 13 (2162078206 : Int)) 14 (2614888103 : Int)) 15 (3248222580 : Int)) 16 (3835390401 : Int)) 17 (4022224774 : Int)) 18 (264347078 : Int)) 19 (604807628 : Int)) 20 (770255983 : Int)) 21 (1249150122 : Int)) 22 (1555081692 : Int)) 23 (1996064986 : Int)) 24 (2554220882 : Int)) 25 (2821834349 : Int)) 26 (2952996808 : Int)) 27 (3210313671 : Int)) 28 (3336571891 : Int)) 29 (3584528711 : Int)) 30 (113926993 : Int)) 31 (338241895 : Int)) 32 (666307205 : Int)) 33 (773529912 : Int)) 34 (1294757372 : Int)) 35 (1396182291 : Int)) 36 (1695183700 : Int)) 37 (1986661051 : Int)) 38 (2177026350 : Int)) 39 (2456956037 : Int)) 40 (2730485921 : Int)) 41 (2820302411 : Int)) 42 (3259730800 : Int)) 43 (3345764771 : Int)) 44 (3516065817 : Int)) 45 (3600352804 : Int)) 46 (4094571909 : Int)) 47 (275423344 : Int)) 48 (430227734 : Int)) 49 (506948616 : Int)) 50 (659060556 : Int)) 51 (883997877 : Int)) 52 (958139571 : Int)) 53 (1322822218 : Int)) 54 (1537002063 : Int)) 55 (1747873779 : Int)) 56 (1955562222 : Int)) 57 (2024104815 : Int)) 58 (2227730452 : Int)) 59 (2361852424 : Int)) 60 (2428436474 : Int)) 61 (2756734187 : Int)) 62 (3204031479 : Int)) 63 (3329325298 : Int))
  some (v2)
theorem ev70  : ev2 env70 orc70 loops70 body70 (initSt 0 []) (retT [(0, .dat (.list (.int .u32)))] [(.list (.int .u32))] fun x => x.1) = G70  := by kernel_rfl
def P70  : Bool := (hold (G70 )).isSome
def F70  : (List Int) := (hold (G70 )).getD default
theorem G70_some  (h : P70  = true) : G70  = some (F70 ) := by
  unfold P70 at h; unfold F70
  rw [hold_eq] at h ⊢
  exact some_getD h
theorem P70_of  {r : (List Int)} (h : G70  = some r) : P70  = true := by unfold P70; rw [hold_eq, h]; rfl
theorem F70_of  {r : (List Int)} (h : G70  = some r) : F70  = r := by unfold F70; rw [hold_eq, h]; rfl
def spec70 : Spec := ⟨[], [.dat (.list (.int .u32))], fun | [] => P70 | _ => false, fun | [] => [⟨(.list (.int .u32)), F70⟩] | _ => []⟩
theorem meets70 (hE : EnvOk Tryd.prog env70) (hm : Tryd.prog.follows .mixedOrders = true) : Meets Tryd.prog glob 70 spec70 :=
  meets_of_ev2 (O := orc70) (L := loops70) (c := body70) (slots := [0]) hE hm Tryd.func70 Tryd.call70 (by kernel_rfl) (by kernel_rfl) loops70_ok (rangesOk_nil (by kernel_rfl)) (by kernel_rfl) rfl (by decide) (fun ds hds hpre => by
  have h9 := dats0 hds; subst h9
  exact ev_ret (un := fun r => [⟨(.list (.int .u32)), r⟩]) loops70_nat (fun _ => rfl) ((ev70 ).trans (G70_some  hpre)))
def env58 : Env := {
  tab := tab
  glob := glob
  spec := fun
    | 69 => some spec69
    | 70 => some spec70
    | _ => none }

def orc58 : Orc := ⟨238, fun _ => none, fun
  | 0 => kp [0, 1] []
  | 1 => kp [0, 1, 5] []
  | 2 => kp [0, 1, 5, 6] []
  | 3 => kp [0, 1, 5, 6, 20] []
  | 4 => kp [0, 1, 5, 6] []
  | 5 => kp [0, 1, 5, 6] []
  | 6 => kp [0, 5, 7] []
  | 7 => kp [0, 5, 7, 60] []
  | 8 => kp [0, 5, 7] []
  | 9 => kp [0, 5, 7, 8] []
  | 10 => kp [0, 5, 7, 8, 9] []
  | 11 => kp [0, 5, 7] []
  | 12 => kp [0, 5, 10] []
  | 13 => kp [0, 5, 10, 11] []
  | 14 => kp [0, 5, 10, 11] []
  | 15 => kp [0, 5, 10, 11, 12] []
  | 16 => kp [0, 5, 10, 11, 12, 126] []
  | 17 => kp [0, 5, 10, 11, 12] []
  | 18 => kp [0, 5, 10, 11, 12, 13] []
  | 19 => kp [0, 5, 10, 11, 12, 13, 14] []
  | 20 => kp [0, 5, 10, 11, 12, 13, 14, 15] []
  | 21 => kp [0, 5, 10, 11, 12, 13, 14, 15, 16] []
  | 22 => kp [0, 5, 10, 11, 12] []
  | 23 => kp [0, 11, 17] []
  | 24 => kp [0, 11, 17, 18] []
  | 25 => kp [0, 11, 17, 18, 222] []
  | 26 => kp [0, 11, 17, 18] []
  | 27 => kp [0, 11, 17, 18] []
  | 28 => kp [4] []
  | _ => [], fun | _ => false⟩
noncomputable def body58 : Code := Tryd.f58.body.getD .skip
def L58_25_sh : Shape := [(.slot 0, .dat (.list (.int .u32))), (.slot 11, .own 69 (.int .u32)), (.slot 17, .own 69 (.int .u32)), (.slot 18, .dat (.int .i64))]
def L58_25_x0 : Shape := [(.slot 0, .dat (.list (.int .u32))), (.slot 11, .own 69 (.int .u32)), (.slot 17, .own 69 (.int .u32)), (.slot 18, .dat (.int .i64))]
def L58_25_pk (s : Tup L58_25_sh) : (List Int) × (List Int) × (List Int) × Int := (s.1, s.2.1, s.2.2.1, s.2.2.2.1)
def L58_25_un (s : (List Int) × (List Int) × (List Int) × Int) : Tup L58_25_sh := (s.1, (s.2.1, (s.2.2.1, (s.2.2.2, ()))))
def L58_25_leave (x : ((List Int) × (List Int) × (List Int) × Int)) (R : Type) (K : Cont R) : Option R := match x with
  | a => K (.exit 6) (mkSt L58_25_x0 (a.1, (a.2.1, (a.2.2.1, (a.2.2.2, ())))))
def L58_25_d (e : Exit) (st : St) : Option (((List Int) × (List Int) × (List Int) × Int)) := match e with
  | .exit 6 => (match unSt L58_25_x0 st with
    | some s => some (s.1, s.2.1, s.2.2.1, s.2.2.2.1)
    | none => none)
  | _ => none
def L58_25_r (s0 : (List Int)) (s1 : (List Int)) (s2 : (List Int)) (s3 : Int) : Option (((List Int) × (List Int) × (List Int) × Int) ⊕ (((List Int) × (List Int) × (List Int) × Int))) :=
  let v112 : Bool := (decide (s3 < (8 : Int)))
  bif v112 then
  bif (decide (0 ≤ s3) && decide (s3 < List.length s0)) then
  let v113 : Int := (List.getD s0 (Int.toNat s3) (0 : Int))
  bif (decide (0 ≤ s3) && decide (s3 < (List.length s1))) then
  bif (decide ((Int.toNat s3) < List.length s1)) then
  let v114 : Int := (List.getD s1 (Int.toNat s3) (0 : Int))
  let v115 : Int := (IntKind.u32.wrap (v113 + v114))
  let v116 : (List Int) := (List.set (List.replicate 1 (0 : Int)) 0 v115)
  bif (decide (List.length (List.take (List.length s2) s2) + List.length v116 ≤ 100000000000)) then
  let v117 : (List Int) := ((List.take (List.length s2) s2) ++ v116)
  let v118 : Int := (IntKind.i64.wrap (s3 + (1 : Int)))
  some (.inl (s0, s1, v117, v118))
  else none
  else none
  else none
  else none
  else
  some (.inr (s0, s1, s2, s3))
def L58_25 : (List Int) × (List Int) × (List Int) × Int → Option (((List Int) × (List Int) × (List Int) × Int)) := Lim (fun s => L58_25_r s.1 s.2.1 s.2.2.1 s.2.2.2)
def L58_25_sum : Sum := limSum L58_25_sh L58_25_pk (fun s => L58_25_r s.1 s.2.1 s.2.2.1 s.2.2.2) L58_25_leave
theorem L58_25_nat : Natural L58_25_sum := natural_lim fun x R K => by
  rfl
theorem L58_25_dok : ∀ e st x, e ≠ .normal → L58_25_d e st = some x → ∀ R (K : Cont R), K e st = L58_25_leave x R K := by
  intro e st x _ h R K
  unfold L58_25_d at h
  split at h
  · split at h
    · rename_i s hs; cases h; rw [unSt_some hs]; rfl
    · cases h
  · cases h
def L58_16_sh : Shape := [(.slot 0, .dat (.list (.int .u32))), (.slot 5, .own 69 (.int .u32)), (.slot 10, .dat (.list (.int .u32))), (.slot 11, .own 69 (.int .u32)), (.slot 12, .dat (.int .i64))]
def L58_16_x0 : Shape := [(.slot 0, .dat (.list (.int .u32))), (.slot 5, .own 69 (.int .u32)), (.slot 10, .dat (.list (.int .u32))), (.slot 11, .own 69 (.int .u32)), (.slot 12, .dat (.int .i64))]
def L58_16_pk (s : Tup L58_16_sh) : (List Int) × (List Int) × (List Int) × (List Int) × Int := (s.1, s.2.1, s.2.2.1, s.2.2.2.1, s.2.2.2.2.1)
def L58_16_un (s : (List Int) × (List Int) × (List Int) × (List Int) × Int) : Tup L58_16_sh := (s.1, (s.2.1, (s.2.2.1, (s.2.2.2.1, (s.2.2.2.2, ())))))
def L58_16_leave (x : ((List Int) × (List Int) × (List Int) × (List Int) × Int)) (R : Type) (K : Cont R) : Option R := match x with
  | a => K (.exit 4) (mkSt L58_16_x0 (a.1, (a.2.1, (a.2.2.1, (a.2.2.2.1, (a.2.2.2.2, ()))))))
def L58_16_d (e : Exit) (st : St) : Option (((List Int) × (List Int) × (List Int) × (List Int) × Int)) := match e with
  | .exit 4 => (match unSt L58_16_x0 st with
    | some s => some (s.1, s.2.1, s.2.2.1, s.2.2.2.1, s.2.2.2.2.1)
    | none => none)
  | _ => none
end
end Go.Ev.D
