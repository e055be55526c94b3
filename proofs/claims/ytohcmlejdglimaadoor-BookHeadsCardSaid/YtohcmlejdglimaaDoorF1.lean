/- The functions of the program as functions of Lean,with the proofs that they are. -/
import Derived.Test.YtohcmlejdglimaaDoorPa
import Derived.Test.YtohcmlejdglimaaDoorProg
import Derived.KernelRfl
set_option linter.unusedSimpArgs false
set_option linter.unusedVariables false
set_option linter.deprecated false
namespace Go.Ev.T
open Go Go.Proofs Go.Ev
noncomputable section
abbrev t13:Ty:=(.pair .str (.pair (.int .u64) .unit))
abbrev t7:Ty:=(.pair (.int .i64) (.pair (.int .i64) (.pair .bool (.pair (.int .u8) .unit))))
abbrev Tll:Type:=List (List UInt8)
abbrev Tby:Type:=List UInt8
abbrev Tin:Type:=List Int
abbrev D26:Type:=(Int×(Int×(Int×(Int×(Int×(Int×(Int×Unit)))))))
abbrev Tlp:Type:=List D26
abbrev t26:Ty:=(.pair (.int .i64) (.pair (.int .i64) (.pair (.int .i64) (.pair (.int .i64) (.pair (.int .i64) (.pair (.int .i64) (.pair (.int .i64) .unit)))))))
abbrev z26:D26:=((0:Int),((0:Int),((0:Int),((0:Int),((0:Int),((0:Int),((0:Int),())))))))
abbrev D23:Type:=(Int×(Tlp×(Int×Unit)))
abbrev t23:Ty:=(.pair (.int .i64) (.pair (.list t26) (.pair (.int .i64) .unit)))
abbrev z23:D23:=((0:Int),(([]:Tlp),((0:Int),())))
abbrev t73:Ty:=(.pair t23 (.pair (.arr 200 .bool) .unit))
def tab:Tab:=⟨fun
 | 2=>some (.int .i64)
 | 3=>some (.int .i64)
 | 4=>some .bool
 | 5=>some (.int .u8)
 | 6=>some (.int .u8)
 | 7=>some t7
 | 8=>some t7
 | 9=>some .str
 | 10=>some .str
 | 11=>some .str
 | 12=>some (.int .u64)
 | 13=>some t13
 | 14=>some t13
 | 21=>some (.int .i32)
 | 22=>some (.list t26)
 | 23=>some t23
 | 24=>some t23
 | 25=>some (.list (.arr 5 (.int .i64)))
 | 26=>some t26
 | 27=>some t26
 | 29=>some (.int .i64)
 | 33=>some (.list t23)
 | 36=>some (.list .str)
 | 46=>some (.list (.int .i64))
 | 57=>some (.list (.int .u8))
 | 67=>some (.arr 5 (.int .i64))
 | 72=>some (.arr 200 .bool)
 | 73=>some t73
 | 74=>some t73
 | 77=>some (.int .u32)
 | 78=>some (.list (.int .u32))
 | 81=>some (.int .u64)
 | 84=>some (.arr 12 (.int .i64))
 | 85=>some (.arr 12 (.int .i64))
 | 94=>some (.int .u64)
 | 104=>some (.list .bool)
 | 119=>some (.arr 8 (.int .u32))
 | 120=>some (.arr 8 (.int .u32))
 | 127=>some (.arr 64 (.int .u32))
 | 130=>some (.arr 32 (.int .u8))
 | 136=>some (.int .u8)
 | 137=>some (.int .u8)
 | 139=>some (.int .i32)
 | 140=>some (.int .i32)
 | _=>none,fun
 | 22=>some 27
 | 25=>some 67
 | 33=>some 24
 | 36=>some 9
 | 46=>some 3
 | 57=>some 5
 | 78=>some 77
 | 104=>some 4
 | _=>none,fun | 4 | 27 | 85=>true | _=>false,fun
 | 22=>[(0,27,t26)]
 | 23=>[(1,27,t26)]
 | 24=>[(1,27,t26)]
 | 25=>[(0,67,(.arr 5 (.int .i64)))]
 | 33=>[(0,24,t23)]
 | 36=>[(0,9,.str)]
 | 46=>[(0,3,(.int .i64))]
 | 57=>[(0,5,(.int .u8))]
 | 73=>[(1,27,t26)]
 | 74=>[(1,27,t26)]
 | 78=>[(0,77,(.int .u32))]
 | 104=>[(0,4,.bool)]
 | _=>[],fun
 | 1=>some false
 | 15=>some true
 | 16=>some true
 | 17=>some true
 | 28=>some false
 | 31=>some false
 | 32=>some false
 | 34=>some false
 | 35=>some false
 | 37=>some false
 | 38=>some false
 | 39=>some false
 | 40=>some false
 | 41=>some false
 | 42=>some false
 | 43=>some false
 | 45=>some false
 | 48=>some false
 | 50=>some false
 | 51=>some false
 | 53=>some false
 | 54=>some false
 | 55=>some false
 | 56=>some true
 | 60=>some false
 | 64=>some false
 | 65=>some false
 | 66=>some false
 | 68=>some true
 | 70=>some false
 | 71=>some false
 | 76=>some false
 | 79=>some false
 | 80=>some false
 | 82=>some false
 | 83=>some false
 | 86=>some false
 | 87=>some false
 | 88=>some false
 | 89=>some false
 | 90=>some false
 | 91=>some false
 | 92=>some false
 | 93=>some false
 | 95=>some true
 | 96=>some false
 | 98=>some false
 | 99=>some false
 | 100=>some false
 | 101=>some false
 | 102=>some false
 | 103=>some false
 | 105=>some false
 | 106=>some false
 | 107=>some false
 | 108=>some true
 | 109=>some false
 | 111=>some false
 | 112=>some false
 | 114=>some false
 | 116=>some false
 | 117=>some false
 | 118=>some false
 | 121=>some false
 | 122=>some false
 | 123=>some false
 | 124=>some false
 | 125=>some false
 | 126=>some true
 | 128=>some false
 | 129=>some false
 | 138=>some false
 | _=>none⟩
def roundK:List Int:=[1116352408,1899447441,3049323471,3921009573,961987163,1508970993,2453635748,2870763221,3624381080,310598401,607225278,1426881987,1925078388,2162078206,2614888103,3248222580,3835390401,4022224774,264347078,604807628,770255983,1249150122,1555081692,1996064986,2554220882,2821834349,2952996808,3210313671,3336571891,3584528711,113926993,338241895,666307205,773529912,1294757372,1396182291,1695183700,1986661051,2177026350,2456956037,2730485921,2820302411,3259730800,3345764771,3516065817,3600352804,4094571909,275423344,430227734,506948616,659060556,883997877,958139571,1322822218,1537002063,1747873779,1955562222,2024104815,2227730452,2361852424,2428436474,2756734187,3204031479,3329325298]
def glob:Nat→Option Dat:=fun | 1=>some ⟨.arr 64 (.int .u32),roundK⟩ | _=>none
def bldT:Nat→Option Nat:=fun | 59=>some 5 | _=>none
def bldF:Nat→Option (Bool×Nat×Nat):=fun | 26=>some (true,59,5) | 27=>some (false,59,5) | _=>none
theorem full71:Meets Tryd.prog glob 71 spec71:=join_meets glob
theorem full34:Meets Tryd.prog glob 34 spec34:=repeat_meets glob
theorem bldOk:BldOk Tryd.prog bldT bldF:=by
 refine ⟨fun t e h=>?_,fun f t e h=>?_,fun f t e h=>?_⟩
 ·unfold bldT at h
  split at h
  ·cases h; kernel_rfl
  ·cases h
 ·unfold bldF at h
  split at h<;>cases h
  exact Tryd.bldW_26
 ·unfold bldF at h
  split at h<;>cases h
  exact Tryd.bldS_27
theorem tyOk2:TyOk Tryd.prog tab 2 (.int .i64):=⟨Tryd.underlying2,by kernel_rfl⟩
theorem tyOk3:TyOk Tryd.prog tab 3 (.int .i64):=⟨Tryd.underlying3,by kernel_rfl⟩
theorem tyOk4:TyOk Tryd.prog tab 4 .bool:=⟨Tryd.underlying4,by kernel_rfl⟩
theorem tyOk5:TyOk Tryd.prog tab 5 (.int .u8):=⟨Tryd.underlying5,by kernel_rfl⟩
theorem tyOk6:TyOk Tryd.prog tab 6 (.int .u8):=⟨Tryd.underlying6,by kernel_rfl⟩
theorem tyOk7:TyOk Tryd.prog tab 7 t7:=⟨⟨_,Tryd.underlying7,(And.intro rfl (And.intro rfl (And.intro rfl (And.intro rfl (And.intro rfl (And.intro rfl (And.intro rfl (And.intro rfl trivial))))))))⟩,by kernel_rfl⟩
theorem tyOk8:TyOk Tryd.prog tab 8 t7:=⟨⟨_,Tryd.underlying8,(And.intro rfl (And.intro rfl (And.intro rfl (And.intro rfl (And.intro rfl (And.intro rfl (And.intro rfl (And.intro rfl trivial))))))))⟩,by kernel_rfl⟩
theorem tyOk9:TyOk Tryd.prog tab 9 .str:=⟨Tryd.underlying9,by kernel_rfl⟩
theorem tyOk10:TyOk Tryd.prog tab 10 .str:=⟨Tryd.underlying10,by kernel_rfl⟩
theorem tyOk11:TyOk Tryd.prog tab 11 .str:=⟨Tryd.underlying11,by kernel_rfl⟩
theorem tyOk12:TyOk Tryd.prog tab 12 (.int .u64):=⟨Tryd.underlying12,by kernel_rfl⟩
theorem tyOk13:TyOk Tryd.prog tab 13 t13:=⟨⟨_,Tryd.underlying13,(And.intro rfl (And.intro rfl (And.intro rfl (And.intro rfl trivial))))⟩,by kernel_rfl⟩
theorem tyOk14:TyOk Tryd.prog tab 14 t13:=⟨⟨_,Tryd.underlying14,(And.intro rfl (And.intro rfl (And.intro rfl (And.intro rfl trivial))))⟩,by kernel_rfl⟩
theorem tyOk21:TyOk Tryd.prog tab 21 (.int .i32):=⟨Tryd.underlying21,by kernel_rfl⟩
theorem tyOk22:TyOk Tryd.prog tab 22 (.list t26):=⟨⟨27,Tryd.underlying22,rfl,rfl,by decide,Tryd.t27.bytes,Nat.le_of_ble_eq_true (by kernel_rfl),by kernel_rfl⟩,by kernel_rfl⟩
theorem tyOk23:TyOk Tryd.prog tab 23 t23:=⟨⟨_,Tryd.underlying23,(And.intro rfl (And.intro rfl (And.intro rfl (And.intro rfl (And.intro rfl (And.intro rfl trivial))))))⟩,by kernel_rfl⟩
theorem tyOk24:TyOk Tryd.prog tab 24 t23:=⟨⟨_,Tryd.underlying24,(And.intro rfl (And.intro rfl (And.intro rfl (And.intro rfl (And.intro rfl (And.intro rfl trivial))))))⟩,by kernel_rfl⟩
theorem tyOk25:TyOk Tryd.prog tab 25 (.list (.arr 5 (.int .i64))):=⟨⟨67,Tryd.underlying25,rfl,rfl,by decide,Tryd.t67.bytes,Nat.le_of_ble_eq_true (by kernel_rfl),by kernel_rfl⟩,by kernel_rfl⟩
theorem tyOk26:TyOk Tryd.prog tab 26 t26:=⟨⟨_,Tryd.underlying26,(And.intro rfl (And.intro rfl (And.intro rfl (And.intro rfl (And.intro rfl (And.intro rfl (And.intro rfl (And.intro rfl (And.intro rfl (And.intro rfl (And.intro rfl (And.intro rfl (And.intro rfl (And.intro rfl trivial))))))))))))))⟩,by kernel_rfl⟩
theorem tyOk27:TyOk Tryd.prog tab 27 t26:=⟨⟨_,Tryd.underlying27,(And.intro rfl (And.intro rfl (And.intro rfl (And.intro rfl (And.intro rfl (And.intro rfl (And.intro rfl (And.intro rfl (And.intro rfl (And.intro rfl (And.intro rfl (And.intro rfl (And.intro rfl (And.intro rfl trivial))))))))))))))⟩,by kernel_rfl⟩
theorem tyOk29:TyOk Tryd.prog tab 29 (.int .i64):=⟨Tryd.underlying29,by kernel_rfl⟩
theorem tyOk33:TyOk Tryd.prog tab 33 (.list t23):=⟨⟨24,Tryd.underlying33,rfl,rfl,by decide,Tryd.t24.bytes,Nat.le_of_ble_eq_true (by kernel_rfl),by kernel_rfl⟩,by kernel_rfl⟩
theorem tyOk36:TyOk Tryd.prog tab 36 (.list .str):=⟨⟨9,Tryd.underlying36,rfl,rfl,by decide,Tryd.t9.bytes,Nat.le_of_ble_eq_true (by kernel_rfl),by kernel_rfl⟩,by kernel_rfl⟩
theorem tyOk46:TyOk Tryd.prog tab 46 (.list (.int .i64)):=⟨⟨3,Tryd.underlying46,rfl,rfl,by decide,Tryd.t3.bytes,Nat.le_of_ble_eq_true (by kernel_rfl),by kernel_rfl⟩,by kernel_rfl⟩
theorem tyOk57:TyOk Tryd.prog tab 57 (.list (.int .u8)):=⟨⟨5,Tryd.underlying57,rfl,rfl,by decide,Tryd.t5.bytes,Nat.le_of_ble_eq_true (by kernel_rfl),by kernel_rfl⟩,by kernel_rfl⟩
theorem tyOk67:TyOk Tryd.prog tab 67 (.arr 5 (.int .i64)):=⟨⟨3,Tryd.underlying67,rfl,by decide,by kernel_rfl⟩,by kernel_rfl⟩
theorem tyOk72:TyOk Tryd.prog tab 72 (.arr 200 .bool):=⟨⟨4,Tryd.underlying72,rfl,by decide,by kernel_rfl⟩,by kernel_rfl⟩
theorem tyOk73:TyOk Tryd.prog tab 73 t73:=⟨⟨_,Tryd.underlying73,(And.intro rfl (And.intro rfl (And.intro rfl (And.intro rfl trivial))))⟩,by kernel_rfl⟩
theorem tyOk74:TyOk Tryd.prog tab 74 t73:=⟨⟨_,Tryd.underlying74,(And.intro rfl (And.intro rfl (And.intro rfl (And.intro rfl trivial))))⟩,by kernel_rfl⟩
theorem tyOk77:TyOk Tryd.prog tab 77 (.int .u32):=⟨Tryd.underlying77,by kernel_rfl⟩
theorem tyOk78:TyOk Tryd.prog tab 78 (.list (.int .u32)):=⟨⟨77,Tryd.underlying78,rfl,rfl,by decide,Tryd.t77.bytes,Nat.le_of_ble_eq_true (by kernel_rfl),by kernel_rfl⟩,by kernel_rfl⟩
theorem tyOk81:TyOk Tryd.prog tab 81 (.int .u64):=⟨Tryd.underlying81,by kernel_rfl⟩
theorem tyOk84:TyOk Tryd.prog tab 84 (.arr 12 (.int .i64)):=⟨⟨3,Tryd.underlying84,rfl,by decide,by kernel_rfl⟩,by kernel_rfl⟩
theorem tyOk85:TyOk Tryd.prog tab 85 (.arr 12 (.int .i64)):=⟨⟨3,Tryd.underlying85,rfl,by decide,by kernel_rfl⟩,by kernel_rfl⟩
theorem tyOk94:TyOk Tryd.prog tab 94 (.int .u64):=⟨Tryd.underlying94,by kernel_rfl⟩
theorem tyOk104:TyOk Tryd.prog tab 104 (.list .bool):=⟨⟨4,Tryd.underlying104,rfl,rfl,by decide,Tryd.t4.bytes,Nat.le_of_ble_eq_true (by kernel_rfl),by kernel_rfl⟩,by kernel_rfl⟩
theorem tyOk119:TyOk Tryd.prog tab 119 (.arr 8 (.int .u32)):=⟨⟨77,Tryd.underlying119,rfl,by decide,by kernel_rfl⟩,by kernel_rfl⟩
theorem tyOk120:TyOk Tryd.prog tab 120 (.arr 8 (.int .u32)):=⟨⟨77,Tryd.underlying120,rfl,by decide,by kernel_rfl⟩,by kernel_rfl⟩
theorem tyOk127:TyOk Tryd.prog tab 127 (.arr 64 (.int .u32)):=⟨⟨77,Tryd.underlying127,rfl,by decide,by kernel_rfl⟩,by kernel_rfl⟩
theorem tyOk130:TyOk Tryd.prog tab 130 (.arr 32 (.int .u8)):=⟨⟨5,Tryd.underlying130,rfl,by decide,by kernel_rfl⟩,by kernel_rfl⟩
theorem tyOk136:TyOk Tryd.prog tab 136 (.int .u8):=⟨Tryd.underlying136,by kernel_rfl⟩
theorem tyOk137:TyOk Tryd.prog tab 137 (.int .u8):=⟨Tryd.underlying137,by kernel_rfl⟩
theorem tyOk139:TyOk Tryd.prog tab 139 (.int .i32):=⟨Tryd.underlying139,by kernel_rfl⟩
theorem tyOk140:TyOk Tryd.prog tab 140 (.int .i32):=⟨Tryd.underlying140,by kernel_rfl⟩
theorem eqOk27:EqOk Tryd.prog 27 t26:=eqOk_agg (by kernel_rfl) rfl (by decide) (by kernel_rfl)
theorem eqOk85:EqOk Tryd.prog 85 (.arr 12 (.int .i64)):=eqOk_agg (by kernel_rfl) rfl (by decide) (by kernel_rfl)
theorem refOk1:RefOk Tryd.prog 1 false:=⟨by kernel_rfl,_,Tryd.underlying1,trivial⟩
theorem refOk15:RefOk Tryd.prog 15 true:=⟨by kernel_rfl,_,Tryd.underlying15,trivial⟩
theorem refOk16:RefOk Tryd.prog 16 true:=⟨by kernel_rfl,_,Tryd.underlying16,trivial⟩
theorem refOk17:RefOk Tryd.prog 17 true:=⟨by kernel_rfl,_,Tryd.underlying17,trivial⟩
theorem refOk28:RefOk Tryd.prog 28 false:=⟨by kernel_rfl,_,Tryd.underlying28,trivial⟩
theorem refOk31:RefOk Tryd.prog 31 false:=⟨by kernel_rfl,_,Tryd.underlying31,trivial⟩
theorem refOk32:RefOk Tryd.prog 32 false:=⟨by kernel_rfl,_,Tryd.underlying32,trivial⟩
theorem refOk34:RefOk Tryd.prog 34 false:=⟨by kernel_rfl,_,Tryd.underlying34,trivial⟩
theorem refOk35:RefOk Tryd.prog 35 false:=⟨by kernel_rfl,_,Tryd.underlying35,trivial⟩
theorem refOk37:RefOk Tryd.prog 37 false:=⟨by kernel_rfl,_,Tryd.underlying37,trivial⟩
theorem refOk38:RefOk Tryd.prog 38 false:=⟨by kernel_rfl,_,Tryd.underlying38,trivial⟩
theorem refOk39:RefOk Tryd.prog 39 false:=⟨by kernel_rfl,_,Tryd.underlying39,trivial⟩
theorem refOk40:RefOk Tryd.prog 40 false:=⟨by kernel_rfl,_,Tryd.underlying40,trivial⟩
theorem refOk41:RefOk Tryd.prog 41 false:=⟨by kernel_rfl,_,Tryd.underlying41,trivial⟩
theorem refOk42:RefOk Tryd.prog 42 false:=⟨by kernel_rfl,_,Tryd.underlying42,trivial⟩
theorem refOk43:RefOk Tryd.prog 43 false:=⟨by kernel_rfl,_,Tryd.underlying43,trivial⟩
theorem refOk45:RefOk Tryd.prog 45 false:=⟨by kernel_rfl,_,Tryd.underlying45,trivial⟩
theorem refOk48:RefOk Tryd.prog 48 false:=⟨by kernel_rfl,_,Tryd.underlying48,trivial⟩
theorem refOk50:RefOk Tryd.prog 50 false:=⟨by kernel_rfl,_,Tryd.underlying50,trivial⟩
theorem refOk51:RefOk Tryd.prog 51 false:=⟨by kernel_rfl,_,Tryd.underlying51,trivial⟩
theorem refOk53:RefOk Tryd.prog 53 false:=⟨by kernel_rfl,_,Tryd.underlying53,trivial⟩
theorem refOk54:RefOk Tryd.prog 54 false:=⟨by kernel_rfl,_,Tryd.underlying54,trivial⟩
theorem refOk55:RefOk Tryd.prog 55 false:=⟨by kernel_rfl,_,Tryd.underlying55,trivial⟩
theorem refOk56:RefOk Tryd.prog 56 true:=⟨by kernel_rfl,_,Tryd.underlying56,trivial⟩
theorem refOk60:RefOk Tryd.prog 60 false:=⟨by kernel_rfl,_,Tryd.underlying60,trivial⟩
theorem refOk64:RefOk Tryd.prog 64 false:=⟨by kernel_rfl,_,Tryd.underlying64,trivial⟩
theorem refOk65:RefOk Tryd.prog 65 false:=⟨by kernel_rfl,_,Tryd.underlying65,trivial⟩
theorem refOk66:RefOk Tryd.prog 66 false:=⟨by kernel_rfl,_,Tryd.underlying66,trivial⟩
theorem refOk68:RefOk Tryd.prog 68 true:=⟨by kernel_rfl,_,Tryd.underlying68,trivial⟩
theorem refOk70:RefOk Tryd.prog 70 false:=⟨by kernel_rfl,_,Tryd.underlying70,trivial⟩
theorem refOk71:RefOk Tryd.prog 71 false:=⟨by kernel_rfl,_,Tryd.underlying71,trivial⟩
theorem refOk76:RefOk Tryd.prog 76 false:=⟨by kernel_rfl,_,Tryd.underlying76,trivial⟩
theorem refOk79:RefOk Tryd.prog 79 false:=⟨by kernel_rfl,_,Tryd.underlying79,trivial⟩
theorem refOk80:RefOk Tryd.prog 80 false:=⟨by kernel_rfl,_,Tryd.underlying80,trivial⟩
theorem refOk82:RefOk Tryd.prog 82 false:=⟨by kernel_rfl,_,Tryd.underlying82,trivial⟩
theorem refOk83:RefOk Tryd.prog 83 false:=⟨by kernel_rfl,_,Tryd.underlying83,trivial⟩
theorem refOk86:RefOk Tryd.prog 86 false:=⟨by kernel_rfl,_,Tryd.underlying86,trivial⟩
theorem refOk87:RefOk Tryd.prog 87 false:=⟨by kernel_rfl,_,Tryd.underlying87,trivial⟩
theorem refOk88:RefOk Tryd.prog 88 false:=⟨by kernel_rfl,_,Tryd.underlying88,trivial⟩
theorem refOk89:RefOk Tryd.prog 89 false:=⟨by kernel_rfl,_,Tryd.underlying89,trivial⟩
theorem refOk90:RefOk Tryd.prog 90 false:=⟨by kernel_rfl,_,Tryd.underlying90,trivial⟩
theorem refOk91:RefOk Tryd.prog 91 false:=⟨by kernel_rfl,_,Tryd.underlying91,trivial⟩
theorem refOk92:RefOk Tryd.prog 92 false:=⟨by kernel_rfl,_,Tryd.underlying92,trivial⟩
theorem refOk93:RefOk Tryd.prog 93 false:=⟨by kernel_rfl,_,Tryd.underlying93,trivial⟩
theorem refOk95:RefOk Tryd.prog 95 true:=⟨by kernel_rfl,_,Tryd.underlying95,trivial⟩
theorem refOk96:RefOk Tryd.prog 96 false:=⟨by kernel_rfl,_,Tryd.underlying96,trivial⟩
theorem refOk98:RefOk Tryd.prog 98 false:=⟨by kernel_rfl,_,Tryd.underlying98,trivial⟩
theorem refOk99:RefOk Tryd.prog 99 false:=⟨by kernel_rfl,_,Tryd.underlying99,trivial⟩
theorem refOk100:RefOk Tryd.prog 100 false:=⟨by kernel_rfl,_,Tryd.underlying100,trivial⟩
theorem refOk101:RefOk Tryd.prog 101 false:=⟨by kernel_rfl,_,Tryd.underlying101,trivial⟩
theorem refOk102:RefOk Tryd.prog 102 false:=⟨by kernel_rfl,_,Tryd.underlying102,trivial⟩
theorem refOk103:RefOk Tryd.prog 103 false:=⟨by kernel_rfl,_,Tryd.underlying103,trivial⟩
theorem refOk105:RefOk Tryd.prog 105 false:=⟨by kernel_rfl,_,Tryd.underlying105,trivial⟩
theorem refOk106:RefOk Tryd.prog 106 false:=⟨by kernel_rfl,_,Tryd.underlying106,trivial⟩
theorem refOk107:RefOk Tryd.prog 107 false:=⟨by kernel_rfl,_,Tryd.underlying107,trivial⟩
theorem refOk108:RefOk Tryd.prog 108 true:=⟨by kernel_rfl,_,Tryd.underlying108,trivial⟩
theorem refOk109:RefOk Tryd.prog 109 false:=⟨by kernel_rfl,_,Tryd.underlying109,trivial⟩
theorem refOk111:RefOk Tryd.prog 111 false:=⟨by kernel_rfl,_,Tryd.underlying111,trivial⟩
theorem refOk112:RefOk Tryd.prog 112 false:=⟨by kernel_rfl,_,Tryd.underlying112,trivial⟩
theorem refOk114:RefOk Tryd.prog 114 false:=⟨by kernel_rfl,_,Tryd.underlying114,trivial⟩
theorem refOk116:RefOk Tryd.prog 116 false:=⟨by kernel_rfl,_,Tryd.underlying116,trivial⟩
theorem refOk117:RefOk Tryd.prog 117 false:=⟨by kernel_rfl,_,Tryd.underlying117,trivial⟩
theorem refOk118:RefOk Tryd.prog 118 false:=⟨by kernel_rfl,_,Tryd.underlying118,trivial⟩
theorem refOk121:RefOk Tryd.prog 121 false:=⟨by kernel_rfl,_,Tryd.underlying121,trivial⟩
theorem refOk122:RefOk Tryd.prog 122 false:=⟨by kernel_rfl,_,Tryd.underlying122,trivial⟩
theorem refOk123:RefOk Tryd.prog 123 false:=⟨by kernel_rfl,_,Tryd.underlying123,trivial⟩
theorem refOk124:RefOk Tryd.prog 124 false:=⟨by kernel_rfl,_,Tryd.underlying124,trivial⟩
theorem refOk125:RefOk Tryd.prog 125 false:=⟨by kernel_rfl,_,Tryd.underlying125,trivial⟩
theorem refOk126:RefOk Tryd.prog 126 true:=⟨by kernel_rfl,_,Tryd.underlying126,trivial⟩
theorem refOk128:RefOk Tryd.prog 128 false:=⟨by kernel_rfl,_,Tryd.underlying128,trivial⟩
theorem refOk129:RefOk Tryd.prog 129 false:=⟨by kernel_rfl,_,Tryd.underlying129,trivial⟩
theorem refOk138:RefOk Tryd.prog 138 false:=⟨by kernel_rfl,_,Tryd.underlying138,trivial⟩
theorem tabOk:TabOk Tryd.prog tab:=by
 refine ⟨fun id t h=>?_,fun id t h he=>?_,fun id b h=>?_⟩
 ·unfold tab at h
  dsimp only at h
  split at h
  ·cases h; exact tyOk2
  ·cases h; exact tyOk3
  ·cases h; exact tyOk4
  ·cases h; exact tyOk5
  ·cases h; exact tyOk6
  ·cases h; exact tyOk7
  ·cases h; exact tyOk8
  ·cases h; exact tyOk9
  ·cases h; exact tyOk10
  ·cases h; exact tyOk11
  ·cases h; exact tyOk12
  ·cases h; exact tyOk13
  ·cases h; exact tyOk14
  ·cases h; exact tyOk21
  ·cases h; exact tyOk22
  ·cases h; exact tyOk23
  ·cases h; exact tyOk24
  ·cases h; exact tyOk25
  ·cases h; exact tyOk26
  ·cases h; exact tyOk27
  ·cases h; exact tyOk29
  ·cases h; exact tyOk33
  ·cases h; exact tyOk36
  ·cases h; exact tyOk46
  ·cases h; exact tyOk57
  ·cases h; exact tyOk67
  ·cases h; exact tyOk72
  ·cases h; exact tyOk73
  ·cases h; exact tyOk74
  ·cases h; exact tyOk77
  ·cases h; exact tyOk78
  ·cases h; exact tyOk81
  ·cases h; exact tyOk84
  ·cases h; exact tyOk85
  ·cases h; exact tyOk94
  ·cases h; exact tyOk104
  ·cases h; exact tyOk119
  ·cases h; exact tyOk120
  ·cases h; exact tyOk127
  ·cases h; exact tyOk130
  ·cases h; exact tyOk136
  ·cases h; exact tyOk137
  ·cases h; exact tyOk139
  ·cases h; exact tyOk140
  ·cases h
 ·unfold tab at he
  dsimp only at he
  split at he
  ·cases h; exact eqOk_bool Tryd.underlying4
  ·cases h; exact eqOk27
  ·cases h; exact eqOk85
  ·cases he
 ·unfold tab at h
  dsimp only at h
  split at h
  ·cases h; exact refOk1
  ·cases h; exact refOk15
  ·cases h; exact refOk16
  ·cases h; exact refOk17
  ·cases h; exact refOk28
  ·cases h; exact refOk31
  ·cases h; exact refOk32
  ·cases h; exact refOk34
  ·cases h; exact refOk35
  ·cases h; exact refOk37
  ·cases h; exact refOk38
  ·cases h; exact refOk39
  ·cases h; exact refOk40
  ·cases h; exact refOk41
  ·cases h; exact refOk42
  ·cases h; exact refOk43
  ·cases h; exact refOk45
  ·cases h; exact refOk48
  ·cases h; exact refOk50
  ·cases h; exact refOk51
  ·cases h; exact refOk53
  ·cases h; exact refOk54
  ·cases h; exact refOk55
  ·cases h; exact refOk56
  ·cases h; exact refOk60
  ·cases h; exact refOk64
  ·cases h; exact refOk65
  ·cases h; exact refOk66
  ·cases h; exact refOk68
  ·cases h; exact refOk70
  ·cases h; exact refOk71
  ·cases h; exact refOk76
  ·cases h; exact refOk79
  ·cases h; exact refOk80
  ·cases h; exact refOk82
  ·cases h; exact refOk83
  ·cases h; exact refOk86
  ·cases h; exact refOk87
  ·cases h; exact refOk88
  ·cases h; exact refOk89
  ·cases h; exact refOk90
  ·cases h; exact refOk91
  ·cases h; exact refOk92
  ·cases h; exact refOk93
  ·cases h; exact refOk95
  ·cases h; exact refOk96
  ·cases h; exact refOk98
  ·cases h; exact refOk99
  ·cases h; exact refOk100
  ·cases h; exact refOk101
  ·cases h; exact refOk102
  ·cases h; exact refOk103
  ·cases h; exact refOk105
  ·cases h; exact refOk106
  ·cases h; exact refOk107
  ·cases h; exact refOk108
  ·cases h; exact refOk109
  ·cases h; exact refOk111
  ·cases h; exact refOk112
  ·cases h; exact refOk114
  ·cases h; exact refOk116
  ·cases h; exact refOk117
  ·cases h; exact refOk118
  ·cases h; exact refOk121
  ·cases h; exact refOk122
  ·cases h; exact refOk123
  ·cases h; exact refOk124
  ·cases h; exact refOk125
  ·cases h; exact refOk126
  ·cases h; exact refOk128
  ·cases h; exact refOk129
  ·cases h; exact refOk138
  ·cases h
def env41:Env:={
 tab:=tab
 glob:=glob
 spec:=fun
  | _=>none
 bldT:=bldT
 bld:=bldF }
def orc41:Orc:=⟨15,fun _=>none,fun
 | 0=>kp [0,1,2] []
 | 1=>kp [6] []
 | _=>[],fun | _=>false⟩
noncomputable def body41:Code:=Tryd.f41.body.getD .skip
def loops41:Nat→Option (Sum):=fun | _=>none
theorem loops41_nat:∀ q f,loops41 q=some f→Natural f:=by
 intro q f h
 cases h
theorem loops41_ok:LoopsOk env41 orc41 loops41 body41:=loopsOk_nil (by kernel_rfl)
def G41 (x0:Int) (x1:Int) (x2:Int):Option (Bool) :=
 let v1:Bool:=(decide (x1≤x0))
 let v2:Bool:=(decide (x0≤x2))
 let v3:Bool:=(bif v1 then v2 else false)
 some (v3)
theorem ev41 (x0:Int) (x1:Int) (x2:Int):ev2 env41 orc41 loops41 body41 (initSt 0 [⟨(.int .i64),x0⟩,⟨(.int .i64),x1⟩,⟨(.int .i64),x2⟩]) (retT [(6,.dat .bool)] [.bool] fun x=>x.1)=G41 x0 x1 x2:=by kernel_rfl
def P41 (x0:Int) (x1:Int) (x2:Int):Bool:=(hold (G41 x0 x1 x2)).isSome
def F41 (x0:Int) (x1:Int) (x2:Int):Bool:=(hold (G41 x0 x1 x2)).getD default
theorem G41_some (x0:Int) (x1:Int) (x2:Int) (h:P41 x0 x1 x2=true):G41 x0 x1 x2=some (F41 x0 x1 x2):=by
 unfold P41 at h; unfold F41
 rw [hold_eq] at h ⊢
 exact some_getD h
theorem P41_of (x0:Int) (x1:Int) (x2:Int) {r:Bool} (h:G41 x0 x1 x2=some r):P41 x0 x1 x2=true:=by unfold P41; rw [hold_eq,h]; rfl
theorem F41_of (x0:Int) (x1:Int) (x2:Int) {r:Bool} (h:G41 x0 x1 x2=some r):F41 x0 x1 x2=r:=by unfold F41; rw [hold_eq,h]; rfl
def spec41:Spec:=⟨[(.int .i64),(.int .i64),(.int .i64)],[.dat .bool],fun | [a0,a1,a2]=>P41 (a0.as (.int .i64)) (a1.as (.int .i64)) (a2.as (.int .i64)) | _=>false,fun | [a0,a1,a2]=>[⟨.bool,(F41 (a0.as (.int .i64)) (a1.as (.int .i64)) (a2.as (.int .i64)))⟩] | _=>[]⟩
theorem meets41 (hE:EnvOk Tryd.prog env41) (hm:Tryd.prog.follows .mixedOrders=true):Meets Tryd.prog glob 41 spec41 :=
 meets_of_ev2 (O:=orc41) (L:=loops41) (c:=body41) (slots:=[6]) hE hm Tryd.func41 Tryd.call41 (by kernel_rfl) (by kernel_rfl) loops41_ok (rangesOk_nil (by kernel_rfl)) (by kernel_rfl) rfl (by decide) (fun ds hds hpre=>by
 obtain ⟨x0,ds0,rfl,h0⟩:=datsS hds
 obtain ⟨x1,ds1,rfl,h1⟩:=datsS h0
 obtain ⟨x2,ds2,rfl,h2⟩:=datsS h1
 have h9:=dats0 h2; subst h9
 exact ev_ret (un:=fun r=>[⟨.bool,r⟩]) loops41_nat (fun _=>rfl) ((ev41 x0 x1 x2).trans (G41_some x0 x1 x2 hpre)))
def env63:Env:={
 tab:=tab
 glob:=glob
 spec:=fun
  | 41=>some spec41
  | _=>none
 bldT:=bldT
 bld:=bldF }
def orc63:Orc:=⟨50,fun _=>none,fun
 | 0=>kp [1,2] [(2,[0,1,2,3,4,5,6])]
 | 1=>kp [1,2,5] [(2,[0,1,2,3,4,5,6])]
 | 2=>kp [1,2,5] [(2,[0,1,2,3,4,5,6])]
 | 3=>kp [2,5] [(2,[0,1,2,3,4,5,6])]
 | 4=>kp [2,5] [(2,[0,1,2,3,4,5,6])]
 | 5=>kp [2,5] [(2,[0,1,2,3,4,5,6])]
 | 6=>kp [2,5] [(2,[0,1,2,3,4,5,6])]
 | 7=>kp [4] []
 | 8=>kp [2,35] [(2,[0,1,2,3,4,5,6])]
 | 9=>kp [4] []
 | 10=>kp [4] []
 | _=>[],fun | 5=>true | _=>false⟩
noncomputable def body63:Code:=Tryd.f63.body.getD .skip
def loops63:Nat→Option (Sum):=fun | _=>none
theorem loops63_nat:∀ q f,loops63 q=some f→Natural f:=by
 intro q f h
 cases h
theorem loops63_ok:LoopsOk env63 orc63 loops63 body63:=loopsOk_nil (by kernel_rfl)
def G63 (x0:D26) (x1:Int):Option (Bool) :=
 bif (P41 x0.2.1 (0:Int) (359:Int)) then
 let v1:Bool:=(F41 x0.2.1 (0:Int) (359:Int))
 let v2:Bool:=(!v1)
 bif v2 then
 some (false)
 else
 let v3:Int:=(IntKind.i64.wrap (x1 - (1:Int)))
 bif (P41 x0.2.2.1 (0:Int) v3) then
 let v4:Bool:=(F41 x0.2.2.1 (0:Int) v3)
 let v5:Bool:=(!v4)
 bif v5 then
 some (false)
 else
 let v6:Int:=(IntKind.i64.wrap (x1 - (1:Int)))
 bif (P41 x0.2.2.2.1 (0:Int) v6) then
 let v7:Bool:=(F41 x0.2.2.2.1 (0:Int) v6)
 let v8:Bool:=(!v7)
 bif v8 then
 some (false)
 else
 let v9:Bool:=(x0.2.2.1==x0.2.2.2.1)
 bif v9 then
 some (false)
 else
 bif (P41 x0.2.2.2.2.1 (1:Int) (1000000000:Int)) then
 let v10:Bool:=(F41 x0.2.2.2.2.1 (1:Int) (1000000000:Int))
 let v11:Bool:=(!v10)
 bif v11 then
 some (false)
 else
 bif (P41 x0.2.2.2.2.2.1 (0:Int) (999:Int)) then
 let v12:Bool:=(F41 x0.2.2.2.2.2.1 (0:Int) (999:Int))
 let v13:Bool:=(!v12)
 bif v13 then
 some (false)
 else
 let v14:Bool:=(x0.1==(1:Int))
 bif v14 then
 let v15:Bool:=(x0.2.2.2.2.2.2.1==(-1:Int))
 some (v15)
 else
 let v16:Bool:=(x0.1==(2:Int))
 bif ((P41 x0.2.2.2.2.2.2.1 (0:Int) (199:Int)) || !(v16 && true)) then
 let v17:Bool:=(F41 x0.2.2.2.2.2.2.1 (0:Int) (199:Int))
 let v18:Bool:=(bif v16 then v17 else false)
 some (v18)
 else none
 else none
 else none
 else none
 else none
 else none
theorem ev63 (x0:D26) (x1:Int):ev2 env63 orc63 loops63 body63 (initSt 0 [⟨t26,x0⟩,⟨(.int .i64),x1⟩]) (retT [(4,.dat .bool)] [.bool] fun x=>x.1)=G63 x0 x1:=by kernel_rfl
def P63 (x0:D26) (x1:Int):Bool:=(hold (G63 x0 x1)).isSome
def F63 (x0:D26) (x1:Int):Bool:=(hold (G63 x0 x1)).getD default
theorem G63_some (x0:D26) (x1:Int) (h:P63 x0 x1=true):G63 x0 x1=some (F63 x0 x1):=by
 unfold P63 at h; unfold F63
 rw [hold_eq] at h ⊢
 exact some_getD h
theorem P63_of (x0:D26) (x1:Int) {r:Bool} (h:G63 x0 x1=some r):P63 x0 x1=true:=by unfold P63; rw [hold_eq,h]; rfl
theorem F63_of (x0:D26) (x1:Int) {r:Bool} (h:G63 x0 x1=some r):F63 x0 x1=r:=by unfold F63; rw [hold_eq,h]; rfl
def spec63:Spec:=⟨[t26,(.int .i64)],[.dat .bool],fun | [a0,a1]=>P63 (a0.as t26) (a1.as (.int .i64)) | _=>false,fun | [a0,a1]=>[⟨.bool,(F63 (a0.as t26) (a1.as (.int .i64)))⟩] | _=>[]⟩
theorem meets63 (hE:EnvOk Tryd.prog env63) (hm:Tryd.prog.follows .mixedOrders=true):Meets Tryd.prog glob 63 spec63 :=
 meets_of_ev2 (O:=orc63) (L:=loops63) (c:=body63) (slots:=[4]) hE hm Tryd.func63 Tryd.call63 (by kernel_rfl) (by kernel_rfl) loops63_ok (rangesOk_nil (by kernel_rfl)) (by kernel_rfl) rfl (by decide) (fun ds hds hpre=>by
 obtain ⟨x0,ds0,rfl,h0⟩:=datsS hds
 obtain ⟨x1,ds1,rfl,h1⟩:=datsS h0
 have h9:=dats0 h1; subst h9
 exact ev_ret (un:=fun r=>[⟨.bool,r⟩]) loops63_nat (fun _=>rfl) ((ev63 x0 x1).trans (G63_some x0 x1 hpre)))
def env64:Env:={
 tab:=tab
 glob:=glob
 spec:=fun
  | _=>none
 bldT:=bldT
 bld:=bldF }
def orc64:Orc:=⟨36,fun _=>none,fun
 | 0=>kp [2,3] [(2,[0,1,2,3,4,5,6]),(3,[0,1,2,3,4,5,6])]
 | 1=>kp [4] []
 | _=>[],fun | _=>false⟩
noncomputable def body64:Code:=Tryd.f64.body.getD .skip
def loops64:Nat→Option (Sum):=fun | _=>none
theorem loops64_nat:∀ q f,loops64 q=some f→Natural f:=by
 intro q f h
 cases h
theorem loops64_ok:LoopsOk env64 orc64 loops64 body64:=loopsOk_nil (by kernel_rfl)
def G64 (x0:D26) (x1:D26):Option (Bool) :=
 let v1:Bool:=(x1.1==(1:Int))
 let v2:Bool:=(x0.2.2.1==x1.2.2.2.1)
 let v3:Bool:=(bif v1 then v2 else false)
 let v4:Bool:=(x0.2.2.2.1==x1.2.2.1)
 let v5:Bool:=(bif v3 then v4 else false)
 let v6:Bool:=(x0.2.2.2.2.1==x1.2.2.2.2.1)
 let v7:Bool:=(bif v5 then v6 else false)
 let v8:Bool:=(x0.2.2.2.2.2.1==x1.2.2.2.2.2.1)
 let v9:Bool:=(bif v7 then v8 else false)
 some (v9)
theorem ev64 (x0:D26) (x1:D26):ev2 env64 orc64 loops64 body64 (initSt 0 [⟨t26,x0⟩,⟨t26,x1⟩]) (retT [(4,.dat .bool)] [.bool] fun x=>x.1)=G64 x0 x1:=by kernel_rfl
def P64 (x0:D26) (x1:D26):Bool:=(hold (G64 x0 x1)).isSome
def F64 (x0:D26) (x1:D26):Bool:=(hold (G64 x0 x1)).getD default
theorem G64_some (x0:D26) (x1:D26) (h:P64 x0 x1=true):G64 x0 x1=some (F64 x0 x1):=by
 unfold P64 at h; unfold F64
 rw [hold_eq] at h ⊢
 exact some_getD h
theorem P64_of (x0:D26) (x1:D26) {r:Bool} (h:G64 x0 x1=some r):P64 x0 x1=true:=by unfold P64; rw [hold_eq,h]; rfl
theorem F64_of (x0:D26) (x1:D26) {r:Bool} (h:G64 x0 x1=some r):F64 x0 x1=r:=by unfold F64; rw [hold_eq,h]; rfl
def spec64:Spec:=⟨[t26,t26],[.dat .bool],fun | [a0,a1]=>P64 (a0.as t26) (a1.as t26) | _=>false,fun | [a0,a1]=>[⟨.bool,(F64 (a0.as t26) (a1.as t26))⟩] | _=>[]⟩
theorem meets64 (hE:EnvOk Tryd.prog env64) (hm:Tryd.prog.follows .mixedOrders=true):Meets Tryd.prog glob 64 spec64 :=
 meets_of_ev2 (O:=orc64) (L:=loops64) (c:=body64) (slots:=[4]) hE hm Tryd.func64 Tryd.call64 (by kernel_rfl) (by kernel_rfl) loops64_ok (rangesOk_nil (by kernel_rfl)) (by kernel_rfl) rfl (by decide) (fun ds hds hpre=>by
 obtain ⟨x0,ds0,rfl,h0⟩:=datsS hds
 obtain ⟨x1,ds1,rfl,h1⟩:=datsS h0
 have h9:=dats0 h1; subst h9
 exact ev_ret (un:=fun r=>[⟨.bool,r⟩]) loops64_nat (fun _=>rfl) ((ev64 x0 x1).trans (G64_some x0 x1 hpre)))
def pin51:Shape:=[(.slot 0,.ptr 50000 0),(.slot 1,.dat t26),(.box 50000,.bx 74 203),(.cell 50000 0,.dat (.int .i64)),(.cell 50000 1,.own 27 t26),(.cell 50000 2,.dat (.int .i64)),(.cell 50000 3,.dat (.arr 200 .bool))]
def pout51:Shape:=[(.slot 0,.dat .bool),(.box 50000,.bx 74 203),(.cell 50000 0,.dat (.int .i64)),(.cell 50000 1,.own 27 t26),(.cell 50000 2,.dat (.int .i64)),(.cell 50000 3,.dat (.arr 200 .bool))]
def env51:Env:={
 tab:=tab
 glob:=glob
 spec:=fun
  | 63=>some spec63
  | 64=>some spec64
  | _=>none
 bldT:=bldT
 bld:=bldF }
def orc51:Orc:=⟨91,fun _=>none,fun
 | 0=>kp [0,3] [(3,[0,1,2,3,4,5,6]),(50000,[0,1,2,3])]
 | 1=>kp [0,3,5] [(3,[0,1,2,3,4,5,6]),(50000,[0,1,2,3])]
 | 2=>kp [0,3,5,42] [(3,[0,1,2,3,4,5,6]),(50000,[0,1,2,3])]
 | 3=>kp [4] [(50000,[0,1,2,3])]
 | 4=>kp [0,3,5,45] [(3,[0,1,2,3,4,5,6]),(50000,[0,1,2,3])]
 | 5=>kp [0,3,72] [(3,[0,1,2,3,4,5,6]),(50000,[0,1,2,3])]
 | 6=>kp [4] [(50000,[0,1,2,3])]
 | 7=>kp [0,3] [(3,[0,1,2,3,4,5,6]),(50000,[0,1,2,3])]
 | 8=>kp [] [(50000,[0,1,2,3])]
 | 9=>kp [4] [(50000,[0,1,2,3])]
 | _=>[],fun | _=>false⟩
noncomputable def body51:Code:=Tryd.f51.body.getD .skip
def loops51:Nat→Option (Sum):=fun | _=>none
theorem loops51_ok:LoopsOk env51 orc51 loops51 body51:=loopsOk_nil (by kernel_rfl)
def G51 (x0:D26) (x1:Int) (x2:Tlp) (x3:Int) (x4:(List Bool)):Option (Bool×(Unit×(Int×(Tlp×(Int×((List Bool)×Unit)))))) :=
 let v1:Int:=(((List.length x2):Nat):Int)
 let v2:Bool:=(decide (v1≥(200:Int)))
 bif ((P63 x0 x1) || !(!v2 && true)) then
 let v3:Bool:=(F63 x0 x1)
 let v4:Bool:=(!v3)
 let v5:Bool:=(bif v2 then true else v4)
 let v6:Bool:=(decide (v1 > (0:Int)))
 let v7:Int:=(IntKind.i64.wrap (v1 - (1:Int)))
 bif ((decide (0≤v7) && decide (v7 < (List.length x2))) || !(v6 && (!v5 && true))) then
 bif ((decide ((Int.toNat v7) < List.length x2)) || !(v6 && (!v5 && true))) then
 let v8:Int:=((List.getD x2 (Int.toNat v7) z26).2).1
 let v9:Bool:=(decide (x0.2.1 < v8))
 let v10:Bool:=(bif v6 then v9 else false)
 let v11:Bool:=(bif v5 then true else v10)
 bif v11 then
 some (false,((),(x1,(x2,(x3,(x4,()))))))
 else
 let v12:Bool:=(x0.1==(2:Int))
 bif v12 then
 let v13:Bool:=(decide (x0.2.2.2.2.2.2.1≥v1))
 bif ((decide (0≤x0.2.2.2.2.2.2.1) && decide (x0.2.2.2.2.2.2.1 < (200:Nat))) || !(!v13 && true)) then
 bif ((decide ((Int.toNat x0.2.2.2.2.2.2.1) < List.length x4)) || !(!v13 && true)) then
 let v14:Bool:=(List.getD x4 (Int.toNat x0.2.2.2.2.2.2.1) false)
 let v15:Bool:=(bif v13 then true else v14)
 bif ((decide (0≤x0.2.2.2.2.2.2.1) && decide (x0.2.2.2.2.2.2.1 < (List.length x2))) || !(!v15 && true)) then
 bif ((decide ((Int.toNat x0.2.2.2.2.2.2.1) < List.length x2)) || !(!v15 && true)) then
 let v16:D26:=(List.getD x2 (Int.toNat x0.2.2.2.2.2.2.1) z26)
 bif ((P64 x0 v16) || !(!v15 && true)) then
 let v17:Bool:=(F64 x0 v16)
 let v18:Bool:=(!v17)
 let v19:Bool:=(bif v15 then true else v18)
 bif v19 then
 some (false,((),(x1,(x2,(x3,(x4,()))))))
 else
 bif (decide (0≤x0.2.2.2.2.2.2.1) && decide (x0.2.2.2.2.2.2.1 < (200:Nat))) then
 bif (decide ((Int.toNat x0.2.2.2.2.2.2.1) < List.length x4)) then
 let v20:(List Bool):=(List.set x4 (Int.toNat x0.2.2.2.2.2.2.1) true)
 let v21:Tlp:=(List.set (List.replicate 1 z26) 0 x0)
 bif (decide (List.length (List.take (List.length x2) x2)+List.length v21≤100000000000)) then
 let v22:Tlp:=((List.take (List.length x2) x2)++v21)
 some (true,((),(x1,(v22,(x3,(v20,()))))))
 else none
 else none
 else none
 else none
 else none
 else none
 else none
 else none
 else
 let v23:Tlp:=(List.set (List.replicate 1 z26) 0 x0)
 bif (decide (List.length (List.take (List.length x2) x2)+List.length v23≤100000000000)) then
 let v24:Tlp:=((List.take (List.length x2) x2)++v23)
 some (true,((),(x1,(v24,(x3,(x4,()))))))
 else none
 else none
 else none
 else none
def P51 (x0:D26) (x1:Int) (x2:Tlp) (x3:Int) (x4:(List Bool)):Bool:=(hold (G51 x0 x1 x2 x3 x4)).isSome
def F51 (x0:D26) (x1:Int) (x2:Tlp) (x3:Int) (x4:(List Bool)):(Bool×(Unit×(Int×(Tlp×(Int×((List Bool)×Unit)))))):=(hold (G51 x0 x1 x2 x3 x4)).getD (Tup.zero pout51)
theorem P51_of (x0:D26) (x1:Int) (x2:Tlp) (x3:Int) (x4:(List Bool)) {r:(Bool×(Unit×(Int×(Tlp×(Int×((List Bool)×Unit))))))} (h:G51 x0 x1 x2 x3 x4=some r):P51 x0 x1 x2 x3 x4=true:=by unfold P51; rw [hold_eq,h]; rfl
theorem F51_of (x0:D26) (x1:Int) (x2:Tlp) (x3:Int) (x4:(List Bool)) {r:(Bool×(Unit×(Int×(Tlp×(Int×((List Bool)×Unit))))))} (h:G51 x0 x1 x2 x3 x4=some r):F51 x0 x1 x2 x3 x4=r:=by unfold F51; rw [hold_eq,h]; rfl
theorem ev51 (x0:D26) (x1:Int) (x2:Tlp) (x3:Int) (x4:(List Bool)):ev2 env51 orc51 loops51 body51 (mkSt pin51 ((),(x0,((),(x1,(x2,(x3,(x4,())))))))) (retK3 env51 [.slot 4] pout51)=G51 x0 x1 x2 x3 x4:=by kernel_rfl
def sp51:Spec2:=⟨pin51,pout51,fun s=>hold (G51 s.2.1 s.2.2.2.1 s.2.2.2.2.1 s.2.2.2.2.2.1 s.2.2.2.2.2.2.1)⟩
theorem fit51:Fit Tryd.f51 [.slot 4] sp51:=⟨by kernel_rfl,by kernel_rfl,by kernel_rfl,by kernel_rfl,by kernel_rfl,by decide,by decide,by decide⟩
theorem meets51 (hE:EnvOk Tryd.prog env51) (hm:Tryd.prog.follows .mixedOrders=true):Meets2 Tryd.prog glob 51 sp51 :=
 meets2_of_ev2 (O:=orc51) (L:=loops51) (c:=body51) (rs:=[.slot 4]) hE (fun _=>rfl) hm Tryd.func51 Tryd.call51 (by kernel_rfl) (by kernel_rfl) loops51_ok (rangesOk_nil (by kernel_rfl)) fit51 (fun s o h=>(ev51 s.2.1 s.2.2.2.1 s.2.2.2.2.1 s.2.2.2.2.2.1 s.2.2.2.2.2.2.1).trans ((hold_eq _).symm.trans h))
def pin33:Shape:=[(.slot 0,.dat t23)]
def pout33:Shape:=[(.slot 0,.mptr 13 0),(.slot 1,.dat .bool),(.box 13,.bx 74 203),(.cell 13 0,.dat (.int .i64)),(.cell 13 1,.own 27 t26),(.cell 13 2,.dat (.int .i64)),(.cell 13 3,.dat (.arr 200 .bool))]
def env33:Env:={
 tab:=tab
 glob:=glob
 spec:=fun
  | 41=>some spec41
  | _=>none
 spec2:=fun
  | 51,[]=>some sp51
  | _,_=>none
 bldT:=bldT
 bld:=bldF }
def orc33:Orc:=⟨35,fun _=>none,fun
 | 0=>kp [1] [(1,[0,1,2])]
 | 1=>kp [1,4] [(1,[0,1,2]),(13,[0,1,2,3])]
 | 2=>kp [1,4,15,16,17] [(1,[0,1,2]),(13,[0,1,2,3])]
 | 3=>kp [1,4,15,16,17,18] [(1,[0,1,2]),(13,[0,1,2,3])]
 | 4=>kp [1,4,6,15,16,17] [(1,[0,1,2]),(6,[0,1,2,3,4,5,6]),(13,[0,1,2,3])]
 | 5=>kp [1,4,15,16,17,24] [(1,[0,1,2]),(13,[0,1,2,3])]
 | 6=>kp [2,3] [(13,[0,1,2,3])]
 | 7=>kp [1,4,15,16,17] [(1,[0,1,2]),(13,[0,1,2,3])]
 | 8=>kp [2,3] [(13,[0,1,2,3])]
 | _=>[],fun | _=>false⟩
noncomputable def body33:Code:=Tryd.f33.body.getD .skip
abbrev L33_3_T:Type:=Tlp×Int×Int×Int×Tlp×Int×Int×Tlp×Int×(List Bool)
def L33_3_sh:Shape:=[(.slot 1,.ptr 1 0),(.slot 4,.ptr 13 0),(.slot 15,.dat (.list t26)),(.slot 16,.dat (.int .i64)),(.slot 17,.dat (.int .i64)),(.box 1,.bx 24 3),(.cell 1 0,.dat (.int .i64)),(.cell 1 1,.dat (.list t26)),(.cell 1 2,.dat (.int .i64)),(.box 13,.bx 74 203),(.cell 13 0,.dat (.int .i64)),(.cell 13 1,.own 27 t26),(.cell 13 2,.dat (.int .i64)),(.cell 13 3,.dat (.arr 200 .bool))]
def L33_3_x0:Shape:=[(.slot 2,.nilp),(.slot 3,.dat .bool),(.box 13,.bx 74 203),(.cell 13 0,.dat (.int .i64)),(.cell 13 1,.own 27 t26),(.cell 13 2,.dat (.int .i64)),(.cell 13 3,.dat (.arr 200 .bool))]
def L33_3_x1:Shape:=[(.slot 1,.ptr 1 0),(.slot 4,.ptr 13 0),(.slot 15,.dat (.list t26)),(.slot 16,.dat (.int .i64)),(.slot 17,.dat (.int .i64)),(.box 1,.bx 24 3),(.cell 1 0,.dat (.int .i64)),(.cell 1 1,.dat (.list t26)),(.cell 1 2,.dat (.int .i64)),(.box 13,.bx 74 203),(.cell 13 0,.dat (.int .i64)),(.cell 13 1,.own 27 t26),(.cell 13 2,.dat (.int .i64)),(.cell 13 3,.dat (.arr 200 .bool))]
def L33_3_pk (s:Tup L33_3_sh):L33_3_T:=(s.2.2.1,s.2.2.2.1,s.2.2.2.2.1,s.2.2.2.2.2.2.1,s.2.2.2.2.2.2.2.1,s.2.2.2.2.2.2.2.2.1,s.2.2.2.2.2.2.2.2.2.2.1,s.2.2.2.2.2.2.2.2.2.2.2.1,s.2.2.2.2.2.2.2.2.2.2.2.2.1,s.2.2.2.2.2.2.2.2.2.2.2.2.2.1)
def L33_3_un (s:Tlp×Int×Int×Int×Tlp×Int×Int×Tlp×Int×(List Bool)):Tup L33_3_sh:=((),((),(s.1,(s.2.1,(s.2.2.1,((),(s.2.2.2.1,(s.2.2.2.2.1,(s.2.2.2.2.2.1,((),(s.2.2.2.2.2.2.1,(s.2.2.2.2.2.2.2.1,(s.2.2.2.2.2.2.2.2.1,(s.2.2.2.2.2.2.2.2.2,()))))))))))))))
def L33_3_leave (x:(Bool×Int×Tlp×Int×(List Bool))⊕L33_3_T) (R:Type) (K:Cont R):Option R:=match x with
 | (.inl a)=>K .ret (mkSt L33_3_x0 ((),(a.1,((),(a.2.1,(a.2.2.1,(a.2.2.2.1,(a.2.2.2.2,()))))))))
 | (.inr a)=>K (.exit 0) (mkSt L33_3_x1 ((),((),(a.1,(a.2.1,(a.2.2.1,((),(a.2.2.2.1,(a.2.2.2.2.1,(a.2.2.2.2.2.1,((),(a.2.2.2.2.2.2.1,(a.2.2.2.2.2.2.2.1,(a.2.2.2.2.2.2.2.2.1,(a.2.2.2.2.2.2.2.2.2,())))))))))))))))
def L33_3_d (e:Exit) (st:St):Option ((Bool×Int×Tlp×Int×(List Bool))⊕L33_3_T):=match e with
 | .ret=>(match unSt L33_3_x0 st with
  | some s=>some (.inl (s.2.1,s.2.2.2.1,s.2.2.2.2.1,s.2.2.2.2.2.1,s.2.2.2.2.2.2.1))
  | none=>none)
 | .exit 0=>(match unSt L33_3_x1 st with
  | some s=>some (.inr (s.2.2.1,s.2.2.2.1,s.2.2.2.2.1,s.2.2.2.2.2.2.1,s.2.2.2.2.2.2.2.1,s.2.2.2.2.2.2.2.2.1,s.2.2.2.2.2.2.2.2.2.2.1,s.2.2.2.2.2.2.2.2.2.2.2.1,s.2.2.2.2.2.2.2.2.2.2.2.2.1,s.2.2.2.2.2.2.2.2.2.2.2.2.2.1))
  | none=>none)
 | _=>none
def L33_3_r (s0:Tlp) (s1:Int) (s2:Int) (s3:Int) (s4:Tlp) (s5:Int) (s6:Int) (s7:Tlp) (s8:Int) (s9:(List Bool)):Option (L33_3_T⊕((Bool×Int×Tlp×Int×(List Bool))⊕L33_3_T)) :=
 let v5:Bool:=(decide (s2 < s1))
 bif v5 then
 bif (decide (0≤s2) && decide (s2 < List.length s0)) then
 let v6:D26:=(List.getD s0 (Int.toNat s2) z26)
 bif (P51 v6 s6 s7 s8 s9) then
 let q7:(Bool×(Unit×(Int×(Tlp×(Int×((List Bool)×Unit)))))):=F51 v6 s6 s7 s8 s9
 let v8:Bool:=(!q7.1)
 bif v8 then
 some (.inr (.inl (false,q7.2.2.1,q7.2.2.2.1,q7.2.2.2.2.1,q7.2.2.2.2.2.1)))
 else
 let v9:Int:=(IntKind.i64.wrap (s2+(1:Int)))
 some (.inl (s0,s1,v9,s3,s4,s5,q7.2.2.1,q7.2.2.2.1,q7.2.2.2.2.1,q7.2.2.2.2.2.1))
 else none
 else none
 else
 some (.inr (.inr (s0,s1,s2,s3,s4,s5,s6,s7,s8,s9)))
def L33_3:L33_3_T→Option ((Bool×Int×Tlp×Int×(List Bool))⊕L33_3_T):=Lim (fun s=>L33_3_r s.1 s.2.1 s.2.2.1 s.2.2.2.1 s.2.2.2.2.1 s.2.2.2.2.2.1 s.2.2.2.2.2.2.1 s.2.2.2.2.2.2.2.1 s.2.2.2.2.2.2.2.2.1 s.2.2.2.2.2.2.2.2.2)
def L33_3_sum:Sum:=limSum L33_3_sh L33_3_pk (fun s=>L33_3_r s.1 s.2.1 s.2.2.1 s.2.2.2.1 s.2.2.2.2.1 s.2.2.2.2.2.1 s.2.2.2.2.2.2.1 s.2.2.2.2.2.2.2.1 s.2.2.2.2.2.2.2.2.1 s.2.2.2.2.2.2.2.2.2) L33_3_leave
theorem L33_3_nat:Natural L33_3_sum:=natural_lim fun x R K=>by
 rcases x with x|x<;>rfl
theorem L33_3_dok:∀ e st x,e≠.normal→L33_3_d e st=some x→∀ R (K:Cont R),K e st=L33_3_leave x R K:=by
 intro e st x _ h R K
 unfold L33_3_d at h
 split at h
 ·split at h
  ·rename_i s hs; cases h; rw [unSt_some hs]; rfl
  ·cases h
 ·split at h
  ·rename_i s hs; cases h; rw [unSt_some hs]; rfl
  ·cases h
 ·cases h
def loops33:Nat→Option (Sum):=fun | 3=>some L33_3_sum | _=>none
theorem loops33_nat:∀ q f,loops33 q=some f→Natural f:=by
 intro q f h
 unfold loops33 at h
 split at h
 ·cases h; exact L33_3_nat
 ·cases h
noncomputable def L33_3_code:Code:=(loopsOf body33).getD 0 .skip
theorem L33_3_round (s0:Tlp) (s1:Int) (s2:Int) (s3:Int) (s4:Tlp) (s5:Int) (s6:Int) (s7:Tlp) (s8:Int) (s9:(List Bool)):ev2 env33 orc33 loops33 L33_3_code (mkSt L33_3_sh ((),((),(s0,(s1,(s2,((),(s3,(s4,(s5,((),(s6,(s7,(s8,(s9,()))))))))))))))) (back L33_3_sh L33_3_pk L33_3_d)=L33_3_r s0 s1 s2 s3 s4 s5 s6 s7 s8 s9:=by kernel_rfl
theorem L33_3_ok:SumOk env33 orc33 loops33 L33_3_code L33_3_sum:=sumOk_lim (un:=L33_3_un) loops33_nat (fun _=>rfl) L33_3_dok fun s=>L33_3_round s.1 s.2.1 s.2.2.1 s.2.2.2.1 s.2.2.2.2.1 s.2.2.2.2.2.1 s.2.2.2.2.2.2.1 s.2.2.2.2.2.2.2.1 s.2.2.2.2.2.2.2.2.1 s.2.2.2.2.2.2.2.2.2
theorem loops33_all:loopsOf body33=[L33_3_code]:=by kernel_rfl
theorem L33_3_key:lookL loops33 (keyOf L33_3_code)=some L33_3_sum:=by kernel_rfl
theorem loops33_ok:LoopsOk env33 orc33 loops33 body33:=by
 intro c hc f hf
 rw [loops33_all] at hc
 simp only [List.mem_cons,List.not_mem_nil,or_false] at hc
 subst hc
 ·rw [L33_3_key] at hf; cases hf; exact L33_3_ok
def G33 (x0:D23):Option (Bool×(Bool×(Unit×(Int×(Tlp×(Int×((List Bool)×Unit))))))) :=
 let v1:Tlp:=([]:Tlp)
 let v2:(List Bool):=(List.replicate 200 false)
 let v3:Tlp:=([]:Tlp)
 let v4:Int:=((List.length x0.2.1:Nat):Int)
 Option.bind (L33_3 (x0.2.1,v4,(0:Int),x0.1,x0.2.1,x0.2.2.1,x0.1,v3,x0.2.2.1,v2)) fun x=>match x with
 | (.inl r10) =>
 some (false,(r10.1,((),(r10.2.1,(r10.2.2.1,(r10.2.2.2.1,(r10.2.2.2.2,())))))))
 | (.inr r11) =>
 bif (P41 r11.2.2.2.1 (2:Int) (12:Int)) then
 let v12:Bool:=(F41 r11.2.2.2.1 (2:Int) (12:Int))
 bif ((P41 r11.2.2.2.2.2.1 (0:Int) (12:Int)) || !(v12 && true)) then
 let v13:Bool:=(F41 r11.2.2.2.2.2.1 (0:Int) (12:Int))
 let v14:Bool:=(bif v12 then v13 else false)
 some (true,(v14,((),(r11.2.2.2.2.2.2.1,(r11.2.2.2.2.2.2.2.1,(r11.2.2.2.2.2.2.2.2.1,(r11.2.2.2.2.2.2.2.2.2,())))))))
 else none
 else none
def P33 (x0:D23):Bool:=(hold (G33 x0)).isSome
def F33 (x0:D23):(Bool×(Bool×(Unit×(Int×(Tlp×(Int×((List Bool)×Unit))))))):=(hold (G33 x0)).getD (Tup.zero pout33)
theorem P33_of (x0:D23) {r:(Bool×(Bool×(Unit×(Int×(Tlp×(Int×((List Bool)×Unit)))))))} (h:G33 x0=some r):P33 x0=true:=by unfold P33; rw [hold_eq,h]; rfl
theorem F33_of (x0:D23) {r:(Bool×(Bool×(Unit×(Int×(Tlp×(Int×((List Bool)×Unit)))))))} (h:G33 x0=some r):F33 x0=r:=by unfold F33; rw [hold_eq,h]; rfl
theorem ev33 (x0:D23):ev2 env33 orc33 loops33 body33 (mkSt pin33 (x0,())) (retK3 env33 [.slot 2,.slot 3] pout33)=G33 x0:=by kernel_rfl
def sp33:Spec2:=⟨pin33,pout33,fun s=>hold (G33 s.1)⟩
theorem fit33:Fit Tryd.f33 [.slot 2,.slot 3] sp33:=⟨by kernel_rfl,by kernel_rfl,by kernel_rfl,by kernel_rfl,by kernel_rfl,by decide,by decide,by decide⟩
theorem meets33 (hE:EnvOk Tryd.prog env33) (hm:Tryd.prog.follows .mixedOrders=true):Meets2 Tryd.prog glob 33 sp33 :=
 meets2_of_ev2 (O:=orc33) (L:=loops33) (c:=body33) (rs:=[.slot 2,.slot 3]) hE (fun _=>rfl) hm Tryd.func33 Tryd.call33 (by kernel_rfl) (by kernel_rfl) loops33_ok (rangesOk_nil (by kernel_rfl)) fit33 (fun s o h=>(ev33 s.1).trans ((hold_eq _).symm.trans h))
def pin10051:Shape:=[(.slot 0,.mptr 50000 0),(.slot 1,.dat t26),(.box 50000,.bx 74 203),(.cell 50000 0,.dat (.int .i64)),(.cell 50000 1,.own 27 t26),(.cell 50000 2,.dat (.int .i64)),(.cell 50000 3,.dat (.arr 200 .bool))]
def pout10051:Shape:=[(.slot 0,.dat .bool),(.box 50000,.bx 74 203),(.cell 50000 0,.dat (.int .i64)),(.cell 50000 1,.own 27 t26),(.cell 50000 2,.dat (.int .i64)),(.cell 50000 3,.dat (.arr 200 .bool))]
def env10051:Env:={
 tab:=tab
 glob:=glob
 spec:=fun
  | 63=>some spec63
  | 64=>some spec64
  | _=>none
 bldT:=bldT
 bld:=bldF }
def orc10051:Orc:=⟨91,fun _=>none,fun
 | 0=>kp [0,3] [(3,[0,1,2,3,4,5,6]),(50000,[0,1,2,3])]
 | 1=>kp [0,3,5] [(3,[0,1,2,3,4,5,6]),(50000,[0,1,2,3])]
 | 2=>kp [0,3,5,42] [(3,[0,1,2,3,4,5,6]),(50000,[0,1,2,3])]
 | 3=>kp [4] [(50000,[0,1,2,3])]
 | 4=>kp [0,3,5,45] [(3,[0,1,2,3,4,5,6]),(50000,[0,1,2,3])]
 | 5=>kp [0,3,72] [(3,[0,1,2,3,4,5,6]),(50000,[0,1,2,3])]
 | 6=>kp [4] [(50000,[0,1,2,3])]
 | 7=>kp [0,3] [(3,[0,1,2,3,4,5,6]),(50000,[0,1,2,3])]
 | 8=>kp [] [(50000,[0,1,2,3])]
 | 9=>kp [4] [(50000,[0,1,2,3])]
 | _=>[],fun | _=>false⟩
noncomputable def body10051:Code:=Tryd.f51.body.getD .skip
def loops10051:Nat→Option (Sum):=fun | _=>none
theorem loops10051_ok:LoopsOk env10051 orc10051 loops10051 body10051:=loopsOk_nil (by kernel_rfl)
def G10051 (x0:Bool) (x1:D26) (x2:Int) (x3:Tlp) (x4:Int) (x5:(List Bool)):Option (Bool×(Unit×(Int×(Tlp×(Int×((List Bool)×Unit)))))) :=
 bif (x0) then
 let v1:Int:=(((List.length x3):Nat):Int)
 let v2:Bool:=(decide (v1≥(200:Int)))
 bif ((x0) || !(!v2 && true)) then
 bif ((P63 x1 x2) || !(!v2 && true)) then
 let v3:Bool:=(F63 x1 x2)
 let v4:Bool:=(!v3)
 let v5:Bool:=(bif v2 then true else v4)
 let v6:Bool:=(decide (v1 > (0:Int)))
 bif ((x0) || !(v6 && (!v5 && true))) then
 let v7:Int:=(IntKind.i64.wrap (v1 - (1:Int)))
 bif ((decide (0≤v7) && decide (v7 < (List.length x3))) || !(v6 && (!v5 && true))) then
 bif ((decide ((Int.toNat v7) < List.length x3)) || !(v6 && (!v5 && true))) then
 let v8:Int:=((List.getD x3 (Int.toNat v7) z26).2).1
 let v9:Bool:=(decide (x1.2.1 < v8))
 let v10:Bool:=(bif v6 then v9 else false)
 let v11:Bool:=(bif v5 then true else v10)
 bif v11 then
 some (false,((),(x2,(x3,(x4,(x5,()))))))
 else
 let v12:Bool:=(x1.1==(2:Int))
 bif v12 then
 let v13:Bool:=(decide (x1.2.2.2.2.2.2.1≥v1))
 bif ((x0) || !(!v13 && true)) then
 bif ((decide (0≤x1.2.2.2.2.2.2.1) && decide (x1.2.2.2.2.2.2.1 < (200:Nat))) || !(!v13 && true)) then
 bif ((decide ((Int.toNat x1.2.2.2.2.2.2.1) < List.length x5)) || !(!v13 && true)) then
 let v14:Bool:=(List.getD x5 (Int.toNat x1.2.2.2.2.2.2.1) false)
 let v15:Bool:=(bif v13 then true else v14)
 bif ((x0) || !(!v15 && true)) then
 bif ((decide (0≤x1.2.2.2.2.2.2.1) && decide (x1.2.2.2.2.2.2.1 < (List.length x3))) || !(!v15 && true)) then
 bif ((decide ((Int.toNat x1.2.2.2.2.2.2.1) < List.length x3)) || !(!v15 && true)) then
 let v16:D26:=(List.getD x3 (Int.toNat x1.2.2.2.2.2.2.1) z26)
 bif ((P64 x1 v16) || !(!v15 && true)) then
 let v17:Bool:=(F64 x1 v16)
 let v18:Bool:=(!v17)
 let v19:Bool:=(bif v15 then true else v18)
 bif v19 then
 some (false,((),(x2,(x3,(x4,(x5,()))))))
 else
 bif (x0) then
 bif (decide (0≤x1.2.2.2.2.2.2.1) && decide (x1.2.2.2.2.2.2.1 < (200:Nat))) then
 bif (decide ((Int.toNat x1.2.2.2.2.2.2.1) < List.length x5)) then
 let v20:(List Bool):=(List.set x5 (Int.toNat x1.2.2.2.2.2.2.1) true)
 bif (x0) then
 let v21:Tlp:=(List.set (List.replicate 1 z26) 0 x1)
 bif (decide (List.length (List.take (List.length x3) x3)+List.length v21≤100000000000)) then
 let v22:Tlp:=((List.take (List.length x3) x3)++v21)
 bif (x0) then
 some (true,((),(x2,(v22,(x4,(v20,()))))))
 else none
 else none
 else none
 else none
 else none
 else none
 else none
 else none
 else none
 else none
 else none
 else none
 else none
 else
 bif (x0) then
 let v23:Tlp:=(List.set (List.replicate 1 z26) 0 x1)
 bif (decide (List.length (List.take (List.length x3) x3)+List.length v23≤100000000000)) then
 let v24:Tlp:=((List.take (List.length x3) x3)++v23)
 bif (x0) then
 some (true,((),(x2,(v24,(x4,(x5,()))))))
 else none
 else none
 else none
 else none
 else none
 else none
 else none
 else none
 else none
def P10051 (x0:Bool) (x1:D26) (x2:Int) (x3:Tlp) (x4:Int) (x5:(List Bool)):Bool:=(hold (G10051 x0 x1 x2 x3 x4 x5)).isSome
def F10051 (x0:Bool) (x1:D26) (x2:Int) (x3:Tlp) (x4:Int) (x5:(List Bool)):(Bool×(Unit×(Int×(Tlp×(Int×((List Bool)×Unit)))))):=(hold (G10051 x0 x1 x2 x3 x4 x5)).getD (Tup.zero pout10051)
theorem P10051_of (x0:Bool) (x1:D26) (x2:Int) (x3:Tlp) (x4:Int) (x5:(List Bool)) {r:(Bool×(Unit×(Int×(Tlp×(Int×((List Bool)×Unit))))))} (h:G10051 x0 x1 x2 x3 x4 x5=some r):P10051 x0 x1 x2 x3 x4 x5=true:=by unfold P10051; rw [hold_eq,h]; rfl
theorem F10051_of (x0:Bool) (x1:D26) (x2:Int) (x3:Tlp) (x4:Int) (x5:(List Bool)) {r:(Bool×(Unit×(Int×(Tlp×(Int×((List Bool)×Unit))))))} (h:G10051 x0 x1 x2 x3 x4 x5=some r):F10051 x0 x1 x2 x3 x4 x5=r:=by unfold F10051; rw [hold_eq,h]; rfl
theorem ev10051 (x0:Bool) (x1:D26) (x2:Int) (x3:Tlp) (x4:Int) (x5:(List Bool)):ev2 env10051 orc10051 loops10051 body10051 (mkSt pin10051 (x0,(x1,((),(x2,(x3,(x4,(x5,())))))))) (retK3 env10051 [.slot 4] pout10051)=G10051 x0 x1 x2 x3 x4 x5:=by kernel_rfl
def sp10051:Spec2:=⟨pin10051,pout10051,fun s=>hold (G10051 s.1 s.2.1 s.2.2.2.1 s.2.2.2.2.1 s.2.2.2.2.2.1 s.2.2.2.2.2.2.1)⟩
theorem fit10051:Fit Tryd.f51 [.slot 4] sp10051:=⟨by kernel_rfl,by kernel_rfl,by kernel_rfl,by kernel_rfl,by kernel_rfl,by decide,by decide,by decide⟩
theorem meets10051 (hE:EnvOk Tryd.prog env10051) (hm:Tryd.prog.follows .mixedOrders=true):Meets2 Tryd.prog glob 51 sp10051 :=
 meets2_of_ev2 (O:=orc10051) (L:=loops10051) (c:=body10051) (rs:=[.slot 4]) hE (fun _=>rfl) hm Tryd.func51 Tryd.call51 (by kernel_rfl) (by kernel_rfl) loops10051_ok (rangesOk_nil (by kernel_rfl)) fit10051 (fun s o h=>(ev10051 s.1 s.2.1 s.2.2.2.1 s.2.2.2.2.1 s.2.2.2.2.2.1 s.2.2.2.2.2.2.1).trans ((hold_eq _).symm.trans h))
def pin40:Shape:=[(.slot 0,.mptr 50000 0),(.slot 1,.dat t26),(.box 50000,.bx 74 203),(.cell 50000 0,.dat (.int .i64)),(.cell 50000 1,.own 27 t26),(.cell 50000 2,.dat (.int .i64)),(.cell 50000 3,.dat (.arr 200 .bool))]
def pout40:Shape:=[(.slot 0,.dat .bool),(.box 50000,.bx 74 203),(.cell 50000 0,.dat (.int .i64)),(.cell 50000 1,.own 27 t26),(.cell 50000 2,.dat (.int .i64)),(.cell 50000 3,.dat (.arr 200 .bool))]
def env40:Env:={
 tab:=tab
 glob:=glob
 spec:=fun
  | _=>none
 spec2:=fun
  | 51,[]=>some sp10051
  | _,_=>none
 bldT:=bldT
 bld:=bldF }
def orc40:Orc:=⟨19,fun _=>none,fun
 | 0=>kp [0,3] [(3,[0,1,2,3,4,5,6]),(50000,[0,1,2,3])]
 | 1=>kp [4] [(50000,[0,1,2,3])]
 | _=>[],fun | _=>false⟩
noncomputable def body40:Code:=Tryd.f40.body.getD .skip
def loops40:Nat→Option (Sum):=fun | _=>none
theorem loops40_ok:LoopsOk env40 orc40 loops40 body40:=loopsOk_nil (by kernel_rfl)
def G40 (x0:Bool) (x1:D26) (x2:Int) (x3:Tlp) (x4:Int) (x5:(List Bool)):Option (Bool×(Unit×(Int×(Tlp×(Int×((List Bool)×Unit)))))) :=
 bif (x0) then
 let v1:Int:=(IntKind.i64.wrap ((30:Int) * x4))
 let v2:Bool:=(decide (x1.2.1≥v1))
 bif ((P10051 x0 x1 x2 x3 x4 x5) || !(v2 && true)) then
 let q3:(Bool×(Unit×(Int×(Tlp×(Int×((List Bool)×Unit)))))):=F10051 x0 x1 x2 x3 x4 x5
 let v4:Int:=(bif (v2 && true) then q3.2.2.1 else x2)
 let v5:Tlp:=(bif (v2 && true) then q3.2.2.2.1 else x3)
 let v6:Int:=(bif (v2 && true) then q3.2.2.2.2.1 else x4)
 let v7:(List Bool):=(bif (v2 && true) then q3.2.2.2.2.2.1 else x5)
 let v8:Bool:=(bif v2 then q3.1 else false)
 some (v8,((),(v4,(v5,(v6,(v7,()))))))
 else none
 else none
def P40 (x0:Bool) (x1:D26) (x2:Int) (x3:Tlp) (x4:Int) (x5:(List Bool)):Bool:=(hold (G40 x0 x1 x2 x3 x4 x5)).isSome
def F40 (x0:Bool) (x1:D26) (x2:Int) (x3:Tlp) (x4:Int) (x5:(List Bool)):(Bool×(Unit×(Int×(Tlp×(Int×((List Bool)×Unit)))))):=(hold (G40 x0 x1 x2 x3 x4 x5)).getD (Tup.zero pout40)
theorem P40_of (x0:Bool) (x1:D26) (x2:Int) (x3:Tlp) (x4:Int) (x5:(List Bool)) {r:(Bool×(Unit×(Int×(Tlp×(Int×((List Bool)×Unit))))))} (h:G40 x0 x1 x2 x3 x4 x5=some r):P40 x0 x1 x2 x3 x4 x5=true:=by unfold P40; rw [hold_eq,h]; rfl
theorem F40_of (x0:Bool) (x1:D26) (x2:Int) (x3:Tlp) (x4:Int) (x5:(List Bool)) {r:(Bool×(Unit×(Int×(Tlp×(Int×((List Bool)×Unit))))))} (h:G40 x0 x1 x2 x3 x4 x5=some r):F40 x0 x1 x2 x3 x4 x5=r:=by unfold F40; rw [hold_eq,h]; rfl
theorem ev40 (x0:Bool) (x1:D26) (x2:Int) (x3:Tlp) (x4:Int) (x5:(List Bool)):ev2 env40 orc40 loops40 body40 (mkSt pin40 (x0,(x1,((),(x2,(x3,(x4,(x5,())))))))) (retK3 env40 [.slot 4] pout40)=G40 x0 x1 x2 x3 x4 x5:=by kernel_rfl
def sp40:Spec2:=⟨pin40,pout40,fun s=>hold (G40 s.1 s.2.1 s.2.2.2.1 s.2.2.2.2.1 s.2.2.2.2.2.1 s.2.2.2.2.2.2.1)⟩
theorem fit40:Fit Tryd.f40 [.slot 4] sp40:=⟨by kernel_rfl,by kernel_rfl,by kernel_rfl,by kernel_rfl,by kernel_rfl,by decide,by decide,by decide⟩
theorem meets40 (hE:EnvOk Tryd.prog env40) (hm:Tryd.prog.follows .mixedOrders=true):Meets2 Tryd.prog glob 40 sp40 :=
 meets2_of_ev2 (O:=orc40) (L:=loops40) (c:=body40) (rs:=[.slot 4]) hE (fun _=>rfl) hm Tryd.func40 Tryd.call40 (by kernel_rfl) (by kernel_rfl) loops40_ok (rangesOk_nil (by kernel_rfl)) fit40 (fun s o h=>(ev40 s.1 s.2.1 s.2.2.2.1 s.2.2.2.2.1 s.2.2.2.2.2.1 s.2.2.2.2.2.2.1).trans ((hold_eq _).symm.trans h))
def pin17:Shape:=[(.slot 0,.dat t23),(.slot 1,.dat t26)]
def pout17:Shape:=[(.slot 0,.dat t23),(.slot 1,.dat (.int .i64)),(.slot 2,.dat (.int .i64))]
def env17:Env:={
 tab:=tab
 glob:=glob
 spec:=fun
  | _=>none
 spec2:=fun
  | 33,[]=>some sp33
  | 40,[]=>some sp40
  | _,_=>none
 bldT:=bldT
 bld:=bldF }
def orc17:Orc:=⟨30,fun _=>none,fun
 | 0=>kp [2,3,4] [(2,[0,1,2]),(3,[0,1,2,3,4,5,6]),(4,[0,1,2])]
 | 1=>kp [2,3,4,7,8] [(2,[0,1,2]),(3,[0,1,2,3,4,5,6]),(4,[0,1,2]),(1200013,[0,1,2,3])]
 | 2=>kp [2,4,7,21] [(2,[0,1,2]),(4,[0,1,2]),(1200013,[0,1,2,3])]
 | 3=>kp [4,5,6] [(4,[0,1,2])]
 | 4=>kp [4,5,6] [(4,[0,1,2])]
 | _=>[],fun | _=>false⟩
noncomputable def body17:Code:=Tryd.f17.body.getD .skip
def loops17:Nat→Option (Sum):=fun | _=>none
theorem loops17_ok:LoopsOk env17 orc17 loops17 body17:=loopsOk_nil (by kernel_rfl)
def G17 (x0:D23) (x1:D26):Option (D23×(Int×(Int×Unit))) :=
 let v1:Tlp:=([]:Tlp)
 let v2:Tlp:=([]:Tlp)
 bif (P33 x0) then
 let q3:(Bool×(Bool×(Unit×(Int×(Tlp×(Int×((List Bool)×Unit))))))):=F33 x0
 let v4:Bool:=(!q3.2.1)
 bif ((P40 q3.1 x1 q3.2.2.2.1 q3.2.2.2.2.1 q3.2.2.2.2.2.1 q3.2.2.2.2.2.2.1) || !(!v4 && true)) then
 let q5:(Bool×(Unit×(Int×(Tlp×(Int×((List Bool)×Unit)))))):=F40 q3.1 x1 q3.2.2.2.1 q3.2.2.2.2.1 q3.2.2.2.2.2.1 q3.2.2.2.2.2.2.1
 let v6:Int:=(bif (!v4 && true) then q5.2.2.1 else q3.2.2.2.1)
 let v7:Tlp:=(bif (!v4 && true) then q5.2.2.2.1 else q3.2.2.2.2.1)
 let v8:Int:=(bif (!v4 && true) then q5.2.2.2.2.1 else q3.2.2.2.2.2.1)
 let v9:(List Bool):=(bif (!v4 && true) then q5.2.2.2.2.2.1 else q3.2.2.2.2.2.2.1)
 let v10:Bool:=(!q5.1)
 let v11:Bool:=(bif v4 then true else v10)
 bif v11 then
 let v12:Tlp:=([]:Tlp)
 some (((0:Int),(v12,((0:Int),()))),((0:Int),((310:Int),())))
 else
 bif (q3.1) then
 let v13:Int:=((List.length x0.2.1:Nat):Int)
 some ((v6,(v7,(v8,()))),(v13,((0:Int),())))
 else none
 else none
 else none
def P17 (x0:D23) (x1:D26):Bool:=(hold (G17 x0 x1)).isSome
def F17 (x0:D23) (x1:D26):(D23×(Int×(Int×Unit))):=(hold (G17 x0 x1)).getD (Tup.zero pout17)
theorem P17_of (x0:D23) (x1:D26) {r:(D23×(Int×(Int×Unit)))} (h:G17 x0 x1=some r):P17 x0 x1=true:=by unfold P17; rw [hold_eq,h]; rfl
theorem F17_of (x0:D23) (x1:D26) {r:(D23×(Int×(Int×Unit)))} (h:G17 x0 x1=some r):F17 x0 x1=r:=by unfold F17; rw [hold_eq,h]; rfl
theorem ev17 (x0:D23) (x1:D26):ev2 env17 orc17 loops17 body17 (mkSt pin17 (x0,(x1,()))) (retK3 env17 [.cell 4 24,.slot 5,.slot 6] pout17)=G17 x0 x1:=by kernel_rfl
def sp17:Spec2:=⟨pin17,pout17,fun s=>hold (G17 s.1 s.2.1)⟩
theorem fit17:Fit Tryd.f17 [.cell 4 24,.slot 5,.slot 6] sp17:=⟨by kernel_rfl,by kernel_rfl,by kernel_rfl,by kernel_rfl,by kernel_rfl,by decide,by decide,by decide⟩
theorem meets17 (hE:EnvOk Tryd.prog env17) (hm:Tryd.prog.follows .mixedOrders=true):Meets2 Tryd.prog glob 17 sp17 :=
 meets2_of_ev2 (O:=orc17) (L:=loops17) (c:=body17) (rs:=[.cell 4 24,.slot 5,.slot 6]) hE (fun _=>rfl) hm Tryd.func17 Tryd.call17 (by kernel_rfl) (by kernel_rfl) loops17_ok (rangesOk_nil (by kernel_rfl)) fit17 (fun s o h=>(ev17 s.1 s.2.1).trans ((hold_eq _).symm.trans h))
def pin42:Shape:=[(.slot 0,.mptr 50000 0),(.slot 1,.fn 43 [50001]),(.box 50000,.bx 74 203),(.cell 50000 0,.dat (.int .i64)),(.cell 50000 1,.own 27 t26),(.cell 50000 2,.dat (.int .i64)),(.cell 50000 3,.dat (.arr 200 .bool)),(.box 50001,.bx 3 1),(.cell 50001 0,.dat (.int .i64))]
def pout42:Shape:=[(.slot 0,.fn 60 [2,3]),(.box 50000,.bx 74 203),(.cell 50000 0,.dat (.int .i64)),(.cell 50000 1,.own 27 t26),(.cell 50000 2,.dat (.int .i64)),(.cell 50000 3,.dat (.arr 200 .bool)),(.box 50001,.bx 3 1),(.cell 50001 0,.dat (.int .i64)),(.box 2,.bx 68 1),(.cell 2 0,.mptr 50000 0),(.box 3,.bx 88 1),(.cell 3 0,.fn 43 [50001])]
def env42:Env:={
 tab:=tab
 glob:=glob
 spec:=fun
  | _=>none
 bldT:=bldT
 bld:=bldF }
def orc42:Orc:=⟨6,fun _=>none,fun
 | 0=>kp [2,3] [(2,[0]),(3,[0]),(50000,[0,1,2,3]),(50001,[0])]
 | 1=>kp [4] [(2,[0]),(3,[0]),(50000,[0,1,2,3]),(50001,[0])]
 | _=>[],fun | _=>false⟩
noncomputable def body42:Code:=Tryd.f42.body.getD .skip
def loops42:Nat→Option (Sum):=fun | _=>none
theorem loops42_ok:LoopsOk env42 orc42 loops42 body42:=loopsOk_nil (by kernel_rfl)
def G42 (x0:Bool) (x1:Int) (x2:Tlp) (x3:Int) (x4:(List Bool)) (x5:Int):Option (Unit×(Unit×(Int×(Tlp×(Int×((List Bool)×(Unit×(Int×(Unit×(Bool×(Unit×(Unit×Unit)))))))))))) :=
 some ((),((),(x1,(x2,(x3,(x4,((),(x5,((),(x0,((),((),()))))))))))))
def P42 (x0:Bool) (x1:Int) (x2:Tlp) (x3:Int) (x4:(List Bool)) (x5:Int):Bool:=(hold (G42 x0 x1 x2 x3 x4 x5)).isSome
def F42 (x0:Bool) (x1:Int) (x2:Tlp) (x3:Int) (x4:(List Bool)) (x5:Int):(Unit×(Unit×(Int×(Tlp×(Int×((List Bool)×(Unit×(Int×(Unit×(Bool×(Unit×(Unit×Unit)))))))))))):=(hold (G42 x0 x1 x2 x3 x4 x5)).getD (Tup.zero pout42)
theorem P42_of (x0:Bool) (x1:Int) (x2:Tlp) (x3:Int) (x4:(List Bool)) (x5:Int) {r:(Unit×(Unit×(Int×(Tlp×(Int×((List Bool)×(Unit×(Int×(Unit×(Bool×(Unit×(Unit×Unit))))))))))))} (h:G42 x0 x1 x2 x3 x4 x5=some r):P42 x0 x1 x2 x3 x4 x5=true:=by unfold P42; rw [hold_eq,h]; rfl
theorem F42_of (x0:Bool) (x1:Int) (x2:Tlp) (x3:Int) (x4:(List Bool)) (x5:Int) {r:(Unit×(Unit×(Int×(Tlp×(Int×((List Bool)×(Unit×(Int×(Unit×(Bool×(Unit×(Unit×Unit))))))))))))} (h:G42 x0 x1 x2 x3 x4 x5=some r):F42 x0 x1 x2 x3 x4 x5=r:=by unfold F42; rw [hold_eq,h]; rfl
theorem ev42 (x0:Bool) (x1:Int) (x2:Tlp) (x3:Int) (x4:(List Bool)) (x5:Int):ev2 env42 orc42 loops42 body42 (mkSt pin42 (x0,((),((),(x1,(x2,(x3,(x4,((),(x5,())))))))))) (retK3 env42 [.slot 4] pout42)=G42 x0 x1 x2 x3 x4 x5:=by kernel_rfl
def sp42:Spec2:=⟨pin42,pout42,fun s=>hold (G42 s.1 s.2.2.2.1 s.2.2.2.2.1 s.2.2.2.2.2.1 s.2.2.2.2.2.2.1 s.2.2.2.2.2.2.2.2.1)⟩
theorem fit42:Fit Tryd.f42 [.slot 4] sp42:=⟨by kernel_rfl,by kernel_rfl,by kernel_rfl,by kernel_rfl,by kernel_rfl,by decide,by decide,by decide⟩
theorem meets42 (hE:EnvOk Tryd.prog env42) (hm:Tryd.prog.follows .mixedOrders=true):Meets2 Tryd.prog glob 42 sp42 :=
 meets2_of_ev2 (O:=orc42) (L:=loops42) (c:=body42) (rs:=[.slot 4]) hE (fun _=>rfl) hm Tryd.func42 Tryd.call42 (by kernel_rfl) (by kernel_rfl) loops42_ok (rangesOk_nil (by kernel_rfl)) fit42 (fun s o h=>(ev42 s.1 s.2.2.2.1 s.2.2.2.2.1 s.2.2.2.2.2.1 s.2.2.2.2.2.2.1 s.2.2.2.2.2.2.2.2.1).trans ((hold_eq _).symm.trans h))
def pin43:Shape:=[(.slot 0,.dat (.int .i64)),(.slot 1,.dat t26),(.slot 2,.ptr 50000 0),(.box 50000,.bx 3 1),(.cell 50000 0,.dat (.int .i64))]
def pout43:Shape:=[(.slot 0,.dat .bool),(.box 50000,.bx 3 1),(.cell 50000 0,.dat (.int .i64))]
def env43:Env:={
 tab:=tab
 glob:=glob
 spec:=fun
  | _=>none
 bldT:=bldT
 bld:=bldF }
def orc43:Orc:=⟨11,fun _=>none,fun
 | 0=>kp [2,4] [(4,[0,1,2,3,4,5,6]),(50000,[0])]
 | 1=>kp [5] [(50000,[0])]
 | _=>[],fun | _=>false⟩
noncomputable def body43:Code:=Tryd.f43.body.getD .skip
def loops43:Nat→Option (Sum):=fun | _=>none
theorem loops43_ok:LoopsOk env43 orc43 loops43 body43:=loopsOk_nil (by kernel_rfl)
def G43 (x0:Int) (x1:D26) (x2:Int):Option (Bool×(Unit×(Int×Unit))) :=
 let v1:Int:=(IntKind.i64.wrap (Int.tdiv x1.2.1 (30:Int)))
 let v2:Bool:=(v1==x2)
 some (v2,((),(x2,())))
def P43 (x0:Int) (x1:D26) (x2:Int):Bool:=(hold (G43 x0 x1 x2)).isSome
def F43 (x0:Int) (x1:D26) (x2:Int):(Bool×(Unit×(Int×Unit))):=(hold (G43 x0 x1 x2)).getD (Tup.zero pout43)
theorem P43_of (x0:Int) (x1:D26) (x2:Int) {r:(Bool×(Unit×(Int×Unit)))} (h:G43 x0 x1 x2=some r):P43 x0 x1 x2=true:=by unfold P43; rw [hold_eq,h]; rfl
theorem F43_of (x0:Int) (x1:D26) (x2:Int) {r:(Bool×(Unit×(Int×Unit)))} (h:G43 x0 x1 x2=some r):F43 x0 x1 x2=r:=by unfold F43; rw [hold_eq,h]; rfl
theorem ev43 (x0:Int) (x1:D26) (x2:Int):ev2 env43 orc43 loops43 body43 (mkSt pin43 (x0,(x1,((),((),(x2,())))))) (retK3 env43 [.slot 5] pout43)=G43 x0 x1 x2:=by kernel_rfl
def sp43:Spec2:=⟨pin43,pout43,fun s=>hold (G43 s.1 s.2.1 s.2.2.2.2.1)⟩
theorem fit43:Fit Tryd.f43 [.slot 5] sp43:=⟨by kernel_rfl,by kernel_rfl,by kernel_rfl,by kernel_rfl,by kernel_rfl,by decide,by decide,by decide⟩
theorem meets43 (hE:EnvOk Tryd.prog env43) (hm:Tryd.prog.follows .mixedOrders=true):Meets2 Tryd.prog glob 43 sp43 :=
 meets2_of_ev2 (O:=orc43) (L:=loops43) (c:=body43) (rs:=[.slot 5]) hE (fun _=>rfl) hm Tryd.func43 Tryd.call43 (by kernel_rfl) (by kernel_rfl) loops43_ok (rangesOk_nil (by kernel_rfl)) fit43 (fun s o h=>(ev43 s.1 s.2.1 s.2.2.2.2.1).trans ((hold_eq _).symm.trans h))
def pin60:Shape:=[(.slot 1,.ptr 50000 0),(.slot 2,.ptr 50001 0),(.box 50000,.bx 68 1),(.cell 50000 0,.mptr 50002 0),(.box 50001,.bx 88 1),(.cell 50001 0,.fn 43 [50003]),(.box 50002,.bx 74 203),(.cell 50002 0,.dat (.int .i64)),(.cell 50002 1,.own 27 t26),(.cell 50002 2,.dat (.int .i64)),(.cell 50002 3,.dat (.arr 200 .bool)),(.box 50003,.bx 3 1),(.cell 50003 0,.dat (.int .i64))]
abbrev Y60:Type:=D26
def mk60:List Dat→Option Y60:=mkT [t26] fun x=>x.1
def env60:Env:={
 tab:=tab
 glob:=glob
 spec:=fun
  | _=>none
 spec2:=fun
  | 43,[]=>some sp43
  | _,_=>none
 bldT:=bldT
 bld:=bldF }
def orc60:Orc:=⟨28,fun _=>none,fun
 | 0=>kp [0,2,10,11,12] [(50000,[0]),(50001,[0]),(50002,[0])]++[(.cell 50002 1,.frz)]++[(.cell 50002 2,.own)]++[(.cell 50002 3,.own)]++kp [] [(50003,[0])]
 | 1=>kp [0,2,10,11,12,13] [(50000,[0]),(50001,[0]),(50002,[0,1,2,3]),(50003,[0])]
 | 2=>kp [0,2,4,5,10,11,12] [(5,[0,1,2,3,4,5,6]),(50000,[0]),(50001,[0]),(50002,[0,1,2,3]),(50003,[0])]
 | 3=>kp [0,2,10,11,12,26] [(50000,[0]),(50001,[0]),(50002,[0,1,2,3]),(50003,[0])]
 | 4=>kp [0,2,10,11,12] [(50000,[0]),(50001,[0]),(50002,[0,1,2,3]),(50003,[0])]
 | _=>[],fun | _=>false⟩
noncomputable def body60:Code:=Tryd.f60.body.getD .skip
abbrev L60_1_T:Type:=Tlp×Int×Int×Bool×Int×Tlp×Int×(List Bool)×Int
def L60_1_sh:Shape:=[(.slot 0,.yld),(.slot 2,.ptr 50001 0),(.slot 10,.dat (.list t26)),(.slot 11,.dat (.int .i64)),(.slot 12,.dat (.int .i64)),(.box 50000,.bx 68 1),(.cell 50000 0,.mptr 50002 0),(.box 50001,.bx 88 1),(.cell 50001 0,.fn 43 [50003]),(.box 50002,.bx 74 203),(.cell 50002 0,.dat (.int .i64)),(.cell 50002 1,.dat (.list t26)),(.cell 50002 2,.dat (.int .i64)),(.cell 50002 3,.dat (.arr 200 .bool)),(.box 50003,.bx 3 1),(.cell 50003 0,.dat (.int .i64))]
def L60_1_x0:Shape:=[(.slot 0,.yld),(.slot 2,.ptr 50001 0),(.slot 10,.dat (.list t26)),(.slot 11,.dat (.int .i64)),(.slot 12,.dat (.int .i64)),(.box 50000,.bx 68 1),(.cell 50000 0,.mptr 50002 0),(.box 50001,.bx 88 1),(.cell 50001 0,.fn 43 [50003]),(.box 50002,.bx 74 203),(.cell 50002 0,.dat (.int .i64)),(.cell 50002 1,.dat (.list t26)),(.cell 50002 2,.dat (.int .i64)),(.cell 50002 3,.dat (.arr 200 .bool)),(.box 50003,.bx 3 1),(.cell 50003 0,.dat (.int .i64))]
def L60_1_x1:Shape:=[(.slot 0,.yld),(.slot 2,.ptr 50001 0),(.slot 10,.dat (.list t26)),(.slot 11,.dat (.int .i64)),(.slot 12,.dat (.int .i64)),(.box 50000,.bx 68 1),(.cell 50000 0,.mptr 50002 0),(.box 50001,.bx 88 1),(.cell 50001 0,.fn 43 [50003]),(.box 50002,.bx 74 203),(.cell 50002 0,.dat (.int .i64)),(.cell 50002 1,.dat (.list t26)),(.cell 50002 2,.dat (.int .i64)),(.cell 50002 3,.dat (.arr 200 .bool)),(.box 50003,.bx 3 1),(.cell 50003 0,.dat (.int .i64))]
def L60_1_pk (s:Tup L60_1_sh):L60_1_T:=(s.2.2.1,s.2.2.2.1,s.2.2.2.2.1,s.2.2.2.2.2.2.1,s.2.2.2.2.2.2.2.2.2.2.1,s.2.2.2.2.2.2.2.2.2.2.2.1,s.2.2.2.2.2.2.2.2.2.2.2.2.1,s.2.2.2.2.2.2.2.2.2.2.2.2.2.1,s.2.2.2.2.2.2.2.2.2.2.2.2.2.2.2.1)
def L60_1_un (s:Tlp×Int×Int×Bool×Int×Tlp×Int×(List Bool)×Int):Tup L60_1_sh:=((),((),(s.1,(s.2.1,(s.2.2.1,((),(s.2.2.2.1,((),((),((),(s.2.2.2.2.1,(s.2.2.2.2.2.1,(s.2.2.2.2.2.2.1,(s.2.2.2.2.2.2.2.1,((),(s.2.2.2.2.2.2.2.2,()))))))))))))))))
def L60_1_leave (x:L60_1_T⊕L60_1_T) (V:Type) (K:Exit→St→YW Y60 V):YW Y60 V:=match x with
 | (.inl a)=>K .ret (mkSt L60_1_x0 ((),((),(a.1,(a.2.1,(a.2.2.1,((),(a.2.2.2.1,((),((),((),(a.2.2.2.2.1,(a.2.2.2.2.2.1,(a.2.2.2.2.2.2.1,(a.2.2.2.2.2.2.2.1,((),(a.2.2.2.2.2.2.2.2,())))))))))))))))))
 | (.inr a)=>K (.exit 0) (mkSt L60_1_x1 ((),((),(a.1,(a.2.1,(a.2.2.1,((),(a.2.2.2.1,((),((),((),(a.2.2.2.2.1,(a.2.2.2.2.2.1,(a.2.2.2.2.2.2.1,(a.2.2.2.2.2.2.2.1,((),(a.2.2.2.2.2.2.2.2,())))))))))))))))))
def L60_1_d (e:Exit) (st:St):Option (L60_1_T⊕L60_1_T):=match e with
 | .ret=>(match unSt L60_1_x0 st with
  | some s=>some (.inl (s.2.2.1,s.2.2.2.1,s.2.2.2.2.1,s.2.2.2.2.2.2.1,s.2.2.2.2.2.2.2.2.2.2.1,s.2.2.2.2.2.2.2.2.2.2.2.1,s.2.2.2.2.2.2.2.2.2.2.2.2.1,s.2.2.2.2.2.2.2.2.2.2.2.2.2.1,s.2.2.2.2.2.2.2.2.2.2.2.2.2.2.2.1))
  | none=>none)
 | .exit 0=>(match unSt L60_1_x1 st with
  | some s=>some (.inr (s.2.2.1,s.2.2.2.1,s.2.2.2.2.1,s.2.2.2.2.2.2.1,s.2.2.2.2.2.2.2.2.2.2.1,s.2.2.2.2.2.2.2.2.2.2.2.1,s.2.2.2.2.2.2.2.2.2.2.2.2.1,s.2.2.2.2.2.2.2.2.2.2.2.2.2.1,s.2.2.2.2.2.2.2.2.2.2.2.2.2.2.2.1))
  | none=>none)
 | _=>none
def L60_1_r (s0:Tlp) (s1:Int) (s2:Int) (s3:Bool) (s4:Int) (s5:Tlp) (s6:Int) (s7:(List Bool)) (s8:Int):YW Y60 (L60_1_T⊕(L60_1_T⊕L60_1_T)) :=
 let v2:Bool:=(decide (s2 < s1))
 bif v2 then
 bif (decide (0≤s2) && decide (s2 < List.length s0)) then
 let v3:D26:=(List.getD s0 (Int.toNat s2) z26)
 bif (P43 s2 v3 s8) then
 let q4:(Bool×(Unit×(Int×Unit))):=F43 s2 v3 s8
 yieldW (q4.1 && true) v3 (let v8:Bool:=(!false)
 let v9:Bool:=(bif q4.1 then v8 else false)
 bif v9 then
 some ()
 else
 let v10:Int:=(IntKind.i64.wrap (s2+(1:Int)))
 none) (
 let v5:Bool:=(!true)
 let v6:Bool:=(bif q4.1 then v5 else false)
 bif v6 then
 some ([],.inr (.inl (s0,s1,s2,s3,s4,s5,s6,s7,q4.2.2.1)))
 else
 let v7:Int:=(IntKind.i64.wrap (s2+(1:Int)))
 some ([],.inl (s0,s1,v7,s3,s4,s5,s6,s7,q4.2.2.1)))
 else none
 else none
 else
 some ([],.inr (.inr (s0,s1,s2,s3,s4,s5,s6,s7,s8)))
def L60_1:L60_1_T→YW Y60 (L60_1_T⊕L60_1_T):=LimW (fun s=>L60_1_r s.1 s.2.1 s.2.2.1 s.2.2.2.1 s.2.2.2.2.1 s.2.2.2.2.2.1 s.2.2.2.2.2.2.1 s.2.2.2.2.2.2.2.1 s.2.2.2.2.2.2.2.2)
def L60_1_sum:SumY Y60:=limSumW L60_1_sh L60_1_pk (fun s=>L60_1_r s.1 s.2.1 s.2.2.1 s.2.2.2.1 s.2.2.2.2.1 s.2.2.2.2.2.1 s.2.2.2.2.2.2.1 s.2.2.2.2.2.2.2.1 s.2.2.2.2.2.2.2.2) L60_1_leave
theorem L60_1_nat:NaturalY L60_1_sum:=natural_limW fun x V K=>by
 rcases x with x|x<;>exact (YW.bind_pure _ _).symm
theorem L60_1_dok:∀ e st x,e≠.normal→L60_1_d e st=some x→∀ V (K:Exit→St→YW Y60 V),K e st=L60_1_leave x V K:=by
 intro e st x _ h R K
 unfold L60_1_d at h
 split at h
 ·split at h
  ·rename_i s hs; cases h; rw [unSt_some hs]; rfl
  ·cases h
 ·split at h
  ·rename_i s hs; cases h; rw [unSt_some hs]; rfl
  ·cases h
 ·cases h
def loops60:Nat→Option (SumY Y60):=fun | 1=>some L60_1_sum | _=>none
theorem loops60_nat:∀ q f,loops60 q=some f→NaturalY f:=by
 intro q f h
 unfold loops60 at h
 split at h
 ·cases h; exact L60_1_nat
 ·cases h
noncomputable def L60_1_code:Code:=(loopsOf body60).getD 0 .skip
theorem L60_1_round (s0:Tlp) (s1:Int) (s2:Int) (s3:Bool) (s4:Int) (s5:Tlp) (s6:Int) (s7:(List Bool)) (s8:Int):evY env60 orc60 loops60 [t26] mk60 L60_1_code (mkSt L60_1_sh ((),((),(s0,(s1,(s2,((),(s3,((),((),((),(s4,(s5,(s6,(s7,((),(s8,()))))))))))))))))) (backW (back L60_1_sh L60_1_pk L60_1_d)) retOnly=L60_1_r s0 s1 s2 s3 s4 s5 s6 s7 s8:=by kernel_rfl
theorem L60_1_ok:SumYOk env60 orc60 loops60 [t26] mk60 L60_1_code L60_1_sum:=sumYOk_lim (un:=L60_1_un) loops60_nat (fun _=>rfl) L60_1_dok fun s=>L60_1_round s.1 s.2.1 s.2.2.1 s.2.2.2.1 s.2.2.2.2.1 s.2.2.2.2.2.1 s.2.2.2.2.2.2.1 s.2.2.2.2.2.2.2.1 s.2.2.2.2.2.2.2.2
theorem loops60_all:loopsOf body60=[L60_1_code]:=by kernel_rfl
theorem L60_1_key:lookY loops60 (keyOf L60_1_code)=some L60_1_sum:=by kernel_rfl
theorem loops60_ok:LoopsYOk env60 orc60 loops60 [t26] mk60 body60:=by
 intro c hc f hf
 rw [loops60_all] at hc
 simp only [List.mem_cons,List.not_mem_nil,or_false] at hc
 subst hc
 ·rw [L60_1_key] at hf; cases hf; exact L60_1_ok
def W60 (x0:Bool) (x1:Int) (x2:Tlp) (x3:Int) (x4:(List Bool)) (x5:Int):YW Y60 Unit :=
 bif (x0) then
 let v1:Int:=(((List.length x2):Nat):Int)
 YW.bind (L60_1 ((List.take (List.length x2) x2),v1,(0:Int),x0,x1,x2,x3,x4,x5)) fun x=>match x with
 | (.inl r11) =>
 some ([],())
 | (.inr r12) =>
 some ([],())
 else none
theorem ev60 (x0:Bool) (x1:Int) (x2:Tlp) (x3:Int) (x4:(List Bool)) (x5:Int):evY env60 orc60 loops60 [t26] mk60 body60 (mkSt ((.slot 0,.yld)::pin60) ((),((),((),((),(x0,((),((),((),(x1,(x2,(x3,(x4,((),(x5,()))))))))))))))) endY retOnly=W60 x0 x1 x2 x3 x4 x5:=by kernel_rfl
def I60:ISpec:=⟨pin60,Y60,fun (y:Y60)=>datsOf [t26] (y,()),fun s=>(W60 s.2.2.2.1 s.2.2.2.2.2.2.2.1 s.2.2.2.2.2.2.2.2.1 s.2.2.2.2.2.2.2.2.2.1 s.2.2.2.2.2.2.2.2.2.2.1 s.2.2.2.2.2.2.2.2.2.2.2.2.1).ys⟩
theorem iter60 (hE:EnvOk Tryd.prog env60) (hm:Tryd.prog.follows .mixedOrders=true):IterOk Tryd.prog glob 60 I60 :=
 iterOk_of_evY (I:=I60) (O:=orc60) (L:=loops60) (c:=body60) (mk:=mk60) hE hm Tryd.func60 Tryd.call60 (by kernel_rfl) (by kernel_rfl) (mkT_ok (ts:=[t26]) (un:=fun (y:Y60)=>(y,())) fun _=>rfl) loops60_ok (by kernel_rfl) (by decide) (by decide) (fun s ys h=>(ev60 s.2.2.2.1 s.2.2.2.2.2.2.2.1 s.2.2.2.2.2.2.2.2.1 s.2.2.2.2.2.2.2.2.2.1 s.2.2.2.2.2.2.2.2.2.2.1 s.2.2.2.2.2.2.2.2.2.2.2.2.1).trans (YW.ys_some h))
def pin44:Shape:=[(.slot 0,.ptr 50000 0),(.slot 1,.dat t26),(.box 50000,.bx 85 12),(.cell 50000 0,.dat (.arr 12 (.int .i64)))]
def pout44:Shape:=[(.box 50000,.bx 85 12),(.cell 50000 0,.dat (.arr 12 (.int .i64)))]
def env44:Env:={
 tab:=tab
 glob:=glob
 spec:=fun
  | _=>none
 bldT:=bldT
 bld:=bldF }
def orc44:Orc:=⟨26,fun _=>none,fun
 | 0=>kp [0,3] [(3,[0,1,2,3,4,5,6]),(50000,[0])]
 | 1=>kp [0,3] [(3,[0,1,2,3,4,5,6]),(50000,[0])]
 | 2=>kp [] [(50000,[0])]
 | _=>[],fun | _=>false⟩
noncomputable def body44:Code:=Tryd.f44.body.getD .skip
def loops44:Nat→Option (Sum):=fun | _=>none
theorem loops44_ok:LoopsOk env44 orc44 loops44 body44:=loopsOk_nil (by kernel_rfl)
def G44 (x0:D26) (x1:Tin):Option (Unit×(Tin×Unit)) :=
 bif (decide (0≤x0.2.2.2.1) && decide (x0.2.2.2.1 < (12:Nat))) then
 bif (decide ((Int.toNat x0.2.2.2.1) < List.length x1)) then
 let v1:Int:=(List.getD x1 (Int.toNat x0.2.2.2.1) (0:Int))
 let v2:Int:=(IntKind.i64.wrap (v1+x0.2.2.2.2.1))
 bif (decide (0≤x0.2.2.2.1) && decide (x0.2.2.2.1 < (12:Nat))) then
 bif (decide ((Int.toNat x0.2.2.2.1) < List.length x1)) then
 let v3:Tin:=(List.set x1 (Int.toNat x0.2.2.2.1) v2)
 bif (decide (0≤x0.2.2.1) && decide (x0.2.2.1 < (12:Nat))) then
 bif (decide ((Int.toNat x0.2.2.1) < List.length v3)) then
 let v4:Int:=(List.getD v3 (Int.toNat x0.2.2.1) (0:Int))
 let v5:Int:=(IntKind.i64.wrap (v4 - x0.2.2.2.2.1))
 bif (decide (0≤x0.2.2.1) && decide (x0.2.2.1 < (12:Nat))) then
 bif (decide ((Int.toNat x0.2.2.1) < List.length v3)) then
 let v6:Tin:=(List.set v3 (Int.toNat x0.2.2.1) v5)
 some ((),(v6,()))
 else none
 else none
 else none
 else none
 else none
 else none
 else none
 else none
def P44 (x0:D26) (x1:Tin):Bool:=(hold (G44 x0 x1)).isSome
def F44 (x0:D26) (x1:Tin):(Unit×(Tin×Unit)):=(hold (G44 x0 x1)).getD (Tup.zero pout44)
theorem P44_of (x0:D26) (x1:Tin) {r:(Unit×(Tin×Unit))} (h:G44 x0 x1=some r):P44 x0 x1=true:=by unfold P44; rw [hold_eq,h]; rfl
theorem F44_of (x0:D26) (x1:Tin) {r:(Unit×(Tin×Unit))} (h:G44 x0 x1=some r):F44 x0 x1=r:=by unfold F44; rw [hold_eq,h]; rfl
theorem ev44 (x0:D26) (x1:Tin):ev2 env44 orc44 loops44 body44 (mkSt pin44 ((),(x0,((),(x1,()))))) (retK3 env44 [] pout44)=G44 x0 x1:=by kernel_rfl
def sp44:Spec2:=⟨pin44,pout44,fun s=>hold (G44 s.2.1 s.2.2.2.1)⟩
theorem fit44:Fit Tryd.f44 [] sp44:=⟨by kernel_rfl,by kernel_rfl,by kernel_rfl,by kernel_rfl,by kernel_rfl,by decide,by decide,by decide⟩
theorem meets44 (hE:EnvOk Tryd.prog env44) (hm:Tryd.prog.follows .mixedOrders=true):Meets2 Tryd.prog glob 44 sp44 :=
 meets2_of_ev2 (O:=orc44) (L:=loops44) (c:=body44) (rs:=[]) hE (fun _=>rfl) hm Tryd.func44 Tryd.call44 (by kernel_rfl) (by kernel_rfl) loops44_ok (rangesOk_nil (by kernel_rfl)) fit44 (fun s o h=>(ev44 s.2.1 s.2.2.2.1).trans ((hold_eq _).symm.trans h))
def env45:Env:={
 tab:=tab
 glob:=glob
 spec:=fun
  | _=>none
 bldT:=bldT
 bld:=bldF }
def orc45:Orc:=⟨14,fun _=>none,fun
 | 0=>kp [1,2] [(2,[0])]
 | 1=>kp [1,2,7] [(2,[0])]
 | 2=>kp [4] []
 | 3=>kp [4] []
 | _=>[],fun | _=>false⟩
noncomputable def body45:Code:=Tryd.f45.body.getD .skip
def loops45:Nat→Option (Sum):=fun | _=>none
theorem loops45_nat:∀ q f,loops45 q=some f→Natural f:=by
 intro q f h
 cases h
theorem loops45_ok:LoopsOk env45 orc45 loops45 body45:=loopsOk_nil (by kernel_rfl)
def G45 (x0:Tin) (x1:Int):Option (Tin) :=
 let v1:Tin:=([]:Tin)
 let v2:Tin:=(List.replicate 12 (0:Int))
 let v3:Bool:=(eqv (.arr 12 (.int .i64)) x0 v2)
 bif v3 then
 bif (decide (0≤x1) && decide (x1≤x1) && decide (x1≤100000000000)) then
 let v4:Tin:=(List.replicate (Int.toNat x1) (0:Int))
 some (v4)
 else none
 else
 let v5:Tin:=(List.replicate 0 (0:Int))
 bif (sliceTest (0:Int) x1 (12:Nat)) then
 bif (decide ((Int.toNat x1)≤12) && decide (List.length (List.take (List.length v5) v5)+List.length (List.take (Int.toNat x1) x0)≤100000000000)) then
 let v6:Tin:=((List.take (List.length v5) v5)++(List.take (Int.toNat x1) x0))
 some (v6)
 else none
 else none
theorem ev45 (x0:Tin) (x1:Int):ev2 env45 orc45 loops45 body45 (initSt 0 [⟨(.arr 12 (.int .i64)),x0⟩,⟨(.int .i64),x1⟩]) (retT [(4,.own 3 (.int .i64))] [(.list (.int .i64))] fun x=>x.1)=G45 x0 x1:=by kernel_rfl
def P45 (x0:Tin) (x1:Int):Bool:=(hold (G45 x0 x1)).isSome
def F45 (x0:Tin) (x1:Int):Tin:=(hold (G45 x0 x1)).getD default
theorem G45_some (x0:Tin) (x1:Int) (h:P45 x0 x1=true):G45 x0 x1=some (F45 x0 x1):=by
 unfold P45 at h; unfold F45
 rw [hold_eq] at h ⊢
 exact some_getD h
theorem P45_of (x0:Tin) (x1:Int) {r:Tin} (h:G45 x0 x1=some r):P45 x0 x1=true:=by unfold P45; rw [hold_eq,h]; rfl
theorem F45_of (x0:Tin) (x1:Int) {r:Tin} (h:G45 x0 x1=some r):F45 x0 x1=r:=by unfold F45; rw [hold_eq,h]; rfl
def spec45:Spec:=⟨[(.arr 12 (.int .i64)),(.int .i64)],[.own 3 (.int .i64)],fun | [a0,a1]=>P45 (a0.as (.arr 12 (.int .i64))) (a1.as (.int .i64)) | _=>false,fun | [a0,a1]=>[⟨(.list (.int .i64)),(F45 (a0.as (.arr 12 (.int .i64))) (a1.as (.int .i64)))⟩] | _=>[]⟩
theorem meets45 (hE:EnvOk Tryd.prog env45) (hm:Tryd.prog.follows .mixedOrders=true):Meets Tryd.prog glob 45 spec45 :=
 meets_of_ev2 (O:=orc45) (L:=loops45) (c:=body45) (slots:=[4]) hE hm Tryd.func45 Tryd.call45 (by kernel_rfl) (by kernel_rfl) loops45_ok (rangesOk_nil (by kernel_rfl)) (by kernel_rfl) rfl (by decide) (fun ds hds hpre=>by
 obtain ⟨x0,ds0,rfl,h0⟩:=datsS hds
 obtain ⟨x1,ds1,rfl,h1⟩:=datsS h0
 have h9:=dats0 h1; subst h9
 exact ev_ret (un:=fun r=>[⟨(.list (.int .i64)),r⟩]) loops45_nat (fun _=>rfl) ((ev45 x0 x1).trans (G45_some x0 x1 hpre)))
def env18:Env:={
 tab:=tab
 glob:=glob
 spec:=fun
  | 41=>some spec41
  | 45=>some spec45
  | _=>none
 spec2:=fun
  | 33,[]=>some sp33
  | 42,[43]=>some sp42
  | 44,[]=>some sp44
  | _,_=>none
 bldT:=bldT
 bld:=bldF }
def orc18:Orc:=⟨32,fun _=>none,fun
 | 0=>kp [2,3] [(2,[0,1,2]),(3,[0])]
 | 1=>kp [2,3,6,7] [(2,[0,1,2]),(3,[0]),(1300013,[0,1,2,3])]
 | 2=>kp [2,3,6,21] [(2,[0,1,2]),(3,[0]),(1300013,[0,1,2,3])]
 | 3=>kp [4,5] []
 | 4=>kp [2,3,6,8] [(2,[0,1,2]),(3,[0]),(8,[0]),(1300013,[0,1,2,3])]
 | 5=>kp [2,8,24] [(2,[0,1,2]),(3,[0]),(8,[0]),(1300013,[0,1,2,3]),(2500002,[0]),(2500003,[0])]
 | 6=>kp [2,8,9,24] [(2,[0,1,2]),(8,[0]),(9,[0,1,2,3,4,5,6])]
 | 7=>kp [2,8,24] [(2,[0,1,2]),(8,[0])]
 | 8=>kp [4,5] []
 | _=>[],fun | _=>false⟩
noncomputable def body18:Code:=Tryd.f18.body.getD .skip
def R18_6_esh:Shape:=[(.slot 2,.ptr 2 0),(.slot 8,.ptr 8 0),(.box 2,.bx 24 3),(.cell 2 0,.dat (.int .i64)),(.cell 2 1,.dat (.list t26)),(.cell 2 2,.dat (.int .i64)),(.box 8,.bx 85 12),(.cell 8 0,.dat (.arr 12 (.int .i64)))]
def R18_6_pk (s:Tup R18_6_esh):Int×Tlp×Int×Tin:=(s.2.2.2.1,s.2.2.2.2.1,s.2.2.2.2.2.1,s.2.2.2.2.2.2.2.1)
def R18_6_un (s:Int×Tlp×Int×Tin):Tup R18_6_esh:=((),((),((),(s.1,(s.2.1,(s.2.2.1,((),(s.2.2.2,()))))))))
def R18_6_xo (x:(Int×Tlp×Int×Tin)):Exit×Tup R18_6_esh:=match x with
 | a=>(.ret,R18_6_un a)
def R18_6_leave (x:(Int×Tlp×Int×Tin)) (R:Type) (K:Cont R):Option R:=match x with
 | a=>K .ret (mkSt R18_6_esh (R18_6_un a))
theorem R18_6_lv (x:(Int×Tlp×Int×Tin)) (R:Type) (K:Cont R):R18_6_leave x R K=K (R18_6_xo x).1 (mkSt R18_6_esh (R18_6_xo x).2):=by
 rfl
theorem R18_6_lvn (x:(Int×Tlp×Int×Tin)) (R:Type) (K:Cont R):R18_6_leave x R K=(R18_6_leave x _ pairK).bind fun p=>K p.1 p.2:=by
 rfl
def R18_6_d (e:Exit) (s:Tup R18_6_esh):Option ((Int×Tlp×Int×Tin)):=match e with
 | _=>none
theorem R18_6_dk:∀ x e v,R18_6_d x e=some v→R18_6_xo v=(x,e)∧∃ c,jumpOf x=some c:=by
 intro x e v h
 cases x<;>cases h
def R18_6_r (s0:Int) (s1:Tlp) (s2:Int) (s3:Tin) (y0:D26):Option ((Int×Tlp×Int×Tin)⊕((Int×Tlp×Int×Tin))) :=
 bif (P44 y0 s3) then
 let q10:(Unit×(Tin×Unit)):=F44 y0 s3
 some (.inl (s0,s1,s2,q10.2.1))
 else none
def R18_6_step (b:Int×Tlp×Int×Tin) (y:Y60):Option ((Int×Tlp×Int×Tin)⊕((Int×Tlp×Int×Tin))):=R18_6_r b.1 b.2.1 b.2.2.1 b.2.2.2 y
def loops18:Nat→Option (Sum):=fun | 6=>some (rangeSum env18 60 24 R18_6_esh I60 R18_6_pk R18_6_un R18_6_step R18_6_leave) | _=>none
theorem loops18_nat:∀ q f,loops18 q=some f→Natural f:=by
 intro q f h
 unfold loops18 at h
 split at h
 ·cases h; exact natural_range R18_6_lvn
 ·cases h
theorem loops18_ok:LoopsOk env18 orc18 loops18 body18:=loopsOk_nil (by kernel_rfl)
noncomputable def R18_6_code:Code:=(rangesOf body18).getD 0 .skip
theorem R18_6_round (s0:Int) (s1:Tlp) (s2:Int) (s3:Tin) (y0:D26):roundQ env18 orc18 loops18 R18_6_esh R18_6_pk R18_6_d R18_6_code (I60.enc y0) ((),((),((),(s0,(s1,(s2,((),(s3,()))))))))=R18_6_r s0 s1 s2 s3 y0:=by kernel_rfl
theorem R18_6_form:R18_6_code=.rangeFunc (.tmp 24) (rgPs R18_6_code) (rgAsg R18_6_code) (rgBody R18_6_code):=by kernel_rfl
theorem R18_6_len (y:Y60):(rgPs R18_6_code).toList.length=(I60.enc y).length:=by kernel_rfl
theorem R18_6_ok (hE:EnvOk Tryd.prog env18) (hm:Tryd.prog.follows .mixedOrders=true) (hI:IterOk Tryd.prog glob 60 I60):RangeOk Tryd.prog env18 orc18.n R18_6_code (rangeSum env18 60 24 R18_6_esh I60 R18_6_pk R18_6_un R18_6_step R18_6_leave) :=
 rangeOk' (L:=loops18) hE hm hI R18_6_form (loopsOk_nil (by kernel_rfl)) (loopsOk_nil (by kernel_rfl)) (by kernel_rfl) (by kernel_rfl) (by kernel_rfl) (by kernel_rfl) (pk:=R18_6_pk) (un:=R18_6_un) (fun _=>rfl) R18_6_dk R18_6_lv R18_6_len fun b y=>R18_6_round b.1 b.2.1 b.2.2.1 b.2.2.2 y
theorem ranges18_all:rangesOf body18=[R18_6_code]:=by kernel_rfl
theorem R18_6_key:lookL loops18 (keyOf R18_6_code)=some (rangeSum env18 60 24 R18_6_esh I60 R18_6_pk R18_6_un R18_6_step R18_6_leave):=by kernel_rfl
theorem ranges18_ok (hE:EnvOk Tryd.prog env18) (hm:Tryd.prog.follows .mixedOrders=true) (hI60:IterOk Tryd.prog glob 60 I60):RangesOk Tryd.prog env18 orc18.n loops18 body18:=by
 intro c hc f hf
 rw [ranges18_all] at hc
 simp only [List.mem_cons,List.not_mem_nil,or_false] at hc
 subst hc
 ·rw [R18_6_key] at hf; cases hf; exact R18_6_ok hE hm hI60
def G18 (x0:D23) (x1:Int):Option (Tin×Int) :=
 let v1:Tin:=([]:Tin)
 bif (P33 x0) then
 let q2:(Bool×(Bool×(Unit×(Int×(Tlp×(Int×((List Bool)×Unit))))))):=F33 x0
 let v3:Bool:=(!q2.2.1)
 bif ((P41 x1 (0:Int) (11:Int)) || !(!v3 && true)) then
 let v4:Bool:=(F41 x1 (0:Int) (11:Int))
 let v5:Bool:=(!v4)
 let v6:Bool:=(bif v3 then true else v5)
 bif v6 then
 let v7:Tin:=([]:Tin)
 some (v7,(310:Int))
 else
 let v8:Tin:=(List.replicate 12 (0:Int))
 bif (P42 q2.1 q2.2.2.2.1 q2.2.2.2.2.1 q2.2.2.2.2.2.1 q2.2.2.2.2.2.2.1 x1) then
 let q9:(Unit×(Unit×(Int×(Tlp×(Int×((List Bool)×(Unit×(Int×(Unit×(Bool×(Unit×(Unit×Unit)))))))))))):=F42 q2.1 q2.2.2.2.1 q2.2.2.2.2.1 q2.2.2.2.2.2.1 q2.2.2.2.2.2.2.1 x1
 Option.bind ((W60 q9.2.2.2.2.2.2.2.2.2.1 q9.2.2.1 q9.2.2.2.1 q9.2.2.2.2.1 q9.2.2.2.2.2.1 q9.2.2.2.2.2.2.2.1).ys) fun ys=>Option.bind (foldX R18_6_step ys (x0.1,x0.2.1,x0.2.2.1,v8)) fun z=>match z with
 | .inl (r11:Int×Tlp×Int×Tin) =>
 bif (P45 r11.2.2.2 r11.1) then
 let v12:Tin:=(F45 r11.2.2.2 r11.1)
 some (v12,(0:Int))
 else none
 | .inr r11 =>
 none
 else none
 else none
 else none
theorem ev18 (x0:D23) (x1:Int):ev2 env18 orc18 loops18 body18 (initSt 0 [⟨t23,x0⟩,⟨(.int .i64),x1⟩]) (retT [(4,.own 3 (.int .i64)),(5,.dat (.int .i64))] [(.list (.int .i64)),(.int .i64)] fun x=>(x.1,x.2.1))=G18 x0 x1:=by kernel_rfl
def P18 (x0:D23) (x1:Int):Bool:=(hold (G18 x0 x1)).isSome
def F18 (x0:D23) (x1:Int):Tin×Int:=(hold (G18 x0 x1)).getD default
theorem G18_some (x0:D23) (x1:Int) (h:P18 x0 x1=true):G18 x0 x1=some (F18 x0 x1):=by
 unfold P18 at h; unfold F18
 rw [hold_eq] at h ⊢
 exact some_getD h
theorem P18_of (x0:D23) (x1:Int) {r:Tin×Int} (h:G18 x0 x1=some r):P18 x0 x1=true:=by unfold P18; rw [hold_eq,h]; rfl
theorem F18_of (x0:D23) (x1:Int) {r:Tin×Int} (h:G18 x0 x1=some r):F18 x0 x1=r:=by unfold F18; rw [hold_eq,h]; rfl
def spec18:Spec:=⟨[t23,(.int .i64)],[.own 3 (.int .i64),.dat (.int .i64)],fun | [a0,a1]=>P18 (a0.as t23) (a1.as (.int .i64)) | _=>false,fun | [a0,a1]=>[⟨(.list (.int .i64)),(F18 (a0.as t23) (a1.as (.int .i64))).1⟩,⟨(.int .i64),(F18 (a0.as t23) (a1.as (.int .i64))).2⟩] | _=>[]⟩
theorem meets18 (hE:EnvOk Tryd.prog env18) (hm:Tryd.prog.follows .mixedOrders=true) (hI60:IterOk Tryd.prog glob 60 I60):Meets Tryd.prog glob 18 spec18 :=
 meets_of_ev2 (O:=orc18) (L:=loops18) (c:=body18) (slots:=[4,5]) hE hm Tryd.func18 Tryd.call18 (by kernel_rfl) (by kernel_rfl) loops18_ok (ranges18_ok hE hm hI60) (by kernel_rfl) rfl (by decide) (fun ds hds hpre=>by
 obtain ⟨x0,ds0,rfl,h0⟩:=datsS hds
 obtain ⟨x1,ds1,rfl,h1⟩:=datsS h0
 have h9:=dats0 h1; subst h9
 exact ev_ret (un:=fun r=>[⟨(.list (.int .i64)),r.1⟩,⟨(.int .i64),r.2⟩]) loops18_nat (fun _=>rfl) ((ev18 x0 x1).trans (G18_some x0 x1 hpre)))
def pin19:Shape:=[(.slot 0,.dat t23),(.slot 1,.dat (.int .i64)),(.slot 2,.dat (.int .i64)),(.slot 3,.dat (.int .i64))]
def pout19:Shape:=[(.slot 0,.dat t23),(.slot 1,.dat (.int .i64))]
def env19:Env:={
 tab:=tab
 glob:=glob
 spec:=fun
  | 41=>some spec41
  | _=>none
 spec2:=fun
  | 33,[]=>some sp33
  | 40,[]=>some sp40
  | _,_=>none
 bldT:=bldT
 bld:=bldF }
def orc19:Orc:=⟨77,fun _=>none,fun
 | 0=>kp [1,2,3,4,8] [(4,[0,1,2]),(8,[0,1,2])]
 | 1=>kp [1,2,3,4,8,10,11] [(4,[0,1,2]),(8,[0,1,2]),(1700013,[0,1,2,3])]
 | 2=>kp [1,2,3,4,8,10,36] [(4,[0,1,2]),(8,[0,1,2]),(1700013,[0,1,2,3])]
 | 3=>kp [8,9] [(8,[0,1,2])]
 | 4=>kp [1,2,3,8,10,12] [(8,[0,1,2]),(12,[0,1,2,3,4,5,6]),(1700013,[0,1,2,3])]
 | 5=>kp [2,3,8,10,12,13] [(8,[0,1,2]),(12,[0,1,2,3,4,5,6]),(13,[0,1,2,3,4,5,6]),(1700013,[0,1,2,3])]
 | 6=>kp [3,8,10,12,13] [(8,[0,1,2]),(12,[0,1,2,3,4,5,6]),(13,[0,1,2,3,4,5,6]),(1700013,[0,1,2,3])]
 | 7=>kp [8,10,71] [(8,[0,1,2]),(1700013,[0,1,2,3])]
 | 8=>kp [8,9] [(8,[0,1,2])]
 | 9=>kp [8,9] [(8,[0,1,2])]
 | _=>[],fun | _=>false⟩
noncomputable def body19:Code:=Tryd.f19.body.getD .skip
def loops19:Nat→Option (Sum):=fun | _=>none
theorem loops19_ok:LoopsOk env19 orc19 loops19 body19:=loopsOk_nil (by kernel_rfl)
def G19 (x0:D23) (x1:Int) (x2:Int) (x3:Int):Option (D23×(Int×Unit)) :=
 let v1:Tlp:=([]:Tlp)
 let v2:Tlp:=([]:Tlp)
 bif (P33 x0) then
 let q3:(Bool×(Bool×(Unit×(Int×(Tlp×(Int×((List Bool)×Unit))))))):=F33 x0
 let v4:Bool:=(!q3.2.1)
 let v5:Bool:=(decide (x1 < (0:Int)))
 let v6:Bool:=(bif v4 then true else v5)
 let v7:Int:=((List.length x0.2.1:Nat):Int)
 let v8:Bool:=(decide (x1≥v7))
 let v9:Bool:=(bif v6 then true else v8)
 bif ((P41 x3 (0:Int) (1000000000:Int)) || !(!v9 && true)) then
 let v10:Bool:=(F41 x3 (0:Int) (1000000000:Int))
 let v11:Bool:=(!v10)
 let v12:Bool:=(bif v9 then true else v11)
 bif v12 then
 let v13:Tlp:=([]:Tlp)
 some (((0:Int),(v13,((0:Int),()))),((310:Int),()))
 else
 bif (decide (0≤x1) && decide (x1 < List.length x0.2.1)) then
 let v14:D26:=(List.getD x0.2.1 (Int.toNat x1) z26)
 bif (P40 q3.1 ((2:Int),(x2,(v14.2.2.2.1,(v14.2.2.1,(v14.2.2.2.2.1,(v14.2.2.2.2.2.1,(x1,()))))))) q3.2.2.2.1 q3.2.2.2.2.1 q3.2.2.2.2.2.1 q3.2.2.2.2.2.2.1) then
 let q15:(Bool×(Unit×(Int×(Tlp×(Int×((List Bool)×Unit)))))):=F40 q3.1 ((2:Int),(x2,(v14.2.2.2.1,(v14.2.2.1,(v14.2.2.2.2.1,(v14.2.2.2.2.2.1,(x1,()))))))) q3.2.2.2.1 q3.2.2.2.2.1 q3.2.2.2.2.2.1 q3.2.2.2.2.2.2.1
 let v16:Bool:=(!q15.1)
 let v17:Bool:=(decide (x3 > (0:Int)))
 bif ((P40 q3.1 (v14.1,(x2,(v14.2.2.1,(v14.2.2.2.1,(x3,v14.2.2.2.2.2))))) q15.2.2.1 q15.2.2.2.1 q15.2.2.2.2.1 q15.2.2.2.2.2.1) || !(v17 && (!v16 && true))) then
 let q18:(Bool×(Unit×(Int×(Tlp×(Int×((List Bool)×Unit)))))):=F40 q3.1 (v14.1,(x2,(v14.2.2.1,(v14.2.2.2.1,(x3,v14.2.2.2.2.2))))) q15.2.2.1 q15.2.2.2.1 q15.2.2.2.2.1 q15.2.2.2.2.2.1
 let v19:Int:=(bif (v17 && (!v16 && true)) then q18.2.2.1 else q15.2.2.1)
 let v20:Tlp:=(bif (v17 && (!v16 && true)) then q18.2.2.2.1 else q15.2.2.2.1)
 let v21:Int:=(bif (v17 && (!v16 && true)) then q18.2.2.2.2.1 else q15.2.2.2.2.1)
 let v22:(List Bool):=(bif (v17 && (!v16 && true)) then q18.2.2.2.2.2.1 else q15.2.2.2.2.2.1)
 let v23:Bool:=(!q18.1)
 let v24:Bool:=(bif v17 then v23 else false)
 let v25:Bool:=(bif v16 then true else v24)
 bif v25 then
 let v26:Tlp:=([]:Tlp)
 some (((0:Int),(v26,((0:Int),()))),((310:Int),()))
 else
 bif (q3.1) then
 some ((v19,(v20,(v21,()))),((0:Int),()))
 else none
 else none
 else none
 else none
 else none
 else none
def P19 (x0:D23) (x1:Int) (x2:Int) (x3:Int):Bool:=(hold (G19 x0 x1 x2 x3)).isSome
def F19 (x0:D23) (x1:Int) (x2:Int) (x3:Int):(D23×(Int×Unit)):=(hold (G19 x0 x1 x2 x3)).getD (Tup.zero pout19)
theorem P19_of (x0:D23) (x1:Int) (x2:Int) (x3:Int) {r:(D23×(Int×Unit))} (h:G19 x0 x1 x2 x3=some r):P19 x0 x1 x2 x3=true:=by unfold P19; rw [hold_eq,h]; rfl
theorem F19_of (x0:D23) (x1:Int) (x2:Int) (x3:Int) {r:(D23×(Int×Unit))} (h:G19 x0 x1 x2 x3=some r):F19 x0 x1 x2 x3=r:=by unfold F19; rw [hold_eq,h]; rfl
theorem ev19 (x0:D23) (x1:Int) (x2:Int) (x3:Int):ev2 env19 orc19 loops19 body19 (mkSt pin19 (x0,(x1,(x2,(x3,()))))) (retK3 env19 [.cell 8 24,.slot 9] pout19)=G19 x0 x1 x2 x3:=by kernel_rfl
def sp19:Spec2:=⟨pin19,pout19,fun s=>hold (G19 s.1 s.2.1 s.2.2.1 s.2.2.2.1)⟩
theorem fit19:Fit Tryd.f19 [.cell 8 24,.slot 9] sp19:=⟨by kernel_rfl,by kernel_rfl,by kernel_rfl,by kernel_rfl,by kernel_rfl,by decide,by decide,by decide⟩
theorem meets19 (hE:EnvOk Tryd.prog env19) (hm:Tryd.prog.follows .mixedOrders=true):Meets2 Tryd.prog glob 19 sp19 :=
 meets2_of_ev2 (O:=orc19) (L:=loops19) (c:=body19) (rs:=[.cell 8 24,.slot 9]) hE (fun _=>rfl) hm Tryd.func19 Tryd.call19 (by kernel_rfl) (by kernel_rfl) loops19_ok (rangesOk_nil (by kernel_rfl)) fit19 (fun s o h=>(ev19 s.1 s.2.1 s.2.2.1 s.2.2.2.1).trans ((hold_eq _).symm.trans h))
def pin10042:Shape:=[(.slot 0,.mptr 50000 0),(.slot 1,.fn 46 [50001,50002]),(.box 50000,.bx 74 203),(.cell 50000 0,.dat (.int .i64)),(.cell 50000 1,.own 27 t26),(.cell 50000 2,.dat (.int .i64)),(.cell 50000 3,.dat (.arr 200 .bool)),(.box 50001,.bx 3 1),(.cell 50001 0,.dat (.int .i64)),(.box 50002,.bx 68 1),(.cell 50002 0,.mptr 50000 0)]
def pout10042:Shape:=[(.slot 0,.fn 60 [2,3]),(.box 50000,.bx 74 203),(.cell 50000 0,.dat (.int .i64)),(.cell 50000 1,.own 27 t26),(.cell 50000 2,.dat (.int .i64)),(.cell 50000 3,.dat (.arr 200 .bool)),(.box 50001,.bx 3 1),(.cell 50001 0,.dat (.int .i64)),(.box 50002,.bx 68 1),(.cell 50002 0,.mptr 50000 0),(.box 2,.bx 68 1),(.cell 2 0,.mptr 50000 0),(.box 3,.bx 88 1),(.cell 3 0,.fn 46 [50001,50002])]
def env10042:Env:={
 tab:=tab
 glob:=glob
 spec:=fun
  | _=>none
 bldT:=bldT
 bld:=bldF }
def orc10042:Orc:=⟨6,fun _=>none,fun
 | 0=>kp [2,3] [(2,[0]),(3,[0]),(50000,[0,1,2,3]),(50001,[0]),(50002,[0])]
 | 1=>kp [4] [(2,[0]),(3,[0]),(50000,[0,1,2,3]),(50001,[0]),(50002,[0])]
 | _=>[],fun | _=>false⟩
noncomputable def body10042:Code:=Tryd.f42.body.getD .skip
def loops10042:Nat→Option (Sum):=fun | _=>none
theorem loops10042_ok:LoopsOk env10042 orc10042 loops10042 body10042:=loopsOk_nil (by kernel_rfl)
def G10042 (x0:Bool) (x1:Int) (x2:Tlp) (x3:Int) (x4:(List Bool)) (x5:Int) (x6:Bool):Option (Unit×(Unit×(Int×(Tlp×(Int×((List Bool)×(Unit×(Int×(Unit×(Bool×(Unit×(Bool×(Unit×(Unit×Unit)))))))))))))) :=
 some ((),((),(x1,(x2,(x3,(x4,((),(x5,((),(x6,((),(x0,((),((),()))))))))))))))
def P10042 (x0:Bool) (x1:Int) (x2:Tlp) (x3:Int) (x4:(List Bool)) (x5:Int) (x6:Bool):Bool:=(hold (G10042 x0 x1 x2 x3 x4 x5 x6)).isSome
def F10042 (x0:Bool) (x1:Int) (x2:Tlp) (x3:Int) (x4:(List Bool)) (x5:Int) (x6:Bool):(Unit×(Unit×(Int×(Tlp×(Int×((List Bool)×(Unit×(Int×(Unit×(Bool×(Unit×(Bool×(Unit×(Unit×Unit)))))))))))))):=(hold (G10042 x0 x1 x2 x3 x4 x5 x6)).getD (Tup.zero pout10042)
theorem P10042_of (x0:Bool) (x1:Int) (x2:Tlp) (x3:Int) (x4:(List Bool)) (x5:Int) (x6:Bool) {r:(Unit×(Unit×(Int×(Tlp×(Int×((List Bool)×(Unit×(Int×(Unit×(Bool×(Unit×(Bool×(Unit×(Unit×Unit))))))))))))))} (h:G10042 x0 x1 x2 x3 x4 x5 x6=some r):P10042 x0 x1 x2 x3 x4 x5 x6=true:=by unfold P10042; rw [hold_eq,h]; rfl
theorem F10042_of (x0:Bool) (x1:Int) (x2:Tlp) (x3:Int) (x4:(List Bool)) (x5:Int) (x6:Bool) {r:(Unit×(Unit×(Int×(Tlp×(Int×((List Bool)×(Unit×(Int×(Unit×(Bool×(Unit×(Bool×(Unit×(Unit×Unit))))))))))))))} (h:G10042 x0 x1 x2 x3 x4 x5 x6=some r):F10042 x0 x1 x2 x3 x4 x5 x6=r:=by unfold F10042; rw [hold_eq,h]; rfl
theorem ev10042 (x0:Bool) (x1:Int) (x2:Tlp) (x3:Int) (x4:(List Bool)) (x5:Int) (x6:Bool):ev2 env10042 orc10042 loops10042 body10042 (mkSt pin10042 (x0,((),((),(x1,(x2,(x3,(x4,((),(x5,((),(x6,())))))))))))) (retK3 env10042 [.slot 4] pout10042)=G10042 x0 x1 x2 x3 x4 x5 x6:=by kernel_rfl
def sp10042:Spec2:=⟨pin10042,pout10042,fun s=>hold (G10042 s.1 s.2.2.2.1 s.2.2.2.2.1 s.2.2.2.2.2.1 s.2.2.2.2.2.2.1 s.2.2.2.2.2.2.2.2.1 s.2.2.2.2.2.2.2.2.2.2.1)⟩
theorem fit10042:Fit Tryd.f42 [.slot 4] sp10042:=⟨by kernel_rfl,by kernel_rfl,by kernel_rfl,by kernel_rfl,by kernel_rfl,by decide,by decide,by decide⟩
theorem meets10042 (hE:EnvOk Tryd.prog env10042) (hm:Tryd.prog.follows .mixedOrders=true):Meets2 Tryd.prog glob 42 sp10042 :=
 meets2_of_ev2 (O:=orc10042) (L:=loops10042) (c:=body10042) (rs:=[.slot 4]) hE (fun _=>rfl) hm Tryd.func42 Tryd.call42 (by kernel_rfl) (by kernel_rfl) loops10042_ok (rangesOk_nil (by kernel_rfl)) fit10042 (fun s o h=>(ev10042 s.1 s.2.2.2.1 s.2.2.2.2.1 s.2.2.2.2.2.1 s.2.2.2.2.2.2.1 s.2.2.2.2.2.2.2.2.1 s.2.2.2.2.2.2.2.2.2.2.1).trans ((hold_eq _).symm.trans h))
def pin46:Shape:=[(.slot 0,.dat (.int .i64)),(.slot 1,.dat t26),(.slot 2,.ptr 50000 0),(.slot 3,.ptr 50001 0),(.box 50000,.bx 3 1),(.cell 50000 0,.dat (.int .i64)),(.box 50001,.bx 68 1),(.cell 50001 0,.mptr 50002 0),(.box 50002,.bx 74 203),(.cell 50002 0,.dat (.int .i64)),(.cell 50002 1,.dat (.list t26)),(.cell 50002 2,.dat (.int .i64)),(.cell 50002 3,.dat (.arr 200 .bool))]
def pout46:Shape:=[(.slot 0,.dat .bool),(.box 50000,.bx 3 1),(.cell 50000 0,.dat (.int .i64)),(.box 50001,.bx 68 1),(.cell 50001 0,.mptr 50002 0),(.box 50002,.bx 74 203),(.cell 50002 0,.dat (.int .i64)),(.cell 50002 1,.dat (.list t26)),(.cell 50002 2,.dat (.int .i64)),(.cell 50002 3,.dat (.arr 200 .bool))]
def env46:Env:={
 tab:=tab
 glob:=glob
 spec:=fun
  | _=>none
 bldT:=bldT
 bld:=bldF }
def orc46:Orc:=⟨25,fun _=>none,fun
 | 0=>kp [0,2,3,5] [(5,[0,1,2,3,4,5,6]),(50000,[0]),(50001,[0]),(50002,[0,1,2,3])]
 | 1=>kp [6] [(50000,[0]),(50001,[0]),(50002,[0,1,2,3])]
 | _=>[],fun | _=>false⟩
noncomputable def body46:Code:=Tryd.f46.body.getD .skip
def loops46:Nat→Option (Sum):=fun | _=>none
theorem loops46_ok:LoopsOk env46 orc46 loops46 body46:=loopsOk_nil (by kernel_rfl)
def G46 (x0:Int) (x1:D26) (x2:Int) (x3:Bool) (x4:Int) (x5:Tlp) (x6:Int) (x7:(List Bool)):Option (Bool×(Unit×(Int×(Unit×(Bool×(Unit×(Int×(Tlp×(Int×((List Bool)×Unit)))))))))) :=
 let v1:Bool:=(x1.1==(1:Int))
 let v2:Bool:=(x1.2.2.2.2.2.1==x2)
 let v3:Bool:=(bif v1 then v2 else false)
 bif ((x3) || !(v3 && true)) then
 bif ((decide (0≤x0) && decide (x0 < (200:Nat))) || !(v3 && true)) then
 bif ((decide ((Int.toNat x0) < List.length x7)) || !(v3 && true)) then
 let v4:Bool:=(List.getD x7 (Int.toNat x0) false)
 let v5:Bool:=(!v4)
 let v6:Bool:=(bif v3 then v5 else false)
 some (v6,((),(x2,((),(x3,((),(x4,(x5,(x6,(x7,()))))))))))
 else none
 else none
 else none
def P46 (x0:Int) (x1:D26) (x2:Int) (x3:Bool) (x4:Int) (x5:Tlp) (x6:Int) (x7:(List Bool)):Bool:=(hold (G46 x0 x1 x2 x3 x4 x5 x6 x7)).isSome
def F46 (x0:Int) (x1:D26) (x2:Int) (x3:Bool) (x4:Int) (x5:Tlp) (x6:Int) (x7:(List Bool)):(Bool×(Unit×(Int×(Unit×(Bool×(Unit×(Int×(Tlp×(Int×((List Bool)×Unit)))))))))):=(hold (G46 x0 x1 x2 x3 x4 x5 x6 x7)).getD (Tup.zero pout46)
theorem P46_of (x0:Int) (x1:D26) (x2:Int) (x3:Bool) (x4:Int) (x5:Tlp) (x6:Int) (x7:(List Bool)) {r:(Bool×(Unit×(Int×(Unit×(Bool×(Unit×(Int×(Tlp×(Int×((List Bool)×Unit))))))))))} (h:G46 x0 x1 x2 x3 x4 x5 x6 x7=some r):P46 x0 x1 x2 x3 x4 x5 x6 x7=true:=by unfold P46; rw [hold_eq,h]; rfl
theorem F46_of (x0:Int) (x1:D26) (x2:Int) (x3:Bool) (x4:Int) (x5:Tlp) (x6:Int) (x7:(List Bool)) {r:(Bool×(Unit×(Int×(Unit×(Bool×(Unit×(Int×(Tlp×(Int×((List Bool)×Unit))))))))))} (h:G46 x0 x1 x2 x3 x4 x5 x6 x7=some r):F46 x0 x1 x2 x3 x4 x5 x6 x7=r:=by unfold F46; rw [hold_eq,h]; rfl
theorem ev46 (x0:Int) (x1:D26) (x2:Int) (x3:Bool) (x4:Int) (x5:Tlp) (x6:Int) (x7:(List Bool)):ev2 env46 orc46 loops46 body46 (mkSt pin46 (x0,(x1,((),((),((),(x2,((),(x3,((),(x4,(x5,(x6,(x7,())))))))))))))) (retK3 env46 [.slot 6] pout46)=G46 x0 x1 x2 x3 x4 x5 x6 x7:=by kernel_rfl
def sp46:Spec2:=⟨pin46,pout46,fun s=>hold (G46 s.1 s.2.1 s.2.2.2.2.2.1 s.2.2.2.2.2.2.2.1 s.2.2.2.2.2.2.2.2.2.1 s.2.2.2.2.2.2.2.2.2.2.1 s.2.2.2.2.2.2.2.2.2.2.2.1 s.2.2.2.2.2.2.2.2.2.2.2.2.1)⟩
theorem fit46:Fit Tryd.f46 [.slot 6] sp46:=⟨by kernel_rfl,by kernel_rfl,by kernel_rfl,by kernel_rfl,by kernel_rfl,by decide,by decide,by decide⟩
theorem meets46 (hE:EnvOk Tryd.prog env46) (hm:Tryd.prog.follows .mixedOrders=true):Meets2 Tryd.prog glob 46 sp46 :=
 meets2_of_ev2 (O:=orc46) (L:=loops46) (c:=body46) (rs:=[.slot 6]) hE (fun _=>rfl) hm Tryd.func46 Tryd.call46 (by kernel_rfl) (by kernel_rfl) loops46_ok (rangesOk_nil (by kernel_rfl)) fit46 (fun s o h=>(ev46 s.1 s.2.1 s.2.2.2.2.2.1 s.2.2.2.2.2.2.2.1 s.2.2.2.2.2.2.2.2.2.1 s.2.2.2.2.2.2.2.2.2.2.1 s.2.2.2.2.2.2.2.2.2.2.2.1 s.2.2.2.2.2.2.2.2.2.2.2.2.1).trans ((hold_eq _).symm.trans h))
def pin10060:Shape:=[(.slot 1,.ptr 50000 0),(.slot 2,.ptr 50001 0),(.box 50000,.bx 68 1),(.cell 50000 0,.mptr 50002 0),(.box 50001,.bx 88 1),(.cell 50001 0,.fn 46 [50003,50004]),(.box 50002,.bx 74 203),(.cell 50002 0,.dat (.int .i64)),(.cell 50002 1,.own 27 t26),(.cell 50002 2,.dat (.int .i64)),(.cell 50002 3,.dat (.arr 200 .bool)),(.box 50003,.bx 3 1),(.cell 50003 0,.dat (.int .i64)),(.box 50004,.bx 68 1),(.cell 50004 0,.mptr 50002 0)]
abbrev Y10060:Type:=D26
def mk10060:List Dat→Option Y10060:=mkT [t26] fun x=>x.1
def env10060:Env:={
 tab:=tab
 glob:=glob
 spec:=fun
  | _=>none
 spec2:=fun
  | 46,[]=>some sp46
  | _,_=>none
 bldT:=bldT
 bld:=bldF }
def orc10060:Orc:=⟨28,fun _=>none,fun
 | 0=>kp [0,2,10,11,12] [(50000,[0]),(50001,[0]),(50002,[0])]++[(.cell 50002 1,.frz)]++[(.cell 50002 2,.own)]++[(.cell 50002 3,.own)]++kp [] [(50003,[0]),(50004,[0])]
 | 1=>kp [0,2,10,11,12,13] [(50000,[0]),(50001,[0]),(50002,[0,1,2,3]),(50003,[0]),(50004,[0])]
 | 2=>kp [0,2,4,5,10,11,12] [(5,[0,1,2,3,4,5,6]),(50000,[0]),(50001,[0]),(50002,[0,1,2,3]),(50003,[0]),(50004,[0])]
 | 3=>kp [0,2,10,11,12,26] [(50000,[0]),(50001,[0]),(50002,[0,1,2,3]),(50003,[0]),(50004,[0])]
 | 4=>kp [0,2,10,11,12] [(50000,[0]),(50001,[0]),(50002,[0,1,2,3]),(50003,[0]),(50004,[0])]
 | _=>[],fun | _=>false⟩
noncomputable def body10060:Code:=Tryd.f60.body.getD .skip
abbrev L10060_1_T:Type:=Tlp×Int×Int×Bool×Int×Tlp×Int×(List Bool)×Int×Bool
def L10060_1_sh:Shape:=[(.slot 0,.yld),(.slot 2,.ptr 50001 0),(.slot 10,.dat (.list t26)),(.slot 11,.dat (.int .i64)),(.slot 12,.dat (.int .i64)),(.box 50000,.bx 68 1),(.cell 50000 0,.mptr 50002 0),(.box 50001,.bx 88 1),(.cell 50001 0,.fn 46 [50003,50004]),(.box 50002,.bx 74 203),(.cell 50002 0,.dat (.int .i64)),(.cell 50002 1,.dat (.list t26)),(.cell 50002 2,.dat (.int .i64)),(.cell 50002 3,.dat (.arr 200 .bool)),(.box 50003,.bx 3 1),(.cell 50003 0,.dat (.int .i64)),(.box 50004,.bx 68 1),(.cell 50004 0,.mptr 50002 0)]
def L10060_1_x0:Shape:=[(.slot 0,.yld),(.slot 2,.ptr 50001 0),(.slot 10,.dat (.list t26)),(.slot 11,.dat (.int .i64)),(.slot 12,.dat (.int .i64)),(.box 50000,.bx 68 1),(.cell 50000 0,.mptr 50002 0),(.box 50001,.bx 88 1),(.cell 50001 0,.fn 46 [50003,50004]),(.box 50002,.bx 74 203),(.cell 50002 0,.dat (.int .i64)),(.cell 50002 1,.dat (.list t26)),(.cell 50002 2,.dat (.int .i64)),(.cell 50002 3,.dat (.arr 200 .bool)),(.box 50003,.bx 3 1),(.cell 50003 0,.dat (.int .i64)),(.box 50004,.bx 68 1),(.cell 50004 0,.mptr 50002 0)]
def L10060_1_x1:Shape:=[(.slot 0,.yld),(.slot 2,.ptr 50001 0),(.slot 10,.dat (.list t26)),(.slot 11,.dat (.int .i64)),(.slot 12,.dat (.int .i64)),(.box 50000,.bx 68 1),(.cell 50000 0,.mptr 50002 0),(.box 50001,.bx 88 1),(.cell 50001 0,.fn 46 [50003,50004]),(.box 50002,.bx 74 203),(.cell 50002 0,.dat (.int .i64)),(.cell 50002 1,.dat (.list t26)),(.cell 50002 2,.dat (.int .i64)),(.cell 50002 3,.dat (.arr 200 .bool)),(.box 50003,.bx 3 1),(.cell 50003 0,.dat (.int .i64)),(.box 50004,.bx 68 1),(.cell 50004 0,.mptr 50002 0)]
def L10060_1_pk (s:Tup L10060_1_sh):L10060_1_T:=(s.2.2.1,s.2.2.2.1,s.2.2.2.2.1,s.2.2.2.2.2.2.1,s.2.2.2.2.2.2.2.2.2.2.1,s.2.2.2.2.2.2.2.2.2.2.2.1,s.2.2.2.2.2.2.2.2.2.2.2.2.1,s.2.2.2.2.2.2.2.2.2.2.2.2.2.1,s.2.2.2.2.2.2.2.2.2.2.2.2.2.2.2.1,s.2.2.2.2.2.2.2.2.2.2.2.2.2.2.2.2.2.1)
def L10060_1_un (s:Tlp×Int×Int×Bool×Int×Tlp×Int×(List Bool)×Int×Bool):Tup L10060_1_sh:=((),((),(s.1,(s.2.1,(s.2.2.1,((),(s.2.2.2.1,((),((),((),(s.2.2.2.2.1,(s.2.2.2.2.2.1,(s.2.2.2.2.2.2.1,(s.2.2.2.2.2.2.2.1,((),(s.2.2.2.2.2.2.2.2.1,((),(s.2.2.2.2.2.2.2.2.2,()))))))))))))))))))
def L10060_1_leave (x:L10060_1_T⊕L10060_1_T) (V:Type) (K:Exit→St→YW Y10060 V):YW Y10060 V:=match x with
 | (.inl a)=>K .ret (mkSt L10060_1_x0 ((),((),(a.1,(a.2.1,(a.2.2.1,((),(a.2.2.2.1,((),((),((),(a.2.2.2.2.1,(a.2.2.2.2.2.1,(a.2.2.2.2.2.2.1,(a.2.2.2.2.2.2.2.1,((),(a.2.2.2.2.2.2.2.2.1,((),(a.2.2.2.2.2.2.2.2.2,())))))))))))))))))))
 | (.inr a)=>K (.exit 0) (mkSt L10060_1_x1 ((),((),(a.1,(a.2.1,(a.2.2.1,((),(a.2.2.2.1,((),((),((),(a.2.2.2.2.1,(a.2.2.2.2.2.1,(a.2.2.2.2.2.2.1,(a.2.2.2.2.2.2.2.1,((),(a.2.2.2.2.2.2.2.2.1,((),(a.2.2.2.2.2.2.2.2.2,())))))))))))))))))))
def L10060_1_d (e:Exit) (st:St):Option (L10060_1_T⊕L10060_1_T):=match e with
 | .ret=>(match unSt L10060_1_x0 st with
  | some s=>some (.inl (s.2.2.1,s.2.2.2.1,s.2.2.2.2.1,s.2.2.2.2.2.2.1,s.2.2.2.2.2.2.2.2.2.2.1,s.2.2.2.2.2.2.2.2.2.2.2.1,s.2.2.2.2.2.2.2.2.2.2.2.2.1,s.2.2.2.2.2.2.2.2.2.2.2.2.2.1,s.2.2.2.2.2.2.2.2.2.2.2.2.2.2.2.1,s.2.2.2.2.2.2.2.2.2.2.2.2.2.2.2.2.2.1))
  | none=>none)
 | .exit 0=>(match unSt L10060_1_x1 st with
  | some s=>some (.inr (s.2.2.1,s.2.2.2.1,s.2.2.2.2.1,s.2.2.2.2.2.2.1,s.2.2.2.2.2.2.2.2.2.2.1,s.2.2.2.2.2.2.2.2.2.2.2.1,s.2.2.2.2.2.2.2.2.2.2.2.2.1,s.2.2.2.2.2.2.2.2.2.2.2.2.2.1,s.2.2.2.2.2.2.2.2.2.2.2.2.2.2.2.1,s.2.2.2.2.2.2.2.2.2.2.2.2.2.2.2.2.2.1))
  | none=>none)
 | _=>none
def L10060_1_r (s0:Tlp) (s1:Int) (s2:Int) (s3:Bool) (s4:Int) (s5:Tlp) (s6:Int) (s7:(List Bool)) (s8:Int) (s9:Bool):YW Y10060 (L10060_1_T⊕(L10060_1_T⊕L10060_1_T)) :=
 let v2:Bool:=(decide (s2 < s1))
 bif v2 then
 bif (decide (0≤s2) && decide (s2 < List.length s0)) then
 let v3:D26:=(List.getD s0 (Int.toNat s2) z26)
 bif (P46 s2 v3 s8 s9 s4 s5 s6 s7) then
 let q4:(Bool×(Unit×(Int×(Unit×(Bool×(Unit×(Int×(Tlp×(Int×((List Bool)×Unit)))))))))):=F46 s2 v3 s8 s9 s4 s5 s6 s7
 yieldW (q4.1 && true) v3 (let v8:Bool:=(!false)
 let v9:Bool:=(bif q4.1 then v8 else false)
 bif v9 then
 some ()
 else
 let v10:Int:=(IntKind.i64.wrap (s2+(1:Int)))
 none) (
 let v5:Bool:=(!true)
 let v6:Bool:=(bif q4.1 then v5 else false)
 bif v6 then
 some ([],.inr (.inl (s0,s1,s2,s3,q4.2.2.2.2.2.2.1,q4.2.2.2.2.2.2.2.1,q4.2.2.2.2.2.2.2.2.1,q4.2.2.2.2.2.2.2.2.2.1,q4.2.2.1,q4.2.2.2.2.1)))
 else
 let v7:Int:=(IntKind.i64.wrap (s2+(1:Int)))
 some ([],.inl (s0,s1,v7,s3,q4.2.2.2.2.2.2.1,q4.2.2.2.2.2.2.2.1,q4.2.2.2.2.2.2.2.2.1,q4.2.2.2.2.2.2.2.2.2.1,q4.2.2.1,q4.2.2.2.2.1)))
 else none
 else none
 else
 some ([],.inr (.inr (s0,s1,s2,s3,s4,s5,s6,s7,s8,s9)))
def L10060_1:L10060_1_T→YW Y10060 (L10060_1_T⊕L10060_1_T):=LimW (fun s=>L10060_1_r s.1 s.2.1 s.2.2.1 s.2.2.2.1 s.2.2.2.2.1 s.2.2.2.2.2.1 s.2.2.2.2.2.2.1 s.2.2.2.2.2.2.2.1 s.2.2.2.2.2.2.2.2.1 s.2.2.2.2.2.2.2.2.2)
def L10060_1_sum:SumY Y10060:=limSumW L10060_1_sh L10060_1_pk (fun s=>L10060_1_r s.1 s.2.1 s.2.2.1 s.2.2.2.1 s.2.2.2.2.1 s.2.2.2.2.2.1 s.2.2.2.2.2.2.1 s.2.2.2.2.2.2.2.1 s.2.2.2.2.2.2.2.2.1 s.2.2.2.2.2.2.2.2.2) L10060_1_leave
theorem L10060_1_nat:NaturalY L10060_1_sum:=natural_limW fun x V K=>by
 rcases x with x|x<;>exact (YW.bind_pure _ _).symm
theorem L10060_1_dok:∀ e st x,e≠.normal→L10060_1_d e st=some x→∀ V (K:Exit→St→YW Y10060 V),K e st=L10060_1_leave x V K:=by
 intro e st x _ h R K
 unfold L10060_1_d at h
 split at h
 ·split at h
  ·rename_i s hs; cases h; rw [unSt_some hs]; rfl
  ·cases h
 ·split at h
  ·rename_i s hs; cases h; rw [unSt_some hs]; rfl
  ·cases h
 ·cases h
def loops10060:Nat→Option (SumY Y10060):=fun | 1=>some L10060_1_sum | _=>none
theorem loops10060_nat:∀ q f,loops10060 q=some f→NaturalY f:=by
 intro q f h
 unfold loops10060 at h
 split at h
 ·cases h; exact L10060_1_nat
 ·cases h
noncomputable def L10060_1_code:Code:=(loopsOf body10060).getD 0 .skip
theorem L10060_1_round (s0:Tlp) (s1:Int) (s2:Int) (s3:Bool) (s4:Int) (s5:Tlp) (s6:Int) (s7:(List Bool)) (s8:Int) (s9:Bool):evY env10060 orc10060 loops10060 [t26] mk10060 L10060_1_code (mkSt L10060_1_sh ((),((),(s0,(s1,(s2,((),(s3,((),((),((),(s4,(s5,(s6,(s7,((),(s8,((),(s9,()))))))))))))))))))) (backW (back L10060_1_sh L10060_1_pk L10060_1_d)) retOnly=L10060_1_r s0 s1 s2 s3 s4 s5 s6 s7 s8 s9:=by kernel_rfl
theorem L10060_1_ok:SumYOk env10060 orc10060 loops10060 [t26] mk10060 L10060_1_code L10060_1_sum:=sumYOk_lim (un:=L10060_1_un) loops10060_nat (fun _=>rfl) L10060_1_dok fun s=>L10060_1_round s.1 s.2.1 s.2.2.1 s.2.2.2.1 s.2.2.2.2.1 s.2.2.2.2.2.1 s.2.2.2.2.2.2.1 s.2.2.2.2.2.2.2.1 s.2.2.2.2.2.2.2.2.1 s.2.2.2.2.2.2.2.2.2
theorem loops10060_all:loopsOf body10060=[L10060_1_code]:=by kernel_rfl
theorem L10060_1_key:lookY loops10060 (keyOf L10060_1_code)=some L10060_1_sum:=by kernel_rfl
theorem loops10060_ok:LoopsYOk env10060 orc10060 loops10060 [t26] mk10060 body10060:=by
 intro c hc f hf
 rw [loops10060_all] at hc
 simp only [List.mem_cons,List.not_mem_nil,or_false] at hc
 subst hc
 ·rw [L10060_1_key] at hf; cases hf; exact L10060_1_ok
def W10060 (x0:Bool) (x1:Int) (x2:Tlp) (x3:Int) (x4:(List Bool)) (x5:Int) (x6:Bool):YW Y10060 Unit :=
 bif (x0) then
 let v1:Int:=(((List.length x2):Nat):Int)
 YW.bind (L10060_1 ((List.take (List.length x2) x2),v1,(0:Int),x0,x1,x2,x3,x4,x5,x6)) fun x=>match x with
 | (.inl r11) =>
 some ([],())
 | (.inr r12) =>
 some ([],())
 else none
theorem ev10060 (x0:Bool) (x1:Int) (x2:Tlp) (x3:Int) (x4:(List Bool)) (x5:Int) (x6:Bool):evY env10060 orc10060 loops10060 [t26] mk10060 body10060 (mkSt ((.slot 0,.yld)::pin10060) ((),((),((),((),(x0,((),((),((),(x1,(x2,(x3,(x4,((),(x5,((),(x6,()))))))))))))))))) endY retOnly=W10060 x0 x1 x2 x3 x4 x5 x6:=by kernel_rfl
def I10060:ISpec:=⟨pin10060,Y10060,fun (y:Y10060)=>datsOf [t26] (y,()),fun s=>(W10060 s.2.2.2.1 s.2.2.2.2.2.2.2.1 s.2.2.2.2.2.2.2.2.1 s.2.2.2.2.2.2.2.2.2.1 s.2.2.2.2.2.2.2.2.2.2.1 s.2.2.2.2.2.2.2.2.2.2.2.2.1 s.2.2.2.2.2.2.2.2.2.2.2.2.2.2.1).ys⟩
theorem iter10060 (hE:EnvOk Tryd.prog env10060) (hm:Tryd.prog.follows .mixedOrders=true):IterOk Tryd.prog glob 60 I10060 :=
 iterOk_of_evY (I:=I10060) (O:=orc10060) (L:=loops10060) (c:=body10060) (mk:=mk10060) hE hm Tryd.func60 Tryd.call60 (by kernel_rfl) (by kernel_rfl) (mkT_ok (ts:=[t26]) (un:=fun (y:Y10060)=>(y,())) fun _=>rfl) loops10060_ok (by kernel_rfl) (by decide) (by decide) (fun s ys h=>(ev10060 s.2.2.2.1 s.2.2.2.2.2.2.2.1 s.2.2.2.2.2.2.2.2.1 s.2.2.2.2.2.2.2.2.2.1 s.2.2.2.2.2.2.2.2.2.2.1 s.2.2.2.2.2.2.2.2.2.2.2.2.1 s.2.2.2.2.2.2.2.2.2.2.2.2.2.2.1).trans (YW.ys_some h))
def env20:Env:={
 tab:=tab
 glob:=glob
 spec:=fun
  | 41=>some spec41
  | 45=>some spec45
  | _=>none
 spec2:=fun
  | 33,[]=>some sp33
  | 42,[46]=>some sp10042
  | 44,[]=>some sp44
  | _,_=>none
 bldT:=bldT
 bld:=bldF }
def orc20:Orc:=⟨34,fun _=>none,fun
 | 0=>kp [2,3] [(2,[0,1,2]),(3,[0])]
 | 1=>kp [2,3,6,7] [(2,[0,1,2]),(3,[0]),(6,[0]),(1400013,[0,1,2,3])]
 | 2=>kp [2,3,6,22] [(2,[0,1,2]),(3,[0]),(6,[0]),(1400013,[0,1,2,3])]
 | 3=>kp [4,5] []
 | 4=>kp [2,3,6,8] [(2,[0,1,2]),(3,[0]),(6,[0]),(8,[0]),(1400013,[0,1,2,3])]
 | 5=>kp [2,6,8,9] [(2,[0,1,2]),(3,[0]),(6,[0]),(8,[0]),(1400013,[0,1,2,3])]
 | 6=>kp [2,8,26] [(2,[0,1,2]),(3,[0]),(6,[0]),(8,[0]),(1400013,[0,1,2,3]),(2700002,[0]),(2700003,[0])]
 | 7=>kp [2,8,10,26] [(2,[0,1,2]),(8,[0]),(10,[0,1,2,3,4,5,6])]
 | 8=>kp [2,8,26] [(2,[0,1,2]),(8,[0])]
 | 9=>kp [4,5] []
 | _=>[],fun | _=>false⟩
noncomputable def body20:Code:=Tryd.f20.body.getD .skip
def R20_7_esh:Shape:=[(.slot 2,.ptr 2 0),(.slot 8,.ptr 8 0),(.box 2,.bx 24 3),(.cell 2 0,.dat (.int .i64)),(.cell 2 1,.dat (.list t26)),(.cell 2 2,.dat (.int .i64)),(.box 8,.bx 85 12),(.cell 8 0,.dat (.arr 12 (.int .i64)))]
def R20_7_pk (s:Tup R20_7_esh):Int×Tlp×Int×Tin:=(s.2.2.2.1,s.2.2.2.2.1,s.2.2.2.2.2.1,s.2.2.2.2.2.2.2.1)
def R20_7_un (s:Int×Tlp×Int×Tin):Tup R20_7_esh:=((),((),((),(s.1,(s.2.1,(s.2.2.1,((),(s.2.2.2,()))))))))
def R20_7_xo (x:(Int×Tlp×Int×Tin)):Exit×Tup R20_7_esh:=match x with
 | a=>(.ret,R20_7_un a)
def R20_7_leave (x:(Int×Tlp×Int×Tin)) (R:Type) (K:Cont R):Option R:=match x with
 | a=>K .ret (mkSt R20_7_esh (R20_7_un a))
theorem R20_7_lv (x:(Int×Tlp×Int×Tin)) (R:Type) (K:Cont R):R20_7_leave x R K=K (R20_7_xo x).1 (mkSt R20_7_esh (R20_7_xo x).2):=by
 rfl
theorem R20_7_lvn (x:(Int×Tlp×Int×Tin)) (R:Type) (K:Cont R):R20_7_leave x R K=(R20_7_leave x _ pairK).bind fun p=>K p.1 p.2:=by
 rfl
def R20_7_d (e:Exit) (s:Tup R20_7_esh):Option ((Int×Tlp×Int×Tin)):=match e with
 | _=>none
theorem R20_7_dk:∀ x e v,R20_7_d x e=some v→R20_7_xo v=(x,e)∧∃ c,jumpOf x=some c:=by
 intro x e v h
 cases x<;>cases h
def R20_7_r (s0:Int) (s1:Tlp) (s2:Int) (s3:Tin) (y0:D26):Option ((Int×Tlp×Int×Tin)⊕((Int×Tlp×Int×Tin))) :=
 bif (P44 y0 s3) then
 let q10:(Unit×(Tin×Unit)):=F44 y0 s3
 some (.inl (s0,s1,s2,q10.2.1))
 else none
def R20_7_step (b:Int×Tlp×Int×Tin) (y:Y10060):Option ((Int×Tlp×Int×Tin)⊕((Int×Tlp×Int×Tin))):=R20_7_r b.1 b.2.1 b.2.2.1 b.2.2.2 y
def loops20:Nat→Option (Sum):=fun | 7=>some (rangeSum env20 60 26 R20_7_esh I10060 R20_7_pk R20_7_un R20_7_step R20_7_leave) | _=>none
theorem loops20_nat:∀ q f,loops20 q=some f→Natural f:=by
 intro q f h
 unfold loops20 at h
 split at h
 ·cases h; exact natural_range R20_7_lvn
 ·cases h
theorem loops20_ok:LoopsOk env20 orc20 loops20 body20:=loopsOk_nil (by kernel_rfl)
noncomputable def R20_7_code:Code:=(rangesOf body20).getD 0 .skip
theorem R20_7_round (s0:Int) (s1:Tlp) (s2:Int) (s3:Tin) (y0:D26):roundQ env20 orc20 loops20 R20_7_esh R20_7_pk R20_7_d R20_7_code (I10060.enc y0) ((),((),((),(s0,(s1,(s2,((),(s3,()))))))))=R20_7_r s0 s1 s2 s3 y0:=by kernel_rfl
theorem R20_7_form:R20_7_code=.rangeFunc (.tmp 26) (rgPs R20_7_code) (rgAsg R20_7_code) (rgBody R20_7_code):=by kernel_rfl
theorem R20_7_len (y:Y10060):(rgPs R20_7_code).toList.length=(I10060.enc y).length:=by kernel_rfl
theorem R20_7_ok (hE:EnvOk Tryd.prog env20) (hm:Tryd.prog.follows .mixedOrders=true) (hI:IterOk Tryd.prog glob 60 I10060):RangeOk Tryd.prog env20 orc20.n R20_7_code (rangeSum env20 60 26 R20_7_esh I10060 R20_7_pk R20_7_un R20_7_step R20_7_leave) :=
 rangeOk' (L:=loops20) hE hm hI R20_7_form (loopsOk_nil (by kernel_rfl)) (loopsOk_nil (by kernel_rfl)) (by kernel_rfl) (by kernel_rfl) (by kernel_rfl) (by kernel_rfl) (pk:=R20_7_pk) (un:=R20_7_un) (fun _=>rfl) R20_7_dk R20_7_lv R20_7_len fun b y=>R20_7_round b.1 b.2.1 b.2.2.1 b.2.2.2 y
theorem ranges20_all:rangesOf body20=[R20_7_code]:=by kernel_rfl
theorem R20_7_key:lookL loops20 (keyOf R20_7_code)=some (rangeSum env20 60 26 R20_7_esh I10060 R20_7_pk R20_7_un R20_7_step R20_7_leave):=by kernel_rfl
theorem ranges20_ok (hE:EnvOk Tryd.prog env20) (hm:Tryd.prog.follows .mixedOrders=true) (hI10060:IterOk Tryd.prog glob 60 I10060):RangesOk Tryd.prog env20 orc20.n loops20 body20:=by
 intro c hc f hf
 rw [ranges20_all] at hc
 simp only [List.mem_cons,List.not_mem_nil,or_false] at hc
 subst hc
 ·rw [R20_7_key] at hf; cases hf; exact R20_7_ok hE hm hI10060
def G20 (x0:D23) (x1:Int):Option (Tin×Int) :=
 let v1:Tin:=([]:Tin)
 bif (P33 x0) then
 let q2:(Bool×(Bool×(Unit×(Int×(Tlp×(Int×((List Bool)×Unit))))))):=F33 x0
 let v3:Bool:=(!q2.2.1)
 bif ((P41 x1 (0:Int) (999:Int)) || !(!v3 && true)) then
 let v4:Bool:=(F41 x1 (0:Int) (999:Int))
 let v5:Bool:=(!v4)
 let v6:Bool:=(bif v3 then true else v5)
 bif v6 then
 let v7:Tin:=([]:Tin)
 some (v7,(310:Int))
 else
 let v8:Tin:=(List.replicate 12 (0:Int))
 bif (P10042 q2.1 q2.2.2.2.1 q2.2.2.2.2.1 q2.2.2.2.2.2.1 q2.2.2.2.2.2.2.1 x1 q2.1) then
 let q9:(Unit×(Unit×(Int×(Tlp×(Int×((List Bool)×(Unit×(Int×(Unit×(Bool×(Unit×(Bool×(Unit×(Unit×Unit)))))))))))))):=F10042 q2.1 q2.2.2.2.1 q2.2.2.2.2.1 q2.2.2.2.2.2.1 q2.2.2.2.2.2.2.1 x1 q2.1
 Option.bind ((W10060 q9.2.2.2.2.2.2.2.2.2.2.2.1 q9.2.2.1 q9.2.2.2.1 q9.2.2.2.2.1 q9.2.2.2.2.2.1 q9.2.2.2.2.2.2.2.1 q9.2.2.2.2.2.2.2.2.2.1).ys) fun ys=>Option.bind (foldX R20_7_step ys (x0.1,x0.2.1,x0.2.2.1,v8)) fun z=>match z with
 | .inl (r11:Int×Tlp×Int×Tin) =>
 bif (P45 r11.2.2.2 r11.1) then
 let v12:Tin:=(F45 r11.2.2.2 r11.1)
 some (v12,(0:Int))
 else none
 | .inr r11 =>
 none
 else none
 else none
 else none
theorem ev20 (x0:D23) (x1:Int):ev2 env20 orc20 loops20 body20 (initSt 0 [⟨t23,x0⟩,⟨(.int .i64),x1⟩]) (retT [(4,.own 3 (.int .i64)),(5,.dat (.int .i64))] [(.list (.int .i64)),(.int .i64)] fun x=>(x.1,x.2.1))=G20 x0 x1:=by kernel_rfl
def P20 (x0:D23) (x1:Int):Bool:=(hold (G20 x0 x1)).isSome
def F20 (x0:D23) (x1:Int):Tin×Int:=(hold (G20 x0 x1)).getD default
theorem G20_some (x0:D23) (x1:Int) (h:P20 x0 x1=true):G20 x0 x1=some (F20 x0 x1):=by
 unfold P20 at h; unfold F20
 rw [hold_eq] at h ⊢
 exact some_getD h
theorem P20_of (x0:D23) (x1:Int) {r:Tin×Int} (h:G20 x0 x1=some r):P20 x0 x1=true:=by unfold P20; rw [hold_eq,h]; rfl
theorem F20_of (x0:D23) (x1:Int) {r:Tin×Int} (h:G20 x0 x1=some r):F20 x0 x1=r:=by unfold F20; rw [hold_eq,h]; rfl
def spec20:Spec:=⟨[t23,(.int .i64)],[.own 3 (.int .i64),.dat (.int .i64)],fun | [a0,a1]=>P20 (a0.as t23) (a1.as (.int .i64)) | _=>false,fun | [a0,a1]=>[⟨(.list (.int .i64)),(F20 (a0.as t23) (a1.as (.int .i64))).1⟩,⟨(.int .i64),(F20 (a0.as t23) (a1.as (.int .i64))).2⟩] | _=>[]⟩
theorem meets20 (hE:EnvOk Tryd.prog env20) (hm:Tryd.prog.follows .mixedOrders=true) (hI10060:IterOk Tryd.prog glob 60 I10060):Meets Tryd.prog glob 20 spec20 :=
 meets_of_ev2 (O:=orc20) (L:=loops20) (c:=body20) (slots:=[4,5]) hE hm Tryd.func20 Tryd.call20 (by kernel_rfl) (by kernel_rfl) loops20_ok (ranges20_ok hE hm hI10060) (by kernel_rfl) rfl (by decide) (fun ds hds hpre=>by
 obtain ⟨x0,ds0,rfl,h0⟩:=datsS hds
 obtain ⟨x1,ds1,rfl,h1⟩:=datsS h0
 have h9:=dats0 h1; subst h9
 exact ev_ret (un:=fun r=>[⟨(.list (.int .i64)),r.1⟩,⟨(.int .i64),r.2⟩]) loops20_nat (fun _=>rfl) ((ev20 x0 x1).trans (G20_some x0 x1 hpre)))
def pin21:Shape:=[(.slot 0,.dat t23),(.slot 1,.dat (.int .i64))]
def pout21:Shape:=[(.slot 0,.dat t23),(.slot 1,.dat (.int .i64))]
def env21:Env:={
 tab:=tab
 glob:=glob
 spec:=fun
  | 41=>some spec41
  | _=>none
 spec2:=fun
  | 33,[]=>some sp33
  | _,_=>none
 bldT:=bldT
 bld:=bldF }
def orc21:Orc:=⟨37,fun _=>none,fun
 | 0=>kp [1,2,4] [(2,[0,1,2]),(4,[0,1,2])]
 | 1=>kp [1,2,4,6,7] [(2,[0,1,2]),(4,[0,1,2]),(1100013,[0,1,2,3])]
 | 2=>kp [1,4,6,25] [(4,[0,1,2]),(1100013,[0,1,2,3])]
 | 3=>kp [4,5] [(4,[0,1,2])]
 | 4=>kp [4,6] [(4,[0,1,2]),(1100013,[0,1,2,3])]
 | 5=>kp [4,5] [(4,[0,1,2])]
 | _=>[],fun | _=>false⟩
noncomputable def body21:Code:=Tryd.f21.body.getD .skip
def loops21:Nat→Option (Sum):=fun | _=>none
theorem loops21_ok:LoopsOk env21 orc21 loops21 body21:=loopsOk_nil (by kernel_rfl)
def G21 (x0:D23) (x1:Int):Option (D23×(Int×Unit)) :=
 let v1:Tlp:=([]:Tlp)
 let v2:Tlp:=([]:Tlp)
 bif (P33 x0) then
 let q3:(Bool×(Bool×(Unit×(Int×(Tlp×(Int×((List Bool)×Unit))))))):=F33 x0
 let v4:Bool:=(!q3.2.1)
 let v5:Bool:=(x1 != x0.2.2.1)
 let v6:Bool:=(bif v4 then true else v5)
 bif ((P41 x1 (0:Int) (11:Int)) || !(!v6 && true)) then
 let v7:Bool:=(F41 x1 (0:Int) (11:Int))
 let v8:Bool:=(!v7)
 let v9:Bool:=(bif v6 then true else v8)
 bif v9 then
 let v10:Tlp:=([]:Tlp)
 some (((0:Int),(v10,((0:Int),()))),((310:Int),()))
 else
 let v11:Int:=(IntKind.i64.wrap (x1+(1:Int)))
 bif (q3.1) then
 bif (q3.1) then
 some ((q3.2.2.2.1,(q3.2.2.2.2.1,(v11,()))),((0:Int),()))
 else none
 else none
 else none
 else none
def P21 (x0:D23) (x1:Int):Bool:=(hold (G21 x0 x1)).isSome
def F21 (x0:D23) (x1:Int):(D23×(Int×Unit)):=(hold (G21 x0 x1)).getD (Tup.zero pout21)
theorem P21_of (x0:D23) (x1:Int) {r:(D23×(Int×Unit))} (h:G21 x0 x1=some r):P21 x0 x1=true:=by unfold P21; rw [hold_eq,h]; rfl
theorem F21_of (x0:D23) (x1:Int) {r:(D23×(Int×Unit))} (h:G21 x0 x1=some r):F21 x0 x1=r:=by unfold F21; rw [hold_eq,h]; rfl
theorem ev21 (x0:D23) (x1:Int):ev2 env21 orc21 loops21 body21 (mkSt pin21 (x0,(x1,()))) (retK3 env21 [.cell 4 24,.slot 5] pout21)=G21 x0 x1:=by kernel_rfl
def sp21:Spec2:=⟨pin21,pout21,fun s=>hold (G21 s.1 s.2.1)⟩
theorem fit21:Fit Tryd.f21 [.cell 4 24,.slot 5] sp21:=⟨by kernel_rfl,by kernel_rfl,by kernel_rfl,by kernel_rfl,by kernel_rfl,by decide,by decide,by decide⟩
theorem meets21 (hE:EnvOk Tryd.prog env21) (hm:Tryd.prog.follows .mixedOrders=true):Meets2 Tryd.prog glob 21 sp21 :=
 meets2_of_ev2 (O:=orc21) (L:=loops21) (c:=body21) (rs:=[.cell 4 24,.slot 5]) hE (fun _=>rfl) hm Tryd.func21 Tryd.call21 (by kernel_rfl) (by kernel_rfl) loops21_ok (rangesOk_nil (by kernel_rfl)) fit21 (fun s o h=>(ev21 s.1 s.2.1).trans ((hold_eq _).symm.trans h))
def env22:Env:={
 tab:=tab
 glob:=glob
 spec:=fun
  | 18=>some spec18
  | _=>none
 bldT:=bldT
 bld:=bldF }
def orc22:Orc:=⟨32,fun _=>none,fun
 | 0=>kp [1,2,3] [(3,[0,1,2])]
 | 1=>kp [1,8,9] []
 | 2=>kp [1,8,27] []
 | 3=>kp [6,7] []
 | 4=>kp [6,7] []
 | _=>[],fun | _=>false⟩
noncomputable def body22:Code:=Tryd.f22.body.getD .skip
def loops22:Nat→Option (Sum):=fun | _=>none
theorem loops22_nat:∀ q f,loops22 q=some f→Natural f:=by
 intro q f h
 cases h
theorem loops22_ok:LoopsOk env22 orc22 loops22 body22:=loopsOk_nil (by kernel_rfl)
def G22 (x0:D23) (x1:Int) (x2:Int):Option (Int×Int) :=
 bif (P18 x0 x2) then
 let v1:(Tin×Int):=(F18 x0 x2)
 let v2:Bool:=(v1.2 != (0:Int))
 let v3:Bool:=(decide (x1 < (0:Int)))
 let v4:Bool:=(bif v2 then true else v3)
 let v5:Int:=(((List.length v1.1):Nat):Int)
 let v6:Bool:=(decide (x1≥v5))
 let v7:Bool:=(bif v4 then true else v6)
 bif v7 then
 some ((0:Int),(310:Int))
 else
 bif (decide (0≤x1) && decide (x1 < (List.length v1.1))) then
 bif (decide ((Int.toNat x1) < List.length v1.1)) then
 let v8:Int:=(List.getD v1.1 (Int.toNat x1) (0:Int))
 some (v8,(0:Int))
 else none
 else none
 else none
theorem ev22 (x0:D23) (x1:Int) (x2:Int):ev2 env22 orc22 loops22 body22 (initSt 0 [⟨t23,x0⟩,⟨(.int .i64),x1⟩,⟨(.int .i64),x2⟩]) (retT [(6,.dat (.int .i64)),(7,.dat (.int .i64))] [(.int .i64),(.int .i64)] fun x=>(x.1,x.2.1))=G22 x0 x1 x2:=by kernel_rfl
def P22 (x0:D23) (x1:Int) (x2:Int):Bool:=(hold (G22 x0 x1 x2)).isSome
def F22 (x0:D23) (x1:Int) (x2:Int):Int×Int:=(hold (G22 x0 x1 x2)).getD default
theorem G22_some (x0:D23) (x1:Int) (x2:Int) (h:P22 x0 x1 x2=true):G22 x0 x1 x2=some (F22 x0 x1 x2):=by
 unfold P22 at h; unfold F22
 rw [hold_eq] at h ⊢
 exact some_getD h
theorem P22_of (x0:D23) (x1:Int) (x2:Int) {r:Int×Int} (h:G22 x0 x1 x2=some r):P22 x0 x1 x2=true:=by unfold P22; rw [hold_eq,h]; rfl
theorem F22_of (x0:D23) (x1:Int) (x2:Int) {r:Int×Int} (h:G22 x0 x1 x2=some r):F22 x0 x1 x2=r:=by unfold F22; rw [hold_eq,h]; rfl
def spec22:Spec:=⟨[t23,(.int .i64),(.int .i64)],[.dat (.int .i64),.dat (.int .i64)],fun | [a0,a1,a2]=>P22 (a0.as t23) (a1.as (.int .i64)) (a2.as (.int .i64)) | _=>false,fun | [a0,a1,a2]=>[⟨(.int .i64),(F22 (a0.as t23) (a1.as (.int .i64)) (a2.as (.int .i64))).1⟩,⟨(.int .i64),(F22 (a0.as t23) (a1.as (.int .i64)) (a2.as (.int .i64))).2⟩] | _=>[]⟩
theorem meets22 (hE:EnvOk Tryd.prog env22) (hm:Tryd.prog.follows .mixedOrders=true):Meets Tryd.prog glob 22 spec22 :=
 meets_of_ev2 (O:=orc22) (L:=loops22) (c:=body22) (slots:=[6,7]) hE hm Tryd.func22 Tryd.call22 (by kernel_rfl) (by kernel_rfl) loops22_ok (rangesOk_nil (by kernel_rfl)) (by kernel_rfl) rfl (by decide) (fun ds hds hpre=>by
 obtain ⟨x0,ds0,rfl,h0⟩:=datsS hds
 obtain ⟨x1,ds1,rfl,h1⟩:=datsS h0
 obtain ⟨x2,ds2,rfl,h2⟩:=datsS h1
 have h9:=dats0 h2; subst h9
 exact ev_ret (un:=fun r=>[⟨(.int .i64),r.1⟩,⟨(.int .i64),r.2⟩]) loops22_nat (fun _=>rfl) ((ev22 x0 x1 x2).trans (G22_some x0 x1 x2 hpre)))
def env23:Env:={
 tab:=tab
 glob:=glob
 spec:=fun
  | _=>none
 bldT:=bldT
 bld:=bldF }
def orc23:Orc:=⟨26,fun _=>none,fun
 | 0=>kp [0,1] []
 | 1=>kp [0,1,10] []
 | 2=>kp [4] []
 | 3=>kp [0,1,5] []
 | 4=>kp [0,1,5,14] []
 | 5=>kp [0,1,5] []
 | 6=>kp [0,1,5,25] []
 | 7=>kp [4] []
 | 8=>kp [4] []
 | _=>[],fun | _=>false⟩
noncomputable def body23:Code:=Tryd.f23.body.getD .skip
abbrev L23_4_T:Type:=Tin×Tin×Int
def L23_4_sh:Shape:=[(.slot 0,.dat (.list (.int .i64))),(.slot 1,.dat (.list (.int .i64))),(.slot 5,.dat (.int .i64))]
def L23_4_x0:Shape:=[(.slot 4,.dat .bool)]
def L23_4_x1:Shape:=[(.slot 0,.dat (.list (.int .i64))),(.slot 1,.dat (.list (.int .i64))),(.slot 5,.dat (.int .i64))]
def L23_4_pk (s:Tup L23_4_sh):L23_4_T:=(s.1,s.2.1,s.2.2.1)
def L23_4_un (s:Tin×Tin×Int):Tup L23_4_sh:=(s.1,(s.2.1,(s.2.2,())))
def L23_4_leave (x:(Bool)⊕L23_4_T) (R:Type) (K:Cont R):Option R:=match x with
 | (.inl a)=>K .ret (mkSt L23_4_x0 (a,()))
 | (.inr a)=>K (.exit 0) (mkSt L23_4_x1 (a.1,(a.2.1,(a.2.2,()))))
def L23_4_d (e:Exit) (st:St):Option ((Bool)⊕L23_4_T):=match e with
 | .ret=>(match unSt L23_4_x0 st with
  | some s=>some (.inl s.1)
  | none=>none)
 | .exit 0=>(match unSt L23_4_x1 st with
  | some s=>some (.inr (s.1,s.2.1,s.2.2.1))
  | none=>none)
 | _=>none
def L23_4_r (s0:Tin) (s1:Tin) (s2:Int):Option (L23_4_T⊕((Bool)⊕L23_4_T)) :=
 let v4:Int:=((List.length s0:Nat):Int)
 let v5:Bool:=(decide (s2 < v4))
 bif v5 then
 bif (decide (0≤s2) && decide (s2 < List.length s0)) then
 let v6:Int:=(List.getD s0 (Int.toNat s2) (0:Int))
 bif (decide (0≤s2) && decide (s2 < List.length s1)) then
 let v7:Int:=(List.getD s1 (Int.toNat s2) (0:Int))
 let v8:Bool:=(v6 != v7)
 bif v8 then
 some (.inr (.inl false))
 else
 let v9:Int:=(IntKind.i64.wrap (s2+(1:Int)))
 some (.inl (s0,s1,v9))
 else none
 else none
 else
 some (.inr (.inr (s0,s1,s2)))
def L23_4:L23_4_T→Option ((Bool)⊕L23_4_T):=Lim (fun s=>L23_4_r s.1 s.2.1 s.2.2)
def L23_4_sum:Sum:=limSum L23_4_sh L23_4_pk (fun s=>L23_4_r s.1 s.2.1 s.2.2) L23_4_leave
theorem L23_4_nat:Natural L23_4_sum:=natural_lim fun x R K=>by
 rcases x with x|x<;>rfl
theorem L23_4_dok:∀ e st x,e≠.normal→L23_4_d e st=some x→∀ R (K:Cont R),K e st=L23_4_leave x R K:=by
 intro e st x _ h R K
 unfold L23_4_d at h
 split at h
 ·split at h
  ·rename_i s hs; cases h; rw [unSt_some hs]; rfl
  ·cases h
 ·split at h
  ·rename_i s hs; cases h; rw [unSt_some hs]; rfl
  ·cases h
 ·cases h
def loops23:Nat→Option (Sum):=fun | 4=>some L23_4_sum | _=>none
theorem loops23_nat:∀ q f,loops23 q=some f→Natural f:=by
 intro q f h
 unfold loops23 at h
 split at h
 ·cases h; exact L23_4_nat
 ·cases h
noncomputable def L23_4_code:Code:=(loopsOf body23).getD 0 .skip
theorem L23_4_round (s0:Tin) (s1:Tin) (s2:Int):ev2 env23 orc23 loops23 L23_4_code (mkSt L23_4_sh (s0,(s1,(s2,())))) (back L23_4_sh L23_4_pk L23_4_d)=L23_4_r s0 s1 s2:=by kernel_rfl
theorem L23_4_ok:SumOk env23 orc23 loops23 L23_4_code L23_4_sum:=sumOk_lim (un:=L23_4_un) loops23_nat (fun _=>rfl) L23_4_dok fun s=>L23_4_round s.1 s.2.1 s.2.2
theorem loops23_all:loopsOf body23=[L23_4_code]:=by kernel_rfl
theorem L23_4_key:lookL loops23 (keyOf L23_4_code)=some L23_4_sum:=by kernel_rfl
theorem loops23_ok:LoopsOk env23 orc23 loops23 body23:=by
 intro c hc f hf
 rw [loops23_all] at hc
 simp only [List.mem_cons,List.not_mem_nil,or_false] at hc
 subst hc
 ·rw [L23_4_key] at hf; cases hf; exact L23_4_ok
def G23 (x0:Tin) (x1:Tin):Option (Bool) :=
 let v1:Int:=((List.length x0:Nat):Int)
 let v2:Int:=((List.length x1:Nat):Int)
 let v3:Bool:=(v1 != v2)
 bif v3 then
 some (false)
 else
 Option.bind (L23_4 (x0,x1,(0:Int))) fun x=>match x with
 | (.inl r10) =>
 some (r10)
 | (.inr r11) =>
 some (true)
theorem ev23 (x0:Tin) (x1:Tin):ev2 env23 orc23 loops23 body23 (initSt 0 [⟨(.list (.int .i64)),x0⟩,⟨(.list (.int .i64)),x1⟩]) (retT [(4,.dat .bool)] [.bool] fun x=>x.1)=G23 x0 x1:=by kernel_rfl
def P23 (x0:Tin) (x1:Tin):Bool:=(hold (G23 x0 x1)).isSome
def F23 (x0:Tin) (x1:Tin):Bool:=(hold (G23 x0 x1)).getD default
theorem G23_some (x0:Tin) (x1:Tin) (h:P23 x0 x1=true):G23 x0 x1=some (F23 x0 x1):=by
 unfold P23 at h; unfold F23
 rw [hold_eq] at h ⊢
 exact some_getD h
theorem P23_of (x0:Tin) (x1:Tin) {r:Bool} (h:G23 x0 x1=some r):P23 x0 x1=true:=by unfold P23; rw [hold_eq,h]; rfl
theorem F23_of (x0:Tin) (x1:Tin) {r:Bool} (h:G23 x0 x1=some r):F23 x0 x1=r:=by unfold F23; rw [hold_eq,h]; rfl
def spec23:Spec:=⟨[(.list (.int .i64)),(.list (.int .i64))],[.dat .bool],fun | [a0,a1]=>P23 (a0.as (.list (.int .i64))) (a1.as (.list (.int .i64))) | _=>false,fun | [a0,a1]=>[⟨.bool,(F23 (a0.as (.list (.int .i64))) (a1.as (.list (.int .i64))))⟩] | _=>[]⟩
theorem meets23 (hE:EnvOk Tryd.prog env23) (hm:Tryd.prog.follows .mixedOrders=true):Meets Tryd.prog glob 23 spec23 :=
 meets_of_ev2 (O:=orc23) (L:=loops23) (c:=body23) (slots:=[4]) hE hm Tryd.func23 Tryd.call23 (by kernel_rfl) (by kernel_rfl) loops23_ok (rangesOk_nil (by kernel_rfl)) (by kernel_rfl) rfl (by decide) (fun ds hds hpre=>by
 obtain ⟨x0,ds0,rfl,h0⟩:=datsS hds
 obtain ⟨x1,ds1,rfl,h1⟩:=datsS h0
 have h9:=dats0 h1; subst h9
 exact ev_ret (un:=fun r=>[⟨.bool,r⟩]) loops23_nat (fun _=>rfl) ((ev23 x0 x1).trans (G23_some x0 x1 hpre)))
def env24:Env:={
 tab:=tab
 glob:=glob
 spec:=fun
  | _=>none
 spec2:=fun
  | 33,[]=>some sp33
  | _,_=>none
 bldT:=bldT
 bld:=bldF }
def orc24:Orc:=⟨11,fun _=>none,fun
 | 0=>kp [1] [(1,[0,1,2])]
 | 1=>kp [4] []
 | 2=>kp [2] []
 | _=>[],fun | _=>false⟩
noncomputable def body24:Code:=Tryd.f24.body.getD .skip
def loops24:Nat→Option (Sum):=fun | _=>none
theorem loops24_nat:∀ q f,loops24 q=some f→Natural f:=by
 intro q f h
 cases h
theorem loops24_ok:LoopsOk env24 orc24 loops24 body24:=loopsOk_nil (by kernel_rfl)
def G24 (x0:D23):Option (Bool) :=
 bif (P33 x0) then
 let q1:(Bool×(Bool×(Unit×(Int×(Tlp×(Int×((List Bool)×Unit))))))):=F33 x0
 some (q1.2.1)
 else none
theorem ev24 (x0:D23):ev2 env24 orc24 loops24 body24 (initSt 0 [⟨t23,x0⟩]) (retT [(2,.dat .bool)] [.bool] fun x=>x.1)=G24 x0:=by kernel_rfl
def P24 (x0:D23):Bool:=(hold (G24 x0)).isSome
def F24 (x0:D23):Bool:=(hold (G24 x0)).getD default
theorem G24_some (x0:D23) (h:P24 x0=true):G24 x0=some (F24 x0):=by
 unfold P24 at h; unfold F24
 rw [hold_eq] at h ⊢
 exact some_getD h
theorem P24_of (x0:D23) {r:Bool} (h:G24 x0=some r):P24 x0=true:=by unfold P24; rw [hold_eq,h]; rfl
theorem F24_of (x0:D23) {r:Bool} (h:G24 x0=some r):F24 x0=r:=by unfold F24; rw [hold_eq,h]; rfl
def spec24:Spec:=⟨[t23],[.dat .bool],fun | [a0]=>P24 (a0.as t23) | _=>false,fun | [a0]=>[⟨.bool,(F24 (a0.as t23))⟩] | _=>[]⟩
theorem meets24 (hE:EnvOk Tryd.prog env24) (hm:Tryd.prog.follows .mixedOrders=true):Meets Tryd.prog glob 24 spec24 :=
 meets_of_ev2 (O:=orc24) (L:=loops24) (c:=body24) (slots:=[2]) hE hm Tryd.func24 Tryd.call24 (by kernel_rfl) (by kernel_rfl) loops24_ok (rangesOk_nil (by kernel_rfl)) (by kernel_rfl) rfl (by decide) (fun ds hds hpre=>by
 obtain ⟨x0,ds0,rfl,h0⟩:=datsS hds
 have h9:=dats0 h0; subst h9
 exact ev_ret (un:=fun r=>[⟨.bool,r⟩]) loops24_nat (fun _=>rfl) ((ev24 x0).trans (G24_some x0 hpre)))
def env5:Env:={
 tab:=tab
 glob:=glob
 spec:=fun
  | 18=>some spec18
  | 20=>some spec20
  | 22=>some spec22
  | 23=>some spec23
  | 24=>some spec24
  | _=>none
 spec2:=fun
  | 17,[]=>some sp17
  | 19,[]=>some sp19
  | 21,[]=>some sp21
  | _,_=>none
 bldT:=bldT
 bld:=bldF }
def orc5:Orc:=⟨171,fun _=>none,fun
 | 0=>[]
 | 1=>kp [1,2,3] [(1,[0,1,2])]
 | 2=>kp [1,2,3,4,5] [(1,[0,1,2])]
 | 3=>kp [2,3,4,5,6,7] [(6,[0,1,2])]
 | 4=>kp [2,3,4,5,6,7,8,9] [(6,[0,1,2])]
 | 5=>kp [2,3,4,5,6,7,8,9,10,11] [(6,[0,1,2])]
 | 6=>kp [2,3,4,5,6,7,8,9,10,11,12,13] [(6,[0,1,2])]
 | 7=>kp [2,3,4,5,6,7,8,9,10,11,12,13,15] [(6,[0,1,2])]
 | 8=>kp [2,3,4,5,6,7,8,9,10,11,12,13,15,18] [(6,[0,1,2])]
 | 9=>kp [2,3,4,5,6,7,8,9,10,11,12,13,15,18,19,20] [(6,[0,1,2]),(19,[0,1,2])]
 | 10=>kp [2,3,4,5,6,7,8,9,10,11,12,13,15,18,19,20,21,22] [(6,[0,1,2]),(19,[0,1,2])]
 | 11=>kp [2,4,6,8,10,12,19,21,121] [(6,[0,1,2]),(19,[0,1,2])]
 | 12=>kp [0] []
 | 13=>kp [6,19,21,23] [(6,[0,1,2]),(19,[0,1,2])]
 | 14=>kp [0] []
 | _=>[],fun | _=>false⟩
noncomputable def body5:Code:=Tryd.f5.body.getD .skip
def loops5:Nat→Option (Sum):=fun | _=>none
theorem loops5_nat:∀ q f,loops5 q=some f→Natural f:=by
 intro q f h
 cases h
theorem loops5_ok:LoopsOk env5 orc5 loops5 body5:=loopsOk_nil (by kernel_rfl)
def G5  : Option (Bool) :=
 let v1:Tlp:=([]:Tlp)
 bif (P17 ((3:Int),(v1,((0:Int),()))) ((1:Int),((5:Int),((0:Int),((1:Int),((90:Int),((7:Int),((-1:Int),())))))))) then
 let q2:(D23×(Int×(Int×Unit))):=F17 ((3:Int),(v1,((0:Int),()))) ((1:Int),((5:Int),((0:Int),((1:Int),((90:Int),((7:Int),((-1:Int),())))))))
 let v3:Tlp:=([]:Tlp)
 let v4:Tlp:=([]:Tlp)
 bif (P18 q2.1 (0:Int)) then
 let v5:(Tin×Int):=(F18 q2.1 (0:Int))
 bif (P19 q2.1 (0:Int) (40:Int) (60:Int)) then
 let q6:(D23×(Int×Unit)):=F19 q2.1 (0:Int) (40:Int) (60:Int)
 let v7:Tlp:=([]:Tlp)
 let v8:Tlp:=([]:Tlp)
 bif (P18 q6.1 (0:Int)) then
 let v9:(Tin×Int):=(F18 q6.1 (0:Int))
 bif (P18 q6.1 (1:Int)) then
 let v10:(Tin×Int):=(F18 q6.1 (1:Int))
 bif (P20 q6.1 (7:Int)) then
 let v11:(Tin×Int):=(F20 q6.1 (7:Int))
 bif (P19 q6.1 (0:Int) (50:Int) (1:Int)) then
 let q12:(D23×(Int×Unit)):=F19 q6.1 (0:Int) (50:Int) (1:Int)
 let v13:Tlp:=([]:Tlp)
 let v14:Tlp:=([]:Tlp)
 bif (P17 q6.1 ((1:Int),((39:Int),((0:Int),((1:Int),((1:Int),((0:Int),((-1:Int),())))))))) then
 let q15:(D23×(Int×(Int×Unit))):=F17 q6.1 ((1:Int),((39:Int),((0:Int),((1:Int),((1:Int),((0:Int),((-1:Int),())))))))
 let v16:Tlp:=([]:Tlp)
 let v17:Tlp:=([]:Tlp)
 bif (P21 q6.1 (0:Int)) then
 let q18:(D23×(Int×Unit)):=F21 q6.1 (0:Int)
 let v19:Tlp:=([]:Tlp)
 let v20:Tlp:=([]:Tlp)
 bif (P22 q6.1 (1:Int) (1:Int)) then
 let v21:(Int×Int):=(F22 q6.1 (1:Int) (1:Int))
 let v22:Bool:=(q2.2.2.1 != (0:Int))
 let v23:Bool:=(v5.2 != (0:Int))
 let v24:Bool:=(bif v22 then true else v23)
 let v25:Bool:=(q6.2.1 != (0:Int))
 let v26:Bool:=(bif v24 then true else v25)
 let v27:Bool:=(v9.2 != (0:Int))
 let v28:Bool:=(bif v26 then true else v27)
 let v29:Bool:=(v10.2 != (0:Int))
 let v30:Bool:=(bif v28 then true else v29)
 let v31:Bool:=(v11.2 != (0:Int))
 let v32:Bool:=(bif v30 then true else v31)
 let v33:Bool:=(q12.2.1 != (310:Int))
 let v34:Bool:=(bif v32 then true else v33)
 let v35:Bool:=(q15.2.2.1 != (310:Int))
 let v36:Bool:=(bif v34 then true else v35)
 let v37:Bool:=(q18.2.1 != (0:Int))
 let v38:Bool:=(bif v36 then true else v37)
 let v39:Bool:=(v21.2 != (0:Int))
 let v40:Bool:=(bif v38 then true else v39)
 let v41:Int:=((List.length q6.1.2.1:Nat):Int)
 let v42:Bool:=(v41 != (3:Int))
 let v43:Bool:=(bif v40 then true else v42)
 bif v43 then
 some (false)
 else
 let v44:Bool:=(q2.2.1==(0:Int))
 let v45:Tin:=(List.set (List.set (List.set (List.replicate 3 (0:Int)) 0 (-90:Int)) 1 (90:Int)) 2 (0:Int))
 bif ((P23 (List.take (List.length v5.1) v5.1) v45) || !(v44 && true)) then
 let v46:Bool:=(F23 (List.take (List.length v5.1) v5.1) v45)
 let v47:Bool:=(bif v44 then v46 else false)
 let v48:Tin:=(List.set (List.set (List.set (List.replicate 3 (0:Int)) 0 (-90:Int)) 1 (90:Int)) 2 (0:Int))
 bif ((P23 (List.take (List.length v9.1) v9.1) v48) || !(v47 && true)) then
 let v49:Bool:=(F23 (List.take (List.length v9.1) v9.1) v48)
 let v50:Bool:=(bif v47 then v49 else false)
 let v51:Tin:=(List.set (List.set (List.set (List.replicate 3 (0:Int)) 0 (30:Int)) 1 (-30:Int)) 2 (0:Int))
 bif ((P23 (List.take (List.length v10.1) v10.1) v51) || !(v50 && true)) then
 let v52:Bool:=(F23 (List.take (List.length v10.1) v10.1) v51)
 let v53:Bool:=(bif v50 then v52 else false)
 let v54:Tin:=(List.set (List.set (List.set (List.replicate 3 (0:Int)) 0 (-60:Int)) 1 (60:Int)) 2 (0:Int))
 bif ((P23 (List.take (List.length v11.1) v11.1) v54) || !(v53 && true)) then
 let v55:Bool:=(F23 (List.take (List.length v11.1) v11.1) v54)
 let v56:Bool:=(bif v53 then v55 else false)
 let v57:Bool:=(v21.1==(-30:Int))
 let v58:Bool:=(bif v56 then v57 else false)
 let v59:Bool:=(q18.1.2.2.1==(1:Int))
 let v60:Bool:=(bif v58 then v59 else false)
 bif ((P24 q18.1) || !(v60 && true)) then
 let v61:Bool:=(F24 q18.1)
 let v62:Bool:=(bif v60 then v61 else false)
 let v63:Tlp:=([]:Tlp)
 bif ((P24 ((0:Int),(v63,((0:Int),())))) || !(v62 && true)) then
 let v64:Bool:=(F24 ((0:Int),(v63,((0:Int),()))))
 let v65:Bool:=(!v64)
 let v66:Bool:=(bif v62 then v65 else false)
 bif ((decide (0≤(1:Int)) && decide ((1:Int) < List.length q6.1.2.1)) || !(v66 && true)) then
 let v67:D26:=(List.getD q6.1.2.1 (Int.toNat (1:Int)) z26)
 let v68:Bool:=(eqv t26 v67 ((2:Int),((40:Int),((1:Int),((0:Int),((90:Int),((7:Int),((0:Int),()))))))))
 let v69:Bool:=(bif v66 then v68 else false)
 some (v69)
 else none
 else none
 else none
 else none
 else none
 else none
 else none
 else none
 else none
 else none
 else none
 else none
 else none
 else none
 else none
 else none
 else none
theorem ev5  : ev2 env5 orc5 loops5 body5 (initSt 0 []) (retT [(0,.dat .bool)] [.bool] fun x=>x.1)=G5  := by kernel_rfl
def P5  : Bool:=(hold (G5 )).isSome
def F5  : Bool:=(hold (G5 )).getD default
theorem G5_some  (h:P5  = true):G5  = some (F5 ):=by
 unfold P5 at h; unfold F5
 rw [hold_eq] at h ⊢
 exact some_getD h
theorem P5_of  {r:Bool} (h:G5  = some r):P5  = true:=by unfold P5; rw [hold_eq,h]; rfl
theorem F5_of  {r:Bool} (h:G5  = some r):F5  = r:=by unfold F5; rw [hold_eq,h]; rfl
def spec5:Spec:=⟨[],[.dat .bool],fun | []=>P5 | _=>false,fun | []=>[⟨.bool,F5⟩] | _=>[]⟩
theorem meets5 (hE:EnvOk Tryd.prog env5) (hm:Tryd.prog.follows .mixedOrders=true):Meets Tryd.prog glob 5 spec5 :=
 meets_of_ev2 (O:=orc5) (L:=loops5) (c:=body5) (slots:=[0]) hE hm Tryd.func5 Tryd.call5 (by kernel_rfl) (by kernel_rfl) loops5_ok (rangesOk_nil (by kernel_rfl)) (by kernel_rfl) rfl (by decide) (fun ds hds hpre=>by
 have h9:=dats0 hds; subst h9
 exact ev_ret (un:=fun r=>[⟨.bool,r⟩]) loops5_nat (fun _=>rfl) ((ev5 ).trans (G5_some  hpre)))
def pin47:Shape:=[(.slot 0,.dat (.int .u64))]
def pout47:Shape:=[(.slot 0,.fn 61 [1]),(.box 1,.bx 94 1),(.cell 1 0,.dat (.int .u64))]
def env47:Env:={
 tab:=tab
 glob:=glob
 spec:=fun
  | _=>none
 bldT:=bldT
 bld:=bldF }
def orc47:Orc:=⟨4,fun _=>none,fun
 | 0=>kp [1] [(1,[0])]
 | 1=>kp [2] [(1,[0])]
 | _=>[],fun | _=>false⟩
noncomputable def body47:Code:=Tryd.f47.body.getD .skip
def loops47:Nat→Option (Sum):=fun | _=>none
theorem loops47_ok:LoopsOk env47 orc47 loops47 body47:=loopsOk_nil (by kernel_rfl)
def G47 (x0:Int):Option (Unit×(Unit×(Int×Unit))) :=
 some ((),((),(x0,())))
def P47 (x0:Int):Bool:=(hold (G47 x0)).isSome
def F47 (x0:Int):(Unit×(Unit×(Int×Unit))):=(hold (G47 x0)).getD (Tup.zero pout47)
theorem P47_of (x0:Int) {r:(Unit×(Unit×(Int×Unit)))} (h:G47 x0=some r):P47 x0=true:=by unfold P47; rw [hold_eq,h]; rfl
theorem F47_of (x0:Int) {r:(Unit×(Unit×(Int×Unit)))} (h:G47 x0=some r):F47 x0=r:=by unfold F47; rw [hold_eq,h]; rfl
theorem ev47 (x0:Int):ev2 env47 orc47 loops47 body47 (mkSt pin47 (x0,())) (retK3 env47 [.slot 2] pout47)=G47 x0:=by kernel_rfl
def sp47:Spec2:=⟨pin47,pout47,fun s=>hold (G47 s.1)⟩
theorem fit47:Fit Tryd.f47 [.slot 2] sp47:=⟨by kernel_rfl,by kernel_rfl,by kernel_rfl,by kernel_rfl,by kernel_rfl,by decide,by decide,by decide⟩
theorem meets47 (hE:EnvOk Tryd.prog env47) (hm:Tryd.prog.follows .mixedOrders=true):Meets2 Tryd.prog glob 47 sp47 :=
 meets2_of_ev2 (O:=orc47) (L:=loops47) (c:=body47) (rs:=[.slot 2]) hE (fun _=>rfl) hm Tryd.func47 Tryd.call47 (by kernel_rfl) (by kernel_rfl) loops47_ok (rangesOk_nil (by kernel_rfl)) fit47 (fun s o h=>(ev47 s.1).trans ((hold_eq _).symm.trans h))
def pin61:Shape:=[(.slot 1,.ptr 50000 0),(.box 50000,.bx 94 1),(.cell 50000 0,.dat (.int .u64))]
abbrev Y61:Type:=Int×Bool
def mk61:List Dat→Option Y61:=mkT [(.int .u8),.bool] fun x=>(x.1,x.2.1)
def env61:Env:={
 tab:=tab
 glob:=glob
 spec:=fun
  | _=>none
 bldT:=bldT
 bld:=bldF }
def orc61:Orc:=⟨18,fun _=>none,fun
 | 0=>kp [0,1,3] [(50000,[0])]
 | 1=>kp [0,1,15] [(50000,[0])]
 | 2=>kp [0,1] [(50000,[0])]
 | _=>[],fun | _=>false⟩
noncomputable def body61:Code:=Tryd.f61.body.getD .skip
def L61_0_sh:Shape:=[(.slot 0,.yld),(.slot 1,.ptr 50000 0),(.box 50000,.bx 94 1),(.cell 50000 0,.dat (.int .u64))]
def L61_0_x0:Shape:=[(.slot 0,.yld),(.slot 1,.ptr 50000 0),(.box 50000,.bx 94 1),(.cell 50000 0,.dat (.int .u64))]
def L61_0_pk (s:Tup L61_0_sh):Int:=s.2.2.2.1
def L61_0_un (s:Int):Tup L61_0_sh:=((),((),((),(s,()))))
def L61_0_leave (x:(Int)) (V:Type) (K:Exit→St→YW Y61 V):YW Y61 V:=match x with
 | a=>K .ret (mkSt L61_0_x0 ((),((),((),(a,())))))
def L61_0_d (e:Exit) (st:St):Option ((Int)):=match e with
 | .ret=>(match unSt L61_0_x0 st with
  | some s=>some s.2.2.2.1
  | none=>none)
 | _=>none
def L61_0_r (s0:Int):YW Y61 ((Int)⊕((Int))) :=
 let v1:Bool:=(decide (s0 < (128:Int)))
 let v2:Int:=(bits .and .u64 s0 (127:Int))
 let v3:Int:=(IntKind.u8.wrap v2)
 yieldW true (v3,v1) (let v7:Bool:=(!false)
 let v8:Bool:=(bif v7 then true else v1)
 bif v8 then
 some ()
 else
 let v9:Int:=(Int.fdiv s0 (2 ^ min (Int.toNat (7:Int)) (IntKind.u64.bits)))
 none) (
 let v4:Bool:=(!true)
 let v5:Bool:=(bif v4 then true else v1)
 bif v5 then
 some ([],.inr s0)
 else
 let v6:Int:=(Int.fdiv s0 (2 ^ min (Int.toNat (7:Int)) (IntKind.u64.bits)))
 some ([],.inl v6))
def L61_0:Int→YW Y61 ((Int)):=LimW (fun s=>L61_0_r s)
def L61_0_sum:SumY Y61:=limSumW L61_0_sh L61_0_pk (fun s=>L61_0_r s) L61_0_leave
theorem L61_0_nat:NaturalY L61_0_sum:=natural_limW fun x V K=>by
 exact (YW.bind_pure _ _).symm
theorem L61_0_dok:∀ e st x,e≠.normal→L61_0_d e st=some x→∀ V (K:Exit→St→YW Y61 V),K e st=L61_0_leave x V K:=by
 intro e st x _ h R K
 unfold L61_0_d at h
 split at h
 ·split at h
  ·rename_i s hs; cases h; rw [unSt_some hs]; rfl
  ·cases h
 ·cases h
def loops61:Nat→Option (SumY Y61):=fun | 0=>some L61_0_sum | _=>none
theorem loops61_nat:∀ q f,loops61 q=some f→NaturalY f:=by
 intro q f h
 unfold loops61 at h
 split at h
 ·cases h; exact L61_0_nat
 ·cases h
noncomputable def L61_0_code:Code:=(loopsOf body61).getD 0 .skip
theorem L61_0_round (s0:Int):evY env61 orc61 loops61 [(.int .u8),.bool] mk61 L61_0_code (mkSt L61_0_sh ((),((),((),(s0,()))))) (backW (back L61_0_sh L61_0_pk L61_0_d)) retOnly=L61_0_r s0:=by kernel_rfl
theorem L61_0_ok:SumYOk env61 orc61 loops61 [(.int .u8),.bool] mk61 L61_0_code L61_0_sum:=sumYOk_lim (un:=L61_0_un) loops61_nat (fun _=>rfl) L61_0_dok fun s=>L61_0_round s
theorem loops61_all:loopsOf body61=[L61_0_code]:=by kernel_rfl
theorem L61_0_key:lookY loops61 (keyOf L61_0_code)=some L61_0_sum:=by kernel_rfl
theorem loops61_ok:LoopsYOk env61 orc61 loops61 [(.int .u8),.bool] mk61 body61:=by
 intro c hc f hf
 rw [loops61_all] at hc
 simp only [List.mem_cons,List.not_mem_nil,or_false] at hc
 subst hc
 ·rw [L61_0_key] at hf; cases hf; exact L61_0_ok
def W61 (x0:Int):YW Y61 Unit :=
 YW.bind (L61_0 x0) fun (r10:Int) =>
 some ([],())
theorem ev61 (x0:Int):evY env61 orc61 loops61 [(.int .u8),.bool] mk61 body61 (mkSt ((.slot 0,.yld)::pin61) ((),((),((),(x0,()))))) endY retOnly=W61 x0:=by kernel_rfl
def I61:ISpec:=⟨pin61,Y61,fun (y:Y61)=>datsOf [(.int .u8),.bool] (y.1,(y.2,())),fun s=>(W61 s.2.2.1).ys⟩
theorem iter61 (hE:EnvOk Tryd.prog env61) (hm:Tryd.prog.follows .mixedOrders=true):IterOk Tryd.prog glob 61 I61 :=
 iterOk_of_evY (I:=I61) (O:=orc61) (L:=loops61) (c:=body61) (mk:=mk61) hE hm Tryd.func61 Tryd.call61 (by kernel_rfl) (by kernel_rfl) (mkT_ok (ts:=[(.int .u8),.bool]) (un:=fun (y:Y61)=>(y.1,(y.2,()))) fun _=>rfl) loops61_ok (by kernel_rfl) (by decide) (by decide) (fun s ys h=>(ev61 s.2.2.1).trans (YW.ys_some h))
def env25:Env:={
 tab:=tab
 glob:=glob
 spec:=fun
  | _=>none
 spec2:=fun
  | 47,[]=>some sp47
  | _,_=>none
 bldT:=bldT
 bld:=bldF }
def orc25:Orc:=⟨33,fun _=>none,fun
 | 0=>kp [0] []
 | 1=>kp [0,12] []
 | 2=>kp [2,3] []
 | 3=>kp [0,4] [(4,[0])]
 | 4=>kp [4,20] [(4,[0]),(2100001,[0])]
 | 5=>kp [4,5,20,22] [(4,[0])]
 | 6=>kp [4,5,6,20] [(4,[0])]
 | 7=>kp [4,5,20,24] [(4,[0])]
 | 8=>kp [4,5,20] [(4,[0])]
 | 9=>kp [4,20] [(4,[0])]
 | 10=>kp [2,3] []
 | _=>[],fun | _=>false⟩
noncomputable def body25:Code:=Tryd.f25.body.getD .skip
def R25_5_esh:Shape:=[(.slot 4,.ptr 4 0),(.box 4,.bx 57 1),(.cell 4 0,.own 5 (.int .u8))]
def R25_5_pk (s:Tup R25_5_esh):Tin:=s.2.2.1
def R25_5_un (s:Tin):Tup R25_5_esh:=((),((),(s,())))
def R25_5_xo (x:(Tin)):Exit×Tup R25_5_esh:=match x with
 | a=>(.ret,R25_5_un a)
def R25_5_leave (x:(Tin)) (R:Type) (K:Cont R):Option R:=match x with
 | a=>K .ret (mkSt R25_5_esh (R25_5_un a))
theorem R25_5_lv (x:(Tin)) (R:Type) (K:Cont R):R25_5_leave x R K=K (R25_5_xo x).1 (mkSt R25_5_esh (R25_5_xo x).2):=by
 rfl
theorem R25_5_lvn (x:(Tin)) (R:Type) (K:Cont R):R25_5_leave x R K=(R25_5_leave x _ pairK).bind fun p=>K p.1 p.2:=by
 rfl
def R25_5_d (e:Exit) (s:Tup R25_5_esh):Option ((Tin)):=match e with
 | _=>none
theorem R25_5_dk:∀ x e v,R25_5_d x e=some v→R25_5_xo v=(x,e)∧∃ c,jumpOf x=some c:=by
 intro x e v h
 cases x<;>cases h
def R25_5_r (s0:Tin) (y0:Int) (y1:Bool):Option ((Tin)⊕((Tin))) :=
 let v12:Bool:=(!y1)
 bif v12 then
 let v13:Int:=(bits .or .u8 y0 (128:Int))
 let v14:Tin:=(List.set (List.replicate 1 (0:Int)) 0 v13)
 bif (decide (List.length (List.take (List.length s0) s0)+List.length v14≤100000000000)) then
 let v15:Tin:=((List.take (List.length s0) s0)++v14)
 some (.inl v15)
 else none
 else
 let v16:Tin:=(List.set (List.replicate 1 (0:Int)) 0 y0)
 bif (decide (List.length (List.take (List.length s0) s0)+List.length v16≤100000000000)) then
 let v17:Tin:=((List.take (List.length s0) s0)++v16)
 some (.inl v17)
 else none
def R25_5_step (b:Tin) (y:Y61):Option ((Tin)⊕((Tin))):=R25_5_r b y.1 y.2
def loops25:Nat→Option (Sum):=fun | 5=>some (rangeSum env25 61 20 R25_5_esh I61 R25_5_pk R25_5_un R25_5_step R25_5_leave) | _=>none
theorem loops25_nat:∀ q f,loops25 q=some f→Natural f:=by
 intro q f h
 unfold loops25 at h
 split at h
 ·cases h; exact natural_range R25_5_lvn
 ·cases h
theorem loops25_ok:LoopsOk env25 orc25 loops25 body25:=loopsOk_nil (by kernel_rfl)
noncomputable def R25_5_code:Code:=(rangesOf body25).getD 0 .skip
theorem R25_5_round (s0:Tin) (y0:Int) (y1:Bool):roundQ env25 orc25 loops25 R25_5_esh R25_5_pk R25_5_d R25_5_code (I61.enc (y0,y1)) ((),((),(s0,())))=R25_5_r s0 y0 y1:=by kernel_rfl
theorem R25_5_form:R25_5_code=.rangeFunc (.tmp 20) (rgPs R25_5_code) (rgAsg R25_5_code) (rgBody R25_5_code):=by kernel_rfl
theorem R25_5_len (y:Y61):(rgPs R25_5_code).toList.length=(I61.enc y).length:=by kernel_rfl
theorem R25_5_ok (hE:EnvOk Tryd.prog env25) (hm:Tryd.prog.follows .mixedOrders=true) (hI:IterOk Tryd.prog glob 61 I61):RangeOk Tryd.prog env25 orc25.n R25_5_code (rangeSum env25 61 20 R25_5_esh I61 R25_5_pk R25_5_un R25_5_step R25_5_leave) :=
 rangeOk' (L:=loops25) hE hm hI R25_5_form (loopsOk_nil (by kernel_rfl)) (loopsOk_nil (by kernel_rfl)) (by kernel_rfl) (by kernel_rfl) (by kernel_rfl) (by kernel_rfl) (pk:=R25_5_pk) (un:=R25_5_un) (fun _=>rfl) R25_5_dk R25_5_lv R25_5_len fun b y=>R25_5_round b y.1 y.2
theorem ranges25_all:rangesOf body25=[R25_5_code]:=by kernel_rfl
theorem R25_5_key:lookL loops25 (keyOf R25_5_code)=some (rangeSum env25 61 20 R25_5_esh I61 R25_5_pk R25_5_un R25_5_step R25_5_leave):=by kernel_rfl
theorem ranges25_ok (hE:EnvOk Tryd.prog env25) (hm:Tryd.prog.follows .mixedOrders=true) (hI61:IterOk Tryd.prog glob 61 I61):RangesOk Tryd.prog env25 orc25.n loops25 body25:=by
 intro c hc f hf
 rw [ranges25_all] at hc
 simp only [List.mem_cons,List.not_mem_nil,or_false] at hc
 subst hc
 ·rw [R25_5_key] at hf; cases hf; exact R25_5_ok hE hm hI61
def G25 (x0:Int):Option (Tby×Int) :=
 let v1:Bool:=(decide (x0 < (-4611686018427387903:Int)))
 let v2:Bool:=(decide (x0 > (4611686018427387903:Int)))
 let v3:Bool:=(bif v1 then true else v2)
 bif v3 then
 some (([]:List UInt8),(10:Int))
 else
 let v4:Tin:=([]:Tin)
 let v5:Tin:=([]:Tin)
 let v6:Int:=(IntKind.u64.wrap x0)
 let v7:Int:=(IntKind.u64.wrap (v6 * 2 ^ min (Int.toNat (1:Int)) (IntKind.u64.bits)))
 let v8:Int:=(Int.fdiv x0 (2 ^ min (Int.toNat (63:Int)) (IntKind.i64.bits)))
 let v9:Int:=(IntKind.u64.wrap v8)
 let v10:Int:=(bits .xor .u64 v7 v9)
 bif (P47 v10) then
 let q11:(Unit×(Unit×(Int×Unit))):=F47 v10
 Option.bind ((W61 q11.2.2.1).ys) fun ys=>Option.bind (foldX R25_5_step ys v5) fun z=>match z with
 | .inl (r18:Tin) =>
 let v19:Tby:=(List.map (fun (n:Int)=>UInt8.ofNat n.toNat) (List.take (List.length r18) r18))
 some (v19,(0:Int))
 | .inr r18 =>
 none
 else none
theorem ev25 (x0:Int):ev2 env25 orc25 loops25 body25 (initSt 0 [⟨(.int .i64),x0⟩]) (retT [(2,.dat .str),(3,.dat (.int .i64))] [.str,(.int .i64)] fun x=>(x.1,x.2.1))=G25 x0:=by kernel_rfl
def P25 (x0:Int):Bool:=(hold (G25 x0)).isSome
def F25 (x0:Int):Tby×Int:=(hold (G25 x0)).getD default
theorem G25_some (x0:Int) (h:P25 x0=true):G25 x0=some (F25 x0):=by
 unfold P25 at h; unfold F25
 rw [hold_eq] at h ⊢
 exact some_getD h
theorem P25_of (x0:Int) {r:Tby×Int} (h:G25 x0=some r):P25 x0=true:=by unfold P25; rw [hold_eq,h]; rfl
theorem F25_of (x0:Int) {r:Tby×Int} (h:G25 x0=some r):F25 x0=r:=by unfold F25; rw [hold_eq,h]; rfl
def spec25:Spec:=⟨[(.int .i64)],[.dat .str,.dat (.int .i64)],fun | [a0]=>P25 (a0.as (.int .i64)) | _=>false,fun | [a0]=>[⟨.str,(F25 (a0.as (.int .i64))).1⟩,⟨(.int .i64),(F25 (a0.as (.int .i64))).2⟩] | _=>[]⟩
theorem meets25 (hE:EnvOk Tryd.prog env25) (hm:Tryd.prog.follows .mixedOrders=true) (hI61:IterOk Tryd.prog glob 61 I61):Meets Tryd.prog glob 25 spec25 :=
 meets_of_ev2 (O:=orc25) (L:=loops25) (c:=body25) (slots:=[2,3]) hE hm Tryd.func25 Tryd.call25 (by kernel_rfl) (by kernel_rfl) loops25_ok (ranges25_ok hE hm hI61) (by kernel_rfl) rfl (by decide) (fun ds hds hpre=>by
 obtain ⟨x0,ds0,rfl,h0⟩:=datsS hds
 have h9:=dats0 h0; subst h9
 exact ev_ret (un:=fun r=>[⟨.str,r.1⟩,⟨(.int .i64),r.2⟩]) loops25_nat (fun _=>rfl) ((ev25 x0).trans (G25_some x0 hpre)))
def env6:Env:={
 tab:=tab
 glob:=glob
 spec:=fun
  | 25=>some spec25
  | _=>none
 bldT:=bldT
 bld:=bldF }
def orc6:Orc:=⟨40,fun _=>none,fun
 | 0=>kp [1] [(1,[0,1,2,3,4,5,6])]
 | 1=>kp [1,4] [(1,[0,1,2,3,4,5,6]),(4,[0,1])]
 | 2=>kp [4,23,24,25] [(4,[0,1])]
 | 3=>kp [4,23,24,25,26] [(4,[0,1])]
 | 4=>kp [4,6,23,24,25] [(4,[0,1])]
 | 5=>kp [4,7,8,23,24,25] [(4,[0,1])]
 | 6=>kp [4,7,23,24,25,35] [(4,[0,1])]
 | 7=>kp [2,3] []
 | 8=>kp [4,23,24,25] [(4,[0,1])]
 | 9=>kp [4,23,24,25] [(4,[0,1])]
 | 10=>kp [2,3] []
 | _=>[],fun | _=>false⟩
noncomputable def body6:Code:=Tryd.f6.body.getD .skip
abbrev L6_3_T:Type:=Tin×Int×Int×Bool×Tin
def L6_3_sh:Shape:=[(.slot 4,.ptr 4 0),(.slot 23,.own 3 (.int .i64)),(.slot 24,.dat (.int .i64)),(.slot 25,.dat (.int .i64)),(.box 4,.bx 59 2),(.cell 4 0,.mptr 4 0),(.cell 4 1,.own 5 (.int .u8))]
def L6_3_x0:Shape:=[(.slot 2,.dat .str),(.slot 3,.dat (.int .i64))]
def L6_3_x1:Shape:=[(.slot 4,.ptr 4 0),(.slot 23,.own 3 (.int .i64)),(.slot 24,.dat (.int .i64)),(.slot 25,.dat (.int .i64)),(.box 4,.bx 59 2),(.cell 4 0,.mptr 4 0),(.cell 4 1,.own 5 (.int .u8))]
def L6_3_pk (s:Tup L6_3_sh):L6_3_T:=(s.2.1,s.2.2.1,s.2.2.2.1,s.2.2.2.2.2.1,s.2.2.2.2.2.2.1)
def L6_3_un (s:Tin×Int×Int×Bool×Tin):Tup L6_3_sh:=((),(s.1,(s.2.1,(s.2.2.1,((),(s.2.2.2.1,(s.2.2.2.2,())))))))
def L6_3_leave (x:(Tby×Int)⊕L6_3_T) (R:Type) (K:Cont R):Option R:=match x with
 | (.inl a)=>K .ret (mkSt L6_3_x0 (a.1,(a.2,())))
 | (.inr a)=>K (.exit 0) (mkSt L6_3_x1 ((),(a.1,(a.2.1,(a.2.2.1,((),(a.2.2.2.1,(a.2.2.2.2,()))))))))
def L6_3_d (e:Exit) (st:St):Option ((Tby×Int)⊕L6_3_T):=match e with
 | .ret=>(match unSt L6_3_x0 st with
  | some s=>some (.inl (s.1,s.2.1))
  | none=>none)
 | .exit 0=>(match unSt L6_3_x1 st with
  | some s=>some (.inr (s.2.1,s.2.2.1,s.2.2.2.1,s.2.2.2.2.2.1,s.2.2.2.2.2.2.1))
  | none=>none)
 | _=>none
def L6_3_r (s0:Tin) (s1:Int) (s2:Int) (s3:Bool) (s4:Tin):Option (L6_3_T⊕((Tby×Int)⊕L6_3_T)) :=
 let v3:Bool:=(decide (s2 < s1))
 bif v3 then
 bif (decide (0≤s2) && decide (s2 < (List.length s0))) then
 bif (decide ((Int.toNat s2) < List.length s0)) then
 let v4:Int:=(List.getD s0 (Int.toNat s2) (0:Int))
 bif (P25 v4) then
 let v5:(Tby×Int):=(F25 v4)
 let v6:Bool:=(v5.2 != (0:Int))
 bif v6 then
 some (.inr (.inl (([]:List UInt8),(310:Int))))
 else
 bif (decide (List.length s4+List.length v5.1≤140737488355328)) then
 let v7:Tin:=(s4++List.map (fun (c:UInt8)=>(c.toNat:Int)) v5.1)
 let v8:Int:=(IntKind.i64.wrap (s2+(1:Int)))
 some (.inl (s0,s1,v8,true,v7))
 else none
 else none
 else none
 else none
 else
 some (.inr (.inr (s0,s1,s2,s3,s4)))
def L6_3:L6_3_T→Option ((Tby×Int)⊕L6_3_T):=Lim (fun s=>L6_3_r s.1 s.2.1 s.2.2.1 s.2.2.2.1 s.2.2.2.2)
def L6_3_sum:Sum:=limSum L6_3_sh L6_3_pk (fun s=>L6_3_r s.1 s.2.1 s.2.2.1 s.2.2.2.1 s.2.2.2.2) L6_3_leave
theorem L6_3_nat:Natural L6_3_sum:=natural_lim fun x R K=>by
 rcases x with x|x<;>rfl
theorem L6_3_dok:∀ e st x,e≠.normal→L6_3_d e st=some x→∀ R (K:Cont R),K e st=L6_3_leave x R K:=by
 intro e st x _ h R K
 unfold L6_3_d at h
 split at h
 ·split at h
  ·rename_i s hs; cases h; rw [unSt_some hs]; rfl
  ·cases h
 ·split at h
  ·rename_i s hs; cases h; rw [unSt_some hs]; rfl
  ·cases h
 ·cases h
def loops6:Nat→Option (Sum):=fun | 3=>some L6_3_sum | _=>none
theorem loops6_nat:∀ q f,loops6 q=some f→Natural f:=by
 intro q f h
 unfold loops6 at h
 split at h
 ·cases h; exact L6_3_nat
 ·cases h
noncomputable def L6_3_code:Code:=(loopsOf body6).getD 0 .skip
theorem L6_3_round (s0:Tin) (s1:Int) (s2:Int) (s3:Bool) (s4:Tin):ev2 env6 orc6 loops6 L6_3_code (mkSt L6_3_sh ((),(s0,(s1,(s2,((),(s3,(s4,())))))))) (back L6_3_sh L6_3_pk L6_3_d)=L6_3_r s0 s1 s2 s3 s4:=by kernel_rfl
theorem L6_3_ok:SumOk env6 orc6 loops6 L6_3_code L6_3_sum:=sumOk_lim (un:=L6_3_un) loops6_nat (fun _=>rfl) L6_3_dok fun s=>L6_3_round s.1 s.2.1 s.2.2.1 s.2.2.2.1 s.2.2.2.2
theorem loops6_all:loopsOf body6=[L6_3_code]:=by kernel_rfl
theorem L6_3_key:lookL loops6 (keyOf L6_3_code)=some L6_3_sum:=by kernel_rfl
theorem loops6_ok:LoopsOk env6 orc6 loops6 body6:=by
 intro c hc f hf
 rw [loops6_all] at hc
 simp only [List.mem_cons,List.not_mem_nil,or_false] at hc
 subst hc
 ·rw [L6_3_key] at hf; cases hf; exact L6_3_ok
def G6 (x0:D26):Option (Tby×Int) :=
 let v1:Tin:=([]:List Int)
 let v2:Tin:=(List.set (List.set (List.set (List.set (List.set (List.set (List.set (List.replicate 7 (0:Int)) 0 x0.1) 1 x0.2.1) 2 x0.2.2.1) 3 x0.2.2.2.1) 4 x0.2.2.2.2.1) 5 x0.2.2.2.2.2.1) 6 x0.2.2.2.2.2.2.1)
 Option.bind (L6_3 (v2,(7:Int),(0:Int),false,v1)) fun x=>match x with
 | (.inl r9) =>
 some (r9.1,r9.2)
 | (.inr r10) =>
 bif (List.all r10.2.2.2.2 (fun (n:Int)=>decide (0≤n) && decide (n < 256))) then
 let v11:Tby:=(List.map (fun (n:Int)=>UInt8.ofNat n.toNat) r10.2.2.2.2)
 some (v11,(0:Int))
 else none
theorem ev6 (x0:D26):ev2 env6 orc6 loops6 body6 (initSt 0 [⟨t26,x0⟩]) (retT [(2,.dat .str),(3,.dat (.int .i64))] [.str,(.int .i64)] fun x=>(x.1,x.2.1))=G6 x0:=by kernel_rfl
def P6 (x0:D26):Bool:=(hold (G6 x0)).isSome
def F6 (x0:D26):Tby×Int:=(hold (G6 x0)).getD default
theorem G6_some (x0:D26) (h:P6 x0=true):G6 x0=some (F6 x0):=by
 unfold P6 at h; unfold F6
 rw [hold_eq] at h ⊢
 exact some_getD h
theorem P6_of (x0:D26) {r:Tby×Int} (h:G6 x0=some r):P6 x0=true:=by unfold P6; rw [hold_eq,h]; rfl
theorem F6_of (x0:D26) {r:Tby×Int} (h:G6 x0=some r):F6 x0=r:=by unfold F6; rw [hold_eq,h]; rfl
def spec6:Spec:=⟨[t26],[.dat .str,.dat (.int .i64)],fun | [a0]=>P6 (a0.as t26) | _=>false,fun | [a0]=>[⟨.str,(F6 (a0.as t26)).1⟩,⟨(.int .i64),(F6 (a0.as t26)).2⟩] | _=>[]⟩
theorem meets6 (hE:EnvOk Tryd.prog env6) (hm:Tryd.prog.follows .mixedOrders=true):Meets Tryd.prog glob 6 spec6 :=
 meets_of_ev2 (O:=orc6) (L:=loops6) (c:=body6) (slots:=[2,3]) hE hm Tryd.func6 Tryd.call6 (by kernel_rfl) (by kernel_rfl) loops6_ok (rangesOk_nil (by kernel_rfl)) (by kernel_rfl) rfl (by decide) (fun ds hds hpre=>by
 obtain ⟨x0,ds0,rfl,h0⟩:=datsS hds
 have h9:=dats0 h0; subst h9
 exact ev_ret (un:=fun r=>[⟨.str,r.1⟩,⟨(.int .i64),r.2⟩]) loops6_nat (fun _=>rfl) ((ev6 x0).trans (G6_some x0 hpre)))
def env49:Env:={
 tab:=tab
 glob:=glob
 spec:=fun
  | _=>none
 bldT:=bldT
 bld:=bldF }
def orc49:Orc:=⟨13,fun _=>none,fun
 | 0=>kp [0] []
 | 1=>kp [0,4] []
 | 2=>kp [2] []
 | 3=>kp [2] []
 | _=>[],fun | _=>false⟩
noncomputable def body49:Code:=Tryd.f49.body.getD .skip
def loops49:Nat→Option (Sum):=fun | _=>none
theorem loops49_nat:∀ q f,loops49 q=some f→Natural f:=by
 intro q f h
 cases h
theorem loops49_ok:LoopsOk env49 orc49 loops49 body49:=loopsOk_nil (by kernel_rfl)
def G49 (x0:Int):Option (Int) :=
 let v1:Bool:=(decide (x0 < (0:Int)))
 bif v1 then
 let v2:Int:=(IntKind.i64.wrap (0 - x0))
 let v3:Int:=(IntKind.u64.wrap v2)
 let v4:Int:=(IntKind.u64.wrap (v3 * (2:Int)))
 let v5:Int:=(IntKind.u64.wrap (v4 - (1:Int)))
 some (v5)
 else
 let v6:Int:=(IntKind.u64.wrap x0)
 let v7:Int:=(IntKind.u64.wrap (v6 * (2:Int)))
 some (v7)
theorem ev49 (x0:Int):ev2 env49 orc49 loops49 body49 (initSt 0 [⟨(.int .i64),x0⟩]) (retT [(2,.dat (.int .u64))] [(.int .u64)] fun x=>x.1)=G49 x0:=by kernel_rfl
def P49 (x0:Int):Bool:=(hold (G49 x0)).isSome
def F49 (x0:Int):Int:=(hold (G49 x0)).getD default
theorem G49_some (x0:Int) (h:P49 x0=true):G49 x0=some (F49 x0):=by
 unfold P49 at h; unfold F49
 rw [hold_eq] at h ⊢
 exact some_getD h
theorem P49_of (x0:Int) {r:Int} (h:G49 x0=some r):P49 x0=true:=by unfold P49; rw [hold_eq,h]; rfl
theorem F49_of (x0:Int) {r:Int} (h:G49 x0=some r):F49 x0=r:=by unfold F49; rw [hold_eq,h]; rfl
def spec49:Spec:=⟨[(.int .i64)],[.dat (.int .u64)],fun | [a0]=>P49 (a0.as (.int .i64)) | _=>false,fun | [a0]=>[⟨(.int .u64),(F49 (a0.as (.int .i64)))⟩] | _=>[]⟩
theorem meets49 (hE:EnvOk Tryd.prog env49) (hm:Tryd.prog.follows .mixedOrders=true):Meets Tryd.prog glob 49 spec49 :=
 meets_of_ev2 (O:=orc49) (L:=loops49) (c:=body49) (slots:=[2]) hE hm Tryd.func49 Tryd.call49 (by kernel_rfl) (by kernel_rfl) loops49_ok (rangesOk_nil (by kernel_rfl)) (by kernel_rfl) rfl (by decide) (fun ds hds hpre=>by
 obtain ⟨x0,ds0,rfl,h0⟩:=datsS hds
 have h9:=dats0 h0; subst h9
 exact ev_ret (un:=fun r=>[⟨(.int .u64),r⟩]) loops49_nat (fun _=>rfl) ((ev49 x0).trans (G49_some x0 hpre)))
def env28:Env:={
 tab:=tab
 glob:=glob
 spec:=fun
  | 49=>some spec49
  | _=>none
 bldT:=bldT
 bld:=bldF }
def orc28:Orc:=⟨31,fun _=>none,fun
 | 0=>kp [0] []
 | 1=>kp [0,11] []
 | 2=>kp [2,3] []
 | 3=>kp [4] []
 | 4=>kp [4,5] []
 | 5=>kp [4,5,15] []
 | 6=>kp [4,5] []
 | 7=>kp [4,5] []
 | 8=>kp [2,3] []
 | _=>[],fun | _=>false⟩
noncomputable def body28:Code:=Tryd.f28.body.getD .skip
abbrev L28_5_T:Type:=Int×Tin
def L28_5_sh:Shape:=[(.slot 4,.dat (.int .u64)),(.slot 5,.own 5 (.int .u8))]
def L28_5_x0:Shape:=[(.slot 4,.dat (.int .u64)),(.slot 5,.own 5 (.int .u8))]
def L28_5_pk (s:Tup L28_5_sh):L28_5_T:=(s.1,s.2.1)
def L28_5_un (s:Int×Tin):Tup L28_5_sh:=(s.1,(s.2,()))
def L28_5_leave (x:L28_5_T) (R:Type) (K:Cont R):Option R:=match x with
 | a=>K (.exit 0) (mkSt L28_5_x0 (a.1,(a.2,())))
def L28_5_d (e:Exit) (st:St):Option (L28_5_T):=match e with
 | .exit 0=>(match unSt L28_5_x0 st with
  | some s=>some (s.1,s.2.1)
  | none=>none)
 | _=>none
def L28_5_r (s0:Int) (s1:Tin):Option (L28_5_T⊕(L28_5_T)) :=
 let v6:Bool:=(decide (s0≥(128:Int)))
 bif v6 then
 let v7:Int:=(Int.tmod s0 (128:Int))
 let v8:Int:=(IntKind.u64.wrap (v7+(128:Int)))
 let v9:Int:=(IntKind.u8.wrap v8)
 let v10:Tin:=(List.set (List.replicate 1 (0:Int)) 0 v9)
 bif (decide (List.length (List.take (List.length s1) s1)+List.length v10≤100000000000)) then
 let v11:Tin:=((List.take (List.length s1) s1)++v10)
 let v12:Int:=(IntKind.u64.wrap (Int.tdiv s0 (128:Int)))
 some (.inl (v12,v11))
 else none
 else
 some (.inr (s0,s1))
def L28_5:L28_5_T→Option (L28_5_T):=Lim (fun s=>L28_5_r s.1 s.2)
def L28_5_sum:Sum:=limSum L28_5_sh L28_5_pk (fun s=>L28_5_r s.1 s.2) L28_5_leave
theorem L28_5_nat:Natural L28_5_sum:=natural_lim fun x R K=>by
 rfl
theorem L28_5_dok:∀ e st x,e≠.normal→L28_5_d e st=some x→∀ R (K:Cont R),K e st=L28_5_leave x R K:=by
 intro e st x _ h R K
 unfold L28_5_d at h
 split at h
 ·split at h
  ·rename_i s hs; cases h; rw [unSt_some hs]; rfl
  ·cases h
 ·cases h
def loops28:Nat→Option (Sum):=fun | 5=>some L28_5_sum | _=>none
theorem loops28_nat:∀ q f,loops28 q=some f→Natural f:=by
 intro q f h
 unfold loops28 at h
 split at h
 ·cases h; exact L28_5_nat
 ·cases h
noncomputable def L28_5_code:Code:=(loopsOf body28).getD 0 .skip
theorem L28_5_round (s0:Int) (s1:Tin):ev2 env28 orc28 loops28 L28_5_code (mkSt L28_5_sh (s0,(s1,()))) (back L28_5_sh L28_5_pk L28_5_d)=L28_5_r s0 s1:=by kernel_rfl
theorem L28_5_ok:SumOk env28 orc28 loops28 L28_5_code L28_5_sum:=sumOk_lim (un:=L28_5_un) loops28_nat (fun _=>rfl) L28_5_dok fun s=>L28_5_round s.1 s.2
theorem loops28_all:loopsOf body28=[L28_5_code]:=by kernel_rfl
theorem L28_5_key:lookL loops28 (keyOf L28_5_code)=some L28_5_sum:=by kernel_rfl
theorem loops28_ok:LoopsOk env28 orc28 loops28 body28:=by
 intro c hc f hf
 rw [loops28_all] at hc
 simp only [List.mem_cons,List.not_mem_nil,or_false] at hc
 subst hc
 ·rw [L28_5_key] at hf; cases hf; exact L28_5_ok
def G28 (x0:Int):Option (Tby×Int) :=
 let v1:Bool:=(decide (x0 < (-4611686018427387903:Int)))
 let v2:Bool:=(decide (x0 > (4611686018427387903:Int)))
 let v3:Bool:=(bif v1 then true else v2)
 bif v3 then
 some (([]:List UInt8),(10:Int))
 else
 bif (P49 x0) then
 let v4:Int:=(F49 x0)
 let v5:Tin:=([]:Tin)
 Option.bind (L28_5 (v4,v5)) fun (r13:Int×Tin) =>
 let v14:Int:=(IntKind.u8.wrap r13.1)
 let v15:Tin:=(List.set (List.replicate 1 (0:Int)) 0 v14)
 bif (decide (List.length (List.take (List.length r13.2) r13.2)+List.length v15≤100000000000)) then
 let v16:Tin:=((List.take (List.length r13.2) r13.2)++v15)
 let v17:Tby:=(List.map (fun (n:Int)=>UInt8.ofNat n.toNat) v16)
 some (v17,(0:Int))
 else none
 else none
theorem ev28 (x0:Int):ev2 env28 orc28 loops28 body28 (initSt 0 [⟨(.int .i64),x0⟩]) (retT [(2,.dat .str),(3,.dat (.int .i64))] [.str,(.int .i64)] fun x=>(x.1,x.2.1))=G28 x0:=by kernel_rfl
def P28 (x0:Int):Bool:=(hold (G28 x0)).isSome
def F28 (x0:Int):Tby×Int:=(hold (G28 x0)).getD default
theorem G28_some (x0:Int) (h:P28 x0=true):G28 x0=some (F28 x0):=by
 unfold P28 at h; unfold F28
 rw [hold_eq] at h ⊢
 exact some_getD h
theorem P28_of (x0:Int) {r:Tby×Int} (h:G28 x0=some r):P28 x0=true:=by unfold P28; rw [hold_eq,h]; rfl
theorem F28_of (x0:Int) {r:Tby×Int} (h:G28 x0=some r):F28 x0=r:=by unfold F28; rw [hold_eq,h]; rfl
def spec28:Spec:=⟨[(.int .i64)],[.dat .str,.dat (.int .i64)],fun | [a0]=>P28 (a0.as (.int .i64)) | _=>false,fun | [a0]=>[⟨.str,(F28 (a0.as (.int .i64))).1⟩,⟨(.int .i64),(F28 (a0.as (.int .i64))).2⟩] | _=>[]⟩
theorem meets28 (hE:EnvOk Tryd.prog env28) (hm:Tryd.prog.follows .mixedOrders=true):Meets Tryd.prog glob 28 spec28 :=
 meets_of_ev2 (O:=orc28) (L:=loops28) (c:=body28) (slots:=[2,3]) hE hm Tryd.func28 Tryd.call28 (by kernel_rfl) (by kernel_rfl) loops28_ok (rangesOk_nil (by kernel_rfl)) (by kernel_rfl) rfl (by decide) (fun ds hds hpre=>by
 obtain ⟨x0,ds0,rfl,h0⟩:=datsS hds
 have h9:=dats0 h0; subst h9
 exact ev_ret (un:=fun r=>[⟨.str,r.1⟩,⟨(.int .i64),r.2⟩]) loops28_nat (fun _=>rfl) ((ev28 x0).trans (G28_some x0 hpre)))
def env7:Env:={
 tab:=tab
 glob:=glob
 spec:=fun
  | 28=>some spec28
  | _=>none
 bldT:=bldT
 bld:=bldF }
def orc7:Orc:=⟨44,fun _=>none,fun
 | 0=>kp [1] [(1,[0,1,2,3,4,5,6])]
 | 1=>kp [1,4] [(1,[0,1,2,3,4,5,6])]
 | 2=>kp [4,5] []
 | 3=>kp [4,5,6] []
 | 4=>kp [4,5,6,27] []
 | 5=>kp [4,5,6] []
 | 6=>kp [4,5,6,7,8] []
 | 7=>kp [4,5,6,7,39] []
 | 8=>kp [2,3] []
 | 9=>kp [4,5,6] []
 | 10=>kp [2,3] []
 | _=>[],fun | _=>false⟩
noncomputable def body7:Code:=Tryd.f7.body.getD .skip
abbrev L7_4_T:Type:=Tby×Tin×Int
def L7_4_sh:Shape:=[(.slot 4,.dat .str),(.slot 5,.own 3 (.int .i64)),(.slot 6,.dat (.int .i64))]
def L7_4_x0:Shape:=[(.slot 2,.dat .str),(.slot 3,.dat (.int .i64))]
def L7_4_x1:Shape:=[(.slot 4,.dat .str),(.slot 5,.own 3 (.int .i64)),(.slot 6,.dat (.int .i64))]
def L7_4_pk (s:Tup L7_4_sh):L7_4_T:=(s.1,s.2.1,s.2.2.1)
def L7_4_un (s:Tby×Tin×Int):Tup L7_4_sh:=(s.1,(s.2.1,(s.2.2,())))
def L7_4_leave (x:(Tby×Int)⊕L7_4_T) (R:Type) (K:Cont R):Option R:=match x with
 | (.inl a)=>K .ret (mkSt L7_4_x0 (a.1,(a.2,())))
 | (.inr a)=>K (.exit 0) (mkSt L7_4_x1 (a.1,(a.2.1,(a.2.2,()))))
def L7_4_d (e:Exit) (st:St):Option ((Tby×Int)⊕L7_4_T):=match e with
 | .ret=>(match unSt L7_4_x0 st with
  | some s=>some (.inl (s.1,s.2.1))
  | none=>none)
 | .exit 0=>(match unSt L7_4_x1 st with
  | some s=>some (.inr (s.1,s.2.1,s.2.2.1))
  | none=>none)
 | _=>none
def L7_4_r (s0:Tby) (s1:Tin) (s2:Int):Option (L7_4_T⊕((Tby×Int)⊕L7_4_T)) :=
 let v2:Int:=(((List.length s1):Nat):Int)
 let v3:Bool:=(decide (s2 < v2))
 bif v3 then
 bif (decide (0≤s2) && decide (s2 < (List.length s1))) then
 bif (decide ((Int.toNat s2) < List.length s1)) then
 let v4:Int:=(List.getD s1 (Int.toNat s2) (0:Int))
 bif (P28 v4) then
 let v5:(Tby×Int):=(F28 v4)
 let v6:Bool:=(v5.2 != (0:Int))
 bif v6 then
 some (.inr (.inl (([]:List UInt8),(310:Int))))
 else
 bif (decide (List.length s0+List.length v5.1≤9223372036854775807)) then
 let v7:Tby:=(s0++v5.1)
 let v8:Int:=(IntKind.i64.wrap (s2+(1:Int)))
 some (.inl (v7,s1,v8))
 else none
 else none
 else none
 else none
 else
 some (.inr (.inr (s0,s1,s2)))
def L7_4:L7_4_T→Option ((Tby×Int)⊕L7_4_T):=Lim (fun s=>L7_4_r s.1 s.2.1 s.2.2)
def L7_4_sum:Sum:=limSum L7_4_sh L7_4_pk (fun s=>L7_4_r s.1 s.2.1 s.2.2) L7_4_leave
theorem L7_4_nat:Natural L7_4_sum:=natural_lim fun x R K=>by
 rcases x with x|x<;>rfl
theorem L7_4_dok:∀ e st x,e≠.normal→L7_4_d e st=some x→∀ R (K:Cont R),K e st=L7_4_leave x R K:=by
 intro e st x _ h R K
 unfold L7_4_d at h
 split at h
 ·split at h
  ·rename_i s hs; cases h; rw [unSt_some hs]; rfl
  ·cases h
 ·split at h
  ·rename_i s hs; cases h; rw [unSt_some hs]; rfl
  ·cases h
 ·cases h
def loops7:Nat→Option (Sum):=fun | 4=>some L7_4_sum | _=>none
theorem loops7_nat:∀ q f,loops7 q=some f→Natural f:=by
 intro q f h
 unfold loops7 at h
 split at h
 ·cases h; exact L7_4_nat
 ·cases h
noncomputable def L7_4_code:Code:=(loopsOf body7).getD 0 .skip
theorem L7_4_round (s0:Tby) (s1:Tin) (s2:Int):ev2 env7 orc7 loops7 L7_4_code (mkSt L7_4_sh (s0,(s1,(s2,())))) (back L7_4_sh L7_4_pk L7_4_d)=L7_4_r s0 s1 s2:=by kernel_rfl
theorem L7_4_ok:SumOk env7 orc7 loops7 L7_4_code L7_4_sum:=sumOk_lim (un:=L7_4_un) loops7_nat (fun _=>rfl) L7_4_dok fun s=>L7_4_round s.1 s.2.1 s.2.2
theorem loops7_all:loopsOf body7=[L7_4_code]:=by kernel_rfl
theorem L7_4_key:lookL loops7 (keyOf L7_4_code)=some L7_4_sum:=by kernel_rfl
theorem loops7_ok:LoopsOk env7 orc7 loops7 body7:=by
 intro c hc f hf
 rw [loops7_all] at hc
 simp only [List.mem_cons,List.not_mem_nil,or_false] at hc
 subst hc
 ·rw [L7_4_key] at hf; cases hf; exact L7_4_ok
def G7 (x0:D26):Option (Tby×Int) :=
 let v1:Tin:=(List.set (List.set (List.set (List.set (List.set (List.set (List.set (List.replicate 7 (0:Int)) 0 x0.1) 1 x0.2.1) 2 x0.2.2.1) 3 x0.2.2.2.1) 4 x0.2.2.2.2.1) 5 x0.2.2.2.2.2.1) 6 x0.2.2.2.2.2.2.1)
 Option.bind (L7_4 (([]:List UInt8),v1,(0:Int))) fun x=>match x with
 | (.inl r9) =>
 some (r9.1,r9.2)
 | (.inr r10) =>
 some (r10.1,(0:Int))
theorem ev7 (x0:D26):ev2 env7 orc7 loops7 body7 (initSt 0 [⟨t26,x0⟩]) (retT [(2,.dat .str),(3,.dat (.int .i64))] [.str,(.int .i64)] fun x=>(x.1,x.2.1))=G7 x0:=by kernel_rfl
def P7 (x0:D26):Bool:=(hold (G7 x0)).isSome
def F7 (x0:D26):Tby×Int:=(hold (G7 x0)).getD default
theorem G7_some (x0:D26) (h:P7 x0=true):G7 x0=some (F7 x0):=by
 unfold P7 at h; unfold F7
 rw [hold_eq] at h ⊢
 exact some_getD h
theorem P7_of (x0:D26) {r:Tby×Int} (h:G7 x0=some r):P7 x0=true:=by unfold P7; rw [hold_eq,h]; rfl
theorem F7_of (x0:D26) {r:Tby×Int} (h:G7 x0=some r):F7 x0=r:=by unfold F7; rw [hold_eq,h]; rfl
def spec7:Spec:=⟨[t26],[.dat .str,.dat (.int .i64)],fun | [a0]=>P7 (a0.as t26) | _=>false,fun | [a0]=>[⟨.str,(F7 (a0.as t26)).1⟩,⟨(.int .i64),(F7 (a0.as t26)).2⟩] | _=>[]⟩
theorem meets7 (hE:EnvOk Tryd.prog env7) (hm:Tryd.prog.follows .mixedOrders=true):Meets Tryd.prog glob 7 spec7 :=
 meets_of_ev2 (O:=orc7) (L:=loops7) (c:=body7) (slots:=[2,3]) hE hm Tryd.func7 Tryd.call7 (by kernel_rfl) (by kernel_rfl) loops7_ok (rangesOk_nil (by kernel_rfl)) (by kernel_rfl) rfl (by decide) (fun ds hds hpre=>by
 obtain ⟨x0,ds0,rfl,h0⟩:=datsS hds
 have h9:=dats0 h0; subst h9
 exact ev_ret (un:=fun r=>[⟨.str,r.1⟩,⟨(.int .i64),r.2⟩]) loops7_nat (fun _=>rfl) ((ev7 x0).trans (G7_some x0 hpre)))
def env29:Env:={
 tab:=tab
 glob:=glob
 spec:=fun
  | _=>none
 bldT:=bldT
 bld:=bldF }
def orc29:Orc:=⟨13,fun _=>none,fun
 | 0=>kp [0,1] []
 | 1=>kp [0,1,6] []
 | 2=>kp [0,1] []
 | 3=>kp [4] []
 | _=>[],fun | _=>false⟩
noncomputable def body29:Code:=Tryd.f29.body.getD .skip
def loops29:Nat→Option (Sum):=fun | _=>none
theorem loops29_nat:∀ q f,loops29 q=some f→Natural f:=by
 intro q f h
 cases h
theorem loops29_ok:LoopsOk env29 orc29 loops29 body29:=loopsOk_nil (by kernel_rfl)
def G29 (x0:Int) (x1:Int):Option (Int) :=
 let v1:Bool:=(decide (x0 < (0:Int)))
 bif v1 then
 let v2:Int:=(IntKind.i64.wrap (x0+(1:Int)))
 let v3:Int:=(IntKind.i64.wrap (0 - v2))
 bif (!(x1==0)) then
 let v4:Int:=(Int.tmod v3 x1)
 some (v4)
 else none
 else
 bif (!(x1==0)) then
 let v5:Int:=(Int.tmod x0 x1)
 some (v5)
 else none
theorem ev29 (x0:Int) (x1:Int):ev2 env29 orc29 loops29 body29 (initSt 0 [⟨(.int .i64),x0⟩,⟨(.int .i64),x1⟩]) (retT [(4,.dat (.int .i64))] [(.int .i64)] fun x=>x.1)=G29 x0 x1:=by kernel_rfl
def P29 (x0:Int) (x1:Int):Bool:=(hold (G29 x0 x1)).isSome
def F29 (x0:Int) (x1:Int):Int:=(hold (G29 x0 x1)).getD default
theorem G29_some (x0:Int) (x1:Int) (h:P29 x0 x1=true):G29 x0 x1=some (F29 x0 x1):=by
 unfold P29 at h; unfold F29
 rw [hold_eq] at h ⊢
 exact some_getD h
theorem P29_of (x0:Int) (x1:Int) {r:Int} (h:G29 x0 x1=some r):P29 x0 x1=true:=by unfold P29; rw [hold_eq,h]; rfl
theorem F29_of (x0:Int) (x1:Int) {r:Int} (h:G29 x0 x1=some r):F29 x0 x1=r:=by unfold F29; rw [hold_eq,h]; rfl
def spec29:Spec:=⟨[(.int .i64),(.int .i64)],[.dat (.int .i64)],fun | [a0,a1]=>P29 (a0.as (.int .i64)) (a1.as (.int .i64)) | _=>false,fun | [a0,a1]=>[⟨(.int .i64),(F29 (a0.as (.int .i64)) (a1.as (.int .i64)))⟩] | _=>[]⟩
theorem meets29 (hE:EnvOk Tryd.prog env29) (hm:Tryd.prog.follows .mixedOrders=true):Meets Tryd.prog glob 29 spec29 :=
 meets_of_ev2 (O:=orc29) (L:=loops29) (c:=body29) (slots:=[4]) hE hm Tryd.func29 Tryd.call29 (by kernel_rfl) (by kernel_rfl) loops29_ok (rangesOk_nil (by kernel_rfl)) (by kernel_rfl) rfl (by decide) (fun ds hds hpre=>by
 obtain ⟨x0,ds0,rfl,h0⟩:=datsS hds
 obtain ⟨x1,ds1,rfl,h1⟩:=datsS h0
 have h9:=dats0 h1; subst h9
 exact ev_ret (un:=fun r=>[⟨(.int .i64),r⟩]) loops29_nat (fun _=>rfl) ((ev29 x0 x1).trans (G29_some x0 x1 hpre)))
def env50:Env:={
 tab:=tab
 glob:=glob
 spec:=fun
  | _=>none
 bldT:=bldT
 bld:=bldF }
def orc50:Orc:=⟨15,fun _=>none,fun
 | 0=>kp [0,1,2] []
 | 1=>kp [6] []
 | _=>[],fun | _=>false⟩
noncomputable def body50:Code:=Tryd.f50.body.getD .skip
def loops50:Nat→Option (Sum):=fun | _=>none
theorem loops50_nat:∀ q f,loops50 q=some f→Natural f:=by
 intro q f h
 cases h
theorem loops50_ok:LoopsOk env50 orc50 loops50 body50:=loopsOk_nil (by kernel_rfl)
def G50 (x0:Int) (x1:Int) (x2:Int):Option (Bool) :=
 let v1:Bool:=(decide (x0≥x1))
 let v2:Bool:=(decide (x0≤x2))
 let v3:Bool:=(bif v1 then v2 else false)
 some (v3)
theorem ev50 (x0:Int) (x1:Int) (x2:Int):ev2 env50 orc50 loops50 body50 (initSt 0 [⟨(.int .i64),x0⟩,⟨(.int .i64),x1⟩,⟨(.int .i64),x2⟩]) (retT [(6,.dat .bool)] [.bool] fun x=>x.1)=G50 x0 x1 x2:=by kernel_rfl
def P50 (x0:Int) (x1:Int) (x2:Int):Bool:=(hold (G50 x0 x1 x2)).isSome
def F50 (x0:Int) (x1:Int) (x2:Int):Bool:=(hold (G50 x0 x1 x2)).getD default
theorem G50_some (x0:Int) (x1:Int) (x2:Int) (h:P50 x0 x1 x2=true):G50 x0 x1 x2=some (F50 x0 x1 x2):=by
 unfold P50 at h; unfold F50
 rw [hold_eq] at h ⊢
 exact some_getD h
theorem P50_of (x0:Int) (x1:Int) (x2:Int) {r:Bool} (h:G50 x0 x1 x2=some r):P50 x0 x1 x2=true:=by unfold P50; rw [hold_eq,h]; rfl
theorem F50_of (x0:Int) (x1:Int) (x2:Int) {r:Bool} (h:G50 x0 x1 x2=some r):F50 x0 x1 x2=r:=by unfold F50; rw [hold_eq,h]; rfl
def spec50:Spec:=⟨[(.int .i64),(.int .i64),(.int .i64)],[.dat .bool],fun | [a0,a1,a2]=>P50 (a0.as (.int .i64)) (a1.as (.int .i64)) (a2.as (.int .i64)) | _=>false,fun | [a0,a1,a2]=>[⟨.bool,(F50 (a0.as (.int .i64)) (a1.as (.int .i64)) (a2.as (.int .i64)))⟩] | _=>[]⟩
theorem meets50 (hE:EnvOk Tryd.prog env50) (hm:Tryd.prog.follows .mixedOrders=true):Meets Tryd.prog glob 50 spec50 :=
 meets_of_ev2 (O:=orc50) (L:=loops50) (c:=body50) (slots:=[6]) hE hm Tryd.func50 Tryd.call50 (by kernel_rfl) (by kernel_rfl) loops50_ok (rangesOk_nil (by kernel_rfl)) (by kernel_rfl) rfl (by decide) (fun ds hds hpre=>by
 obtain ⟨x0,ds0,rfl,h0⟩:=datsS hds
 obtain ⟨x1,ds1,rfl,h1⟩:=datsS h0
 obtain ⟨x2,ds2,rfl,h2⟩:=datsS h1
 have h9:=dats0 h2; subst h9
 exact ev_ret (un:=fun r=>[⟨.bool,r⟩]) loops50_nat (fun _=>rfl) ((ev50 x0 x1 x2).trans (G50_some x0 x1 x2 hpre)))
def env57:Env:={
 tab:=tab
 glob:=glob
 spec:=fun
  | 50=>some spec50
  | _=>none
 bldT:=bldT
 bld:=bldF }
def orc57:Orc:=⟨58,fun _=>none,fun
 | 0=>kp [1,2] [(2,[0,1,2,3,4,5,6])]
 | 1=>kp [2,43] [(2,[0,1,2,3,4,5,6])]
 | 2=>kp [4] []
 | 3=>kp [2,46] [(2,[0,1,2,3,4,5,6])]
 | 4=>kp [4] []
 | 5=>kp [4] []
 | _=>[],fun | _=>false⟩
noncomputable def body57:Code:=Tryd.f57.body.getD .skip
def loops57:Nat→Option (Sum):=fun | _=>none
theorem loops57_nat:∀ q f,loops57 q=some f→Natural f:=by
 intro q f h
 cases h
theorem loops57_ok:LoopsOk env57 orc57 loops57 body57:=loopsOk_nil (by kernel_rfl)
def G57 (x0:D26) (x1:Int):Option (Bool) :=
 bif (P50 x0.2.1 (0:Int) (359:Int)) then
 let v1:Bool:=(F50 x0.2.1 (0:Int) (359:Int))
 let v2:Bool:=(!v1)
 let v3:Int:=(IntKind.i64.wrap (x1 - (1:Int)))
 bif ((P50 x0.2.2.1 (0:Int) v3) || !(!v2 && true)) then
 let v4:Bool:=(F50 x0.2.2.1 (0:Int) v3)
 let v5:Bool:=(!v4)
 let v6:Bool:=(bif v2 then true else v5)
 let v7:Int:=(IntKind.i64.wrap (x1 - (1:Int)))
 bif ((P50 x0.2.2.2.1 (0:Int) v7) || !(!v6 && true)) then
 let v8:Bool:=(F50 x0.2.2.2.1 (0:Int) v7)
 let v9:Bool:=(!v8)
 let v10:Bool:=(bif v6 then true else v9)
 let v11:Bool:=(x0.2.2.1==x0.2.2.2.1)
 let v12:Bool:=(bif v10 then true else v11)
 bif ((P50 x0.2.2.2.2.1 (1:Int) (1000000000:Int)) || !(!v12 && true)) then
 let v13:Bool:=(F50 x0.2.2.2.2.1 (1:Int) (1000000000:Int))
 let v14:Bool:=(!v13)
 let v15:Bool:=(bif v12 then true else v14)
 bif ((P50 x0.2.2.2.2.2.1 (0:Int) (999:Int)) || !(!v15 && true)) then
 let v16:Bool:=(F50 x0.2.2.2.2.2.1 (0:Int) (999:Int))
 let v17:Bool:=(!v16)
 let v18:Bool:=(bif v15 then true else v17)
 bif v18 then
 some (false)
 else
 let v19:Bool:=(x0.1==(1:Int))
 bif v19 then
 let v20:Bool:=(x0.2.2.2.2.2.2.1==(-1:Int))
 some (v20)
 else
 let v21:Bool:=(x0.1==(2:Int))
 bif ((P50 x0.2.2.2.2.2.2.1 (0:Int) (199:Int)) || !(v21 && true)) then
 let v22:Bool:=(F50 x0.2.2.2.2.2.2.1 (0:Int) (199:Int))
 let v23:Bool:=(bif v21 then v22 else false)
 some (v23)
 else none
 else none
 else none
 else none
 else none
 else none
theorem ev57 (x0:D26) (x1:Int):ev2 env57 orc57 loops57 body57 (initSt 0 [⟨t26,x0⟩,⟨(.int .i64),x1⟩]) (retT [(4,.dat .bool)] [.bool] fun x=>x.1)=G57 x0 x1:=by kernel_rfl
def P57 (x0:D26) (x1:Int):Bool:=(hold (G57 x0 x1)).isSome
def F57 (x0:D26) (x1:Int):Bool:=(hold (G57 x0 x1)).getD default
theorem G57_some (x0:D26) (x1:Int) (h:P57 x0 x1=true):G57 x0 x1=some (F57 x0 x1):=by
 unfold P57 at h; unfold F57
 rw [hold_eq] at h ⊢
 exact some_getD h
theorem P57_of (x0:D26) (x1:Int) {r:Bool} (h:G57 x0 x1=some r):P57 x0 x1=true:=by unfold P57; rw [hold_eq,h]; rfl
theorem F57_of (x0:D26) (x1:Int) {r:Bool} (h:G57 x0 x1=some r):F57 x0 x1=r:=by unfold F57; rw [hold_eq,h]; rfl
def spec57:Spec:=⟨[t26,(.int .i64)],[.dat .bool],fun | [a0,a1]=>P57 (a0.as t26) (a1.as (.int .i64)) | _=>false,fun | [a0,a1]=>[⟨.bool,(F57 (a0.as t26) (a1.as (.int .i64)))⟩] | _=>[]⟩
theorem meets57 (hE:EnvOk Tryd.prog env57) (hm:Tryd.prog.follows .mixedOrders=true):Meets Tryd.prog glob 57 spec57 :=
 meets_of_ev2 (O:=orc57) (L:=loops57) (c:=body57) (slots:=[4]) hE hm Tryd.func57 Tryd.call57 (by kernel_rfl) (by kernel_rfl) loops57_ok (rangesOk_nil (by kernel_rfl)) (by kernel_rfl) rfl (by decide) (fun ds hds hpre=>by
 obtain ⟨x0,ds0,rfl,h0⟩:=datsS hds
 obtain ⟨x1,ds1,rfl,h1⟩:=datsS h0
 have h9:=dats0 h1; subst h9
 exact ev_ret (un:=fun r=>[⟨.bool,r⟩]) loops57_nat (fun _=>rfl) ((ev57 x0 x1).trans (G57_some x0 x1 hpre)))
def env37:Env:={
 tab:=tab
 glob:=glob
 spec:=fun
  | 50=>some spec50
  | 57=>some spec57
  | _=>none
 bldT:=bldT
 bld:=bldF }
def orc37:Orc:=⟨115,fun _=>none,fun
 | 0=>kp [1] [(1,[0,1,2])]
 | 1=>kp [1,22] [(1,[0,1,2])]
 | 2=>kp [2] []
 | 3=>kp [1,3] [(1,[0,1,2])]
 | 4=>kp [1,3,4] [(1,[0,1,2])]
 | 5=>kp [1,3,4,31] [(1,[0,1,2])]
 | 6=>kp [1,3,4] [(1,[0,1,2])]
 | 7=>kp [1,3,4,5] [(1,[0,1,2]),(5,[0,1,2,3,4,5,6])]
 | 8=>kp [1,3,4,5,59] [(1,[0,1,2]),(5,[0,1,2,3,4,5,6])]
 | 9=>kp [2] []
 | 10=>kp [1,3,4,5,62] [(1,[0,1,2]),(5,[0,1,2,3,4,5,6])]
 | 11=>kp [1,3,4,5,73] [(1,[0,1,2]),(5,[0,1,2,3,4,5,6])]
 | 12=>kp [2] []
 | 13=>kp [1,3,4,5,6] [(1,[0,1,2]),(5,[0,1,2,3,4,5,6]),(6,[0,1,2,3,4,5,6])]
 | 14=>kp [1,3,4,5,110] [(1,[0,1,2]),(5,[0,1,2,3,4,5,6])]
 | 15=>kp [2] []
 | 16=>kp [1,3,4] [(1,[0,1,2])]
 | 17=>kp [2] []
 | _=>[],fun | _=>false⟩
noncomputable def body37:Code:=Tryd.f37.body.getD .skip
abbrev L37_5_T:Type:=(List Bool)×Int×Int×Tlp×Int
def L37_5_sh:Shape:=[(.slot 1,.ptr 1 0),(.slot 3,.own 4 .bool),(.slot 4,.dat (.int .i64)),(.box 1,.bx 24 3),(.cell 1 0,.dat (.int .i64)),(.cell 1 1,.dat (.list t26)),(.cell 1 2,.dat (.int .i64))]
def L37_5_x0:Shape:=[(.slot 2,.dat .bool)]
def L37_5_x1:Shape:=[(.slot 1,.ptr 1 0),(.slot 3,.own 4 .bool),(.slot 4,.dat (.int .i64)),(.box 1,.bx 24 3),(.cell 1 0,.dat (.int .i64)),(.cell 1 1,.dat (.list t26)),(.cell 1 2,.dat (.int .i64))]
def L37_5_pk (s:Tup L37_5_sh):L37_5_T:=(s.2.1,s.2.2.1,s.2.2.2.2.1,s.2.2.2.2.2.1,s.2.2.2.2.2.2.1)
def L37_5_un (s:(List Bool)×Int×Int×Tlp×Int):Tup L37_5_sh:=((),(s.1,(s.2.1,((),(s.2.2.1,(s.2.2.2.1,(s.2.2.2.2,())))))))
def L37_5_leave (x:(Bool)⊕L37_5_T) (R:Type) (K:Cont R):Option R:=match x with
 | (.inl a)=>K .ret (mkSt L37_5_x0 (a,()))
 | (.inr a)=>K (.exit 0) (mkSt L37_5_x1 ((),(a.1,(a.2.1,((),(a.2.2.1,(a.2.2.2.1,(a.2.2.2.2,()))))))))
def L37_5_d (e:Exit) (st:St):Option ((Bool)⊕L37_5_T):=match e with
 | .ret=>(match unSt L37_5_x0 st with
  | some s=>some (.inl s.1)
  | none=>none)
 | .exit 0=>(match unSt L37_5_x1 st with
  | some s=>some (.inr (s.2.1,s.2.2.1,s.2.2.2.2.1,s.2.2.2.2.2.1,s.2.2.2.2.2.2.1))
  | none=>none)
 | _=>none
def L37_5_r (s0:(List Bool)) (s1:Int) (s2:Int) (s3:Tlp) (s4:Int):Option (L37_5_T⊕((Bool)⊕L37_5_T)) :=
 let v11:Int:=((List.length s3:Nat):Int)
 let v12:Bool:=(decide (s1 < v11))
 bif v12 then
 bif (decide (0≤s1) && decide (s1 < List.length s3)) then
 let v13:D26:=(List.getD s3 (Int.toNat s1) z26)
 bif (P57 v13 s2) then
 let v14:Bool:=(F57 v13 s2)
 let v15:Bool:=(!v14)
 let v16:Bool:=(decide (s1 > (0:Int)))
 let v17:Int:=(IntKind.i64.wrap (s1 - (1:Int)))
 bif ((decide (0≤v17) && decide (v17 < List.length s3)) || !(v16 && (!v15 && true))) then
 let v18:D26:=(List.getD s3 (Int.toNat v17) z26)
 let v19:Bool:=(decide (v13.2.1 < v18.2.1))
 let v20:Bool:=(bif v16 then v19 else false)
 let v21:Bool:=(bif v15 then true else v20)
 bif v21 then
 some (.inr (.inl false))
 else
 let v22:Bool:=(v13.1==(1:Int))
 bif v22 then
 let v23:Int:=(IntKind.i64.wrap (s1+(1:Int)))
 some (.inl (s0,v23,s2,s3,s4))
 else
 let v24:Bool:=(decide (v13.2.2.2.2.2.2.1≥s1))
 bif ((decide (0≤v13.2.2.2.2.2.2.1) && decide (v13.2.2.2.2.2.2.1 < (List.length s0))) || !(!v24 && true)) then
 bif ((decide ((Int.toNat v13.2.2.2.2.2.2.1) < List.length s0)) || !(!v24 && true)) then
 let v25:Bool:=(List.getD s0 (Int.toNat v13.2.2.2.2.2.2.1) false)
 let v26:Bool:=(bif v24 then true else v25)
 bif v26 then
 some (.inr (.inl false))
 else
 bif (decide (0≤v13.2.2.2.2.2.2.1) && decide (v13.2.2.2.2.2.2.1 < List.length s3)) then
 let v27:D26:=(List.getD s3 (Int.toNat v13.2.2.2.2.2.2.1) z26)
 let v28:Bool:=(v27.1 != (1:Int))
 let v29:Bool:=(v13.2.2.1 != v27.2.2.2.1)
 let v30:Bool:=(bif v28 then true else v29)
 let v31:Bool:=(v13.2.2.2.1 != v27.2.2.1)
 let v32:Bool:=(bif v30 then true else v31)
 let v33:Bool:=(v13.2.2.2.2.1 != v27.2.2.2.2.1)
 let v34:Bool:=(bif v32 then true else v33)
 let v35:Bool:=(v13.2.2.2.2.2.1 != v27.2.2.2.2.2.1)
 let v36:Bool:=(bif v34 then true else v35)
 bif v36 then
 some (.inr (.inl false))
 else
 bif (decide (0≤v13.2.2.2.2.2.2.1) && decide (v13.2.2.2.2.2.2.1 < (List.length s0))) then
 bif (decide ((Int.toNat v13.2.2.2.2.2.2.1) < List.length s0)) then
 let v37:(List Bool):=(List.set s0 (Int.toNat v13.2.2.2.2.2.2.1) true)
 let v38:Int:=(IntKind.i64.wrap (s1+(1:Int)))
 some (.inl (v37,v38,s2,s3,s4))
 else none
 else none
 else none
 else none
 else none
 else none
 else none
 else none
 else
 some (.inr (.inr (s0,s1,s2,s3,s4)))
def L37_5:L37_5_T→Option ((Bool)⊕L37_5_T):=Lim (fun s=>L37_5_r s.1 s.2.1 s.2.2.1 s.2.2.2.1 s.2.2.2.2)
def L37_5_sum:Sum:=limSum L37_5_sh L37_5_pk (fun s=>L37_5_r s.1 s.2.1 s.2.2.1 s.2.2.2.1 s.2.2.2.2) L37_5_leave
theorem L37_5_nat:Natural L37_5_sum:=natural_lim fun x R K=>by
 rcases x with x|x<;>rfl
theorem L37_5_dok:∀ e st x,e≠.normal→L37_5_d e st=some x→∀ R (K:Cont R),K e st=L37_5_leave x R K:=by
 intro e st x _ h R K
 unfold L37_5_d at h
 split at h
 ·split at h
  ·rename_i s hs; cases h; rw [unSt_some hs]; rfl
  ·cases h
 ·split at h
  ·rename_i s hs; cases h; rw [unSt_some hs]; rfl
  ·cases h
 ·cases h
def loops37:Nat→Option (Sum):=fun | 5=>some L37_5_sum | _=>none
theorem loops37_nat:∀ q f,loops37 q=some f→Natural f:=by
 intro q f h
 unfold loops37 at h
 split at h
 ·cases h; exact L37_5_nat
 ·cases h
noncomputable def L37_5_code:Code:=(loopsOf body37).getD 0 .skip
theorem L37_5_round (s0:(List Bool)) (s1:Int) (s2:Int) (s3:Tlp) (s4:Int):ev2 env37 orc37 loops37 L37_5_code (mkSt L37_5_sh ((),(s0,(s1,((),(s2,(s3,(s4,())))))))) (back L37_5_sh L37_5_pk L37_5_d)=L37_5_r s0 s1 s2 s3 s4:=by kernel_rfl
theorem L37_5_ok:SumOk env37 orc37 loops37 L37_5_code L37_5_sum:=sumOk_lim (un:=L37_5_un) loops37_nat (fun _=>rfl) L37_5_dok fun s=>L37_5_round s.1 s.2.1 s.2.2.1 s.2.2.2.1 s.2.2.2.2
theorem loops37_all:loopsOf body37=[L37_5_code]:=by kernel_rfl
theorem L37_5_key:lookL loops37 (keyOf L37_5_code)=some L37_5_sum:=by kernel_rfl
theorem loops37_ok:LoopsOk env37 orc37 loops37 body37:=by
 intro c hc f hf
 rw [loops37_all] at hc
 simp only [List.mem_cons,List.not_mem_nil,or_false] at hc
 subst hc
 ·rw [L37_5_key] at hf; cases hf; exact L37_5_ok
def G37 (x0:D23):Option (Bool) :=
 bif (P50 x0.1 (2:Int) (12:Int)) then
 let v1:Bool:=(F50 x0.1 (2:Int) (12:Int))
 let v2:Bool:=(!v1)
 bif ((P50 x0.2.2.1 (0:Int) (12:Int)) || !(!v2 && true)) then
 let v3:Bool:=(F50 x0.2.2.1 (0:Int) (12:Int))
 let v4:Bool:=(!v3)
 let v5:Bool:=(bif v2 then true else v4)
 let v6:Int:=((List.length x0.2.1:Nat):Int)
 let v7:Bool:=(decide (v6 > (200:Int)))
 let v8:Bool:=(bif v5 then true else v7)
 bif v8 then
 some (false)
 else
 let v9:Int:=((List.length x0.2.1:Nat):Int)
 bif (decide (0≤v9) && decide (v9≤v9) && decide (v9≤100000000000)) then
 let v10:(List Bool):=(List.replicate (Int.toNat v9) false)
 Option.bind (L37_5 (v10,(0:Int),x0.1,x0.2.1,x0.2.2.1)) fun x=>match x with
 | (.inl r39) =>
 some (r39)
 | (.inr r40) =>
 some (true)
 else none
 else none
 else none
theorem ev37 (x0:D23):ev2 env37 orc37 loops37 body37 (initSt 0 [⟨t23,x0⟩]) (retT [(2,.dat .bool)] [.bool] fun x=>x.1)=G37 x0:=by kernel_rfl
def P37 (x0:D23):Bool:=(hold (G37 x0)).isSome
def F37 (x0:D23):Bool:=(hold (G37 x0)).getD default
theorem G37_some (x0:D23) (h:P37 x0=true):G37 x0=some (F37 x0):=by
 unfold P37 at h; unfold F37
 rw [hold_eq] at h ⊢
 exact some_getD h
theorem P37_of (x0:D23) {r:Bool} (h:G37 x0=some r):P37 x0=true:=by unfold P37; rw [hold_eq,h]; rfl
theorem F37_of (x0:D23) {r:Bool} (h:G37 x0=some r):F37 x0=r:=by unfold F37; rw [hold_eq,h]; rfl
def spec37:Spec:=⟨[t23],[.dat .bool],fun | [a0]=>P37 (a0.as t23) | _=>false,fun | [a0]=>[⟨.bool,(F37 (a0.as t23))⟩] | _=>[]⟩
theorem meets37 (hE:EnvOk Tryd.prog env37) (hm:Tryd.prog.follows .mixedOrders=true):Meets Tryd.prog glob 37 spec37 :=
 meets_of_ev2 (O:=orc37) (L:=loops37) (c:=body37) (slots:=[2]) hE hm Tryd.func37 Tryd.call37 (by kernel_rfl) (by kernel_rfl) loops37_ok (rangesOk_nil (by kernel_rfl)) (by kernel_rfl) rfl (by decide) (fun ds hds hpre=>by
 obtain ⟨x0,ds0,rfl,h0⟩:=datsS hds
 have h9:=dats0 h0; subst h9
 exact ev_ret (un:=fun r=>[⟨.bool,r⟩]) loops37_nat (fun _=>rfl) ((ev37 x0).trans (G37_some x0 hpre)))
def pin30:Shape:=[(.slot 0,.dat t23),(.slot 1,.dat t26)]
def pout30:Shape:=[(.slot 0,.dat t23),(.slot 1,.dat (.int .i64)),(.slot 2,.dat (.int .i64))]
def env30:Env:={
 tab:=tab
 glob:=glob
 spec:=fun
  | 37=>some spec37
  | _=>none
 bldT:=bldT
 bld:=bldF }
def orc30:Orc:=⟨38,fun _=>none,fun
 | 0=>kp [2,3,4] [(2,[0,1,2]),(3,[0,1,2,3,4,5,6]),(4,[0,1,2])]
 | 1=>kp [2,3,4,7] [(2,[0,1,2]),(3,[0,1,2,3,4,5,6]),(4,[0,1,2]),(7,[0,1,2])]
 | 2=>kp [2,3,4,7] [(2,[0,1,2]),(3,[0,1,2,3,4,5,6]),(4,[0,1,2]),(7,[0])]++[(.cell 7 1,.frz)]++[(.cell 7 2,.own)]
 | 3=>kp [2,4,7,32] [(2,[0,1,2]),(4,[0,1,2]),(7,[0,1,2])]
 | 4=>kp [4,5,6] [(4,[0,1,2])]
 | 5=>kp [4,5,6] [(4,[0,1,2])]
 | _=>[],fun | _=>false⟩
noncomputable def body30:Code:=Tryd.f30.body.getD .skip
def loops30:Nat→Option (Sum):=fun | _=>none
theorem loops30_ok:LoopsOk env30 orc30 loops30 body30:=loopsOk_nil (by kernel_rfl)
def G30 (x0:D23) (x1:D26):Option (D23×(Int×(Int×Unit))) :=
 let v1:Tlp:=([]:Tlp)
 let v2:Tlp:=([]:Tlp)
 let v3:Tlp:=([]:Tlp)
 let v4:Tlp:=([]:Tlp)
 let v5:Tlp:=(List.replicate 0 z26)
 bif (decide (List.length (List.take (List.length v5) v5)+List.length x0.2.1≤100000000000)) then
 let v6:Tlp:=((List.take (List.length v5) v5)++x0.2.1)
 let v7:Tlp:=(List.set (List.replicate 1 z26) 0 x1)
 bif (decide (List.length (List.take (List.length v6) v6)+List.length v7≤100000000000)) then
 let v8:Tlp:=((List.take (List.length v6) v6)++v7)
 bif (P37 x0) then
 let v9:Bool:=(F37 x0)
 let v10:Bool:=(!v9)
 bif ((P37 (x0.1,(v8,x0.2.2))) || !(!v10 && true)) then
 let v11:Bool:=(F37 (x0.1,(v8,x0.2.2)))
 let v12:Bool:=(!v11)
 let v13:Bool:=(bif v10 then true else v12)
 let v14:Int:=(IntKind.i64.wrap ((30:Int) * x0.2.2.1))
 let v15:Bool:=(decide (x1.2.1 < v14))
 let v16:Bool:=(bif v13 then true else v15)
 bif v16 then
 let v17:Tlp:=([]:Tlp)
 some (((0:Int),(v17,((0:Int),()))),((0:Int),((310:Int),())))
 else
 let v18:Int:=((List.length x0.2.1:Nat):Int)
 some ((x0.1,(v8,x0.2.2)),(v18,((0:Int),())))
 else none
 else none
 else none
 else none
def P30 (x0:D23) (x1:D26):Bool:=(hold (G30 x0 x1)).isSome
def F30 (x0:D23) (x1:D26):(D23×(Int×(Int×Unit))):=(hold (G30 x0 x1)).getD (Tup.zero pout30)
theorem P30_of (x0:D23) (x1:D26) {r:(D23×(Int×(Int×Unit)))} (h:G30 x0 x1=some r):P30 x0 x1=true:=by unfold P30; rw [hold_eq,h]; rfl
theorem F30_of (x0:D23) (x1:D26) {r:(D23×(Int×(Int×Unit)))} (h:G30 x0 x1=some r):F30 x0 x1=r:=by unfold F30; rw [hold_eq,h]; rfl
theorem ev30 (x0:D23) (x1:D26):ev2 env30 orc30 loops30 body30 (mkSt pin30 (x0,(x1,()))) (retK3 env30 [.cell 4 24,.slot 5,.slot 6] pout30)=G30 x0 x1:=by kernel_rfl
def sp30:Spec2:=⟨pin30,pout30,fun s=>hold (G30 s.1 s.2.1)⟩
theorem fit30:Fit Tryd.f30 [.cell 4 24,.slot 5,.slot 6] sp30:=⟨by kernel_rfl,by kernel_rfl,by kernel_rfl,by kernel_rfl,by kernel_rfl,by decide,by decide,by decide⟩
theorem meets30 (hE:EnvOk Tryd.prog env30) (hm:Tryd.prog.follows .mixedOrders=true):Meets2 Tryd.prog glob 30 sp30 :=
 meets2_of_ev2 (O:=orc30) (L:=loops30) (c:=body30) (rs:=[.cell 4 24,.slot 5,.slot 6]) hE (fun _=>rfl) hm Tryd.func30 Tryd.call30 (by kernel_rfl) (by kernel_rfl) loops30_ok (rangesOk_nil (by kernel_rfl)) fit30 (fun s o h=>(ev30 s.1 s.2.1).trans ((hold_eq _).symm.trans h))
def pin31:Shape:=[(.slot 0,.dat t23),(.slot 1,.dat (.int .i64)),(.slot 2,.dat (.int .i64)),(.slot 3,.dat (.int .i64))]
def pout31:Shape:=[(.slot 0,.dat t23),(.slot 1,.dat (.int .i64))]
def env31:Env:={
 tab:=tab
 glob:=glob
 spec:=fun
  | 50=>some spec50
  | _=>none
 spec2:=fun
  | 30,[]=>some sp30
  | _,_=>none
 bldT:=bldT
 bld:=bldF }
def orc31:Orc:=⟨74,fun _=>none,fun
 | 0=>kp [1,2,3,4,8] [(4,[0,1,2]),(8,[0,1,2])]
 | 1=>kp [1,2,3,4,8,28] [(4,[0,1,2]),(8,[0,1,2])]
 | 2=>kp [8,9] [(8,[0,1,2])]
 | 3=>kp [1,2,3,4,8,10] [(4,[0,1,2]),(8,[0,1,2]),(10,[0,1,2,3,4,5,6])]
 | 4=>kp [2,3,4,8,10,11] [(4,[0,1,2]),(8,[0,1,2]),(10,[0,1,2,3,4,5,6]),(11,[0,1,2,3,4,5,6])]
 | 5=>kp [2,3,8,10,12,14] [(8,[0,1,2]),(10,[0,1,2,3,4,5,6]),(12,[0,1,2])]
 | 6=>kp [2,3,8,10,12,14,58] [(8,[0,1,2]),(10,[0,1,2,3,4,5,6]),(12,[0,1,2])]
 | 7=>kp [8,9] [(8,[0,1,2])]
 | 8=>kp [3,8,10,12] [(8,[0,1,2]),(10,[0,1,2,3,4,5,6]),(12,[0,1,2])]
 | 9=>kp [8,10,12] [(8,[0,1,2]),(10,[0,1,2,3,4,5,6]),(12,[0,1,2])]
 | 10=>kp [8,12,14] [(8,[0,1,2]),(12,[0,1,2])]
 | 11=>kp [8,9] [(8,[0,1,2])]
 | _=>[],fun | _=>false⟩
noncomputable def body31:Code:=Tryd.f31.body.getD .skip
def loops31:Nat→Option (Sum):=fun | _=>none
theorem loops31_ok:LoopsOk env31 orc31 loops31 body31:=loopsOk_nil (by kernel_rfl)
def G31 (x0:D23) (x1:Int) (x2:Int) (x3:Int):Option (D23×(Int×Unit)) :=
 let v1:Tlp:=([]:Tlp)
 let v2:Tlp:=([]:Tlp)
 let v3:Bool:=(decide (x1 < (0:Int)))
 let v4:Int:=((List.length x0.2.1:Nat):Int)
 let v5:Bool:=(decide (x1≥v4))
 let v6:Bool:=(bif v3 then true else v5)
 bif ((P50 x3 (0:Int) (1000000000:Int)) || !(!v6 && true)) then
 let v7:Bool:=(F50 x3 (0:Int) (1000000000:Int))
 let v8:Bool:=(!v7)
 let v9:Bool:=(bif v6 then true else v8)
 bif v9 then
 let v10:Tlp:=([]:Tlp)
 some (((0:Int),(v10,((0:Int),()))),((310:Int),()))
 else
 bif (decide (0≤x1) && decide (x1 < List.length x0.2.1)) then
 let v11:D26:=(List.getD x0.2.1 (Int.toNat x1) z26)
 bif (P30 x0 ((2:Int),(x2,(v11.2.2.2.1,(v11.2.2.1,(v11.2.2.2.2.1,(v11.2.2.2.2.2.1,(x1,())))))))) then
 let q12:(D23×(Int×(Int×Unit))):=F30 x0 ((2:Int),(x2,(v11.2.2.2.1,(v11.2.2.1,(v11.2.2.2.2.1,(v11.2.2.2.2.2.1,(x1,())))))))
 let v13:Tlp:=([]:Tlp)
 let v14:Tlp:=([]:Tlp)
 let v15:Bool:=(q12.2.2.1 != (0:Int))
 let v16:Bool:=(x3==(0:Int))
 let v17:Bool:=(bif v15 then true else v16)
 bif v17 then
 some (q12.1,q12.2.2)
 else
 bif (P30 q12.1 (v11.1,(x2,(v11.2.2.1,(v11.2.2.2.1,(x3,v11.2.2.2.2.2)))))) then
 let q18:(D23×(Int×(Int×Unit))):=F30 q12.1 (v11.1,(x2,(v11.2.2.1,(v11.2.2.2.1,(x3,v11.2.2.2.2.2)))))
 some (q18.1,q18.2.2)
 else none
 else none
 else none
 else none
def P31 (x0:D23) (x1:Int) (x2:Int) (x3:Int):Bool:=(hold (G31 x0 x1 x2 x3)).isSome
def F31 (x0:D23) (x1:Int) (x2:Int) (x3:Int):(D23×(Int×Unit)):=(hold (G31 x0 x1 x2 x3)).getD (Tup.zero pout31)
theorem P31_of (x0:D23) (x1:Int) (x2:Int) (x3:Int) {r:(D23×(Int×Unit))} (h:G31 x0 x1 x2 x3=some r):P31 x0 x1 x2 x3=true:=by unfold P31; rw [hold_eq,h]; rfl
theorem F31_of (x0:D23) (x1:Int) (x2:Int) (x3:Int) {r:(D23×(Int×Unit))} (h:G31 x0 x1 x2 x3=some r):F31 x0 x1 x2 x3=r:=by unfold F31; rw [hold_eq,h]; rfl
theorem ev31 (x0:D23) (x1:Int) (x2:Int) (x3:Int):ev2 env31 orc31 loops31 body31 (mkSt pin31 (x0,(x1,(x2,(x3,()))))) (retK3 env31 [.cell 8 24,.slot 9] pout31)=G31 x0 x1 x2 x3:=by kernel_rfl
def sp31:Spec2:=⟨pin31,pout31,fun s=>hold (G31 s.1 s.2.1 s.2.2.1 s.2.2.2.1)⟩
theorem fit31:Fit Tryd.f31 [.cell 8 24,.slot 9] sp31:=⟨by kernel_rfl,by kernel_rfl,by kernel_rfl,by kernel_rfl,by kernel_rfl,by decide,by decide,by decide⟩
theorem meets31 (hE:EnvOk Tryd.prog env31) (hm:Tryd.prog.follows .mixedOrders=true):Meets2 Tryd.prog glob 31 sp31 :=
 meets2_of_ev2 (O:=orc31) (L:=loops31) (c:=body31) (rs:=[.cell 8 24,.slot 9]) hE (fun _=>rfl) hm Tryd.func31 Tryd.call31 (by kernel_rfl) (by kernel_rfl) loops31_ok (rangesOk_nil (by kernel_rfl)) fit31 (fun s o h=>(ev31 s.1 s.2.1 s.2.2.1 s.2.2.2.1).trans ((hold_eq _).symm.trans h))
def pin32:Shape:=[(.slot 0,.dat t23),(.slot 1,.dat (.int .i64))]
def pout32:Shape:=[(.slot 0,.dat t23),(.slot 1,.dat (.int .i64))]
def env32:Env:={
 tab:=tab
 glob:=glob
 spec:=fun
  | 37=>some spec37
  | 50=>some spec50
  | _=>none
 bldT:=bldT
 bld:=bldF }
def orc32:Orc:=⟨32,fun _=>none,fun
 | 0=>kp [1,2,4] [(2,[0,1,2]),(4,[0,1,2])]
 | 1=>kp [1,2,4,20] [(2,[0,1,2]),(4,[0,1,2])]
 | 2=>kp [4,5] [(4,[0,1,2])]
 | 3=>kp [1,2,4,6] [(2,[0,1,2]),(4,[0,1,2]),(6,[0,1,2])]
 | 4=>kp [1,4,6] [(4,[0,1,2]),(6,[0,1,2])]
 | 5=>kp [4,6] [(4,[0,1,2]),(6,[0,1,2])]
 | 6=>kp [4,5] [(4,[0,1,2])]
 | _=>[],fun | _=>false⟩
noncomputable def body32:Code:=Tryd.f32.body.getD .skip
def loops32:Nat→Option (Sum):=fun | _=>none
theorem loops32_ok:LoopsOk env32 orc32 loops32 body32:=loopsOk_nil (by kernel_rfl)
def G32 (x0:D23) (x1:Int):Option (D23×(Int×Unit)) :=
 let v1:Tlp:=([]:Tlp)
 let v2:Tlp:=([]:Tlp)
 bif (P37 x0) then
 let v3:Bool:=(F37 x0)
 let v4:Bool:=(!v3)
 let v5:Bool:=(x1 != x0.2.2.1)
 let v6:Bool:=(bif v4 then true else v5)
 bif ((P50 x1 (0:Int) (11:Int)) || !(!v6 && true)) then
 let v7:Bool:=(F50 x1 (0:Int) (11:Int))
 let v8:Bool:=(!v7)
 let v9:Bool:=(bif v6 then true else v8)
 bif v9 then
 let v10:Tlp:=([]:Tlp)
 some (((0:Int),(v10,((0:Int),()))),((310:Int),()))
 else
 let v11:Tlp:=([]:Tlp)
 let v12:Tlp:=([]:Tlp)
 let v13:Tlp:=(List.replicate 0 z26)
 bif (decide (List.length (List.take (List.length v13) v13)+List.length x0.2.1≤100000000000)) then
 let v14:Tlp:=((List.take (List.length v13) v13)++x0.2.1)
 let v15:Int:=(IntKind.i64.wrap (x1+(1:Int)))
 some ((x0.1,(v14,(v15,()))),((0:Int),()))
 else none
 else none
 else none
def P32 (x0:D23) (x1:Int):Bool:=(hold (G32 x0 x1)).isSome
def F32 (x0:D23) (x1:Int):(D23×(Int×Unit)):=(hold (G32 x0 x1)).getD (Tup.zero pout32)
theorem P32_of (x0:D23) (x1:Int) {r:(D23×(Int×Unit))} (h:G32 x0 x1=some r):P32 x0 x1=true:=by unfold P32; rw [hold_eq,h]; rfl
theorem F32_of (x0:D23) (x1:Int) {r:(D23×(Int×Unit))} (h:G32 x0 x1=some r):F32 x0 x1=r:=by unfold F32; rw [hold_eq,h]; rfl
theorem ev32 (x0:D23) (x1:Int):ev2 env32 orc32 loops32 body32 (mkSt pin32 (x0,(x1,()))) (retK3 env32 [.cell 4 24,.slot 5] pout32)=G32 x0 x1:=by kernel_rfl
def sp32:Spec2:=⟨pin32,pout32,fun s=>hold (G32 s.1 s.2.1)⟩
theorem fit32:Fit Tryd.f32 [.cell 4 24,.slot 5] sp32:=⟨by kernel_rfl,by kernel_rfl,by kernel_rfl,by kernel_rfl,by kernel_rfl,by decide,by decide,by decide⟩
theorem meets32 (hE:EnvOk Tryd.prog env32) (hm:Tryd.prog.follows .mixedOrders=true):Meets2 Tryd.prog glob 32 sp32 :=
 meets2_of_ev2 (O:=orc32) (L:=loops32) (c:=body32) (rs:=[.cell 4 24,.slot 5]) hE (fun _=>rfl) hm Tryd.func32 Tryd.call32 (by kernel_rfl) (by kernel_rfl) loops32_ok (rangesOk_nil (by kernel_rfl)) fit32 (fun s o h=>(ev32 s.1 s.2.1).trans ((hold_eq _).symm.trans h))
def pin8:Shape:=[(.slot 0,.dat (.int .i64)),(.slot 1,.dat (.list (.arr 5 (.int .i64))))]
def pout8:Shape:=[(.slot 0,.dat t23)]
def env8:Env:={
 tab:=tab
 glob:=glob
 spec:=fun
  | 29=>some spec29
  | _=>none
 spec2:=fun
  | 30,[]=>some sp30
  | 31,[]=>some sp31
  | 32,[]=>some sp32
  | _,_=>none
 bldT:=bldT
 bld:=bldF }
def orc8:Orc:=⟨131,fun _=>none,fun
 | 0=>kp [0,1,4] [(4,[0,1,2])]
 | 1=>kp [1,4,5] [(4,[0,1,2]),(5,[0,1,2])]
 | 2=>kp [1,4,5,6] [(4,[0,1,2]),(5,[0,1,2])]
 | 3=>kp [1,4,5,6,7] [(4,[0,1,2]),(5,[0,1,2])]
 | 4=>kp [1,4,5,6,7,24] [(4,[0,1,2]),(5,[0,1,2])]
 | 5=>kp [1,4,5,6,7] [(4,[0,1,2]),(5,[0,1,2])]
 | 6=>kp [1,4,5,6,7] [(4,[0,1,2]),(5,[0,1,2])]
 | 7=>kp [1,4,5,6,7,8] [(4,[0,1,2]),(5,[0,1,2])]
 | 8=>kp [1,4,5,6,7,9] [(4,[0,1,2]),(5,[0,1,2]),(9,[0,1,2,3,4,5,6])]
 | 9=>kp [1,4,5,6,7,10,12] [(4,[0,1,2]),(5,[0,1,2]),(10,[0,1,2])]
 | 10=>kp [1,4,5,6,7,10,12,87] [(4,[0,1,2]),(5,[0,1,2]),(10,[0,1,2])]
 | 11=>kp [1,4,5,6,7,10,12,87,88] [(4,[0,1,2]),(5,[0,1,2]),(10,[0,1,2])]
 | 12=>kp [1,4,5,6,7,10,12] [(4,[0,1,2]),(5,[0,1,2]),(10,[0,1,2])]
 | 13=>kp [1,4,5,6,7,10,12,112] [(4,[0,1,2]),(5,[0,1,2]),(10,[0,1,2])]
 | 14=>kp [1,4,5,6,7,10,12] [(4,[0,1,2]),(5,[0,1,2]),(10,[0,1,2])]
 | 15=>kp [1,4,5,6,7,10,12] [(4,[0,1,2]),(5,[0,1,2]),(10,[0,1,2])]
 | 16=>kp [1,4,5,6,7,10,128] [(4,[0,1,2]),(5,[0,1,2]),(10,[0,1,2])]
 | 17=>kp [1,4,5,6,7] [(4,[0,1,2]),(5,[0,1,2])]
 | 18=>kp [4] [(4,[0,1,2])]
 | _=>[],fun | _=>false⟩
noncomputable def body8:Code:=Tryd.f8.body.getD .skip
abbrev L8_4_T:Type:=(List Tin)×Int×Int×Int×Tlp×Int×Int×Tlp×Int
def L8_4_sh:Shape:=[(.slot 1,.dat (.list (.arr 5 (.int .i64)))),(.slot 4,.ptr 4 0),(.slot 5,.ptr 5 0),(.slot 6,.dat (.int .i64)),(.slot 7,.dat (.int .i64)),(.box 4,.bx 24 3),(.cell 4 0,.dat (.int .i64)),(.cell 4 1,.own 27 t26),(.cell 4 2,.dat (.int .i64)),(.box 5,.bx 24 3),(.cell 5 0,.dat (.int .i64)),(.cell 5 1,.dat (.list t26)),(.cell 5 2,.dat (.int .i64))]
def L8_4_x0:Shape:=[(.slot 1,.dat (.list (.arr 5 (.int .i64)))),(.slot 4,.ptr 4 0),(.slot 5,.ptr 5 0),(.slot 6,.dat (.int .i64)),(.slot 7,.dat (.int .i64)),(.box 4,.bx 24 3),(.cell 4 0,.dat (.int .i64)),(.cell 4 1,.own 27 t26),(.cell 4 2,.dat (.int .i64)),(.box 5,.bx 24 3),(.cell 5 0,.dat (.int .i64)),(.cell 5 1,.dat (.list t26)),(.cell 5 2,.dat (.int .i64))]
def L8_4_pk (s:Tup L8_4_sh):L8_4_T:=(s.1,s.2.2.2.1,s.2.2.2.2.1,s.2.2.2.2.2.2.1,s.2.2.2.2.2.2.2.1,s.2.2.2.2.2.2.2.2.1,s.2.2.2.2.2.2.2.2.2.2.1,s.2.2.2.2.2.2.2.2.2.2.2.1,s.2.2.2.2.2.2.2.2.2.2.2.2.1)
def L8_4_un (s:(List Tin)×Int×Int×Int×Tlp×Int×Int×Tlp×Int):Tup L8_4_sh:=(s.1,((),((),(s.2.1,(s.2.2.1,((),(s.2.2.2.1,(s.2.2.2.2.1,(s.2.2.2.2.2.1,((),(s.2.2.2.2.2.2.1,(s.2.2.2.2.2.2.2.1,(s.2.2.2.2.2.2.2.2,())))))))))))))
def L8_4_leave (x:L8_4_T) (R:Type) (K:Cont R):Option R:=match x with
 | a=>K (.exit 0) (mkSt L8_4_x0 (a.1,((),((),(a.2.1,(a.2.2.1,((),(a.2.2.2.1,(a.2.2.2.2.1,(a.2.2.2.2.2.1,((),(a.2.2.2.2.2.2.1,(a.2.2.2.2.2.2.2.1,(a.2.2.2.2.2.2.2.2,()))))))))))))))
def L8_4_d (e:Exit) (st:St):Option (L8_4_T):=match e with
 | .exit 0=>(match unSt L8_4_x0 st with
  | some s=>some (s.1,s.2.2.2.1,s.2.2.2.2.1,s.2.2.2.2.2.2.1,s.2.2.2.2.2.2.2.1,s.2.2.2.2.2.2.2.2.1,s.2.2.2.2.2.2.2.2.2.2.1,s.2.2.2.2.2.2.2.2.2.2.2.1,s.2.2.2.2.2.2.2.2.2.2.2.2.1)
  | none=>none)
 | _=>none
def L8_4_r (s0:(List Tin)) (s1:Int) (s2:Int) (s3:Int) (s4:Tlp) (s5:Int) (s6:Int) (s7:Tlp) (s8:Int):Option (L8_4_T⊕(L8_4_T)) :=
 let v8:Int:=((List.length s0:Nat):Int)
 let v9:Bool:=(decide (s2 < v8))
 let v10:Bool:=(decide (s2 < (24:Int)))
 let v11:Bool:=(bif v9 then v10 else false)
 bif v11 then
 bif (decide (0≤s2) && decide (s2 < List.length s0)) then
 let v12:Tin:=(List.getD s0 (Int.toNat s2) (List.replicate 5 (0:Int)))
 bif (decide (0≤(1:Int)) && decide ((1:Int) < (5:Nat))) then
 let v13:Int:=(List.getD v12 (Int.toNat (1:Int)) (0:Int))
 bif (P29 v13 (20:Int)) then
 let v14:Int:=(F29 v13 (20:Int))
 let v15:Int:=(IntKind.i64.wrap (s1+v14))
 let v16:Int:=(if v15 < (359:Int) then v15 else (359:Int))
 bif (decide (0≤s2) && decide (s2 < List.length s0)) then
 let v17:Tin:=(List.getD s0 (Int.toNat s2) (List.replicate 5 (0:Int)))
 bif (decide (0≤(2:Int)) && decide ((2:Int) < (5:Nat))) then
 let v18:Int:=(List.getD v17 (Int.toNat (2:Int)) (0:Int))
 bif (P29 v18 s6) then
 let v19:Int:=(F29 v18 s6)
 let v20:Int:=(IntKind.i64.wrap (v19+(1:Int)))
 bif (decide (0≤s2) && decide (s2 < List.length s0)) then
 let v21:Tin:=(List.getD s0 (Int.toNat s2) (List.replicate 5 (0:Int)))
 bif (decide (0≤(3:Int)) && decide ((3:Int) < (5:Nat))) then
 let v22:Int:=(List.getD v21 (Int.toNat (3:Int)) (0:Int))
 let v23:Int:=(IntKind.i64.wrap (s6 - (1:Int)))
 bif (P29 v22 v23) then
 let v24:Int:=(F29 v22 v23)
 let v25:Int:=(IntKind.i64.wrap (v20+v24))
 bif (!(s6==0)) then
 let v26:Int:=(Int.tmod v25 s6)
 bif (decide (0≤s2) && decide (s2 < List.length s0)) then
 let v27:Tin:=(List.getD s0 (Int.toNat s2) (List.replicate 5 (0:Int)))
 bif (decide (0≤(4:Int)) && decide ((4:Int) < (5:Nat))) then
 let v28:Int:=(List.getD v27 (Int.toNat (4:Int)) (0:Int))
 bif (P29 v28 (1000:Int)) then
 let v29:Int:=(F29 v28 (1000:Int))
 let v30:Int:=(IntKind.i64.wrap ((1:Int)+v29))
 bif (decide (0≤s2) && decide (s2 < List.length s0)) then
 let v31:Tin:=(List.getD s0 (Int.toNat s2) (List.replicate 5 (0:Int)))
 bif (decide (0≤(4:Int)) && decide ((4:Int) < (5:Nat))) then
 let v32:Int:=(List.getD v31 (Int.toNat (4:Int)) (0:Int))
 bif (P29 v32 (6:Int)) then
 let v33:Int:=(F29 v32 (6:Int))
 bif (P30 (s6,(s7,(s8,()))) ((1:Int),(v16,(v19,(v26,(v30,(v33,((-1:Int),())))))))) then
 let q34:(D23×(Int×(Int×Unit))):=F30 (s6,(s7,(s8,()))) ((1:Int),(v16,(v19,(v26,(v30,(v33,((-1:Int),())))))))
 let v35:Tlp:=([]:Tlp)
 let v36:Tlp:=([]:Tlp)
 bif (decide (0≤s2) && decide (s2 < List.length s0)) then
 let v37:Tin:=(List.getD s0 (Int.toNat s2) (List.replicate 5 (0:Int)))
 bif (decide (0≤(0:Int)) && decide ((0:Int) < (5:Nat))) then
 let v38:Int:=(List.getD v37 (Int.toNat (0:Int)) (0:Int))
 bif (P29 v38 (6:Int)) then
 let v39:Int:=(F29 v38 (6:Int))
 let v40:Bool:=(v39==(4:Int))
 bif v40 then
 bif (decide (0≤s2) && decide (s2 < List.length s0)) then
 let v41:Tin:=(List.getD s0 (Int.toNat s2) (List.replicate 5 (0:Int)))
 bif (decide (0≤(3:Int)) && decide ((3:Int) < (5:Nat))) then
 let v42:Int:=(List.getD v41 (Int.toNat (3:Int)) (0:Int))
 let v43:Int:=((List.length s7:Nat):Int)
 let v44:Int:=(IntKind.i64.wrap (v43+(1:Int)))
 bif (P29 v42 v44) then
 let v45:Int:=(F29 v42 v44)
 bif (decide (0≤s2) && decide (s2 < List.length s0)) then
 let v46:Tin:=(List.getD s0 (Int.toNat s2) (List.replicate 5 (0:Int)))
 bif (decide (0≤(4:Int)) && decide ((4:Int) < (5:Nat))) then
 let v47:Int:=(List.getD v46 (Int.toNat (4:Int)) (0:Int))
 bif (P29 v47 (1000:Int)) then
 let v48:Int:=(F29 v47 (1000:Int))
 bif (P31 (s6,(s7,(s8,()))) v45 v16 v48) then
 let q49:(D23×(Int×Unit)):=F31 (s6,(s7,(s8,()))) v45 v16 v48
 let v50:Bool:=(q49.2.1==(0:Int))
 bif v50 then
 let v51:Int:=(IntKind.i64.wrap (s2+(1:Int)))
 some (.inl (s0,v16,v51,s3,s4,s5,q49.1.1,q49.1.2.1,q49.1.2.2.1))
 else
 let v52:Int:=(IntKind.i64.wrap (s2+(1:Int)))
 some (.inl (s0,v16,v52,s3,s4,s5,s6,s7,s8))
 else none
 else none
 else none
 else none
 else none
 else none
 else none
 else
 let v53:Bool:=(v39==(5:Int))
 bif v53 then
 bif (P32 (s6,(s7,(s8,()))) s8) then
 let q54:(D23×(Int×Unit)):=F32 (s6,(s7,(s8,()))) s8
 let v55:Int:=(IntKind.i64.wrap ((30:Int) * q54.1.2.2.1))
 let v56:Int:=(if v55 < (359:Int) then v55 else (359:Int))
 let v57:Int:=(if v56 > v16 then v56 else v16)
 let v58:Bool:=(q54.2.1==(0:Int))
 bif v58 then
 let v59:Int:=(IntKind.i64.wrap (s2+(1:Int)))
 some (.inl (s0,v57,v59,s3,s4,s5,q54.1.1,q54.1.2.1,q54.1.2.2.1))
 else
 let v60:Int:=(IntKind.i64.wrap (s2+(1:Int)))
 some (.inl (s0,v57,v60,s3,s4,s5,s6,s7,s8))
 else none
 else
 let v61:Bool:=(q34.2.2.1==(0:Int))
 bif v61 then
 let v62:Int:=(IntKind.i64.wrap (s2+(1:Int)))
 some (.inl (s0,v16,v62,s3,s4,s5,q34.1.1,q34.1.2.1,q34.1.2.2.1))
 else
 let v63:Int:=(IntKind.i64.wrap (s2+(1:Int)))
 some (.inl (s0,v16,v63,s3,s4,s5,s6,s7,s8))
 else none
 else none
 else none
 else none
 else none
 else none
 else none
 else none
 else none
 else none
 else none
 else none
 else none
 else none
 else none
 else none
 else none
 else none
 else none
 else none
 else
 some (.inr (s0,s1,s2,s3,s4,s5,s6,s7,s8))
def L8_4:L8_4_T→Option (L8_4_T):=Lim (fun s=>L8_4_r s.1 s.2.1 s.2.2.1 s.2.2.2.1 s.2.2.2.2.1 s.2.2.2.2.2.1 s.2.2.2.2.2.2.1 s.2.2.2.2.2.2.2.1 s.2.2.2.2.2.2.2.2)
def L8_4_sum:Sum:=limSum L8_4_sh L8_4_pk (fun s=>L8_4_r s.1 s.2.1 s.2.2.1 s.2.2.2.1 s.2.2.2.2.1 s.2.2.2.2.2.1 s.2.2.2.2.2.2.1 s.2.2.2.2.2.2.2.1 s.2.2.2.2.2.2.2.2) L8_4_leave
theorem L8_4_nat:Natural L8_4_sum:=natural_lim fun x R K=>by
 rfl
theorem L8_4_dok:∀ e st x,e≠.normal→L8_4_d e st=some x→∀ R (K:Cont R),K e st=L8_4_leave x R K:=by
 intro e st x _ h R K
 unfold L8_4_d at h
 split at h
 ·split at h
  ·rename_i s hs; cases h; rw [unSt_some hs]; rfl
  ·cases h
 ·cases h
def loops8:Nat→Option (Sum):=fun | 4=>some L8_4_sum | _=>none
theorem loops8_nat:∀ q f,loops8 q=some f→Natural f:=by
 intro q f h
 unfold loops8 at h
 split at h
 ·cases h; exact L8_4_nat
 ·cases h
noncomputable def L8_4_code:Code:=(loopsOf body8).getD 0 .skip
theorem L8_4_round (s0:(List Tin)) (s1:Int) (s2:Int) (s3:Int) (s4:Tlp) (s5:Int) (s6:Int) (s7:Tlp) (s8:Int):ev2 env8 orc8 loops8 L8_4_code (mkSt L8_4_sh (s0,((),((),(s1,(s2,((),(s3,(s4,(s5,((),(s6,(s7,(s8,())))))))))))))) (back L8_4_sh L8_4_pk L8_4_d)=L8_4_r s0 s1 s2 s3 s4 s5 s6 s7 s8:=by kernel_rfl
theorem L8_4_ok:SumOk env8 orc8 loops8 L8_4_code L8_4_sum:=sumOk_lim (un:=L8_4_un) loops8_nat (fun _=>rfl) L8_4_dok fun s=>L8_4_round s.1 s.2.1 s.2.2.1 s.2.2.2.1 s.2.2.2.2.1 s.2.2.2.2.2.1 s.2.2.2.2.2.2.1 s.2.2.2.2.2.2.2.1 s.2.2.2.2.2.2.2.2
theorem loops8_all:loopsOf body8=[L8_4_code]:=by kernel_rfl
theorem L8_4_key:lookL loops8 (keyOf L8_4_code)=some L8_4_sum:=by kernel_rfl
theorem loops8_ok:LoopsOk env8 orc8 loops8 body8:=by
 intro c hc f hf
 rw [loops8_all] at hc
 simp only [List.mem_cons,List.not_mem_nil,or_false] at hc
 subst hc
 ·rw [L8_4_key] at hf; cases hf; exact L8_4_ok
def G8 (x0:Int) (x1:(List Tin)):Option (D23×Unit) :=
 let v1:Tlp:=([]:Tlp)
 let v2:Tlp:=([]:Tlp)
 bif (P29 x0 (11:Int)) then
 let v3:Int:=(F29 x0 (11:Int))
 let v4:Int:=(IntKind.i64.wrap ((2:Int)+v3))
 let v5:Tlp:=([]:Tlp)
 let v6:Tlp:=([]:Tlp)
 let v7:Tlp:=([]:Tlp)
 Option.bind (L8_4 (x1,(0:Int),(0:Int),(0:Int),v2,(0:Int),v4,v5,(0:Int))) fun (r64:(List Tin)×Int×Int×Int×Tlp×Int×Int×Tlp×Int) =>
 some ((r64.2.2.2.2.2.2.1,(r64.2.2.2.2.2.2.2.1,(r64.2.2.2.2.2.2.2.2,()))),())
 else none
def P8 (x0:Int) (x1:(List Tin)):Bool:=(hold (G8 x0 x1)).isSome
def F8 (x0:Int) (x1:(List Tin)):(D23×Unit):=(hold (G8 x0 x1)).getD (Tup.zero pout8)
theorem P8_of (x0:Int) (x1:(List Tin)) {r:(D23×Unit)} (h:G8 x0 x1=some r):P8 x0 x1=true:=by unfold P8; rw [hold_eq,h]; rfl
theorem F8_of (x0:Int) (x1:(List Tin)) {r:(D23×Unit)} (h:G8 x0 x1=some r):F8 x0 x1=r:=by unfold F8; rw [hold_eq,h]; rfl
theorem ev8 (x0:Int) (x1:(List Tin)):ev2 env8 orc8 loops8 body8 (mkSt pin8 (x0,(x1,()))) (retK3 env8 [.cell 4 24] pout8)=G8 x0 x1:=by kernel_rfl
def sp8:Spec2:=⟨pin8,pout8,fun s=>hold (G8 s.1 s.2.1)⟩
theorem fit8:Fit Tryd.f8 [.cell 4 24] sp8:=⟨by kernel_rfl,by kernel_rfl,by kernel_rfl,by kernel_rfl,by kernel_rfl,by decide,by decide,by decide⟩
theorem meets8 (hE:EnvOk Tryd.prog env8) (hm:Tryd.prog.follows .mixedOrders=true):Meets2 Tryd.prog glob 8 sp8 :=
 meets2_of_ev2 (O:=orc8) (L:=loops8) (c:=body8) (rs:=[.cell 4 24]) hE (fun _=>rfl) hm Tryd.func8 Tryd.call8 (by kernel_rfl) (by kernel_rfl) loops8_ok (rangesOk_nil (by kernel_rfl)) fit8 (fun s o h=>(ev8 s.1 s.2.1).trans ((hold_eq _).symm.trans h))
def pin56:Shape:=[(.slot 0,.dat .str)]
def pout56:Shape:=[(.slot 0,.fn 69 [1]),(.box 1,.bx 9 1),(.cell 1 0,.dat .str)]
def env56:Env:={
 tab:=tab
 glob:=glob
 spec:=fun
  | _=>none
 bldT:=bldT
 bld:=bldF }
def orc56:Orc:=⟨4,fun _=>none,fun
 | 0=>kp [1] [(1,[0])]
 | 1=>kp [2] [(1,[0])]
 | _=>[],fun | _=>false⟩
noncomputable def body56:Code:=Tryd.f56.body.getD .skip
def loops56:Nat→Option (Sum):=fun | _=>none
theorem loops56_ok:LoopsOk env56 orc56 loops56 body56:=loopsOk_nil (by kernel_rfl)
def G56 (x0:Tby):Option (Unit×(Unit×(Tby×Unit))) :=
 some ((),((),(x0,())))
def P56 (x0:Tby):Bool:=(hold (G56 x0)).isSome
def F56 (x0:Tby):(Unit×(Unit×(Tby×Unit))):=(hold (G56 x0)).getD (Tup.zero pout56)
theorem P56_of (x0:Tby) {r:(Unit×(Unit×(Tby×Unit)))} (h:G56 x0=some r):P56 x0=true:=by unfold P56; rw [hold_eq,h]; rfl
theorem F56_of (x0:Tby) {r:(Unit×(Unit×(Tby×Unit)))} (h:G56 x0=some r):F56 x0=r:=by unfold F56; rw [hold_eq,h]; rfl
theorem ev56 (x0:Tby):ev2 env56 orc56 loops56 body56 (mkSt pin56 (x0,())) (retK3 env56 [.slot 2] pout56)=G56 x0:=by kernel_rfl
def sp56:Spec2:=⟨pin56,pout56,fun s=>hold (G56 s.1)⟩
theorem fit56:Fit Tryd.f56 [.slot 2] sp56:=⟨by kernel_rfl,by kernel_rfl,by kernel_rfl,by kernel_rfl,by kernel_rfl,by decide,by decide,by decide⟩
theorem meets56 (hE:EnvOk Tryd.prog env56) (hm:Tryd.prog.follows .mixedOrders=true):Meets2 Tryd.prog glob 56 sp56 :=
 meets2_of_ev2 (O:=orc56) (L:=loops56) (c:=body56) (rs:=[.slot 2]) hE (fun _=>rfl) hm Tryd.func56 Tryd.call56 (by kernel_rfl) (by kernel_rfl) loops56_ok (rangesOk_nil (by kernel_rfl)) fit56 (fun s o h=>(ev56 s.1).trans ((hold_eq _).symm.trans h))
def pin73:Shape:=[(.slot 0,.dat (.list (.int .u8))),(.slot 1,.dat (.int .i64))]
def pout73:Shape:=[(.slot 0,.fn 76 [2,3]),(.box 2,.bx 57 1),(.cell 2 0,.dat (.list (.int .u8))),(.box 3,.bx 3 1),(.cell 3 0,.dat (.int .i64))]
def env73:Env:={
 tab:=tab
 glob:=glob
 spec:=fun
  | _=>none
 bldT:=bldT
 bld:=bldF }
def orc73:Orc:=⟨9,fun _=>none,fun
 | 0=>kp [2,3] [(2,[0]),(3,[0])]
 | 1=>kp [2,3,6] [(2,[0]),(3,[0])]
 | 3=>kp [4] [(2,[0]),(3,[0])]
 | _=>[],fun | _=>false⟩
noncomputable def body73:Code:=Tryd.f73.body.getD .skip
def loops73:Nat→Option (Sum):=fun | _=>none
theorem loops73_ok:LoopsOk env73 orc73 loops73 body73:=loopsOk_nil (by kernel_rfl)
def G73 (x0:Tin) (x1:Int):Option (Unit×(Unit×(Tin×(Unit×(Int×Unit))))) :=
 let v1:Bool:=(decide (x1 < (1:Int)))
 bif v1 then
 none
 else
 some ((),((),(x0,((),(x1,())))))
def P73 (x0:Tin) (x1:Int):Bool:=(hold (G73 x0 x1)).isSome
def F73 (x0:Tin) (x1:Int):(Unit×(Unit×(Tin×(Unit×(Int×Unit))))):=(hold (G73 x0 x1)).getD (Tup.zero pout73)
theorem P73_of (x0:Tin) (x1:Int) {r:(Unit×(Unit×(Tin×(Unit×(Int×Unit)))))} (h:G73 x0 x1=some r):P73 x0 x1=true:=by unfold P73; rw [hold_eq,h]; rfl
theorem F73_of (x0:Tin) (x1:Int) {r:(Unit×(Unit×(Tin×(Unit×(Int×Unit)))))} (h:G73 x0 x1=some r):F73 x0 x1=r:=by unfold F73; rw [hold_eq,h]; rfl
theorem ev73 (x0:Tin) (x1:Int):ev2 env73 orc73 loops73 body73 (mkSt pin73 (x0,(x1,()))) (retK3 env73 [.slot 4] pout73)=G73 x0 x1:=by kernel_rfl
def sp73:Spec2:=⟨pin73,pout73,fun s=>hold (G73 s.1 s.2.1)⟩
theorem fit73:Fit Tryd.f73 [.slot 4] sp73:=⟨by kernel_rfl,by kernel_rfl,by kernel_rfl,by kernel_rfl,by kernel_rfl,by decide,by decide,by decide⟩
theorem meets73 (hE:EnvOk Tryd.prog env73) (hm:Tryd.prog.follows .mixedOrders=true):Meets2 Tryd.prog glob 73 sp73 :=
 meets2_of_ev2 (O:=orc73) (L:=loops73) (c:=body73) (rs:=[.slot 4]) hE (fun _=>rfl) hm Tryd.func73 Tryd.call73 (by kernel_rfl) (by kernel_rfl) loops73_ok (rangesOk_nil (by kernel_rfl)) fit73 (fun s o h=>(ev73 s.1 s.2.1).trans ((hold_eq _).symm.trans h))
def pin76:Shape:=[(.slot 1,.ptr 50000 0),(.slot 2,.ptr 50001 0),(.box 50000,.bx 57 1),(.cell 50000 0,.dat (.list (.int .u8))),(.box 50001,.bx 3 1),(.cell 50001 0,.dat (.int .i64))]
abbrev Y76:Type:=Tin
def mk76:List Dat→Option Y76:=mkT [(.list (.int .u8))] fun x=>x.1
def env76:Env:={
 tab:=tab
 glob:=glob
 spec:=fun
  | _=>none
 bldT:=bldT
 bld:=bldF }
def orc76:Orc:=⟨31,fun _=>none,fun
 | 0=>kp [0,1,2,4] [(50000,[0]),(50001,[0])]
 | 1=>kp [0,1,2,4,9] [(50000,[0]),(50001,[0])]
 | 2=>kp [0,1,2,4] [(50000,[0]),(50001,[0])]
 | 3=>kp [0,1,2,4,5] [(50000,[0]),(50001,[0])]
 | 4=>kp [0,1,2,4,30] [(50000,[0]),(50001,[0])]
 | _=>[],fun | _=>false⟩
noncomputable def body76:Code:=Tryd.f76.body.getD .skip
abbrev L76_1_T:Type:=Int×Tin×Int
def L76_1_sh:Shape:=[(.slot 0,.yld),(.slot 1,.ptr 50000 0),(.slot 2,.ptr 50001 0),(.slot 4,.dat (.int .i64)),(.box 50000,.bx 57 1),(.cell 50000 0,.dat (.list (.int .u8))),(.box 50001,.bx 3 1),(.cell 50001 0,.dat (.int .i64))]
def L76_1_x0:Shape:=[(.slot 0,.yld),(.slot 1,.ptr 50000 0),(.slot 2,.ptr 50001 0),(.slot 4,.dat (.int .i64)),(.box 50000,.bx 57 1),(.cell 50000 0,.dat (.list (.int .u8))),(.box 50001,.bx 3 1),(.cell 50001 0,.dat (.int .i64))]
def L76_1_x1:Shape:=[(.slot 0,.yld),(.slot 1,.ptr 50000 0),(.slot 2,.ptr 50001 0),(.slot 4,.dat (.int .i64)),(.box 50000,.bx 57 1),(.cell 50000 0,.dat (.list (.int .u8))),(.box 50001,.bx 3 1),(.cell 50001 0,.dat (.int .i64))]
def L76_1_pk (s:Tup L76_1_sh):L76_1_T:=(s.2.2.2.1,s.2.2.2.2.2.1,s.2.2.2.2.2.2.2.1)
def L76_1_un (s:Int×Tin×Int):Tup L76_1_sh:=((),((),((),(s.1,((),(s.2.1,((),(s.2.2,()))))))))
def L76_1_leave (x:L76_1_T⊕L76_1_T) (V:Type) (K:Exit→St→YW Y76 V):YW Y76 V:=match x with
 | (.inl a)=>K .ret (mkSt L76_1_x0 ((),((),((),(a.1,((),(a.2.1,((),(a.2.2,())))))))))
 | (.inr a)=>K (.exit 0) (mkSt L76_1_x1 ((),((),((),(a.1,((),(a.2.1,((),(a.2.2,())))))))))
def L76_1_d (e:Exit) (st:St):Option (L76_1_T⊕L76_1_T):=match e with
 | .ret=>(match unSt L76_1_x0 st with
  | some s=>some (.inl (s.2.2.2.1,s.2.2.2.2.2.1,s.2.2.2.2.2.2.2.1))
  | none=>none)
 | .exit 0=>(match unSt L76_1_x1 st with
  | some s=>some (.inr (s.2.2.2.1,s.2.2.2.2.2.1,s.2.2.2.2.2.2.2.1))
  | none=>none)
 | _=>none
def L76_1_r (s0:Int) (s1:Tin) (s2:Int):YW Y76 (L76_1_T⊕(L76_1_T⊕L76_1_T)) :=
 let v1:Int:=((List.length s1:Nat):Int)
 let v2:Bool:=(decide (s0 < v1))
 bif v2 then
 bif (sliceTest s0 ((List.length s1:Nat):Int) (List.length s1)) then
 let v3:Tin:=(cut s1 s0 ((List.length s1:Nat):Int))
 let v4:Int:=((List.length v3:Nat):Int)
 let v5:Int:=(if v4 < s2 then v4 else s2)
 let v6:Int:=(IntKind.i64.wrap (s0+v5))
 let v7:Int:=(IntKind.i64.wrap (s0+v5))
 bif (sliceTest s0 v6 (List.length s1) && (decide (v6≤v7) && decide (v7≤List.length s1))) then
 let v8:Tin:=(cut s1 s0 v6)
 yieldW true v8 (let v11:Bool:=(!false)
 bif v11 then
 some ()
 else
 let v12:Int:=(IntKind.i64.wrap (s0+s2))
 none) (
 let v9:Bool:=(!true)
 bif v9 then
 some ([],.inr (.inl (s0,s1,s2)))
 else
 let v10:Int:=(IntKind.i64.wrap (s0+s2))
 some ([],.inl (v10,s1,s2)))
 else none
 else none
 else
 some ([],.inr (.inr (s0,s1,s2)))
def L76_1:L76_1_T→YW Y76 (L76_1_T⊕L76_1_T):=LimW (fun s=>L76_1_r s.1 s.2.1 s.2.2)
def L76_1_sum:SumY Y76:=limSumW L76_1_sh L76_1_pk (fun s=>L76_1_r s.1 s.2.1 s.2.2) L76_1_leave
theorem L76_1_nat:NaturalY L76_1_sum:=natural_limW fun x V K=>by
 rcases x with x|x<;>exact (YW.bind_pure _ _).symm
theorem L76_1_dok:∀ e st x,e≠.normal→L76_1_d e st=some x→∀ V (K:Exit→St→YW Y76 V),K e st=L76_1_leave x V K:=by
 intro e st x _ h R K
 unfold L76_1_d at h
 split at h
 ·split at h
  ·rename_i s hs; cases h; rw [unSt_some hs]; rfl
  ·cases h
 ·split at h
  ·rename_i s hs; cases h; rw [unSt_some hs]; rfl
  ·cases h
 ·cases h
def loops76:Nat→Option (SumY Y76):=fun | 1=>some L76_1_sum | _=>none
theorem loops76_nat:∀ q f,loops76 q=some f→NaturalY f:=by
 intro q f h
 unfold loops76 at h
 split at h
 ·cases h; exact L76_1_nat
 ·cases h
noncomputable def L76_1_code:Code:=(loopsOf body76).getD 0 .skip
theorem L76_1_round (s0:Int) (s1:Tin) (s2:Int):evY env76 orc76 loops76 [(.list (.int .u8))] mk76 L76_1_code (mkSt L76_1_sh ((),((),((),(s0,((),(s1,((),(s2,()))))))))) (backW (back L76_1_sh L76_1_pk L76_1_d)) retOnly=L76_1_r s0 s1 s2:=by kernel_rfl
theorem L76_1_ok:SumYOk env76 orc76 loops76 [(.list (.int .u8))] mk76 L76_1_code L76_1_sum:=sumYOk_lim (un:=L76_1_un) loops76_nat (fun _=>rfl) L76_1_dok fun s=>L76_1_round s.1 s.2.1 s.2.2
theorem loops76_all:loopsOf body76=[L76_1_code]:=by kernel_rfl
theorem L76_1_key:lookY loops76 (keyOf L76_1_code)=some L76_1_sum:=by kernel_rfl
theorem loops76_ok:LoopsYOk env76 orc76 loops76 [(.list (.int .u8))] mk76 body76:=by
 intro c hc f hf
 rw [loops76_all] at hc
 simp only [List.mem_cons,List.not_mem_nil,or_false] at hc
 subst hc
 ·rw [L76_1_key] at hf; cases hf; exact L76_1_ok
def W76 (x0:Tin) (x1:Int):YW Y76 Unit :=
 YW.bind (L76_1 ((0:Int),x0,x1)) fun x=>match x with
 | (.inl r13) =>
 some ([],())
 | (.inr r14) =>
 some ([],())
theorem ev76 (x0:Tin) (x1:Int):evY env76 orc76 loops76 [(.list (.int .u8))] mk76 body76 (mkSt ((.slot 0,.yld)::pin76) ((),((),((),((),(x0,((),(x1,())))))))) endY retOnly=W76 x0 x1:=by kernel_rfl
def I76:ISpec:=⟨pin76,Y76,fun (y:Y76)=>datsOf [(.list (.int .u8))] (y,()),fun s=>(W76 s.2.2.2.1 s.2.2.2.2.2.1).ys⟩
theorem iter76 (hE:EnvOk Tryd.prog env76) (hm:Tryd.prog.follows .mixedOrders=true):IterOk Tryd.prog glob 76 I76 :=
 iterOk_of_evY (I:=I76) (O:=orc76) (L:=loops76) (c:=body76) (mk:=mk76) hE hm Tryd.func76 Tryd.call76 (by kernel_rfl) (by kernel_rfl) (mkT_ok (ts:=[(.list (.int .u8))]) (un:=fun (y:Y76)=>(y,())) fun _=>rfl) loops76_ok (by kernel_rfl) (by decide) (by decide) (fun s ys h=>(ev76 s.2.2.2.1 s.2.2.2.2.2.1).trans (YW.ys_some h))
def env79:Env:={
 tab:=tab
 glob:=glob
 spec:=fun
  | _=>none
 bldT:=bldT
 bld:=bldF }
def orc79:Orc:=⟨17,fun _=>none,fun
 | 0=>kp [0,1] []
 | 1=>kp [0,5] []
 | 2=>kp [4] []
 | _=>[],fun | _=>false⟩
noncomputable def body79:Code:=Tryd.f79.body.getD .skip
def loops79:Nat→Option (Sum):=fun | _=>none
theorem loops79_nat:∀ q f,loops79 q=some f→Natural f:=by
 intro q f h
 cases h
theorem loops79_ok:LoopsOk env79 orc79 loops79 body79:=loopsOk_nil (by kernel_rfl)
def G79 (x0:Int) (x1:Int):Option (Int) :=
 let v1:Int:=(IntKind.u64.wrap x1)
 let v2:Int:=(bits .and .u64 v1 (31:Int))
 bif (decide (0≤v2)) then
 let v3:Int:=(IntKind.u32.wrap (x0 * 2 ^ min (Int.toNat v2) (IntKind.u32.bits)))
 let v4:Int:=(IntKind.u64.wrap ((32:Int) - v2))
 bif (decide (0≤v4)) then
 let v5:Int:=(Int.fdiv x0 (2 ^ min (Int.toNat v4) (IntKind.u32.bits)))
 let v6:Int:=(bits .or .u32 v3 v5)
 some (v6)
 else none
 else none
theorem ev79 (x0:Int) (x1:Int):ev2 env79 orc79 loops79 body79 (initSt 0 [⟨(.int .u32),x0⟩,⟨(.int .i64),x1⟩]) (retT [(4,.dat (.int .u32))] [(.int .u32)] fun x=>x.1)=G79 x0 x1:=by kernel_rfl
def P79 (x0:Int) (x1:Int):Bool:=(hold (G79 x0 x1)).isSome
def F79 (x0:Int) (x1:Int):Int:=(hold (G79 x0 x1)).getD default
theorem G79_some (x0:Int) (x1:Int) (h:P79 x0 x1=true):G79 x0 x1=some (F79 x0 x1):=by
 unfold P79 at h; unfold F79
 rw [hold_eq] at h ⊢
 exact some_getD h
theorem P79_of (x0:Int) (x1:Int) {r:Int} (h:G79 x0 x1=some r):P79 x0 x1=true:=by unfold P79; rw [hold_eq,h]; rfl
theorem F79_of (x0:Int) (x1:Int) {r:Int} (h:G79 x0 x1=some r):F79 x0 x1=r:=by unfold F79; rw [hold_eq,h]; rfl
def spec79:Spec:=⟨[(.int .u32),(.int .i64)],[.dat (.int .u32)],fun | [a0,a1]=>P79 (a0.as (.int .u32)) (a1.as (.int .i64)) | _=>false,fun | [a0,a1]=>[⟨(.int .u32),(F79 (a0.as (.int .u32)) (a1.as (.int .i64)))⟩] | _=>[]⟩
theorem meets79 (hE:EnvOk Tryd.prog env79) (hm:Tryd.prog.follows .mixedOrders=true):Meets Tryd.prog glob 79 spec79 :=
 meets_of_ev2 (O:=orc79) (L:=loops79) (c:=body79) (slots:=[4]) hE hm Tryd.func79 Tryd.call79 (by kernel_rfl) (by kernel_rfl) loops79_ok (rangesOk_nil (by kernel_rfl)) (by kernel_rfl) rfl (by decide) (fun ds hds hpre=>by
 obtain ⟨x0,ds0,rfl,h0⟩:=datsS hds
 obtain ⟨x1,ds1,rfl,h1⟩:=datsS h0
 have h9:=dats0 h1; subst h9
 exact ev_ret (un:=fun r=>[⟨(.int .u32),r⟩]) loops79_nat (fun _=>rfl) ((ev79 x0 x1).trans (G79_some x0 x1 hpre)))
def env78:Env:={
 tab:=tab
 glob:=glob
 spec:=fun
  | 79=>some spec79
  | _=>none
 bldT:=bldT
 bld:=bldF }
def orc78:Orc:=⟨22,fun _=>none,fun
 | 0=>kp [0,1] []
 | 1=>kp [0,1,5] []
 | 2=>kp [0,5,8,9,10] []
 | 3=>kp [0,5,8,9,10,11] []
 | 4=>kp [0,5,7,8,9,10] []
 | 5=>kp [0,5,8,9,10] []
 | 6=>kp [0,5,8,9,10] []
 | 7=>kp [4] []
 | _=>[],fun | _=>false⟩
noncomputable def body78:Code:=Tryd.f78.body.getD .skip
abbrev L78_3_T:Type:=Int×Int×Tin×Int×Int
def L78_3_sh:Shape:=[(.slot 0,.dat (.int .u32)),(.slot 5,.dat (.int .u32)),(.slot 8,.dat (.list (.int .i64))),(.slot 9,.dat (.int .i64)),(.slot 10,.dat (.int .i64))]
def L78_3_x0:Shape:=[(.slot 0,.dat (.int .u32)),(.slot 5,.dat (.int .u32)),(.slot 8,.dat (.list (.int .i64))),(.slot 9,.dat (.int .i64)),(.slot 10,.dat (.int .i64))]
def L78_3_pk (s:Tup L78_3_sh):L78_3_T:=(s.1,s.2.1,s.2.2.1,s.2.2.2.1,s.2.2.2.2.1)
def L78_3_un (s:Int×Int×Tin×Int×Int):Tup L78_3_sh:=(s.1,(s.2.1,(s.2.2.1,(s.2.2.2.1,(s.2.2.2.2,())))))
def L78_3_leave (x:L78_3_T) (R:Type) (K:Cont R):Option R:=match x with
 | a=>K (.exit 0) (mkSt L78_3_x0 (a.1,(a.2.1,(a.2.2.1,(a.2.2.2.1,(a.2.2.2.2,()))))))
def L78_3_d (e:Exit) (st:St):Option (L78_3_T):=match e with
 | .exit 0=>(match unSt L78_3_x0 st with
  | some s=>some (s.1,s.2.1,s.2.2.1,s.2.2.2.1,s.2.2.2.2.1)
  | none=>none)
 | _=>none
def L78_3_r (s0:Int) (s1:Int) (s2:Tin) (s3:Int) (s4:Int):Option (L78_3_T⊕(L78_3_T)) :=
 let v2:Bool:=(decide (s4 < s3))
 bif v2 then
 bif (decide (0≤s4) && decide (s4 < List.length s2)) then
 let v3:Int:=(List.getD s2 (Int.toNat s4) (0:Int))
 let v4:Int:=(IntKind.i64.wrap (0 - v3))
 bif (P79 s0 v4) then
 let v5:Int:=(F79 s0 v4)
 let v6:Int:=(bits .xor .u32 s1 v5)
 let v7:Int:=(IntKind.i64.wrap (s4+(1:Int)))
 some (.inl (s0,v6,s2,s3,v7))
 else none
 else none
 else
 some (.inr (s0,s1,s2,s3,s4))
def L78_3:L78_3_T→Option (L78_3_T):=Lim (fun s=>L78_3_r s.1 s.2.1 s.2.2.1 s.2.2.2.1 s.2.2.2.2)
def L78_3_sum:Sum:=limSum L78_3_sh L78_3_pk (fun s=>L78_3_r s.1 s.2.1 s.2.2.1 s.2.2.2.1 s.2.2.2.2) L78_3_leave
theorem L78_3_nat:Natural L78_3_sum:=natural_lim fun x R K=>by
 rfl
theorem L78_3_dok:∀ e st x,e≠.normal→L78_3_d e st=some x→∀ R (K:Cont R),K e st=L78_3_leave x R K:=by
 intro e st x _ h R K
 unfold L78_3_d at h
 split at h
 ·split at h
  ·rename_i s hs; cases h; rw [unSt_some hs]; rfl
  ·cases h
 ·cases h
def loops78:Nat→Option (Sum):=fun | 3=>some L78_3_sum | _=>none
theorem loops78_nat:∀ q f,loops78 q=some f→Natural f:=by
 intro q f h
 unfold loops78 at h
 split at h
 ·cases h; exact L78_3_nat
 ·cases h
noncomputable def L78_3_code:Code:=(loopsOf body78).getD 0 .skip
theorem L78_3_round (s0:Int) (s1:Int) (s2:Tin) (s3:Int) (s4:Int):ev2 env78 orc78 loops78 L78_3_code (mkSt L78_3_sh (s0,(s1,(s2,(s3,(s4,())))))) (back L78_3_sh L78_3_pk L78_3_d)=L78_3_r s0 s1 s2 s3 s4:=by kernel_rfl
theorem L78_3_ok:SumOk env78 orc78 loops78 L78_3_code L78_3_sum:=sumOk_lim (un:=L78_3_un) loops78_nat (fun _=>rfl) L78_3_dok fun s=>L78_3_round s.1 s.2.1 s.2.2.1 s.2.2.2.1 s.2.2.2.2
theorem loops78_all:loopsOf body78=[L78_3_code]:=by kernel_rfl
theorem L78_3_key:lookL loops78 (keyOf L78_3_code)=some L78_3_sum:=by kernel_rfl
theorem loops78_ok:LoopsOk env78 orc78 loops78 body78:=by
 intro c hc f hf
 rw [loops78_all] at hc
 simp only [List.mem_cons,List.not_mem_nil,or_false] at hc
 subst hc
 ·rw [L78_3_key] at hf; cases hf; exact L78_3_ok
def G78 (x0:Int) (x1:Tin):Option (Int) :=
 let v1:Int:=((List.length x1:Nat):Int)
 Option.bind (L78_3 (x0,(0:Int),x1,v1,(0:Int))) fun (r8:Int×Int×Tin×Int×Int) =>
 some (r8.2.1)
theorem ev78 (x0:Int) (x1:Tin):ev2 env78 orc78 loops78 body78 (initSt 0 [⟨(.int .u32),x0⟩,⟨(.list (.int .i64)),x1⟩]) (retT [(4,.dat (.int .u32))] [(.int .u32)] fun x=>x.1)=G78 x0 x1:=by kernel_rfl
def P78 (x0:Int) (x1:Tin):Bool:=(hold (G78 x0 x1)).isSome
def F78 (x0:Int) (x1:Tin):Int:=(hold (G78 x0 x1)).getD default
theorem G78_some (x0:Int) (x1:Tin) (h:P78 x0 x1=true):G78 x0 x1=some (F78 x0 x1):=by
 unfold P78 at h; unfold F78
 rw [hold_eq] at h ⊢
 exact some_getD h
theorem P78_of (x0:Int) (x1:Tin) {r:Int} (h:G78 x0 x1=some r):P78 x0 x1=true:=by unfold P78; rw [hold_eq,h]; rfl
theorem F78_of (x0:Int) (x1:Tin) {r:Int} (h:G78 x0 x1=some r):F78 x0 x1=r:=by unfold F78; rw [hold_eq,h]; rfl
def spec78:Spec:=⟨[(.int .u32),(.list (.int .i64))],[.dat (.int .u32)],fun | [a0,a1]=>P78 (a0.as (.int .u32)) (a1.as (.list (.int .i64))) | _=>false,fun | [a0,a1]=>[⟨(.int .u32),(F78 (a0.as (.int .u32)) (a1.as (.list (.int .i64))))⟩] | _=>[]⟩
theorem meets78 (hE:EnvOk Tryd.prog env78) (hm:Tryd.prog.follows .mixedOrders=true):Meets Tryd.prog glob 78 spec78 :=
 meets_of_ev2 (O:=orc78) (L:=loops78) (c:=body78) (slots:=[4]) hE hm Tryd.func78 Tryd.call78 (by kernel_rfl) (by kernel_rfl) loops78_ok (rangesOk_nil (by kernel_rfl)) (by kernel_rfl) rfl (by decide) (fun ds hds hpre=>by
 obtain ⟨x0,ds0,rfl,h0⟩:=datsS hds
 obtain ⟨x1,ds1,rfl,h1⟩:=datsS h0
 have h9:=dats0 h1; subst h9
 exact ev_ret (un:=fun r=>[⟨(.int .u32),r⟩]) loops78_nat (fun _=>rfl) ((ev78 x0 x1).trans (G78_some x0 x1 hpre)))
def pin77:Shape:=[(.slot 0,.dat (.list (.int .u8)))]
def pout77:Shape:=[(.slot 0,.dat (.arr 64 (.int .u32)))]
def env77:Env:={
 tab:=tab
 glob:=glob
 spec:=fun
  | 78=>some spec78
  | _=>none
 bldT:=bldT
 bld:=bldF }
def orc77:Orc:=⟨84,fun _=>none,fun
 | 0=>kp [0,2] [(2,[0])]
 | 1=>kp [0,2,7] [(2,[0])]
 | 2=>kp [0,2,7,8] [(2,[0])]
 | 3=>kp [0,2,3,7] [(2,[0])]
 | 4=>kp [0,2,7] [(2,[0])]
 | 5=>kp [0,2,7] [(2,[0])]
 | 6=>kp [2,4] [(2,[0])]
 | 7=>kp [2,4,47] [(2,[0])]
 | 8=>kp [2,4] [(2,[0])]
 | 9=>kp [2,4,5,6] [(2,[0])]
 | 10=>kp [2,4] [(2,[0])]
 | 11=>kp [2] [(2,[0])]
 | _=>[],fun | _=>false⟩
noncomputable def body77:Code:=Tryd.f77.body.getD .skip
abbrev L77_7_T:Type:=Int×Tin
def L77_7_sh:Shape:=[(.slot 2,.ptr 2 0),(.slot 4,.dat (.int .i64)),(.box 2,.bx 127 64),(.cell 2 0,.dat (.arr 64 (.int .u32)))]
def L77_7_x0:Shape:=[(.slot 2,.ptr 2 0),(.slot 4,.dat (.int .i64)),(.box 2,.bx 127 64),(.cell 2 0,.dat (.arr 64 (.int .u32)))]
def L77_7_pk (s:Tup L77_7_sh):L77_7_T:=(s.2.1,s.2.2.2.1)
def L77_7_un (s:Int×Tin):Tup L77_7_sh:=((),(s.1,((),(s.2,()))))
def L77_7_leave (x:L77_7_T) (R:Type) (K:Cont R):Option R:=match x with
 | a=>K (.exit 2) (mkSt L77_7_x0 ((),(a.1,((),(a.2,())))))
def L77_7_d (e:Exit) (st:St):Option (L77_7_T):=match e with
 | .exit 2=>(match unSt L77_7_x0 st with
  | some s=>some (s.2.1,s.2.2.2.1)
  | none=>none)
 | _=>none
def L77_7_r (s0:Int) (s1:Tin):Option (L77_7_T⊕(L77_7_T)) :=
 let v27:Bool:=(decide (s0 < (64:Int)))
 bif v27 then
 let v28:Int:=(IntKind.i64.wrap (s0 - (15:Int)))
 bif (decide (0≤v28) && decide (v28 < (64:Nat))) then
 bif (decide ((Int.toNat v28) < List.length s1)) then
 let v29:Int:=(List.getD s1 (Int.toNat v28) (0:Int))
 let v30:Int:=(IntKind.i64.wrap (s0 - (2:Int)))
 bif (decide (0≤v30) && decide (v30 < (64:Nat))) then
 bif (decide ((Int.toNat v30) < List.length s1)) then
 let v31:Int:=(List.getD s1 (Int.toNat v30) (0:Int))
 let v32:Int:=(IntKind.i64.wrap (s0 - (16:Int)))
 bif (decide (0≤v32) && decide (v32 < (64:Nat))) then
 bif (decide ((Int.toNat v32) < List.length s1)) then
 let v33:Int:=(List.getD s1 (Int.toNat v32) (0:Int))
 let v34:Tin:=(List.set (List.set (List.replicate 2 (0:Int)) 0 (7:Int)) 1 (18:Int))
 bif (P78 v29 v34) then
 let v35:Int:=(F78 v29 v34)
 let v36:Int:=(Int.fdiv v29 (2 ^ min (Int.toNat (3:Int)) (IntKind.u32.bits)))
 let v37:Int:=(bits .xor .u32 v35 v36)
 let v38:Int:=(IntKind.u32.wrap (v33+v37))
 let v39:Int:=(IntKind.i64.wrap (s0 - (7:Int)))
 bif (decide (0≤v39) && decide (v39 < (64:Nat))) then
 bif (decide ((Int.toNat v39) < List.length s1)) then
 let v40:Int:=(List.getD s1 (Int.toNat v39) (0:Int))
 let v41:Int:=(IntKind.u32.wrap (v38+v40))
 let v42:Tin:=(List.set (List.set (List.replicate 2 (0:Int)) 0 (17:Int)) 1 (19:Int))
 bif (P78 v31 v42) then
 let v43:Int:=(F78 v31 v42)
 let v44:Int:=(Int.fdiv v31 (2 ^ min (Int.toNat (10:Int)) (IntKind.u32.bits)))
 let v45:Int:=(bits .xor .u32 v43 v44)
 let v46:Int:=(IntKind.u32.wrap (v41+v45))
 bif (decide (0≤s0) && decide (s0 < (64:Nat))) then
 bif (decide ((Int.toNat s0) < List.length s1)) then
 let v47:Tin:=(List.set s1 (Int.toNat s0) v46)
 let v48:Int:=(IntKind.i64.wrap (s0+(1:Int)))
 some (.inl (v48,v47))
 else none
 else none
 else none
 else none
 else none
 else none
 else none
 else none
 else none
 else none
 else none
 else none
 else
 some (.inr (s0,s1))
def L77_7:L77_7_T→Option (L77_7_T):=Lim (fun s=>L77_7_r s.1 s.2)
def L77_7_sum:Sum:=limSum L77_7_sh L77_7_pk (fun s=>L77_7_r s.1 s.2) L77_7_leave
theorem L77_7_nat:Natural L77_7_sum:=natural_lim fun x R K=>by
 rfl
theorem L77_7_dok:∀ e st x,e≠.normal→L77_7_d e st=some x→∀ R (K:Cont R),K e st=L77_7_leave x R K:=by
 intro e st x _ h R K
 unfold L77_7_d at h
 split at h
 ·split at h
  ·rename_i s hs; cases h; rw [unSt_some hs]; rfl
  ·cases h
 ·cases h
abbrev L77_2_T:Type:=Tin×Int×Tin
def L77_2_sh:Shape:=[(.slot 0,.dat (.list (.int .u8))),(.slot 2,.ptr 2 0),(.slot 7,.dat (.int .i64)),(.box 2,.bx 127 64),(.cell 2 0,.dat (.arr 64 (.int .u32)))]
def L77_2_x0:Shape:=[(.slot 0,.dat (.list (.int .u8))),(.slot 2,.ptr 2 0),(.slot 7,.dat (.int .i64)),(.box 2,.bx 127 64),(.cell 2 0,.dat (.arr 64 (.int .u32)))]
def L77_2_pk (s:Tup L77_2_sh):L77_2_T:=(s.1,s.2.2.1,s.2.2.2.2.1)
def L77_2_un (s:Tin×Int×Tin):Tup L77_2_sh:=(s.1,((),(s.2.1,((),(s.2.2,())))))
def L77_2_leave (x:L77_2_T) (R:Type) (K:Cont R):Option R:=match x with
 | a=>K (.exit 0) (mkSt L77_2_x0 (a.1,((),(a.2.1,((),(a.2.2,()))))))
def L77_2_d (e:Exit) (st:St):Option (L77_2_T):=match e with
 | .exit 0=>(match unSt L77_2_x0 st with
  | some s=>some (s.1,s.2.2.1,s.2.2.2.2.1)
  | none=>none)
 | _=>none
def L77_2_r (s0:Tin) (s1:Int) (s2:Tin):Option (L77_2_T⊕(L77_2_T)) :=
 let v2:Bool:=(decide (s1 < (16:Int)))
 bif v2 then
 let v3:Int:=(IntKind.i64.wrap ((4:Int) * s1))
 bif (decide (0≤v3) && decide (v3 < List.length s0)) then
 let v4:Int:=(List.getD s0 (Int.toNat v3) (0:Int))
 let v5:Int:=(IntKind.u32.wrap v4)
 let v6:Int:=(IntKind.u32.wrap (v5 * 2 ^ min (Int.toNat (24:Int)) (IntKind.u32.bits)))
 let v7:Int:=(IntKind.i64.wrap ((4:Int) * s1))
 let v8:Int:=(IntKind.i64.wrap (v7+(1:Int)))
 bif (decide (0≤v8) && decide (v8 < List.length s0)) then
 let v9:Int:=(List.getD s0 (Int.toNat v8) (0:Int))
 let v10:Int:=(IntKind.u32.wrap v9)
 let v11:Int:=(IntKind.u32.wrap (v10 * 2 ^ min (Int.toNat (16:Int)) (IntKind.u32.bits)))
 let v12:Int:=(bits .or .u32 v6 v11)
 let v13:Int:=(IntKind.i64.wrap ((4:Int) * s1))
 let v14:Int:=(IntKind.i64.wrap (v13+(2:Int)))
 bif (decide (0≤v14) && decide (v14 < List.length s0)) then
 let v15:Int:=(List.getD s0 (Int.toNat v14) (0:Int))
 let v16:Int:=(IntKind.u32.wrap v15)
 let v17:Int:=(IntKind.u32.wrap (v16 * 2 ^ min (Int.toNat (8:Int)) (IntKind.u32.bits)))
 let v18:Int:=(bits .or .u32 v12 v17)
 let v19:Int:=(IntKind.i64.wrap ((4:Int) * s1))
 let v20:Int:=(IntKind.i64.wrap (v19+(3:Int)))
 bif (decide (0≤v20) && decide (v20 < List.length s0)) then
 let v21:Int:=(List.getD s0 (Int.toNat v20) (0:Int))
 let v22:Int:=(IntKind.u32.wrap v21)
 let v23:Int:=(bits .or .u32 v18 v22)
 bif (decide (0≤s1) && decide (s1 < (64:Nat))) then
 bif (decide ((Int.toNat s1) < List.length s2)) then
 let v24:Tin:=(List.set s2 (Int.toNat s1) v23)
 let v25:Int:=(IntKind.i64.wrap (s1+(1:Int)))
 some (.inl (s0,v25,v24))
 else none
 else none
 else none
 else none
 else none
 else none
 else
 some (.inr (s0,s1,s2))
def L77_2:L77_2_T→Option (L77_2_T):=Lim (fun s=>L77_2_r s.1 s.2.1 s.2.2)
def L77_2_sum:Sum:=limSum L77_2_sh L77_2_pk (fun s=>L77_2_r s.1 s.2.1 s.2.2) L77_2_leave
theorem L77_2_nat:Natural L77_2_sum:=natural_lim fun x R K=>by
 rfl
theorem L77_2_dok:∀ e st x,e≠.normal→L77_2_d e st=some x→∀ R (K:Cont R),K e st=L77_2_leave x R K:=by
 intro e st x _ h R K
 unfold L77_2_d at h
 split at h
 ·split at h
  ·rename_i s hs; cases h; rw [unSt_some hs]; rfl
  ·cases h
 ·cases h
def loops77:Nat→Option (Sum):=fun | 2=>some L77_2_sum | 7=>some L77_7_sum | _=>none
theorem loops77_nat:∀ q f,loops77 q=some f→Natural f:=by
 intro q f h
 unfold loops77 at h
 split at h
 ·cases h; exact L77_2_nat
 ·cases h; exact L77_7_nat
 ·cases h
noncomputable def L77_2_code:Code:=(loopsOf body77).getD 0 .skip
theorem L77_2_round (s0:Tin) (s1:Int) (s2:Tin):ev2 env77 orc77 loops77 L77_2_code (mkSt L77_2_sh (s0,((),(s1,((),(s2,())))))) (back L77_2_sh L77_2_pk L77_2_d)=L77_2_r s0 s1 s2:=by kernel_rfl
theorem L77_2_ok:SumOk env77 orc77 loops77 L77_2_code L77_2_sum:=sumOk_lim (un:=L77_2_un) loops77_nat (fun _=>rfl) L77_2_dok fun s=>L77_2_round s.1 s.2.1 s.2.2
noncomputable def L77_7_code:Code:=(loopsOf body77).getD 1 .skip
theorem L77_7_round (s0:Int) (s1:Tin):ev2 env77 orc77 loops77 L77_7_code (mkSt L77_7_sh ((),(s0,((),(s1,()))))) (back L77_7_sh L77_7_pk L77_7_d)=L77_7_r s0 s1:=by kernel_rfl
theorem L77_7_ok:SumOk env77 orc77 loops77 L77_7_code L77_7_sum:=sumOk_lim (un:=L77_7_un) loops77_nat (fun _=>rfl) L77_7_dok fun s=>L77_7_round s.1 s.2
theorem loops77_all:loopsOf body77=[L77_2_code,L77_7_code]:=by kernel_rfl
theorem L77_2_key:lookL loops77 (keyOf L77_2_code)=some L77_2_sum:=by kernel_rfl
theorem L77_7_key:lookL loops77 (keyOf L77_7_code)=some L77_7_sum:=by kernel_rfl
theorem loops77_ok:LoopsOk env77 orc77 loops77 body77:=by
 intro c hc f hf
 rw [loops77_all] at hc
 simp only [List.mem_cons,List.not_mem_nil,or_false] at hc
 rcases hc with rfl | rfl
 ·rw [L77_2_key] at hf; cases hf; exact L77_2_ok
 ·rw [L77_7_key] at hf; cases hf; exact L77_7_ok
def G77 (x0:Tin):Option (Tin×Unit) :=
 let v1:Tin:=(List.replicate 64 (0:Int))
 Option.bind (L77_2 (x0,(0:Int),v1)) fun (r26:Tin×Int×Tin) =>
 Option.bind (L77_7 ((16:Int),r26.2.2)) fun (r49:Int×Tin) =>
 some (r49.2,())
def P77 (x0:Tin):Bool:=(hold (G77 x0)).isSome
def F77 (x0:Tin):(Tin×Unit):=(hold (G77 x0)).getD (Tup.zero pout77)
theorem P77_of (x0:Tin) {r:(Tin×Unit)} (h:G77 x0=some r):P77 x0=true:=by unfold P77; rw [hold_eq,h]; rfl
theorem F77_of (x0:Tin) {r:(Tin×Unit)} (h:G77 x0=some r):F77 x0=r:=by unfold F77; rw [hold_eq,h]; rfl
theorem ev77 (x0:Tin):ev2 env77 orc77 loops77 body77 (mkSt pin77 (x0,())) (retK3 env77 [.cell 2 127] pout77)=G77 x0:=by kernel_rfl
def sp77:Spec2:=⟨pin77,pout77,fun s=>hold (G77 s.1)⟩
theorem fit77:Fit Tryd.f77 [.cell 2 127] sp77:=⟨by kernel_rfl,by kernel_rfl,by kernel_rfl,by kernel_rfl,by kernel_rfl,by decide,by decide,by decide⟩
theorem meets77 (hE:EnvOk Tryd.prog env77) (hm:Tryd.prog.follows .mixedOrders=true):Meets2 Tryd.prog glob 77 sp77 :=
 meets2_of_ev2 (O:=orc77) (L:=loops77) (c:=body77) (rs:=[.cell 2 127]) hE (fun _=>rfl) hm Tryd.func77 Tryd.call77 (by kernel_rfl) (by kernel_rfl) loops77_ok (rangesOk_nil (by kernel_rfl)) fit77 (fun s o h=>(ev77 s.1).trans ((hold_eq _).symm.trans h))
def pin74:Shape:=[(.slot 0,.ptr 50000 0),(.slot 1,.dat (.list (.int .u8))),(.box 50000,.bx 120 8),(.cell 50000 0,.dat (.arr 8 (.int .u32)))]
def pout74:Shape:=[(.box 50000,.bx 120 8),(.cell 50000 0,.dat (.arr 8 (.int .u32)))]
def env74:Env:={
 tab:=tab
 glob:=glob
 spec:=fun
  | 78=>some spec78
  | _=>none
 spec2:=fun
  | 77,[]=>some sp77
  | _,_=>none
 bldT:=bldT
 bld:=bldF }
def orc74:Orc:=⟨97,fun _=>none,fun
 | 0=>kp [0,4] [(4,[0]),(50000,[0])]
 | 1=>kp [0,4,5] [(4,[0]),(5,[0]),(50000,[0])]
 | 2=>kp [0,4,5,18,19] [(4,[0]),(5,[0]),(50000,[0])]
 | 3=>kp [0,4,5,18,19,20] [(4,[0]),(5,[0]),(50000,[0])]
 | 4=>kp [0,4,5,6,7,18,19] [(4,[0]),(5,[0]),(50000,[0])]
 | 5=>kp [0,4,5,6,7,8,9,18,19] [(4,[0]),(5,[0]),(50000,[0])]
 | 6=>kp [0,4,5,8,10,18,19] [(4,[0]),(5,[0]),(50000,[0])]
 | 7=>kp [0,4,5,10,11,18,19] [(4,[0]),(5,[0]),(50000,[0])]
 | 8=>kp [0,4,5,10,11,18,19] [(4,[0]),(5,[0]),(50000,[0])]
 | 9=>kp [0,4,5,18,19] [(4,[0]),(5,[0]),(50000,[0])]
 | 10=>kp [0,4,5,18,19] [(4,[0]),(5,[0]),(50000,[0])]
 | 11=>kp [0,5,82] [(5,[0]),(50000,[0])]
 | 12=>kp [0,5,82,83] [(5,[0]),(50000,[0])]
 | 13=>kp [0,5,12,82] [(5,[0]),(50000,[0])]
 | 14=>kp [0,5,82] [(5,[0]),(50000,[0])]
 | 15=>kp [0,5,82] [(5,[0]),(50000,[0])]
 | _=>[],fun | _=>false⟩
noncomputable def body74:Code:=Tryd.f74.body.getD .skip
abbrev L74_12_T:Type:=Int×Tin×Tin
def L74_12_sh:Shape:=[(.slot 0,.ptr 50000 0),(.slot 5,.ptr 5 0),(.slot 82,.dat (.int .i64)),(.box 5,.bx 120 8),(.cell 5 0,.dat (.arr 8 (.int .u32))),(.box 50000,.bx 120 8),(.cell 50000 0,.dat (.arr 8 (.int .u32)))]
def L74_12_x0:Shape:=[(.slot 0,.ptr 50000 0),(.slot 5,.ptr 5 0),(.slot 82,.dat (.int .i64)),(.box 5,.bx 120 8),(.cell 5 0,.dat (.arr 8 (.int .u32))),(.box 50000,.bx 120 8),(.cell 50000 0,.dat (.arr 8 (.int .u32)))]
def L74_12_pk (s:Tup L74_12_sh):L74_12_T:=(s.2.2.1,s.2.2.2.2.1,s.2.2.2.2.2.2.1)
def L74_12_un (s:Int×Tin×Tin):Tup L74_12_sh:=((),((),(s.1,((),(s.2.1,((),(s.2.2,())))))))
def L74_12_leave (x:L74_12_T) (R:Type) (K:Cont R):Option R:=match x with
 | a=>K (.exit 2) (mkSt L74_12_x0 ((),((),(a.1,((),(a.2.1,((),(a.2.2,()))))))))
def L74_12_d (e:Exit) (st:St):Option (L74_12_T):=match e with
 | .exit 2=>(match unSt L74_12_x0 st with
  | some s=>some (s.2.2.1,s.2.2.2.2.1,s.2.2.2.2.2.2.1)
  | none=>none)
 | _=>none
def L74_12_r (s0:Int) (s1:Tin) (s2:Tin):Option (L74_12_T⊕(L74_12_T)) :=
 let v43:Bool:=(decide (s0 < (8:Int)))
 bif v43 then
 bif (decide (0≤s0) && decide (s0 < (8:Nat))) then
 bif (decide ((Int.toNat s0) < List.length s2)) then
 let v44:Int:=(List.getD s2 (Int.toNat s0) (0:Int))
 bif (decide (0≤s0) && decide (s0 < (8:Nat))) then
 bif (decide ((Int.toNat s0) < List.length s1)) then
 let v45:Int:=(List.getD s1 (Int.toNat s0) (0:Int))
 let v46:Int:=(IntKind.u32.wrap (v44+v45))
 bif (decide (0≤s0) && decide (s0 < (8:Nat))) then
 bif (decide ((Int.toNat s0) < List.length s2)) then
 let v47:Tin:=(List.set s2 (Int.toNat s0) v46)
 let v48:Int:=(IntKind.i64.wrap (s0+(1:Int)))
 some (.inl (v48,s1,v47))
 else none
 else none
 else none
 else none
 else none
 else none
 else
 some (.inr (s0,s1,s2))
def L74_12:L74_12_T→Option (L74_12_T):=Lim (fun s=>L74_12_r s.1 s.2.1 s.2.2)
def L74_12_sum:Sum:=limSum L74_12_sh L74_12_pk (fun s=>L74_12_r s.1 s.2.1 s.2.2) L74_12_leave
theorem L74_12_nat:Natural L74_12_sum:=natural_lim fun x R K=>by
 rfl
theorem L74_12_dok:∀ e st x,e≠.normal→L74_12_d e st=some x→∀ R (K:Cont R),K e st=L74_12_leave x R K:=by
 intro e st x _ h R K
 unfold L74_12_d at h
 split at h
 ·split at h
  ·rename_i s hs; cases h; rw [unSt_some hs]; rfl
  ·cases h
 ·cases h
abbrev L74_3_T:Type:=Tin×Int×Tin×Tin×Tin
def L74_3_sh:Shape:=[(.slot 0,.ptr 50000 0),(.slot 4,.ptr 4 0),(.slot 5,.ptr 5 0),(.slot 18,.dat (.arr 64 (.int .u32))),(.slot 19,.dat (.int .i64)),(.box 4,.bx 127 64),(.cell 4 0,.dat (.arr 64 (.int .u32))),(.box 5,.bx 120 8),(.cell 5 0,.dat (.arr 8 (.int .u32))),(.box 50000,.bx 120 8),(.cell 50000 0,.dat (.arr 8 (.int .u32)))]
def L74_3_x0:Shape:=[(.slot 0,.ptr 50000 0),(.slot 4,.ptr 4 0),(.slot 5,.ptr 5 0),(.slot 18,.dat (.arr 64 (.int .u32))),(.slot 19,.dat (.int .i64)),(.box 4,.bx 127 64),(.cell 4 0,.dat (.arr 64 (.int .u32))),(.box 5,.bx 120 8),(.cell 5 0,.dat (.arr 8 (.int .u32))),(.box 50000,.bx 120 8),(.cell 50000 0,.dat (.arr 8 (.int .u32)))]
def L74_3_pk (s:Tup L74_3_sh):L74_3_T:=(s.2.2.2.1,s.2.2.2.2.1,s.2.2.2.2.2.2.1,s.2.2.2.2.2.2.2.2.1,s.2.2.2.2.2.2.2.2.2.2.1)
def L74_3_un (s:Tin×Int×Tin×Tin×Tin):Tup L74_3_sh:=((),((),((),(s.1,(s.2.1,((),(s.2.2.1,((),(s.2.2.2.1,((),(s.2.2.2.2,())))))))))))
def L74_3_leave (x:L74_3_T) (R:Type) (K:Cont R):Option R:=match x with
 | a=>K (.exit 0) (mkSt L74_3_x0 ((),((),((),(a.1,(a.2.1,((),(a.2.2.1,((),(a.2.2.2.1,((),(a.2.2.2.2,()))))))))))))
def L74_3_d (e:Exit) (st:St):Option (L74_3_T):=match e with
 | .exit 0=>(match unSt L74_3_x0 st with
  | some s=>some (s.2.2.2.1,s.2.2.2.2.1,s.2.2.2.2.2.2.1,s.2.2.2.2.2.2.2.2.1,s.2.2.2.2.2.2.2.2.2.2.1)
  | none=>none)
 | _=>none
end
end Go.Ev.T
