/- Texts for the proofs of this seat: the functions of the program as functions of Lean, with the proofs that they are. -/
import Derived.Test.YtcnplckaaklfjaaDoorEv4
import Derived.Test.YtcnplckaaklfjaaDoorRows
import Derived.LaidMore
import Derived.Lay
import Derived.OpenShut
import Derived.ProofKit
import Derived.KernelRfl
set_option linter.unusedSimpArgs false
set_option linter.unusedVariables false
namespace Go.Ev.W
open Go Go.Proofs Go.Ev
noncomputable section
def tab : Tab := ⟨fun
  | 2 => some (.int .i64)
  | 3 => some (.int .i64)
  | 4 => some .bool
  | 5 => some (.int .u8)
  | 6 => some (.int .u8)
  | 7 => some (.pair (.int .i64) (.pair (.int .i64) (.pair .bool (.pair (.int .u8) .unit))))
  | 8 => some (.pair (.int .i64) (.pair (.int .i64) (.pair .bool (.pair (.int .u8) .unit))))
  | 9 => some .str
  | 10 => some .str
  | 11 => some .str
  | 12 => some (.int .u64)
  | 13 => some (.pair .str (.pair (.int .u64) .unit))
  | 14 => some (.pair .str (.pair (.int .u64) .unit))
  | 21 => some (.int .i32)
  | 24 => some (.list (.int .i64))
  | 25 => some (.int .i64)
  | 36 => some (.arr 2 .str)
  | 38 => some (.list (.int .u8))
  | 40 => some (.list .str)
  | 43 => some (.int .u32)
  | 49 => some (.int .u64)
  | 50 => some (.int .u64)
  | 52 => some (.arr 16 (.int .u32))
  | 61 => some (.int .u8)
  | 62 => some (.int .u8)
  | 65 => some (.int .i32)
  | 66 => some (.int .i32)
  | _ => none, fun
  | 24 => some 3
  | 38 => some 5
  | 40 => some 9
  | _ => none, fun | 4 => true | _ => false, fun
  | 24 => [(0, 3, (.int .i64))]
  | 38 => [(0, 5, (.int .u8))]
  | 40 => [(0, 9, .str)]
  | _ => []⟩
def nibbles : List Int := [0, 274646895, 549293790, 820201905, 1098587580, 1361435347, 1640403810, 1905808397, 2197175160, 2460548119, 2722870694, 2987750089, 3280807620, 3553878443, 3811616794, 4084100981]
def glob : Nat → Option Dat := fun | 0 => some ⟨.arr 16 (.int .u32), nibbles⟩ | _ => none
def pin25 : Shape := [(.slot 1, .ptr 50000 0), (.box 50000, .bx 49 1), (.cell 50000 0, .dat (.int .u64))]
abbrev Y25 : Type := Int × Bool
def mk25 : List Dat → Option Y25 := mkT [(.int .u8), .bool] fun x => (x.1, x.2.1)
def env25 : Env where
  tab := tab
  glob := glob
  spec := fun
    | _ => none
def orc25 : Orc := ⟨18, fun _ => none, fun
  | 0 => [(.slot 0, .own), (.slot 1, .own), (.slot 3, .own), (.box 50000, .own), (.cell 50000 0, .own)]
  | 1 => [(.slot 0, .own), (.slot 1, .own), (.slot 15, .own), (.box 50000, .own), (.cell 50000 0, .own)]
  | 2 => [(.slot 0, .own), (.slot 1, .own), (.box 50000, .own), (.cell 50000 0, .own)]
  | _ => []⟩
noncomputable def body25 : Code := Tryd.f25.body.getD .skip
def L25_0_sh : Shape := [(.slot 0, .yld), (.slot 1, .ptr 50000 0), (.box 50000, .bx 49 1), (.cell 50000 0, .dat (.int .u64))]
def L25_0_x0 : Shape := [(.slot 0, .yld), (.slot 1, .ptr 50000 0), (.box 50000, .bx 49 1), (.cell 50000 0, .dat (.int .u64))]
def L25_0_pk (s : Tup L25_0_sh) : Int := s.2.2.2.1
def L25_0_un (s : Int) : Tup L25_0_sh := ((), ((), ((), (s, ()))))
def L25_0_leave (x : (Int)) (V : Type) (K : Exit → St → YW Y25 V) : YW Y25 V := match x with
  | a => K .ret (mkSt L25_0_x0 ((), ((), ((), (a, ())))))
def L25_0_d (e : Exit) (st : St) : Option ((Int)) := match e with
  | .ret => (match unSt L25_0_x0 st with
    | some s => some s.2.2.2.1
    | none => none)
  | _ => none
def L25_0_r (s0 : Int) : YW Y25 ((Int) ⊕ ((Int))) :=
  let v1 : Bool := (decide (s0 < (128 : Int)))
  let v2 : Int := (bits .and .u64 s0 (127 : Int))
  let v3 : Int := (IntKind.u8.wrap v2)
  yieldW true (v3, v1) (let v7 : Bool := (!false)
  let v8 : Bool := (bif v7 then true else v1)
  bif v8 then
  some ()
  else
  let v9 : Int := (Int.fdiv s0 (2 ^ min (Int.toNat (7 : Int)) (IntKind.u64.bits)))
  none) (
  let v4 : Bool := (!true)
  let v5 : Bool := (bif v4 then true else v1)
  bif v5 then
  some ([], .inr s0)
  else
  let v6 : Int := (Int.fdiv s0 (2 ^ min (Int.toNat (7 : Int)) (IntKind.u64.bits)))
  some ([], .inl v6))
def L25_0 : Int → YW Y25 ((Int)) := LimW (fun s => L25_0_r s)
def L25_0_sum : SumY Y25 := limSumW L25_0_sh L25_0_pk (fun s => L25_0_r s) L25_0_leave
theorem L25_0_nat : NaturalY L25_0_sum := natural_limW fun x V K => by
  exact (YW.bind_pure _ _).symm
theorem L25_0_dok : ∀ e st x, e ≠ .normal → L25_0_d e st = some x → ∀ V (K : Exit → St → YW Y25 V), K e st = L25_0_leave x V K := by
  intro e st x _ h R K
  unfold L25_0_d at h
  split at h
  · split at h
    · rename_i s hs; cases h; rw [unSt_some hs]; rfl
    · cases h
  · cases h
def loops25 : Nat → Option (SumY Y25) := fun | 0 => some L25_0_sum | _ => none
theorem loops25_nat : ∀ q f, loops25 q = some f → NaturalY f := by
  intro q f h
  unfold loops25 at h
  split at h
  · cases h; exact L25_0_nat
  · cases h
noncomputable def L25_0_code : Code := (loopsOf body25).getD 0 .skip
theorem L25_0_round (s0 : Int) : evY env25 orc25 loops25 [(.int .u8), .bool] mk25 L25_0_code (mkSt L25_0_sh ((), ((), ((), (s0, ()))))) (backW (back L25_0_sh L25_0_pk L25_0_d)) retOnly = L25_0_r s0 := by kernel_rfl
theorem L25_0_ok : SumYOk env25 orc25 loops25 [(.int .u8), .bool] mk25 L25_0_code L25_0_sum := sumYOk_lim (un := L25_0_un) loops25_nat (fun _ => rfl) L25_0_dok fun s => L25_0_round s
theorem loops25_all : loopsOf body25 = [L25_0_code] := by kernel_rfl
theorem L25_0_key : lookY loops25 (keyOf L25_0_code) = some L25_0_sum := by kernel_rfl
theorem loops25_ok : LoopsYOk env25 orc25 loops25 [(.int .u8), .bool] mk25 body25 := by
  intro c hc f hf
  rw [loops25_all] at hc
  simp only [List.mem_cons, List.not_mem_nil, or_false] at hc
  subst hc
  · rw [L25_0_key] at hf; cases hf; exact L25_0_ok
def W25 (x0 : Int) : YW Y25 Unit :=
  YW.bind (L25_0 x0) fun (r10 : Int) =>
  some ([], ())
theorem ev25 (x0 : Int) : evY env25 orc25 loops25 [(.int .u8), .bool] mk25 body25 (mkSt ((.slot 0, .yld) :: pin25) ((), ((), ((), (x0, ()))))) endY retOnly = W25 x0 := by kernel_rfl
def I25 : ISpec := ⟨pin25, Y25, fun (y : Y25) => datsOf [(.int .u8), .bool] (y.1, (y.2, ())), fun s => (W25 s.2.2.1).ys⟩
theorem iter25 (hE : EnvOk Tryd.prog env25) (hm : Tryd.prog.follows .mixedOrders = true) : IterOk Tryd.prog glob 25 I25 :=
  iterOk_of_evY (I := I25) (O := orc25) (L := loops25) (c := body25) (mk := mk25) hE hm Tryd.func25 Tryd.call25 (by kernel_rfl) (by kernel_rfl) (mkT_ok (ts := [(.int .u8), .bool]) (un := fun (y : Y25) => (y.1, (y.2, ()))) fun _ => rfl) loops25_ok (by kernel_rfl) (by decide) (by decide) (fun s ys h => (ev25 s.2.2.1).trans (YW.ys_some h))
def pin23 : Shape := [(.slot 0, .dat (.int .u64))]
def pout23 : Shape := [(.slot 0, .fn 25 [1]), (.box 1, .bx 49 1), (.cell 1 0, .dat (.int .u64))]
def env23 : Env where
  tab := tab
  glob := glob
  spec := fun
    | _ => none
def orc23 : Orc := ⟨4, fun _ => none, fun
  | 0 => [(.slot 1, .own), (.box 1, .own), (.cell 1 0, .own)]
  | 1 => [(.slot 2, .own), (.box 1, .own), (.cell 1 0, .own)]
  | _ => []⟩
noncomputable def body23 : Code := Tryd.f23.body.getD .skip
def loops23 : Nat → Option (Sum) := fun | _ => none
theorem loops23_nat : ∀ q f, loops23 q = some f → Natural f := by
  intro q f h
  cases h
theorem loops23_ok : LoopsOk env23 orc23 loops23 body23 := loopsOk_nil (by kernel_rfl)
def G23 (x0 : Int) : Option (Tup pout23) :=
  some ((), ((), (x0, ())))
theorem ev23 (x0 : Int) : ev2 env23 orc23 loops23 body23 (mkSt pin23 (x0, ())) (retK3 env23 [.slot 2] pout23) = G23 x0 := by kernel_rfl
def sp23 : Spec2 := ⟨pin23, pout23, fun s => G23 s.1⟩
theorem fit23 : Fit Tryd.f23 [.slot 2] sp23 := ⟨by kernel_rfl, by kernel_rfl, by kernel_rfl, by kernel_rfl, by kernel_rfl, by decide, by decide, by decide⟩
theorem meets23 (hE : EnvOk Tryd.prog env23) (hm : Tryd.prog.follows .mixedOrders = true) : Meets2 Tryd.prog glob 23 sp23 :=
  meets2_of_ev2 (O := orc23) (L := loops23) (c := body23) (rs := [.slot 2]) hE (fun _ => rfl) hm Tryd.func23 Tryd.call23 (by kernel_rfl) (by kernel_rfl) loops23_ok (rangesOk_nil (by kernel_rfl)) fit23 (fun s o h => (ev23 s.1).trans h)
def env12 : Env where
  tab := tab
  glob := glob
  spec := fun
    | _ => none
  spec2 := fun
    | 23, [] => some sp23
    | _, _ => none
def orc12 : Orc := ⟨33, fun _ => none, fun
  | 0 => [(.slot 0, .own)]
  | 1 => [(.slot 0, .own), (.slot 12, .own)]
  | 2 => [(.slot 2, .own), (.slot 3, .own)]
  | 3 => [(.slot 0, .own), (.slot 4, .own), (.box 4, .own), (.cell 4 0, .own)]
  | 4 => [(.slot 4, .own), (.slot 20, .own), (.box 4, .own), (.cell 4 0, .own), (.box 2100001, .own), (.cell 2100001 0, .own)]
  | 5 => [(.slot 4, .own), (.slot 5, .own), (.slot 20, .own), (.slot 22, .own), (.box 4, .own), (.cell 4 0, .own)]
  | 6 => [(.slot 4, .own), (.slot 5, .own), (.slot 6, .own), (.slot 20, .own), (.box 4, .own), (.cell 4 0, .own)]
  | 7 => [(.slot 4, .own), (.slot 5, .own), (.slot 20, .own), (.slot 24, .own), (.box 4, .own), (.cell 4 0, .own)]
  | 8 => [(.slot 4, .own), (.slot 5, .own), (.slot 20, .own), (.box 4, .own), (.cell 4 0, .own)]
  | 9 => [(.slot 4, .own), (.slot 20, .own), (.box 4, .own), (.cell 4 0, .own)]
  | 10 => [(.slot 2, .own), (.slot 3, .own)]
  | _ => []⟩
noncomputable def body12 : Code := Tryd.f12.body.getD .skip
def R12_5_esh : Shape := [(.slot 4, .ptr 4 0), (.box 4, .bx 38 1), (.cell 4 0, .own 5 (.int .u8))]
def R12_5_pk (s : Tup R12_5_esh) : (List Int) := s.2.2.1
def R12_5_un (s : (List Int)) : Tup R12_5_esh := ((), ((), (s, ())))
def R12_5_xo (x : ((List Int))) : Exit × Tup R12_5_esh := match x with
  | a => (.ret, R12_5_un a)
def R12_5_leave (x : ((List Int))) (R : Type) (K : Cont R) : Option R := match x with
  | a => K .ret (mkSt R12_5_esh (R12_5_un a))
theorem R12_5_lv (x : ((List Int))) (R : Type) (K : Cont R) : R12_5_leave x R K = K (R12_5_xo x).1 (mkSt R12_5_esh (R12_5_xo x).2) := by
  rfl
theorem R12_5_lvn (x : ((List Int))) (R : Type) (K : Cont R) : R12_5_leave x R K = (R12_5_leave x _ pairK).bind fun p => K p.1 p.2 := by
  rfl
def R12_5_d (e : Exit) (s : Tup R12_5_esh) : Option (((List Int))) := match e with
  | _ => none
theorem R12_5_dk : ∀ x e v, R12_5_d x e = some v → R12_5_xo v = (x, e) ∧ ∃ c, jumpOf x = some c := by
  intro x e v h
  cases x <;> cases h
def R12_5_r (s0 : (List Int)) (y0 : Int) (y1 : Bool) : Option (((List Int)) ⊕ (((List Int)))) :=
  let v12 : Bool := (!y1)
  bif v12 then
  let v13 : Int := (bits .or .u8 y0 (128 : Int))
  let v14 : (List Int) := (List.set (List.replicate 1 (0 : Int)) 0 v13)
  bif (decide (List.length (List.take (List.length s0) s0) + List.length v14 ≤ 100000000000)) then
  let v15 : (List Int) := ((List.take (List.length s0) s0) ++ v14)
  some (.inl v15)
  else none
  else
  let v16 : (List Int) := (List.set (List.replicate 1 (0 : Int)) 0 y0)
  bif (decide (List.length (List.take (List.length s0) s0) + List.length v16 ≤ 100000000000)) then
  let v17 : (List Int) := ((List.take (List.length s0) s0) ++ v16)
  some (.inl v17)
  else none
def R12_5_step (b : (List Int)) (y : Y25) : Option (((List Int)) ⊕ (((List Int)))) := R12_5_r b y.1 y.2
def loops12 : Nat → Option (Sum) := fun | 5 => some (rangeSum env12 25 20 R12_5_esh I25 R12_5_pk R12_5_un R12_5_step R12_5_leave) | _ => none
theorem loops12_nat : ∀ q f, loops12 q = some f → Natural f := by
  intro q f h
  unfold loops12 at h
  split at h
  · cases h; exact natural_range R12_5_lvn
  · cases h
theorem loops12_ok : LoopsOk env12 orc12 loops12 body12 := loopsOk_nil (by kernel_rfl)
noncomputable def R12_5_code : Code := (rangesOf body12).getD 0 .skip
theorem R12_5_round (s0 : (List Int)) (y0 : Int) (y1 : Bool) : roundQ env12 orc12 loops12 R12_5_esh R12_5_pk R12_5_d R12_5_code (I25.enc (y0, y1)) ((), ((), (s0, ()))) = R12_5_r s0 y0 y1 := by kernel_rfl
theorem R12_5_form : R12_5_code = .rangeFunc (.tmp 20) (rgPs R12_5_code) (rgAsg R12_5_code) (rgBody R12_5_code) := by kernel_rfl
theorem R12_5_len (y : Y25) : (rgPs R12_5_code).toList.length = (I25.enc y).length := by kernel_rfl
theorem R12_5_ok (hE : EnvOk Tryd.prog env12) (hm : Tryd.prog.follows .mixedOrders = true) (hI : IterOk Tryd.prog glob 25 I25) : RangeOk Tryd.prog env12 orc12.n R12_5_code (rangeSum env12 25 20 R12_5_esh I25 R12_5_pk R12_5_un R12_5_step R12_5_leave) :=
  rangeOk' (L := loops12) hE hm hI R12_5_form (loopsOk_nil (by kernel_rfl)) (loopsOk_nil (by kernel_rfl)) (by kernel_rfl) (by kernel_rfl) (by kernel_rfl) (by kernel_rfl) (pk := R12_5_pk) (un := R12_5_un) (fun _ => rfl) R12_5_dk R12_5_lv R12_5_len fun b y => R12_5_round b y.1 y.2
theorem ranges12_all : rangesOf body12 = [R12_5_code] := by kernel_rfl
theorem R12_5_key : lookL loops12 (keyOf R12_5_code) = some (rangeSum env12 25 20 R12_5_esh I25 R12_5_pk R12_5_un R12_5_step R12_5_leave) := by kernel_rfl
theorem ranges12_ok (hE : EnvOk Tryd.prog env12) (hm : Tryd.prog.follows .mixedOrders = true) (hI25 : IterOk Tryd.prog glob 25 I25) : RangesOk Tryd.prog env12 orc12.n loops12 body12 := by
  intro c hc f hf
  rw [ranges12_all] at hc
  simp only [List.mem_cons, List.not_mem_nil, or_false] at hc
  subst hc
  · rw [R12_5_key] at hf; cases hf; exact R12_5_ok hE hm hI25
def G12 (x0 : Int) : Option ((List UInt8) × Int) :=
  let v1 : Bool := (decide (x0 < (-4611686018427387903 : Int)))
  let v2 : Bool := (decide (x0 > (4611686018427387903 : Int)))
  let v3 : Bool := (bif v1 then true else v2)
  bif v3 then
  some (([] : List UInt8), (10 : Int))
  else
  let v4 : (List Int) := ([] : (List Int))
  let v5 : (List Int) := ([] : (List Int))
  let v6 : Int := (IntKind.u64.wrap x0)
  let v7 : Int := (IntKind.u64.wrap (v6 * 2 ^ min (Int.toNat (1 : Int)) (IntKind.u64.bits)))
  let v8 : Int := (Int.fdiv x0 (2 ^ min (Int.toNat (63 : Int)) (IntKind.i64.bits)))
  let v9 : Int := (IntKind.u64.wrap v8)
  let v10 : Int := (bits .xor .u64 v7 v9)
  bif (Option.isSome (sp23.f (v10, ()))) then
  let q11 : Tup sp23.pout := Option.getD (sp23.f (v10, ())) (Tup.zero sp23.pout)
  Option.bind (I25.f ((), ((), (q11.2.2.1, ())))) fun ys => Option.bind (foldX R12_5_step ys v5) fun z => match z with
  | .inl (r18 : (List Int)) =>
  let v19 : (List UInt8) := (List.map (fun (n : Int) => UInt8.ofNat n.toNat) (List.take (List.length r18) r18))
  some (v19, (0 : Int))
  | .inr r18 =>
  none
  else none
theorem ev12 (x0 : Int) : ev2 env12 orc12 loops12 body12 (initSt 0 [⟨(.int .i64), x0⟩]) (retT [(2, .dat .str), (3, .dat (.int .i64))] [.str, (.int .i64)] fun x => (x.1, x.2.1)) = G12 x0 := by kernel_rfl
def P12 (x0 : Int) : Bool := (G12 x0).isSome
def F12 (x0 : Int) : (List UInt8) × Int := (G12 x0).getD default
theorem G12_some (x0 : Int) (h : P12 x0 = true) : G12 x0 = some (F12 x0) := by
  unfold P12 at h; unfold F12
  cases hg : G12 x0 with
  | none => rw [hg] at h; cases h
  | some r => rfl
theorem P12_of (x0 : Int) {r : (List UInt8) × Int} (h : G12 x0 = some r) : P12 x0 = true := by unfold P12; rw [h]; rfl
theorem F12_of (x0 : Int) {r : (List UInt8) × Int} (h : G12 x0 = some r) : F12 x0 = r := by unfold F12; rw [h]; rfl
def spec12 : Spec := ⟨[(.int .i64)], [.dat .str, .dat (.int .i64)], fun | [a0] => P12 (a0.as (.int .i64)) | _ => false, fun | [a0] => [⟨.str, (F12 (a0.as (.int .i64))).1⟩, ⟨(.int .i64), (F12 (a0.as (.int .i64))).2⟩] | _ => []⟩
theorem meets12 (hE : EnvOk Tryd.prog env12) (hm : Tryd.prog.follows .mixedOrders = true) (hI25 : IterOk Tryd.prog glob 25 I25) : Meets Tryd.prog glob 12 spec12 :=
  meets_of_ev2 (O := orc12) (L := loops12) (c := body12) (slots := [2, 3]) hE hm Tryd.func12 Tryd.call12 (by kernel_rfl) (by kernel_rfl) loops12_ok (ranges12_ok hE hm hI25) (by kernel_rfl) rfl (by decide) (fun ds hds hpre => by
  obtain ⟨x0, ds0, rfl, h0⟩ := datsS hds
  have h9 := dats0 h0; subst h9
  exact ev_ret (un := fun r => [⟨.str, r.1⟩, ⟨(.int .i64), r.2⟩]) loops12_nat (fun _ => rfl) ((ev12 x0).trans (G12_some x0 hpre)))
def env14 : Env where
  tab := tab
  glob := glob
  spec := fun
    | _ => none
def orc14 : Orc := ⟨13, fun _ => none, fun
  | 0 => [(.slot 0, .own), (.slot 1, .own)]
  | 1 => [(.slot 0, .own), (.slot 1, .own), (.slot 6, .own)]
  | 2 => [(.slot 0, .own), (.slot 1, .own)]
  | 3 => [(.slot 4, .own)]
  | _ => []⟩
noncomputable def body14 : Code := Tryd.f14.body.getD .skip
def loops14 : Nat → Option (Sum) := fun | _ => none
theorem loops14_nat : ∀ q f, loops14 q = some f → Natural f := by
  intro q f h
  cases h
theorem loops14_ok : LoopsOk env14 orc14 loops14 body14 := loopsOk_nil (by kernel_rfl)
def G14 (x0 : Int) (x1 : Int) : Option (Int) :=
  let v1 : Bool := (decide (x0 < (0 : Int)))
  bif v1 then
  let v2 : Int := (IntKind.i64.wrap (x0 + (1 : Int)))
  let v3 : Int := (IntKind.i64.wrap (0 - v2))
  bif (!(x1 == 0)) then
  let v4 : Int := (Int.tmod v3 x1)
  some (v4)
  else none
  else
  bif (!(x1 == 0)) then
  let v5 : Int := (Int.tmod x0 x1)
  some (v5)
  else none
theorem ev14 (x0 : Int) (x1 : Int) : ev2 env14 orc14 loops14 body14 (initSt 0 [⟨(.int .i64), x0⟩, ⟨(.int .i64), x1⟩]) (retT [(4, .dat (.int .i64))] [(.int .i64)] fun x => x.1) = G14 x0 x1 := by kernel_rfl
def P14 (x0 : Int) (x1 : Int) : Bool := (G14 x0 x1).isSome
def F14 (x0 : Int) (x1 : Int) : Int := (G14 x0 x1).getD default
theorem G14_some (x0 : Int) (x1 : Int) (h : P14 x0 x1 = true) : G14 x0 x1 = some (F14 x0 x1) := by
  unfold P14 at h; unfold F14
  cases hg : G14 x0 x1 with
  | none => rw [hg] at h; cases h
  | some r => rfl
theorem P14_of (x0 : Int) (x1 : Int) {r : Int} (h : G14 x0 x1 = some r) : P14 x0 x1 = true := by unfold P14; rw [h]; rfl
theorem F14_of (x0 : Int) (x1 : Int) {r : Int} (h : G14 x0 x1 = some r) : F14 x0 x1 = r := by unfold F14; rw [h]; rfl
def spec14 : Spec := ⟨[(.int .i64), (.int .i64)], [.dat (.int .i64)], fun | [a0, a1] => P14 (a0.as (.int .i64)) (a1.as (.int .i64)) | _ => false, fun | [a0, a1] => [⟨(.int .i64), (F14 (a0.as (.int .i64)) (a1.as (.int .i64)))⟩] | _ => []⟩
theorem meets14 (hE : EnvOk Tryd.prog env14) (hm : Tryd.prog.follows .mixedOrders = true) : Meets Tryd.prog glob 14 spec14 :=
  meets_of_ev2 (O := orc14) (L := loops14) (c := body14) (slots := [4]) hE hm Tryd.func14 Tryd.call14 (by kernel_rfl) (by kernel_rfl) loops14_ok (rangesOk_nil (by kernel_rfl)) (by kernel_rfl) rfl (by decide) (fun ds hds hpre => by
  obtain ⟨x0, ds0, rfl, h0⟩ := datsS hds
  obtain ⟨x1, ds1, rfl, h1⟩ := datsS h0
  have h9 := dats0 h1; subst h9
  exact ev_ret (un := fun r => [⟨(.int .i64), r⟩]) loops14_nat (fun _ => rfl) ((ev14 x0 x1).trans (G14_some x0 x1 hpre)))
def env11 : Env where
  tab := tab
  glob := glob
  spec := fun
    | 14 => some spec14
    | _ => none
def orc11 : Orc := ⟨19, fun _ => none, fun
  | 0 => [(.slot 0, .own)]
  | 1 => [(.slot 0, .own), (.slot 3, .own)]
  | 2 => [(.slot 3, .own), (.slot 15, .own)]
  | 3 => [(.slot 2, .own)]
  | 4 => [(.slot 2, .own)]
  | _ => []⟩
noncomputable def body11 : Code := Tryd.f11.body.getD .skip
def loops11 : Nat → Option (Sum) := fun | _ => none
theorem loops11_nat : ∀ q f, loops11 q = some f → Natural f := by
  intro q f h
  cases h
theorem loops11_ok : LoopsOk env11 orc11 loops11 body11 := loopsOk_nil (by kernel_rfl)
def G11 (x0 : Int) : Option (Int) :=
  bif (P14 x0 (4611686018427387904 : Int)) then
  let v1 : Int := (F14 x0 (4611686018427387904 : Int))
  let v2 : Int := (IntKind.i64.wrap (Int.tdiv v1 (8 : Int)))
  let v3 : (List Int) := (List.set (List.set (List.set (List.set (List.set (List.set (List.set (List.set (List.replicate 8 (0 : Int)) 0 (64 : Int)) 1 (128 : Int)) 2 (8192 : Int)) 3 (16384 : Int)) 4 (1073741824 : Int)) 5 (36028797018963968 : Int)) 6 (576460752303423488 : Int)) 7 (2 : Int))
  bif (P14 x0 (8 : Int)) then
  let v4 : Int := (F14 x0 (8 : Int))
  bif (decide (0 ≤ v4) && decide (v4 < (List.length v3))) then
  bif (decide ((Int.toNat v4) < List.length v3)) then
  let v5 : Int := (List.getD v3 (Int.toNat v4) (0 : Int))
  bif (P14 v2 v5) then
  let v6 : Int := (F14 v2 v5)
  bif (P14 x0 (16 : Int)) then
  let v7 : Int := (F14 x0 (16 : Int))
  let v8 : Bool := (decide (v7 ≥ (8 : Int)))
  bif v8 then
  let v9 : Int := (IntKind.i64.wrap (0 - v6))
  some (v9)
  else
  some (v6)
  else none
  else none
  else none
  else none
  else none
  else none
theorem ev11 (x0 : Int) : ev2 env11 orc11 loops11 body11 (initSt 0 [⟨(.int .i64), x0⟩]) (retT [(2, .dat (.int .i64))] [(.int .i64)] fun x => x.1) = G11 x0 := by kernel_rfl
def P11 (x0 : Int) : Bool := (G11 x0).isSome
def F11 (x0 : Int) : Int := (G11 x0).getD default
theorem G11_some (x0 : Int) (h : P11 x0 = true) : G11 x0 = some (F11 x0) := by
  unfold P11 at h; unfold F11
  cases hg : G11 x0 with
  | none => rw [hg] at h; cases h
  | some r => rfl
theorem P11_of (x0 : Int) {r : Int} (h : G11 x0 = some r) : P11 x0 = true := by unfold P11; rw [h]; rfl
theorem F11_of (x0 : Int) {r : Int} (h : G11 x0 = some r) : F11 x0 = r := by unfold F11; rw [h]; rfl
def spec11 : Spec := ⟨[(.int .i64)], [.dat (.int .i64)], fun | [a0] => P11 (a0.as (.int .i64)) | _ => false, fun | [a0] => [⟨(.int .i64), (F11 (a0.as (.int .i64)))⟩] | _ => []⟩
theorem meets11 (hE : EnvOk Tryd.prog env11) (hm : Tryd.prog.follows .mixedOrders = true) : Meets Tryd.prog glob 11 spec11 :=
  meets_of_ev2 (O := orc11) (L := loops11) (c := body11) (slots := [2]) hE hm Tryd.func11 Tryd.call11 (by kernel_rfl) (by kernel_rfl) loops11_ok (rangesOk_nil (by kernel_rfl)) (by kernel_rfl) rfl (by decide) (fun ds hds hpre => by
  obtain ⟨x0, ds0, rfl, h0⟩ := datsS hds
  have h9 := dats0 h0; subst h9
  exact ev_ret (un := fun r => [⟨(.int .i64), r⟩]) loops11_nat (fun _ => rfl) ((ev11 x0).trans (G11_some x0 hpre)))
def env24 : Env where
  tab := tab
  glob := glob
  spec := fun
    | _ => none
def orc24 : Orc := ⟨13, fun _ => none, fun
  | 0 => [(.slot 0, .own)]
  | 1 => [(.slot 0, .own), (.slot 4, .own)]
  | 2 => [(.slot 2, .own)]
  | 3 => [(.slot 2, .own)]
  | _ => []⟩
noncomputable def body24 : Code := Tryd.f24.body.getD .skip
def loops24 : Nat → Option (Sum) := fun | _ => none
theorem loops24_nat : ∀ q f, loops24 q = some f → Natural f := by
  intro q f h
  cases h
theorem loops24_ok : LoopsOk env24 orc24 loops24 body24 := loopsOk_nil (by kernel_rfl)
def G24 (x0 : Int) : Option (Int) :=
  let v1 : Bool := (decide (x0 < (0 : Int)))
  bif v1 then
  let v2 : Int := (IntKind.i64.wrap (0 - x0))
  let v3 : Int := (IntKind.u64.wrap v2)
  let v4 : Int := (IntKind.u64.wrap (v3 * (2 : Int)))
  let v5 : Int := (IntKind.u64.wrap (v4 - (1 : Int)))
  some (v5)
  else
  let v6 : Int := (IntKind.u64.wrap x0)
  let v7 : Int := (IntKind.u64.wrap (v6 * (2 : Int)))
  some (v7)
theorem ev24 (x0 : Int) : ev2 env24 orc24 loops24 body24 (initSt 0 [⟨(.int .i64), x0⟩]) (retT [(2, .dat (.int .u64))] [(.int .u64)] fun x => x.1) = G24 x0 := by kernel_rfl
def P24 (x0 : Int) : Bool := (G24 x0).isSome
def F24 (x0 : Int) : Int := (G24 x0).getD default
theorem G24_some (x0 : Int) (h : P24 x0 = true) : G24 x0 = some (F24 x0) := by
  unfold P24 at h; unfold F24
  cases hg : G24 x0 with
  | none => rw [hg] at h; cases h
  | some r => rfl
theorem P24_of (x0 : Int) {r : Int} (h : G24 x0 = some r) : P24 x0 = true := by unfold P24; rw [h]; rfl
theorem F24_of (x0 : Int) {r : Int} (h : G24 x0 = some r) : F24 x0 = r := by unfold F24; rw [h]; rfl
def spec24 : Spec := ⟨[(.int .i64)], [.dat (.int .u64)], fun | [a0] => P24 (a0.as (.int .i64)) | _ => false, fun | [a0] => [⟨(.int .u64), (F24 (a0.as (.int .i64)))⟩] | _ => []⟩
theorem meets24 (hE : EnvOk Tryd.prog env24) (hm : Tryd.prog.follows .mixedOrders = true) : Meets Tryd.prog glob 24 spec24 :=
  meets_of_ev2 (O := orc24) (L := loops24) (c := body24) (slots := [2]) hE hm Tryd.func24 Tryd.call24 (by kernel_rfl) (by kernel_rfl) loops24_ok (rangesOk_nil (by kernel_rfl)) (by kernel_rfl) rfl (by decide) (fun ds hds hpre => by
  obtain ⟨x0, ds0, rfl, h0⟩ := datsS hds
  have h9 := dats0 h0; subst h9
  exact ev_ret (un := fun r => [⟨(.int .u64), r⟩]) loops24_nat (fun _ => rfl) ((ev24 x0).trans (G24_some x0 hpre)))
def env13 : Env where
  tab := tab
  glob := glob
  spec := fun
    | 24 => some spec24
    | _ => none
def orc13 : Orc := ⟨31, fun _ => none, fun
  | 0 => [(.slot 0, .own)]
  | 1 => [(.slot 0, .own), (.slot 11, .own)]
  | 2 => [(.slot 2, .own), (.slot 3, .own)]
  | 3 => [(.slot 4, .own)]
  | 4 => [(.slot 4, .own), (.slot 5, .own)]
  | 5 => [(.slot 4, .own), (.slot 5, .own), (.slot 15, .own)]
  | 6 => [(.slot 4, .own), (.slot 5, .own)]
  | 7 => [(.slot 4, .own), (.slot 5, .own)]
  | 8 => [(.slot 2, .own), (.slot 3, .own)]
  | _ => []⟩
noncomputable def body13 : Code := Tryd.f13.body.getD .skip
def L13_5_sh : Shape := [(.slot 4, .dat (.int .u64)), (.slot 5, .own 5 (.int .u8))]
def L13_5_x0 : Shape := [(.slot 4, .dat (.int .u64)), (.slot 5, .own 5 (.int .u8))]
def L13_5_pk (s : Tup L13_5_sh) : Int × (List Int) := (s.1, s.2.1)
def L13_5_un (s : Int × (List Int)) : Tup L13_5_sh := (s.1, (s.2, ()))
def L13_5_leave (x : (Int × (List Int))) (R : Type) (K : Cont R) : Option R := match x with
  | a => K (.exit 0) (mkSt L13_5_x0 (a.1, (a.2, ())))
def L13_5_d (e : Exit) (st : St) : Option ((Int × (List Int))) := match e with
  | .exit 0 => (match unSt L13_5_x0 st with
    | some s => some (s.1, s.2.1)
    | none => none)
  | _ => none
def L13_5_r (s0 : Int) (s1 : (List Int)) : Option ((Int × (List Int)) ⊕ ((Int × (List Int)))) :=
  let v6 : Bool := (decide (s0 ≥ (128 : Int)))
  bif v6 then
  let v7 : Int := (Int.tmod s0 (128 : Int))
  let v8 : Int := (IntKind.u64.wrap (v7 + (128 : Int)))
  let v9 : Int := (IntKind.u8.wrap v8)
  let v10 : (List Int) := (List.set (List.replicate 1 (0 : Int)) 0 v9)
  bif (decide (List.length (List.take (List.length s1) s1) + List.length v10 ≤ 100000000000)) then
  let v11 : (List Int) := ((List.take (List.length s1) s1) ++ v10)
  let v12 : Int := (IntKind.u64.wrap (Int.tdiv s0 (128 : Int)))
  some (.inl (v12, v11))
  else none
  else
  some (.inr (s0, s1))
def L13_5 : Int × (List Int) → Option ((Int × (List Int))) := Lim (fun s => L13_5_r s.1 s.2)
def L13_5_sum : Sum := limSum L13_5_sh L13_5_pk (fun s => L13_5_r s.1 s.2) L13_5_leave
theorem L13_5_nat : Natural L13_5_sum := natural_lim fun x R K => by
  rfl
theorem L13_5_dok : ∀ e st x, e ≠ .normal → L13_5_d e st = some x → ∀ R (K : Cont R), K e st = L13_5_leave x R K := by
  intro e st x _ h R K
  unfold L13_5_d at h
  split at h
  · split at h
    · rename_i s hs; cases h; rw [unSt_some hs]; rfl
    · cases h
  · cases h
def loops13 : Nat → Option (Sum) := fun | 5 => some L13_5_sum | _ => none
theorem loops13_nat : ∀ q f, loops13 q = some f → Natural f := by
  intro q f h
  unfold loops13 at h
  split at h
  · cases h; exact L13_5_nat
  · cases h
noncomputable def L13_5_code : Code := (loopsOf body13).getD 0 .skip
theorem L13_5_round (s0 : Int) (s1 : (List Int)) : ev2 env13 orc13 loops13 L13_5_code (mkSt L13_5_sh (s0, (s1, ()))) (back L13_5_sh L13_5_pk L13_5_d) = L13_5_r s0 s1 := by kernel_rfl
theorem L13_5_ok : SumOk env13 orc13 loops13 L13_5_code L13_5_sum := sumOk_lim (un := L13_5_un) loops13_nat (fun _ => rfl) L13_5_dok fun s => L13_5_round s.1 s.2
theorem loops13_all : loopsOf body13 = [L13_5_code] := by kernel_rfl
theorem L13_5_key : lookL loops13 (keyOf L13_5_code) = some L13_5_sum := by kernel_rfl
theorem loops13_ok : LoopsOk env13 orc13 loops13 body13 := by
  intro c hc f hf
  rw [loops13_all] at hc
  simp only [List.mem_cons, List.not_mem_nil, or_false] at hc
  subst hc
  · rw [L13_5_key] at hf; cases hf; exact L13_5_ok
def G13 (x0 : Int) : Option ((List UInt8) × Int) :=
  let v1 : Bool := (decide (x0 < (-4611686018427387903 : Int)))
  let v2 : Bool := (decide (x0 > (4611686018427387903 : Int)))
  let v3 : Bool := (bif v1 then true else v2)
  bif v3 then
  some (([] : List UInt8), (10 : Int))
  else
  bif (P24 x0) then
  let v4 : Int := (F24 x0)
  let v5 : (List Int) := ([] : (List Int))
  Option.bind (L13_5 (v4, v5)) fun (r13 : Int × (List Int)) =>
  let v14 : Int := (IntKind.u8.wrap r13.1)
  let v15 : (List Int) := (List.set (List.replicate 1 (0 : Int)) 0 v14)
  bif (decide (List.length (List.take (List.length r13.2) r13.2) + List.length v15 ≤ 100000000000)) then
  let v16 : (List Int) := ((List.take (List.length r13.2) r13.2) ++ v15)
  let v17 : (List UInt8) := (List.map (fun (n : Int) => UInt8.ofNat n.toNat) v16)
  some (v17, (0 : Int))
  else none
  else none
theorem ev13 (x0 : Int) : ev2 env13 orc13 loops13 body13 (initSt 0 [⟨(.int .i64), x0⟩]) (retT [(2, .dat .str), (3, .dat (.int .i64))] [.str, (.int .i64)] fun x => (x.1, x.2.1)) = G13 x0 := by kernel_rfl
def P13 (x0 : Int) : Bool := (G13 x0).isSome
def F13 (x0 : Int) : (List UInt8) × Int := (G13 x0).getD default
theorem G13_some (x0 : Int) (h : P13 x0 = true) : G13 x0 = some (F13 x0) := by
  unfold P13 at h; unfold F13
  cases hg : G13 x0 with
  | none => rw [hg] at h; cases h
  | some r => rfl
theorem P13_of (x0 : Int) {r : (List UInt8) × Int} (h : G13 x0 = some r) : P13 x0 = true := by unfold P13; rw [h]; rfl
theorem F13_of (x0 : Int) {r : (List UInt8) × Int} (h : G13 x0 = some r) : F13 x0 = r := by unfold F13; rw [h]; rfl
def spec13 : Spec := ⟨[(.int .i64)], [.dat .str, .dat (.int .i64)], fun | [a0] => P13 (a0.as (.int .i64)) | _ => false, fun | [a0] => [⟨.str, (F13 (a0.as (.int .i64))).1⟩, ⟨(.int .i64), (F13 (a0.as (.int .i64))).2⟩] | _ => []⟩
theorem meets13 (hE : EnvOk Tryd.prog env13) (hm : Tryd.prog.follows .mixedOrders = true) : Meets Tryd.prog glob 13 spec13 :=
  meets_of_ev2 (O := orc13) (L := loops13) (c := body13) (slots := [2, 3]) hE hm Tryd.func13 Tryd.call13 (by kernel_rfl) (by kernel_rfl) loops13_ok (rangesOk_nil (by kernel_rfl)) (by kernel_rfl) rfl (by decide) (fun ds hds hpre => by
  obtain ⟨x0, ds0, rfl, h0⟩ := datsS hds
  have h9 := dats0 h0; subst h9
  exact ev_ret (un := fun r => [⟨.str, r.1⟩, ⟨(.int .i64), r.2⟩]) loops13_nat (fun _ => rfl) ((ev13 x0).trans (G13_some x0 hpre)))
def env15 : Env where
  tab := tab
  glob := glob
  spec := fun
    | _ => none
def orc15 : Orc := ⟨67, fun _ => none, fun
  | 0 => [(.slot 0, .own), (.slot 1, .own)]
  | 1 => [(.slot 0, .own), (.slot 1, .own), (.slot 18, .own)]
  | 2 => [(.slot 4, .own), (.slot 5, .own), (.slot 6, .own)]
  | 3 => [(.slot 0, .own), (.slot 1, .own), (.slot 7, .own)]
  | 4 => [(.slot 0, .own), (.slot 1, .own), (.slot 7, .own), (.slot 19, .own)]
  | 5 => [(.slot 0, .own), (.slot 1, .own), (.slot 7, .own), (.slot 19, .own), (.slot 20, .own)]
  | 6 => [(.slot 0, .own), (.slot 1, .own), (.slot 7, .own), (.slot 8, .own), (.slot 19, .own)]
  | 7 => [(.slot 0, .own), (.slot 1, .own), (.slot 7, .own), (.slot 8, .own), (.slot 19, .own), (.slot 27, .own)]
  | 8 => [(.slot 0, .own), (.slot 1, .own), (.slot 7, .own), (.slot 8, .own), (.slot 9, .own), (.slot 19, .own)]
  | 9 => [(.slot 0, .own), (.slot 1, .own), (.slot 7, .own), (.slot 8, .own), (.slot 9, .own), (.slot 19, .own)]
  | 10 => [(.slot 0, .own), (.slot 1, .own), (.slot 7, .own), (.slot 8, .own), (.slot 9, .own), (.slot 19, .own), (.slot 42, .own)]
  | 11 => [(.slot 1, .own), (.slot 8, .own), (.slot 9, .own), (.slot 10, .own)]
  | 12 => [(.slot 1, .own), (.slot 8, .own), (.slot 10, .own), (.slot 60, .own)]
  | 13 => [(.slot 4, .own), (.slot 5, .own), (.slot 6, .own)]
  | 14 => [(.slot 0, .own), (.slot 1, .own), (.slot 7, .own), (.slot 19, .own)]
  | 15 => [(.slot 4, .own), (.slot 5, .own), (.slot 6, .own)]
  | _ => []⟩
noncomputable def body15 : Code := Tryd.f15.body.getD .skip
def L15_5_sh : Shape := [(.slot 0, .dat .str), (.slot 1, .dat (.int .i64)), (.slot 7, .dat (.int .u64)), (.slot 19, .dat (.int .i64))]
def L15_5_x0 : Shape := [(.slot 0, .dat .str), (.slot 1, .dat (.int .i64)), (.slot 7, .dat (.int .u64)), (.slot 8, .dat (.int .i64)), (.slot 19, .dat (.int .i64))]
def L15_5_x1 : Shape := [(.slot 1, .dat (.int .i64)), (.slot 8, .dat (.int .i64)), (.slot 10, .dat (.int .i64))]
def L15_5_x2 : Shape := [(.slot 4, .dat (.int .i64)), (.slot 5, .dat (.int .i64)), (.slot 6, .dat (.int .i64))]
def L15_5_x3 : Shape := [(.slot 0, .dat .str), (.slot 1, .dat (.int .i64)), (.slot 7, .dat (.int .u64)), (.slot 19, .dat (.int .i64))]
def L15_5_pk (s : Tup L15_5_sh) : (List UInt8) × Int × Int × Int := (s.1, s.2.1, s.2.2.1, s.2.2.2.1)
def L15_5_un (s : (List UInt8) × Int × Int × Int) : Tup L15_5_sh := (s.1, (s.2.1, (s.2.2.1, (s.2.2.2, ()))))
def L15_5_leave (x : ((List UInt8) × Int × Int × Int × Int) ⊕ (Int × Int × Int) ⊕ (Int × Int × Int) ⊕ ((List UInt8) × Int × Int × Int)) (R : Type) (K : Cont R) : Option R := match x with
  | (.inl a) => K (.exit 0) (mkSt L15_5_x0 (a.1, (a.2.1, (a.2.2.1, (a.2.2.2.1, (a.2.2.2.2, ()))))))
  | (.inr (.inl a)) => K (.exit 0) (mkSt L15_5_x1 (a.1, (a.2.1, (a.2.2, ()))))
  | (.inr (.inr (.inl a))) => K .ret (mkSt L15_5_x2 (a.1, (a.2.1, (a.2.2, ()))))
  | (.inr (.inr (.inr a))) => K (.exit 0) (mkSt L15_5_x3 (a.1, (a.2.1, (a.2.2.1, (a.2.2.2, ())))))
def L15_5_d (e : Exit) (st : St) : Option (((List UInt8) × Int × Int × Int × Int) ⊕ (Int × Int × Int) ⊕ (Int × Int × Int) ⊕ ((List UInt8) × Int × Int × Int)) := match e with
  | .exit 0 => (match unSt L15_5_x0 st with
    | some s => some (.inl (s.1, s.2.1, s.2.2.1, s.2.2.2.1, s.2.2.2.2.1))
    | none => (match unSt L15_5_x1 st with
    | some s => some (.inr (.inl (s.1, s.2.1, s.2.2.1)))
    | none => (match unSt L15_5_x3 st with
    | some s => some (.inr (.inr (.inr (s.1, s.2.1, s.2.2.1, s.2.2.2.1))))
    | none => none)))
  | .ret => (match unSt L15_5_x2 st with
    | some s => some (.inr (.inr (.inl (s.1, s.2.1, s.2.2.1))))
    | none => none)
  | _ => none
def L15_5_r (s0 : (List UInt8)) (s1 : Int) (s2 : Int) (s3 : Int) : Option (((List UInt8) × Int × Int × Int) ⊕ (((List UInt8) × Int × Int × Int × Int) ⊕ (Int × Int × Int) ⊕ (Int × Int × Int) ⊕ ((List UInt8) × Int × Int × Int))) :=
  let v5 : Bool := (decide (s3 < (9 : Int)))
  bif v5 then
  let v6 : Int := (IntKind.i64.wrap (s1 + s3))
  let v7 : Int := ((List.length s0 : Nat) : Int)
  let v8 : Bool := (decide (v6 ≥ v7))
  bif v8 then
  some (.inr (.inl (s0, s1, s2, s3, s3)))
  else
  let v9 : Int := (IntKind.i64.wrap (s1 + s3))
  bif (decide (0 ≤ v9) && decide (v9 < List.length s0)) then
  let v10 : Int := ((List.getD s0 (Int.toNat v9) 0).toNat : Int)
  let v11 : Int := (bits .and .u8 v10 (127 : Int))
  let v12 : Int := (IntKind.u64.wrap v11)
  let v13 : Int := (IntKind.i64.wrap ((7 : Int) * s3))
  bif (decide (0 ≤ v13)) then
  let v14 : Int := (IntKind.u64.wrap (v12 * 2 ^ min (Int.toNat v13) (IntKind.u64.bits)))
  let v15 : Int := (bits .or .u64 s2 v14)
  let v16 : Bool := (decide (v10 ≥ (128 : Int)))
  bif v16 then
  let v17 : Int := (IntKind.i64.wrap (s3 + (1 : Int)))
  some (.inl (s0, s1, v15, v17))
  else
  let v18 : Int := (Int.fdiv v15 (2 ^ min (Int.toNat (1 : Int)) (IntKind.u64.bits)))
  let v19 : Int := (IntKind.i64.wrap v18)
  let v20 : Int := (bits .and .u64 v15 (1 : Int))
  let v21 : Int := (IntKind.i64.wrap v20)
  let v22 : Int := (IntKind.i64.wrap (0 - v21))
  let v23 : Int := (bits .xor .i64 v19 v22)
  let v24 : Bool := (v10 == (0 : Int))
  let v25 : Bool := (decide (s3 > (0 : Int)))
  let v26 : Bool := (bif v24 then v25 else false)
  let v27 : Bool := (decide (v23 < (-4611686018427387903 : Int)))
  let v28 : Bool := (bif v26 then true else v27)
  bif v28 then
  some (.inr (.inr (.inl (s1, s3, v23))))
  else
  let v29 : Int := (IntKind.i64.wrap (s1 + s3))
  let v30 : Int := (IntKind.i64.wrap (v29 + (1 : Int)))
  some (.inr (.inr (.inr (.inl (v23, v30, (0 : Int))))))
  else none
  else none
  else
  some (.inr (.inr (.inr (.inr (s0, s1, s2, s3)))))
def L15_5 : (List UInt8) × Int × Int × Int → Option (((List UInt8) × Int × Int × Int × Int) ⊕ (Int × Int × Int) ⊕ (Int × Int × Int) ⊕ ((List UInt8) × Int × Int × Int)) := Lim (fun s => L15_5_r s.1 s.2.1 s.2.2.1 s.2.2.2)
def L15_5_sum : Sum := limSum L15_5_sh L15_5_pk (fun s => L15_5_r s.1 s.2.1 s.2.2.1 s.2.2.2) L15_5_leave
theorem L15_5_nat : Natural L15_5_sum := natural_lim fun x R K => by
  rcases x with x|x|x|x <;> rfl
theorem L15_5_dok : ∀ e st x, e ≠ .normal → L15_5_d e st = some x → ∀ R (K : Cont R), K e st = L15_5_leave x R K := by
  intro e st x _ h R K
  unfold L15_5_d at h
  split at h
  · split at h
    · rename_i s hs; cases h; rw [unSt_some hs]; rfl
    · split at h
      · rename_i s hs; cases h; rw [unSt_some hs]; rfl
      · split at h
        · rename_i s hs; cases h; rw [unSt_some hs]; rfl
        · cases h
  · split at h
    · rename_i s hs; cases h; rw [unSt_some hs]; rfl
    · cases h
  · cases h
def loops15 : Nat → Option (Sum) := fun | 5 => some L15_5_sum | _ => none
theorem loops15_nat : ∀ q f, loops15 q = some f → Natural f := by
  intro q f h
  unfold loops15 at h
  split at h
  · cases h; exact L15_5_nat
  · cases h
noncomputable def L15_5_code : Code := (loopsOf body15).getD 0 .skip
theorem L15_5_round (s0 : (List UInt8)) (s1 : Int) (s2 : Int) (s3 : Int) : ev2 env15 orc15 loops15 L15_5_code (mkSt L15_5_sh (s0, (s1, (s2, (s3, ()))))) (back L15_5_sh L15_5_pk L15_5_d) = L15_5_r s0 s1 s2 s3 := by kernel_rfl
theorem L15_5_ok : SumOk env15 orc15 loops15 L15_5_code L15_5_sum := sumOk_lim (un := L15_5_un) loops15_nat (fun _ => rfl) L15_5_dok fun s => L15_5_round s.1 s.2.1 s.2.2.1 s.2.2.2
theorem loops15_all : loopsOf body15 = [L15_5_code] := by kernel_rfl
theorem L15_5_key : lookL loops15 (keyOf L15_5_code) = some L15_5_sum := by kernel_rfl
theorem loops15_ok : LoopsOk env15 orc15 loops15 body15 := by
  intro c hc f hf
  rw [loops15_all] at hc
  simp only [List.mem_cons, List.not_mem_nil, or_false] at hc
  subst hc
  · rw [L15_5_key] at hf; cases hf; exact L15_5_ok
def G15 (x0 : (List UInt8)) (x1 : Int) : Option (Int × Int × Int) :=
  let v1 : Bool := (decide (x1 < (0 : Int)))
  let v2 : Int := ((List.length x0 : Nat) : Int)
  let v3 : Bool := (decide (x1 > v2))
  let v4 : Bool := (bif v1 then true else v3)
  bif v4 then
  some ((0 : Int), (0 : Int), (2 : Int))
  else
  Option.bind (L15_5 (x0, x1, (0 : Int), (0 : Int))) fun x => match x with
  | (.inl r31) =>
  some ((0 : Int), (0 : Int), (10 : Int))
  | (.inr (.inl r32)) =>
  some ((0 : Int), (0 : Int), (10 : Int))
  | (.inr (.inr (.inl r33))) =>
  some (r33.1, r33.2.1, r33.2.2)
  | (.inr (.inr (.inr r34))) =>
  some ((0 : Int), (0 : Int), (10 : Int))
theorem ev15 (x0 : (List UInt8)) (x1 : Int) : ev2 env15 orc15 loops15 body15 (initSt 0 [⟨.str, x0⟩, ⟨(.int .i64), x1⟩]) (retT [(4, .dat (.int .i64)), (5, .dat (.int .i64)), (6, .dat (.int .i64))] [(.int .i64), (.int .i64), (.int .i64)] fun x => (x.1, x.2.1, x.2.2.1)) = G15 x0 x1 := by kernel_rfl
def P15 (x0 : (List UInt8)) (x1 : Int) : Bool := (G15 x0 x1).isSome
def F15 (x0 : (List UInt8)) (x1 : Int) : Int × Int × Int := (G15 x0 x1).getD default
theorem G15_some (x0 : (List UInt8)) (x1 : Int) (h : P15 x0 x1 = true) : G15 x0 x1 = some (F15 x0 x1) := by
  unfold P15 at h; unfold F15
  cases hg : G15 x0 x1 with
  | none => rw [hg] at h; cases h
  | some r => rfl
theorem P15_of (x0 : (List UInt8)) (x1 : Int) {r : Int × Int × Int} (h : G15 x0 x1 = some r) : P15 x0 x1 = true := by unfold P15; rw [h]; rfl
theorem F15_of (x0 : (List UInt8)) (x1 : Int) {r : Int × Int × Int} (h : G15 x0 x1 = some r) : F15 x0 x1 = r := by unfold F15; rw [h]; rfl
def spec15 : Spec := ⟨[.str, (.int .i64)], [.dat (.int .i64), .dat (.int .i64), .dat (.int .i64)], fun | [a0, a1] => P15 (a0.as .str) (a1.as (.int .i64)) | _ => false, fun | [a0, a1] => [⟨(.int .i64), (F15 (a0.as .str) (a1.as (.int .i64))).1⟩, ⟨(.int .i64), (F15 (a0.as .str) (a1.as (.int .i64))).2.1⟩, ⟨(.int .i64), (F15 (a0.as .str) (a1.as (.int .i64))).2.2⟩] | _ => []⟩
theorem meets15 (hE : EnvOk Tryd.prog env15) (hm : Tryd.prog.follows .mixedOrders = true) : Meets Tryd.prog glob 15 spec15 :=
  meets_of_ev2 (O := orc15) (L := loops15) (c := body15) (slots := [4, 5, 6]) hE hm Tryd.func15 Tryd.call15 (by kernel_rfl) (by kernel_rfl) loops15_ok (rangesOk_nil (by kernel_rfl)) (by kernel_rfl) rfl (by decide) (fun ds hds hpre => by
  obtain ⟨x0, ds0, rfl, h0⟩ := datsS hds
  obtain ⟨x1, ds1, rfl, h1⟩ := datsS h0
  have h9 := dats0 h1; subst h9
  exact ev_ret (un := fun r => [⟨(.int .i64), r.1⟩, ⟨(.int .i64), r.2.1⟩, ⟨(.int .i64), r.2.2⟩]) loops15_nat (fun _ => rfl) ((ev15 x0 x1).trans (G15_some x0 x1 hpre)))
def env16 : Env where
  tab := tab
  glob := glob
  spec := fun
    | 13 => some spec13
    | _ => none
def orc16 : Orc := ⟨80, fun _ => none, fun
  | 0 => [(.slot 0, .own), (.slot 1, .own)]
  | 1 => [(.slot 0, .own), (.slot 1, .own), (.slot 20, .own)]
  | 2 => [(.slot 4, .own), (.slot 5, .own), (.slot 6, .own)]
  | 3 => [(.slot 0, .own), (.slot 1, .own), (.slot 7, .own)]
  | 4 => [(.slot 0, .own), (.slot 1, .own), (.slot 7, .own), (.slot 8, .own)]
  | 5 => [(.slot 0, .own), (.slot 1, .own), (.slot 7, .own), (.slot 8, .own), (.slot 30, .own)]
  | 6 => [(.slot 0, .own), (.slot 1, .own), (.slot 7, .own), (.slot 8, .own)]
  | 7 => [(.slot 0, .own), (.slot 1, .own), (.slot 7, .own), (.slot 8, .own), (.slot 9, .own)]
  | 8 => [(.slot 0, .own), (.slot 1, .own), (.slot 7, .own), (.slot 8, .own), (.slot 9, .own)]
  | 9 => [(.slot 0, .own), (.slot 1, .own), (.slot 7, .own), (.slot 8, .own), (.slot 47, .own)]
  | 10 => [(.slot 0, .own), (.slot 1, .own), (.slot 7, .own), (.slot 8, .own), (.slot 10, .own)]
  | 11 => [(.slot 0, .own), (.slot 1, .own), (.slot 8, .own), (.slot 10, .own), (.slot 53, .own)]
  | 12 => [(.slot 0, .own), (.slot 1, .own), (.slot 8, .own), (.slot 10, .own)]
  | 13 => [(.slot 0, .own), (.slot 1, .own), (.slot 8, .own), (.slot 10, .own), (.slot 11, .own), (.slot 12, .own)]
  | 14 => [(.slot 1, .own), (.slot 8, .own), (.slot 10, .own), (.slot 74, .own)]
  | 15 => [(.slot 4, .own), (.slot 5, .own), (.slot 6, .own)]
  | 16 => [(.slot 4, .own), (.slot 5, .own), (.slot 6, .own)]
  | 17 => [(.slot 4, .own), (.slot 5, .own), (.slot 6, .own)]
  | _ => []⟩
noncomputable def body16 : Code := Tryd.f16.body.getD .skip
def L16_5_sh : Shape := [(.slot 0, .dat .str), (.slot 1, .dat (.int .i64)), (.slot 7, .dat (.int .u64)), (.slot 8, .dat (.int .i64))]
def L16_5_x0 : Shape := [(.slot 4, .dat (.int .i64)), (.slot 5, .dat (.int .i64)), (.slot 6, .dat (.int .i64))]
def L16_5_x1 : Shape := [(.slot 0, .dat .str), (.slot 1, .dat (.int .i64)), (.slot 7, .dat (.int .u64)), (.slot 8, .dat (.int .i64))]
def L16_5_pk (s : Tup L16_5_sh) : (List UInt8) × Int × Int × Int := (s.1, s.2.1, s.2.2.1, s.2.2.2.1)
def L16_5_un (s : (List UInt8) × Int × Int × Int) : Tup L16_5_sh := (s.1, (s.2.1, (s.2.2.1, (s.2.2.2, ()))))
def L16_5_leave (x : (Int × Int × Int) ⊕ ((List UInt8) × Int × Int × Int)) (R : Type) (K : Cont R) : Option R := match x with
  | (.inl a) => K .ret (mkSt L16_5_x0 (a.1, (a.2.1, (a.2.2, ()))))
  | (.inr a) => K (.exit 0) (mkSt L16_5_x1 (a.1, (a.2.1, (a.2.2.1, (a.2.2.2, ())))))
def L16_5_d (e : Exit) (st : St) : Option ((Int × Int × Int) ⊕ ((List UInt8) × Int × Int × Int)) := match e with
  | .ret => (match unSt L16_5_x0 st with
    | some s => some (.inl (s.1, s.2.1, s.2.2.1))
    | none => none)
  | .exit 0 => (match unSt L16_5_x1 st with
    | some s => some (.inr (s.1, s.2.1, s.2.2.1, s.2.2.2.1))
    | none => none)
  | _ => none
def L16_5_r (s0 : (List UInt8)) (s1 : Int) (s2 : Int) (s3 : Int) : Option (((List UInt8) × Int × Int × Int) ⊕ ((Int × Int × Int) ⊕ ((List UInt8) × Int × Int × Int))) :=
  let v5 : Bool := (decide (s3 < (9 : Int)))
  let v6 : Int := (IntKind.i64.wrap (s1 + s3))
  let v7 : Int := ((List.length s0 : Nat) : Int)
  let v8 : Bool := (decide (v6 < v7))
  let v9 : Bool := (bif v5 then v8 else false)
  bif v9 then
  let v10 : Int := (IntKind.i64.wrap (s1 + s3))
  bif (decide (0 ≤ v10) && decide (v10 < List.length s0)) then
  let v11 : Int := ((List.getD s0 (Int.toNat v10) 0).toNat : Int)
  let v12 : Int := (IntKind.u64.wrap v11)
  let v13 : Int := (Int.tmod v12 (128 : Int))
  let v14 : Int := (IntKind.i64.wrap ((7 : Int) * s3))
  bif (decide (0 ≤ v14)) then
  let v15 : Int := (IntKind.u64.wrap (v13 * 2 ^ min (Int.toNat v14) (IntKind.u64.bits)))
  let v16 : Int := (IntKind.u64.wrap (s2 + v15))
  let v17 : Bool := (decide (v12 ≥ (128 : Int)))
  bif v17 then
  let v18 : Int := (IntKind.i64.wrap (s3 + (1 : Int)))
  some (.inl (s0, s1, v16, v18))
  else
  let v19 : Int := (IntKind.u64.wrap (Int.tdiv v16 (2 : Int)))
  let v20 : Int := (IntKind.i64.wrap v19)
  let v21 : Int := (Int.tmod v16 (2 : Int))
  let v22 : Bool := (v21 == (1 : Int))
  bif v22 then
  let v23 : Int := (IntKind.i64.wrap (0 - v20))
  let v24 : Int := (IntKind.i64.wrap (v23 - (1 : Int)))
  bif (P13 v24) then
  let v25 : ((List UInt8) × Int) := (F13 v24)
  let v26 : Bool := (v25.2 != (0 : Int))
  let v27 : Int := (IntKind.i64.wrap (s1 + s3))
  let v28 : Int := (IntKind.i64.wrap (v27 + (1 : Int)))
  bif ((sliceTest s1 v28 (List.length s0)) || !(!v26 && true)) then
  let v29 : (List UInt8) := (cut s0 s1 v28)
  let v30 : Bool := (!(v25.1 == v29))
  let v31 : Bool := (bif v26 then true else v30)
  bif v31 then
  some (.inr (.inl ((0 : Int), (0 : Int), (10 : Int))))
  else
  let v32 : Int := (IntKind.i64.wrap (s1 + s3))
  let v33 : Int := (IntKind.i64.wrap (v32 + (1 : Int)))
  some (.inr (.inl (v24, v33, (0 : Int))))
  else none
  else none
  else
  bif (P13 v20) then
  let v34 : ((List UInt8) × Int) := (F13 v20)
  let v35 : Bool := (v34.2 != (0 : Int))
  let v36 : Int := (IntKind.i64.wrap (s1 + s3))
  let v37 : Int := (IntKind.i64.wrap (v36 + (1 : Int)))
  bif ((sliceTest s1 v37 (List.length s0)) || !(!v35 && true)) then
  let v38 : (List UInt8) := (cut s0 s1 v37)
  let v39 : Bool := (!(v34.1 == v38))
  let v40 : Bool := (bif v35 then true else v39)
  bif v40 then
  some (.inr (.inl ((0 : Int), (0 : Int), (10 : Int))))
  else
  let v41 : Int := (IntKind.i64.wrap (s1 + s3))
  let v42 : Int := (IntKind.i64.wrap (v41 + (1 : Int)))
  some (.inr (.inl (v20, v42, (0 : Int))))
  else none
  else none
  else none
  else none
  else
  some (.inr (.inr (s0, s1, s2, s3)))
def L16_5 : (List UInt8) × Int × Int × Int → Option ((Int × Int × Int) ⊕ ((List UInt8) × Int × Int × Int)) := Lim (fun s => L16_5_r s.1 s.2.1 s.2.2.1 s.2.2.2)
def L16_5_sum : Sum := limSum L16_5_sh L16_5_pk (fun s => L16_5_r s.1 s.2.1 s.2.2.1 s.2.2.2) L16_5_leave
theorem L16_5_nat : Natural L16_5_sum := natural_lim fun x R K => by
  rcases x with x|x <;> rfl
theorem L16_5_dok : ∀ e st x, e ≠ .normal → L16_5_d e st = some x → ∀ R (K : Cont R), K e st = L16_5_leave x R K := by
  intro e st x _ h R K
  unfold L16_5_d at h
  split at h
  · split at h
    · rename_i s hs; cases h; rw [unSt_some hs]; rfl
    · cases h
  · split at h
    · rename_i s hs; cases h; rw [unSt_some hs]; rfl
    · cases h
  · cases h
def loops16 : Nat → Option (Sum) := fun | 5 => some L16_5_sum | _ => none
theorem loops16_nat : ∀ q f, loops16 q = some f → Natural f := by
  intro q f h
  unfold loops16 at h
  split at h
  · cases h; exact L16_5_nat
  · cases h
noncomputable def L16_5_code : Code := (loopsOf body16).getD 0 .skip
theorem L16_5_round (s0 : (List UInt8)) (s1 : Int) (s2 : Int) (s3 : Int) : ev2 env16 orc16 loops16 L16_5_code (mkSt L16_5_sh (s0, (s1, (s2, (s3, ()))))) (back L16_5_sh L16_5_pk L16_5_d) = L16_5_r s0 s1 s2 s3 := by kernel_rfl
theorem L16_5_ok : SumOk env16 orc16 loops16 L16_5_code L16_5_sum := sumOk_lim (un := L16_5_un) loops16_nat (fun _ => rfl) L16_5_dok fun s => L16_5_round s.1 s.2.1 s.2.2.1 s.2.2.2
theorem loops16_all : loopsOf body16 = [L16_5_code] := by kernel_rfl
theorem L16_5_key : lookL loops16 (keyOf L16_5_code) = some L16_5_sum := by kernel_rfl
theorem loops16_ok : LoopsOk env16 orc16 loops16 body16 := by
  intro c hc f hf
  rw [loops16_all] at hc
  simp only [List.mem_cons, List.not_mem_nil, or_false] at hc
  subst hc
  · rw [L16_5_key] at hf; cases hf; exact L16_5_ok
def G16 (x0 : (List UInt8)) (x1 : Int) : Option (Int × Int × Int) :=
  let v1 : Bool := (decide (x1 < (0 : Int)))
  let v2 : Int := ((List.length x0 : Nat) : Int)
  let v3 : Bool := (decide (x1 > v2))
  let v4 : Bool := (bif v1 then true else v3)
  bif v4 then
  some ((0 : Int), (0 : Int), (2 : Int))
  else
  Option.bind (L16_5 (x0, x1, (0 : Int), (0 : Int))) fun x => match x with
  | (.inl r43) =>
  some (r43.1, r43.2.1, r43.2.2)
  | (.inr r44) =>
  some ((0 : Int), (0 : Int), (10 : Int))
theorem ev16 (x0 : (List UInt8)) (x1 : Int) : ev2 env16 orc16 loops16 body16 (initSt 0 [⟨.str, x0⟩, ⟨(.int .i64), x1⟩]) (retT [(4, .dat (.int .i64)), (5, .dat (.int .i64)), (6, .dat (.int .i64))] [(.int .i64), (.int .i64), (.int .i64)] fun x => (x.1, x.2.1, x.2.2.1)) = G16 x0 x1 := by kernel_rfl
def P16 (x0 : (List UInt8)) (x1 : Int) : Bool := (G16 x0 x1).isSome
def F16 (x0 : (List UInt8)) (x1 : Int) : Int × Int × Int := (G16 x0 x1).getD default
theorem G16_some (x0 : (List UInt8)) (x1 : Int) (h : P16 x0 x1 = true) : G16 x0 x1 = some (F16 x0 x1) := by
  unfold P16 at h; unfold F16
  cases hg : G16 x0 x1 with
  | none => rw [hg] at h; cases h
  | some r => rfl
theorem P16_of (x0 : (List UInt8)) (x1 : Int) {r : Int × Int × Int} (h : G16 x0 x1 = some r) : P16 x0 x1 = true := by unfold P16; rw [h]; rfl
theorem F16_of (x0 : (List UInt8)) (x1 : Int) {r : Int × Int × Int} (h : G16 x0 x1 = some r) : F16 x0 x1 = r := by unfold F16; rw [h]; rfl
def spec16 : Spec := ⟨[.str, (.int .i64)], [.dat (.int .i64), .dat (.int .i64), .dat (.int .i64)], fun | [a0, a1] => P16 (a0.as .str) (a1.as (.int .i64)) | _ => false, fun | [a0, a1] => [⟨(.int .i64), (F16 (a0.as .str) (a1.as (.int .i64))).1⟩, ⟨(.int .i64), (F16 (a0.as .str) (a1.as (.int .i64))).2.1⟩, ⟨(.int .i64), (F16 (a0.as .str) (a1.as (.int .i64))).2.2⟩] | _ => []⟩
theorem meets16 (hE : EnvOk Tryd.prog env16) (hm : Tryd.prog.follows .mixedOrders = true) : Meets Tryd.prog glob 16 spec16 :=
  meets_of_ev2 (O := orc16) (L := loops16) (c := body16) (slots := [4, 5, 6]) hE hm Tryd.func16 Tryd.call16 (by kernel_rfl) (by kernel_rfl) loops16_ok (rangesOk_nil (by kernel_rfl)) (by kernel_rfl) rfl (by decide) (fun ds hds hpre => by
  obtain ⟨x0, ds0, rfl, h0⟩ := datsS hds
  obtain ⟨x1, ds1, rfl, h1⟩ := datsS h0
  have h9 := dats0 h1; subst h9
  exact ev_ret (un := fun r => [⟨(.int .i64), r.1⟩, ⟨(.int .i64), r.2.1⟩, ⟨(.int .i64), r.2.2⟩]) loops16_nat (fun _ => rfl) ((ev16 x0 x1).trans (G16_some x0 x1 hpre)))
def env17 : Env where
  tab := tab
  glob := glob
  spec := fun
    | 15 => some spec15
    | _ => none
def orc17 : Orc := ⟨43, fun _ => none, fun
  | 0 => [(.slot 0, .own), (.slot 1, .own)]
  | 1 => [(.slot 0, .own), (.slot 7, .own), (.slot 8, .own), (.slot 9, .own)]
  | 2 => [(.slot 0, .own), (.slot 7, .own), (.slot 8, .own), (.slot 9, .own), (.slot 18, .own)]
  | 3 => [(.slot 4, .own), (.slot 5, .own), (.slot 6, .own)]
  | 4 => [(.slot 0, .own), (.slot 7, .own), (.slot 8, .own), (.slot 33, .own)]
  | 5 => [(.slot 4, .own), (.slot 5, .own), (.slot 6, .own)]
  | 6 => [(.slot 4, .own), (.slot 5, .own), (.slot 6, .own)]
  | _ => []⟩
noncomputable def body17 : Code := Tryd.f17.body.getD .skip
def loops17 : Nat → Option (Sum) := fun | _ => none
theorem loops17_nat : ∀ q f, loops17 q = some f → Natural f := by
  intro q f h
  cases h
theorem loops17_ok : LoopsOk env17 orc17 loops17 body17 := loopsOk_nil (by kernel_rfl)
def G17 (x0 : (List UInt8)) (x1 : Int) : Option ((List UInt8) × Int × Int) :=
  bif (P15 x0 x1) then
  let v1 : (Int × (Int × Int)) := (F15 x0 x1)
  let v2 : Bool := (v1.2.2 != (0 : Int))
  bif v2 then
  some (([] : List UInt8), (0 : Int), v1.2.2)
  else
  let v3 : Bool := (decide (v1.1 < (0 : Int)))
  let v4 : Bool := (decide (v1.1 > (65536 : Int)))
  let v5 : Bool := (bif v3 then true else v4)
  let v6 : Int := ((List.length x0 : Nat) : Int)
  let v7 : Int := (IntKind.i64.wrap (v6 - v1.2.1))
  let v8 : Bool := (decide (v1.1 > v7))
  let v9 : Bool := (bif v5 then true else v8)
  bif v9 then
  some (([] : List UInt8), (0 : Int), (10 : Int))
  else
  let v10 : Int := (IntKind.i64.wrap (v1.2.1 + v1.1))
  bif (sliceTest v1.2.1 v10 (List.length x0)) then
  let v11 : (List UInt8) := (cut x0 v1.2.1 v10)
  let v12 : Int := (IntKind.i64.wrap (v1.2.1 + v1.1))
  some (v11, v12, (0 : Int))
  else none
  else none
theorem ev17 (x0 : (List UInt8)) (x1 : Int) : ev2 env17 orc17 loops17 body17 (initSt 0 [⟨.str, x0⟩, ⟨(.int .i64), x1⟩]) (retT [(4, .dat .str), (5, .dat (.int .i64)), (6, .dat (.int .i64))] [.str, (.int .i64), (.int .i64)] fun x => (x.1, x.2.1, x.2.2.1)) = G17 x0 x1 := by kernel_rfl
def P17 (x0 : (List UInt8)) (x1 : Int) : Bool := (G17 x0 x1).isSome
def F17 (x0 : (List UInt8)) (x1 : Int) : (List UInt8) × Int × Int := (G17 x0 x1).getD default
theorem G17_some (x0 : (List UInt8)) (x1 : Int) (h : P17 x0 x1 = true) : G17 x0 x1 = some (F17 x0 x1) := by
  unfold P17 at h; unfold F17
  cases hg : G17 x0 x1 with
  | none => rw [hg] at h; cases h
  | some r => rfl
theorem P17_of (x0 : (List UInt8)) (x1 : Int) {r : (List UInt8) × Int × Int} (h : G17 x0 x1 = some r) : P17 x0 x1 = true := by unfold P17; rw [h]; rfl
theorem F17_of (x0 : (List UInt8)) (x1 : Int) {r : (List UInt8) × Int × Int} (h : G17 x0 x1 = some r) : F17 x0 x1 = r := by unfold F17; rw [h]; rfl
def spec17 : Spec := ⟨[.str, (.int .i64)], [.dat .str, .dat (.int .i64), .dat (.int .i64)], fun | [a0, a1] => P17 (a0.as .str) (a1.as (.int .i64)) | _ => false, fun | [a0, a1] => [⟨.str, (F17 (a0.as .str) (a1.as (.int .i64))).1⟩, ⟨(.int .i64), (F17 (a0.as .str) (a1.as (.int .i64))).2.1⟩, ⟨(.int .i64), (F17 (a0.as .str) (a1.as (.int .i64))).2.2⟩] | _ => []⟩
theorem meets17 (hE : EnvOk Tryd.prog env17) (hm : Tryd.prog.follows .mixedOrders = true) : Meets Tryd.prog glob 17 spec17 :=
  meets_of_ev2 (O := orc17) (L := loops17) (c := body17) (slots := [4, 5, 6]) hE hm Tryd.func17 Tryd.call17 (by kernel_rfl) (by kernel_rfl) loops17_ok (rangesOk_nil (by kernel_rfl)) (by kernel_rfl) rfl (by decide) (fun ds hds hpre => by
  obtain ⟨x0, ds0, rfl, h0⟩ := datsS hds
  obtain ⟨x1, ds1, rfl, h1⟩ := datsS h0
  have h9 := dats0 h1; subst h9
  exact ev_ret (un := fun r => [⟨.str, r.1⟩, ⟨(.int .i64), r.2.1⟩, ⟨(.int .i64), r.2.2⟩]) loops17_nat (fun _ => rfl) ((ev17 x0 x1).trans (G17_some x0 x1 hpre)))
def env18 : Env where
  tab := tab
  glob := glob
  spec := fun
    | 16 => some spec16
    | _ => none
def orc18 : Orc := ⟨43, fun _ => none, fun
  | 0 => [(.slot 0, .own), (.slot 1, .own)]
  | 1 => [(.slot 0, .own), (.slot 7, .own), (.slot 8, .own), (.slot 9, .own)]
  | 2 => [(.slot 0, .own), (.slot 7, .own), (.slot 8, .own), (.slot 9, .own), (.slot 18, .own)]
  | 3 => [(.slot 4, .own), (.slot 5, .own), (.slot 6, .own)]
  | 4 => [(.slot 0, .own), (.slot 7, .own), (.slot 8, .own), (.slot 33, .own)]
  | 5 => [(.slot 4, .own), (.slot 5, .own), (.slot 6, .own)]
  | 6 => [(.slot 4, .own), (.slot 5, .own), (.slot 6, .own)]
  | _ => []⟩
noncomputable def body18 : Code := Tryd.f18.body.getD .skip
def loops18 : Nat → Option (Sum) := fun | _ => none
theorem loops18_nat : ∀ q f, loops18 q = some f → Natural f := by
  intro q f h
  cases h
theorem loops18_ok : LoopsOk env18 orc18 loops18 body18 := loopsOk_nil (by kernel_rfl)
def G18 (x0 : (List UInt8)) (x1 : Int) : Option ((List UInt8) × Int × Int) :=
  bif (P16 x0 x1) then
  let v1 : (Int × (Int × Int)) := (F16 x0 x1)
  let v2 : Bool := (v1.2.2 != (0 : Int))
  bif v2 then
  some (([] : List UInt8), (0 : Int), v1.2.2)
  else
  let v3 : Bool := (decide (v1.1 < (0 : Int)))
  let v4 : Bool := (decide (v1.1 > (65536 : Int)))
  let v5 : Bool := (bif v3 then true else v4)
  let v6 : Int := ((List.length x0 : Nat) : Int)
  let v7 : Int := (IntKind.i64.wrap (v6 - v1.2.1))
  let v8 : Bool := (decide (v1.1 > v7))
  let v9 : Bool := (bif v5 then true else v8)
  bif v9 then
  some (([] : List UInt8), (0 : Int), (10 : Int))
  else
  let v10 : Int := (IntKind.i64.wrap (v1.2.1 + v1.1))
  bif (sliceTest v1.2.1 v10 (List.length x0)) then
  let v11 : (List UInt8) := (cut x0 v1.2.1 v10)
  let v12 : Int := (IntKind.i64.wrap (v1.2.1 + v1.1))
  some (v11, v12, (0 : Int))
  else none
  else none
theorem ev18 (x0 : (List UInt8)) (x1 : Int) : ev2 env18 orc18 loops18 body18 (initSt 0 [⟨.str, x0⟩, ⟨(.int .i64), x1⟩]) (retT [(4, .dat .str), (5, .dat (.int .i64)), (6, .dat (.int .i64))] [.str, (.int .i64), (.int .i64)] fun x => (x.1, x.2.1, x.2.2.1)) = G18 x0 x1 := by kernel_rfl
def P18 (x0 : (List UInt8)) (x1 : Int) : Bool := (G18 x0 x1).isSome
def F18 (x0 : (List UInt8)) (x1 : Int) : (List UInt8) × Int × Int := (G18 x0 x1).getD default
theorem G18_some (x0 : (List UInt8)) (x1 : Int) (h : P18 x0 x1 = true) : G18 x0 x1 = some (F18 x0 x1) := by
  unfold P18 at h; unfold F18
  cases hg : G18 x0 x1 with
  | none => rw [hg] at h; cases h
  | some r => rfl
theorem P18_of (x0 : (List UInt8)) (x1 : Int) {r : (List UInt8) × Int × Int} (h : G18 x0 x1 = some r) : P18 x0 x1 = true := by unfold P18; rw [h]; rfl
theorem F18_of (x0 : (List UInt8)) (x1 : Int) {r : (List UInt8) × Int × Int} (h : G18 x0 x1 = some r) : F18 x0 x1 = r := by unfold F18; rw [h]; rfl
def spec18 : Spec := ⟨[.str, (.int .i64)], [.dat .str, .dat (.int .i64), .dat (.int .i64)], fun | [a0, a1] => P18 (a0.as .str) (a1.as (.int .i64)) | _ => false, fun | [a0, a1] => [⟨.str, (F18 (a0.as .str) (a1.as (.int .i64))).1⟩, ⟨(.int .i64), (F18 (a0.as .str) (a1.as (.int .i64))).2.1⟩, ⟨(.int .i64), (F18 (a0.as .str) (a1.as (.int .i64))).2.2⟩] | _ => []⟩
theorem meets18 (hE : EnvOk Tryd.prog env18) (hm : Tryd.prog.follows .mixedOrders = true) : Meets Tryd.prog glob 18 spec18 :=
  meets_of_ev2 (O := orc18) (L := loops18) (c := body18) (slots := [4, 5, 6]) hE hm Tryd.func18 Tryd.call18 (by kernel_rfl) (by kernel_rfl) loops18_ok (rangesOk_nil (by kernel_rfl)) (by kernel_rfl) rfl (by decide) (fun ds hds hpre => by
  obtain ⟨x0, ds0, rfl, h0⟩ := datsS hds
  obtain ⟨x1, ds1, rfl, h1⟩ := datsS h0
  have h9 := dats0 h1; subst h9
  exact ev_ret (un := fun r => [⟨.str, r.1⟩, ⟨(.int .i64), r.2.1⟩, ⟨(.int .i64), r.2.2⟩]) loops18_nat (fun _ => rfl) ((ev18 x0 x1).trans (G18_some x0 x1 hpre)))
def env19 : Env where
  tab := tab
  glob := glob
  spec := fun
    | 12 => some spec12
    | _ => none
def orc19 : Orc := ⟨18, fun _ => none, fun
  | 0 => [(.slot 0, .own)]
  | 1 => [(.slot 0, .own), (.slot 8, .own)]
  | 2 => [(.slot 2, .own), (.slot 3, .own)]
  | 3 => [(.slot 0, .own), (.slot 4, .own)]
  | 4 => [(.slot 2, .own), (.slot 3, .own)]
  | _ => []⟩
noncomputable def body19 : Code := Tryd.f19.body.getD .skip
def loops19 : Nat → Option (Sum) := fun | _ => none
theorem loops19_nat : ∀ q f, loops19 q = some f → Natural f := by
  intro q f h
  cases h
theorem loops19_ok : LoopsOk env19 orc19 loops19 body19 := loopsOk_nil (by kernel_rfl)
def G19 (x0 : (List UInt8)) : Option ((List UInt8) × Int) :=
  let v1 : Int := ((List.length x0 : Nat) : Int)
  let v2 : Bool := (decide (v1 > (65536 : Int)))
  bif v2 then
  some (([] : List UInt8), (10 : Int))
  else
  let v3 : Int := ((List.length x0 : Nat) : Int)
  bif (P12 v3) then
  let v4 : ((List UInt8) × Int) := (F12 v3)
  bif (decide (List.length v4.1 + List.length x0 ≤ 9223372036854775807)) then
  let v5 : (List UInt8) := (v4.1 ++ x0)
  some (v5, (0 : Int))
  else none
  else none
theorem ev19 (x0 : (List UInt8)) : ev2 env19 orc19 loops19 body19 (initSt 0 [⟨.str, x0⟩]) (retT [(2, .dat .str), (3, .dat (.int .i64))] [.str, (.int .i64)] fun x => (x.1, x.2.1)) = G19 x0 := by kernel_rfl
def P19 (x0 : (List UInt8)) : Bool := (G19 x0).isSome
def F19 (x0 : (List UInt8)) : (List UInt8) × Int := (G19 x0).getD default
theorem G19_some (x0 : (List UInt8)) (h : P19 x0 = true) : G19 x0 = some (F19 x0) := by
  unfold P19 at h; unfold F19
  cases hg : G19 x0 with
  | none => rw [hg] at h; cases h
  | some r => rfl
theorem P19_of (x0 : (List UInt8)) {r : (List UInt8) × Int} (h : G19 x0 = some r) : P19 x0 = true := by unfold P19; rw [h]; rfl
theorem F19_of (x0 : (List UInt8)) {r : (List UInt8) × Int} (h : G19 x0 = some r) : F19 x0 = r := by unfold F19; rw [h]; rfl
def spec19 : Spec := ⟨[.str], [.dat .str, .dat (.int .i64)], fun | [a0] => P19 (a0.as .str) | _ => false, fun | [a0] => [⟨.str, (F19 (a0.as .str)).1⟩, ⟨(.int .i64), (F19 (a0.as .str)).2⟩] | _ => []⟩
theorem meets19 (hE : EnvOk Tryd.prog env19) (hm : Tryd.prog.follows .mixedOrders = true) : Meets Tryd.prog glob 19 spec19 :=
  meets_of_ev2 (O := orc19) (L := loops19) (c := body19) (slots := [2, 3]) hE hm Tryd.func19 Tryd.call19 (by kernel_rfl) (by kernel_rfl) loops19_ok (rangesOk_nil (by kernel_rfl)) (by kernel_rfl) rfl (by decide) (fun ds hds hpre => by
  obtain ⟨x0, ds0, rfl, h0⟩ := datsS hds
  have h9 := dats0 h0; subst h9
  exact ev_ret (un := fun r => [⟨.str, r.1⟩, ⟨(.int .i64), r.2⟩]) loops19_nat (fun _ => rfl) ((ev19 x0).trans (G19_some x0 hpre)))
def env20 : Env where
  tab := tab
  glob := glob
  spec := fun
    | 13 => some spec13
    | _ => none
def orc20 : Orc := ⟨18, fun _ => none, fun
  | 0 => [(.slot 0, .own)]
  | 1 => [(.slot 0, .own), (.slot 8, .own)]
  | 2 => [(.slot 2, .own), (.slot 3, .own)]
  | 3 => [(.slot 0, .own), (.slot 4, .own)]
  | 4 => [(.slot 2, .own), (.slot 3, .own)]
  | _ => []⟩
noncomputable def body20 : Code := Tryd.f20.body.getD .skip
def loops20 : Nat → Option (Sum) := fun | _ => none
theorem loops20_nat : ∀ q f, loops20 q = some f → Natural f := by
  intro q f h
  cases h
theorem loops20_ok : LoopsOk env20 orc20 loops20 body20 := loopsOk_nil (by kernel_rfl)
def G20 (x0 : (List UInt8)) : Option ((List UInt8) × Int) :=
  let v1 : Int := ((List.length x0 : Nat) : Int)
  let v2 : Bool := (decide (v1 > (65536 : Int)))
  bif v2 then
  some (([] : List UInt8), (10 : Int))
  else
  let v3 : Int := ((List.length x0 : Nat) : Int)
  bif (P13 v3) then
  let v4 : ((List UInt8) × Int) := (F13 v3)
  bif (decide (List.length v4.1 + List.length x0 ≤ 9223372036854775807)) then
  let v5 : (List UInt8) := (v4.1 ++ x0)
  some (v5, (0 : Int))
  else none
  else none
theorem ev20 (x0 : (List UInt8)) : ev2 env20 orc20 loops20 body20 (initSt 0 [⟨.str, x0⟩]) (retT [(2, .dat .str), (3, .dat (.int .i64))] [.str, (.int .i64)] fun x => (x.1, x.2.1)) = G20 x0 := by kernel_rfl
def P20 (x0 : (List UInt8)) : Bool := (G20 x0).isSome
def F20 (x0 : (List UInt8)) : (List UInt8) × Int := (G20 x0).getD default
theorem G20_some (x0 : (List UInt8)) (h : P20 x0 = true) : G20 x0 = some (F20 x0) := by
  unfold P20 at h; unfold F20
  cases hg : G20 x0 with
  | none => rw [hg] at h; cases h
  | some r => rfl
theorem P20_of (x0 : (List UInt8)) {r : (List UInt8) × Int} (h : G20 x0 = some r) : P20 x0 = true := by unfold P20; rw [h]; rfl
theorem F20_of (x0 : (List UInt8)) {r : (List UInt8) × Int} (h : G20 x0 = some r) : F20 x0 = r := by unfold F20; rw [h]; rfl
def spec20 : Spec := ⟨[.str], [.dat .str, .dat (.int .i64)], fun | [a0] => P20 (a0.as .str) | _ => false, fun | [a0] => [⟨.str, (F20 (a0.as .str)).1⟩, ⟨(.int .i64), (F20 (a0.as .str)).2⟩] | _ => []⟩
theorem meets20 (hE : EnvOk Tryd.prog env20) (hm : Tryd.prog.follows .mixedOrders = true) : Meets Tryd.prog glob 20 spec20 :=
  meets_of_ev2 (O := orc20) (L := loops20) (c := body20) (slots := [2, 3]) hE hm Tryd.func20 Tryd.call20 (by kernel_rfl) (by kernel_rfl) loops20_ok (rangesOk_nil (by kernel_rfl)) (by kernel_rfl) rfl (by decide) (fun ds hds hpre => by
  obtain ⟨x0, ds0, rfl, h0⟩ := datsS hds
  have h9 := dats0 h0; subst h9
  exact ev_ret (un := fun r => [⟨.str, r.1⟩, ⟨(.int .i64), r.2⟩]) loops20_nat (fun _ => rfl) ((ev20 x0).trans (G20_some x0 hpre)))
def env21 : Env where
  tab := tab
  glob := glob
  spec := fun
    | _ => none
def orc21 : Orc := ⟨34, fun _ => none, fun
  | 0 => [(.slot 0, .own)]
  | 1 => [(.slot 0, .own), (.slot 3, .own)]
  | 2 => [(.slot 0, .own), (.slot 3, .own), (.slot 6, .own), (.slot 7, .own)]
  | 3 => [(.slot 0, .own), (.slot 3, .own), (.slot 6, .own), (.slot 7, .own), (.slot 8, .own)]
  | 4 => [(.slot 0, .own), (.slot 3, .own), (.slot 4, .own), (.slot 6, .own), (.slot 7, .own)]
  | 5 => [(.slot 0, .own), (.slot 3, .own), (.slot 6, .own), (.slot 7, .own)]
  | 6 => [(.slot 0, .own), (.slot 3, .own), (.slot 6, .own), (.slot 7, .own)]
  | 7 => [(.slot 0, .own), (.slot 3, .own), (.slot 6, .own), (.slot 7, .own)]
  | 8 => [(.slot 0, .own), (.slot 3, .own), (.slot 6, .own), (.slot 7, .own)]
  | 9 => [(.slot 2, .own)]
  | _ => []⟩
noncomputable def body21 : Code := Tryd.f21.body.getD .skip
def L21_3_sh : Shape := [(.slot 0, .dat .str), (.slot 3, .dat (.int .u32)), (.slot 6, .dat (.int .i64)), (.slot 7, .dat (.int .i64))]
def L21_3_x0 : Shape := [(.slot 0, .dat .str), (.slot 3, .dat (.int .u32)), (.slot 6, .dat (.int .i64)), (.slot 7, .dat (.int .i64))]
def L21_3_pk (s : Tup L21_3_sh) : (List UInt8) × Int × Int × Int := (s.1, s.2.1, s.2.2.1, s.2.2.2.1)
def L21_3_un (s : (List UInt8) × Int × Int × Int) : Tup L21_3_sh := (s.1, (s.2.1, (s.2.2.1, (s.2.2.2, ()))))
def L21_3_leave (x : ((List UInt8) × Int × Int × Int)) (R : Type) (K : Cont R) : Option R := match x with
  | a => K (.exit 0) (mkSt L21_3_x0 (a.1, (a.2.1, (a.2.2.1, (a.2.2.2, ())))))
def L21_3_d (e : Exit) (st : St) : Option (((List UInt8) × Int × Int × Int)) := match e with
  | .exit 0 => (match unSt L21_3_x0 st with
    | some s => some (s.1, s.2.1, s.2.2.1, s.2.2.2.1)
    | none => none)
  | _ => none
def L21_3_r (s0 : (List UInt8)) (s1 : Int) (s2 : Int) (s3 : Int) : Option (((List UInt8) × Int × Int × Int) ⊕ (((List UInt8) × Int × Int × Int))) :=
  let v2 : Bool := (decide (s3 < s2))
  bif v2 then
  bif (decide (0 ≤ s3) && decide (s3 < List.length s0)) then
  let v3 : Int := ((List.getD s0 (Int.toNat s3) 0).toNat : Int)
  let v4 : Int := (IntKind.u32.wrap v3)
  let v5 : Int := (bits .xor .u32 s1 v4)
  let v6 : Int := (Int.fdiv v5 (2 ^ min (Int.toNat (4 : Int)) (IntKind.u32.bits)))
  let v7 : Int := (bits .and .u32 v5 (15 : Int))
  bif (decide (0 ≤ v7) && decide (v7 < (16 : Nat))) then
  let v8 : Int := (List.getD nibbles (Int.toNat v7) (0 : Int))
  let v9 : Int := (bits .xor .u32 v6 v8)
  let v10 : Int := (Int.fdiv v9 (2 ^ min (Int.toNat (4 : Int)) (IntKind.u32.bits)))
  let v11 : Int := (bits .and .u32 v9 (15 : Int))
  bif (decide (0 ≤ v11) && decide (v11 < (16 : Nat))) then
  let v12 : Int := (List.getD nibbles (Int.toNat v11) (0 : Int))
  let v13 : Int := (bits .xor .u32 v10 v12)
  let v14 : Int := (IntKind.i64.wrap (s3 + (1 : Int)))
  some (.inl (s0, v13, s2, v14))
  else none
  else none
  else none
  else
  some (.inr (s0, s1, s2, s3))
def L21_3 : (List UInt8) × Int × Int × Int → Option (((List UInt8) × Int × Int × Int)) := Lim (fun s => L21_3_r s.1 s.2.1 s.2.2.1 s.2.2.2)
def L21_3_sum : Sum := limSum L21_3_sh L21_3_pk (fun s => L21_3_r s.1 s.2.1 s.2.2.1 s.2.2.2) L21_3_leave
theorem L21_3_nat : Natural L21_3_sum := natural_lim fun x R K => by
  rfl
theorem L21_3_dok : ∀ e st x, e ≠ .normal → L21_3_d e st = some x → ∀ R (K : Cont R), K e st = L21_3_leave x R K := by
  intro e st x _ h R K
  unfold L21_3_d at h
  split at h
  · split at h
    · rename_i s hs; cases h; rw [unSt_some hs]; rfl
    · cases h
  · cases h
def loops21 : Nat → Option (Sum) := fun | 3 => some L21_3_sum | _ => none
theorem loops21_nat : ∀ q f, loops21 q = some f → Natural f := by
  intro q f h
  unfold loops21 at h
  split at h
  · cases h; exact L21_3_nat
  · cases h
noncomputable def L21_3_code : Code := (loopsOf body21).getD 0 .skip
theorem L21_3_round (s0 : (List UInt8)) (s1 : Int) (s2 : Int) (s3 : Int) : ev2 env21 orc21 loops21 L21_3_code (mkSt L21_3_sh (s0, (s1, (s2, (s3, ()))))) (back L21_3_sh L21_3_pk L21_3_d) = L21_3_r s0 s1 s2 s3 := by kernel_rfl
theorem L21_3_ok : SumOk env21 orc21 loops21 L21_3_code L21_3_sum := sumOk_lim (un := L21_3_un) loops21_nat (fun _ => rfl) L21_3_dok fun s => L21_3_round s.1 s.2.1 s.2.2.1 s.2.2.2
theorem loops21_all : loopsOf body21 = [L21_3_code] := by kernel_rfl
theorem L21_3_key : lookL loops21 (keyOf L21_3_code) = some L21_3_sum := by kernel_rfl
theorem loops21_ok : LoopsOk env21 orc21 loops21 body21 := by
  intro c hc f hf
  rw [loops21_all] at hc
  simp only [List.mem_cons, List.not_mem_nil, or_false] at hc
  subst hc
  · rw [L21_3_key] at hf; cases hf; exact L21_3_ok
def G21 (x0 : (List UInt8)) : Option (Int) :=
  let v1 : Int := ((List.length x0 : Nat) : Int)
  Option.bind (L21_3 (x0, (4294967295 : Int), v1, (0 : Int))) fun (r15 : (List UInt8) × Int × Int × Int) =>
  let v16 : Int := (bits .xor .u32 (if IntKind.u32.signed then -1 else IntKind.u32.max) r15.2.1)
  let v17 : Int := (IntKind.i64.wrap v16)
  some (v17)
theorem ev21 (x0 : (List UInt8)) : ev2 env21 orc21 loops21 body21 (initSt 0 [⟨.str, x0⟩]) (retT [(2, .dat (.int .i64))] [(.int .i64)] fun x => x.1) = G21 x0 := by kernel_rfl
def P21 (x0 : (List UInt8)) : Bool := (G21 x0).isSome
def F21 (x0 : (List UInt8)) : Int := (G21 x0).getD default
theorem G21_some (x0 : (List UInt8)) (h : P21 x0 = true) : G21 x0 = some (F21 x0) := by
  unfold P21 at h; unfold F21
  cases hg : G21 x0 with
  | none => rw [hg] at h; cases h
  | some r => rfl
theorem P21_of (x0 : (List UInt8)) {r : Int} (h : G21 x0 = some r) : P21 x0 = true := by unfold P21; rw [h]; rfl
theorem F21_of (x0 : (List UInt8)) {r : Int} (h : G21 x0 = some r) : F21 x0 = r := by unfold F21; rw [h]; rfl
def spec21 : Spec := ⟨[.str], [.dat (.int .i64)], fun | [a0] => P21 (a0.as .str) | _ => false, fun | [a0] => [⟨(.int .i64), (F21 (a0.as .str))⟩] | _ => []⟩
theorem meets21 (hE : EnvOk Tryd.prog env21) (hm : Tryd.prog.follows .mixedOrders = true) : Meets Tryd.prog glob 21 spec21 :=
  meets_of_ev2 (O := orc21) (L := loops21) (c := body21) (slots := [2]) hE hm Tryd.func21 Tryd.call21 (by kernel_rfl) (by kernel_rfl) loops21_ok (rangesOk_nil (by kernel_rfl)) (by kernel_rfl) rfl (by decide) (fun ds hds hpre => by
  obtain ⟨x0, ds0, rfl, h0⟩ := datsS hds
  have h9 := dats0 h0; subst h9
  exact ev_ret (un := fun r => [⟨(.int .i64), r⟩]) loops21_nat (fun _ => rfl) ((ev21 x0).trans (G21_some x0 hpre)))
def env22 : Env where
  tab := tab
  glob := glob
  spec := fun
    | _ => none
def orc22 : Orc := ⟨34, fun _ => none, fun
  | 0 => [(.slot 0, .own)]
  | 1 => [(.slot 0, .own), (.slot 3, .own)]
  | 2 => [(.slot 0, .own), (.slot 3, .own), (.slot 4, .own)]
  | 3 => [(.slot 0, .own), (.slot 3, .own), (.slot 4, .own), (.slot 10, .own)]
  | 4 => [(.slot 0, .own), (.slot 3, .own), (.slot 4, .own)]
  | 5 => [(.slot 0, .own), (.slot 3, .own), (.slot 4, .own)]
  | 6 => [(.slot 0, .own), (.slot 3, .own), (.slot 4, .own), (.slot 5, .own)]
  | 7 => [(.slot 0, .own), (.slot 3, .own), (.slot 4, .own), (.slot 5, .own), (.slot 20, .own)]
  | 8 => [(.slot 0, .own), (.slot 3, .own), (.slot 4, .own), (.slot 5, .own)]
  | 9 => [(.slot 0, .own), (.slot 3, .own), (.slot 4, .own), (.slot 5, .own), (.slot 6, .own)]
  | 10 => [(.slot 0, .own), (.slot 3, .own), (.slot 4, .own), (.slot 5, .own), (.slot 6, .own)]
  | 11 => [(.slot 0, .own), (.slot 3, .own), (.slot 4, .own), (.slot 5, .own), (.slot 28, .own)]
  | 12 => [(.slot 0, .own), (.slot 3, .own), (.slot 4, .own), (.slot 5, .own)]
  | 13 => [(.slot 2, .own)]
  | _ => []⟩
noncomputable def body22 : Code := Tryd.f22.body.getD .skip
def L22_7_sh : Shape := [(.slot 0, .dat .str), (.slot 3, .dat (.int .u32)), (.slot 4, .dat (.int .i64)), (.slot 5, .dat (.int .i64))]
def L22_7_x0 : Shape := [(.slot 0, .dat .str), (.slot 3, .dat (.int .u32)), (.slot 4, .dat (.int .i64)), (.slot 5, .dat (.int .i64))]
def L22_7_pk (s : Tup L22_7_sh) : (List UInt8) × Int × Int × Int := (s.1, s.2.1, s.2.2.1, s.2.2.2.1)
def L22_7_un (s : (List UInt8) × Int × Int × Int) : Tup L22_7_sh := (s.1, (s.2.1, (s.2.2.1, (s.2.2.2, ()))))
def L22_7_leave (x : ((List UInt8) × Int × Int × Int)) (R : Type) (K : Cont R) : Option R := match x with
  | a => K (.exit 2) (mkSt L22_7_x0 (a.1, (a.2.1, (a.2.2.1, (a.2.2.2, ())))))
def L22_7_d (e : Exit) (st : St) : Option (((List UInt8) × Int × Int × Int)) := match e with
  | .exit 2 => (match unSt L22_7_x0 st with
    | some s => some (s.1, s.2.1, s.2.2.1, s.2.2.2.1)
    | none => none)
  | _ => none
def L22_7_r (s0 : (List UInt8)) (s1 : Int) (s2 : Int) (s3 : Int) : Option (((List UInt8) × Int × Int × Int) ⊕ (((List UInt8) × Int × Int × Int))) :=
  let v6 : Bool := (decide (s3 < (8 : Int)))
  bif v6 then
  let v7 : Int := (Int.tmod s1 (2 : Int))
  let v8 : Bool := (v7 == (1 : Int))
  let v9 : Int := (IntKind.u32.wrap (Int.tdiv s1 (2 : Int)))
  bif v8 then
  let v10 : Int := (bits .xor .u32 v9 (2197175160 : Int))
  let v11 : Int := (IntKind.i64.wrap (s3 + (1 : Int)))
  some (.inl (s0, v10, s2, v11))
  else
  let v12 : Int := (IntKind.i64.wrap (s3 + (1 : Int)))
  some (.inl (s0, v9, s2, v12))
  else
  some (.inr (s0, s1, s2, s3))
def L22_7 : (List UInt8) × Int × Int × Int → Option (((List UInt8) × Int × Int × Int)) := Lim (fun s => L22_7_r s.1 s.2.1 s.2.2.1 s.2.2.2)
def L22_7_sum : Sum := limSum L22_7_sh L22_7_pk (fun s => L22_7_r s.1 s.2.1 s.2.2.1 s.2.2.2) L22_7_leave
theorem L22_7_nat : Natural L22_7_sum := natural_lim fun x R K => by
  rfl
theorem L22_7_dok : ∀ e st x, e ≠ .normal → L22_7_d e st = some x → ∀ R (K : Cont R), K e st = L22_7_leave x R K := by
  intro e st x _ h R K
  unfold L22_7_d at h
  split at h
  · split at h
    · rename_i s hs; cases h; rw [unSt_some hs]; rfl
    · cases h
  · cases h
def L22_3_sh : Shape := [(.slot 0, .dat .str), (.slot 3, .dat (.int .u32)), (.slot 4, .dat (.int .i64))]
def L22_3_x0 : Shape := [(.slot 0, .dat .str), (.slot 3, .dat (.int .u32)), (.slot 4, .dat (.int .i64))]
def L22_3_pk (s : Tup L22_3_sh) : (List UInt8) × Int × Int := (s.1, s.2.1, s.2.2.1)
def L22_3_un (s : (List UInt8) × Int × Int) : Tup L22_3_sh := (s.1, (s.2.1, (s.2.2, ())))
def L22_3_leave (x : ((List UInt8) × Int × Int)) (R : Type) (K : Cont R) : Option R := match x with
  | a => K (.exit 0) (mkSt L22_3_x0 (a.1, (a.2.1, (a.2.2, ()))))
def L22_3_d (e : Exit) (st : St) : Option (((List UInt8) × Int × Int)) := match e with
  | .exit 0 => (match unSt L22_3_x0 st with
    | some s => some (s.1, s.2.1, s.2.2.1)
    | none => none)
  | _ => none
def L22_3_r (s0 : (List UInt8)) (s1 : Int) (s2 : Int) : Option (((List UInt8) × Int × Int) ⊕ (((List UInt8) × Int × Int))) :=
  let v1 : Int := ((List.length s0 : Nat) : Int)
  let v2 : Bool := (decide (s2 < v1))
  bif v2 then
  bif (decide (0 ≤ s2) && decide (s2 < List.length s0)) then
  let v3 : Int := ((List.getD s0 (Int.toNat s2) 0).toNat : Int)
  let v4 : Int := (IntKind.u32.wrap v3)
  let v5 : Int := (bits .xor .u32 s1 v4)
  Option.bind (L22_7 (s0, v5, s2, (0 : Int))) fun (r13 : (List UInt8) × Int × Int × Int) =>
  let v14 : Int := (IntKind.i64.wrap (r13.2.2.1 + (1 : Int)))
  some (.inl (r13.1, r13.2.1, v14))
  else none
  else
  some (.inr (s0, s1, s2))
def L22_3 : (List UInt8) × Int × Int → Option (((List UInt8) × Int × Int)) := Lim (fun s => L22_3_r s.1 s.2.1 s.2.2)
def L22_3_sum : Sum := limSum L22_3_sh L22_3_pk (fun s => L22_3_r s.1 s.2.1 s.2.2) L22_3_leave
theorem L22_3_nat : Natural L22_3_sum := natural_lim fun x R K => by
  rfl
theorem L22_3_dok : ∀ e st x, e ≠ .normal → L22_3_d e st = some x → ∀ R (K : Cont R), K e st = L22_3_leave x R K := by
  intro e st x _ h R K
  unfold L22_3_d at h
  split at h
  · split at h
    · rename_i s hs; cases h; rw [unSt_some hs]; rfl
    · cases h
  · cases h
def loops22 : Nat → Option (Sum) := fun | 3 => some L22_3_sum | 7 => some L22_7_sum | _ => none
theorem loops22_nat : ∀ q f, loops22 q = some f → Natural f := by
  intro q f h
  unfold loops22 at h
  split at h
  · cases h; exact L22_3_nat
  · cases h; exact L22_7_nat
  · cases h
noncomputable def L22_3_code : Code := (loopsOf body22).getD 0 .skip
theorem L22_3_round (s0 : (List UInt8)) (s1 : Int) (s2 : Int) : ev2 env22 orc22 loops22 L22_3_code (mkSt L22_3_sh (s0, (s1, (s2, ())))) (back L22_3_sh L22_3_pk L22_3_d) = L22_3_r s0 s1 s2 := by kernel_rfl
theorem L22_3_ok : SumOk env22 orc22 loops22 L22_3_code L22_3_sum := sumOk_lim (un := L22_3_un) loops22_nat (fun _ => rfl) L22_3_dok fun s => L22_3_round s.1 s.2.1 s.2.2
noncomputable def L22_7_code : Code := (loopsOf body22).getD 1 .skip
theorem L22_7_round (s0 : (List UInt8)) (s1 : Int) (s2 : Int) (s3 : Int) : ev2 env22 orc22 loops22 L22_7_code (mkSt L22_7_sh (s0, (s1, (s2, (s3, ()))))) (back L22_7_sh L22_7_pk L22_7_d) = L22_7_r s0 s1 s2 s3 := by kernel_rfl
theorem L22_7_ok : SumOk env22 orc22 loops22 L22_7_code L22_7_sum := sumOk_lim (un := L22_7_un) loops22_nat (fun _ => rfl) L22_7_dok fun s => L22_7_round s.1 s.2.1 s.2.2.1 s.2.2.2
theorem loops22_all : loopsOf body22 = [L22_3_code, L22_7_code] := by kernel_rfl
theorem L22_3_key : lookL loops22 (keyOf L22_3_code) = some L22_3_sum := by kernel_rfl
theorem L22_7_key : lookL loops22 (keyOf L22_7_code) = some L22_7_sum := by kernel_rfl
theorem loops22_ok : LoopsOk env22 orc22 loops22 body22 := by
  intro c hc f hf
  rw [loops22_all] at hc
  simp only [List.mem_cons, List.not_mem_nil, or_false] at hc
  rcases hc with rfl | rfl
  · rw [L22_3_key] at hf; cases hf; exact L22_3_ok
  · rw [L22_7_key] at hf; cases hf; exact L22_7_ok
def G22 (x0 : (List UInt8)) : Option (Int) :=
  Option.bind (L22_3 (x0, (4294967295 : Int), (0 : Int))) fun (r15 : (List UInt8) × Int × Int) =>
  let v16 : Int := (bits .xor .u32 (if IntKind.u32.signed then -1 else IntKind.u32.max) r15.2.1)
  let v17 : Int := (IntKind.i64.wrap v16)
  some (v17)
theorem ev22 (x0 : (List UInt8)) : ev2 env22 orc22 loops22 body22 (initSt 0 [⟨.str, x0⟩]) (retT [(2, .dat (.int .i64))] [(.int .i64)] fun x => x.1) = G22 x0 := by kernel_rfl
def P22 (x0 : (List UInt8)) : Bool := (G22 x0).isSome
def F22 (x0 : (List UInt8)) : Int := (G22 x0).getD default
theorem G22_some (x0 : (List UInt8)) (h : P22 x0 = true) : G22 x0 = some (F22 x0) := by
  unfold P22 at h; unfold F22
  cases hg : G22 x0 with
  | none => rw [hg] at h; cases h
  | some r => rfl
theorem P22_of (x0 : (List UInt8)) {r : Int} (h : G22 x0 = some r) : P22 x0 = true := by unfold P22; rw [h]; rfl
theorem F22_of (x0 : (List UInt8)) {r : Int} (h : G22 x0 = some r) : F22 x0 = r := by unfold F22; rw [h]; rfl
def spec22 : Spec := ⟨[.str], [.dat (.int .i64)], fun | [a0] => P22 (a0.as .str) | _ => false, fun | [a0] => [⟨(.int .i64), (F22 (a0.as .str))⟩] | _ => []⟩
theorem meets22 (hE : EnvOk Tryd.prog env22) (hm : Tryd.prog.follows .mixedOrders = true) : Meets Tryd.prog glob 22 spec22 :=
  meets_of_ev2 (O := orc22) (L := loops22) (c := body22) (slots := [2]) hE hm Tryd.func22 Tryd.call22 (by kernel_rfl) (by kernel_rfl) loops22_ok (rangesOk_nil (by kernel_rfl)) (by kernel_rfl) rfl (by decide) (fun ds hds hpre => by
  obtain ⟨x0, ds0, rfl, h0⟩ := datsS hds
  have h9 := dats0 h0; subst h9
  exact ev_ret (un := fun r => [⟨(.int .i64), r⟩]) loops22_nat (fun _ => rfl) ((ev22 x0).trans (G22_some x0 hpre)))
def env10 : Env where
  tab := tab
  glob := glob
  spec := fun
    | 12 => some spec12
    | 15 => some spec15
    | 17 => some spec17
    | 19 => some spec19
    | 21 => some spec21
    | _ => none
def orc10 : Orc := ⟨131, fun _ => none, fun
  | 0 => []
  | 1 => [(.slot 1, .own), (.slot 2, .own)]
  | 2 => [(.slot 1, .own), (.slot 2, .own), (.slot 3, .own), (.slot 4, .own)]
  | 3 => [(.slot 1, .own), (.slot 2, .own), (.slot 3, .own), (.slot 4, .own), (.slot 5, .own), (.slot 6, .own), (.slot 7, .own)]
  | 4 => [(.slot 1, .own), (.slot 2, .own), (.slot 3, .own), (.slot 4, .own), (.slot 5, .own), (.slot 6, .own), (.slot 7, .own), (.slot 10, .own)]
  | 5 => [(.slot 1, .own), (.slot 2, .own), (.slot 3, .own), (.slot 4, .own), (.slot 5, .own), (.slot 6, .own), (.slot 7, .own), (.slot 10, .own), (.slot 11, .own), (.slot 12, .own)]
  | 6 => [(.slot 1, .own), (.slot 2, .own), (.slot 3, .own), (.slot 4, .own), (.slot 5, .own), (.slot 6, .own), (.slot 7, .own), (.slot 10, .own), (.slot 11, .own), (.slot 12, .own), (.slot 13, .own), (.slot 14, .own), (.slot 15, .own)]
  | 7 => [(.slot 1, .own), (.slot 2, .own), (.slot 3, .own), (.slot 4, .own), (.slot 5, .own), (.slot 6, .own), (.slot 7, .own), (.slot 10, .own), (.slot 11, .own), (.slot 12, .own), (.slot 13, .own), (.slot 14, .own), (.slot 15, .own), (.slot 18, .own)]
  | 8 => [(.slot 1, .own), (.slot 2, .own), (.slot 3, .own), (.slot 4, .own), (.slot 5, .own), (.slot 6, .own), (.slot 7, .own), (.slot 10, .own), (.slot 11, .own), (.slot 12, .own), (.slot 13, .own), (.slot 14, .own), (.slot 15, .own), (.slot 18, .own), (.slot 20, .own)]
  | 9 => [(.slot 1, .own), (.slot 2, .own), (.slot 3, .own), (.slot 4, .own), (.slot 5, .own), (.slot 6, .own), (.slot 7, .own), (.slot 10, .own), (.slot 11, .own), (.slot 12, .own), (.slot 13, .own), (.slot 14, .own), (.slot 15, .own), (.slot 18, .own), (.slot 20, .own), (.slot 23, .own)]
  | 10 => [(.slot 0, .own)]
  | _ => []⟩
noncomputable def body10 : Code := Tryd.f10.body.getD .skip
def loops10 : Nat → Option (Sum) := fun | _ => none
theorem loops10_nat : ∀ q f, loops10 q = some f → Natural f := by
  intro q f h
  cases h
theorem loops10_ok : LoopsOk env10 orc10 loops10 body10 := loopsOk_nil (by kernel_rfl)
def G10  : Option (Bool) :=
  bif (P12 (-64 : Int)) then
  let v1 : ((List UInt8) × Int) := (F12 (-64 : Int))
  bif (P12 (64 : Int)) then
  let v2 : ((List UInt8) × Int) := (F12 (64 : Int))
  bif (P15 ([97, 172, 2, 98] : List UInt8) (1 : Int)) then
  let v3 : (Int × (Int × Int)) := (F15 ([97, 172, 2, 98] : List UInt8) (1 : Int))
  bif (P15 ([128, 0] : List UInt8) (0 : Int)) then
  let v4 : (Int × (Int × Int)) := (F15 ([128, 0] : List UInt8) (0 : Int))
  bif (P19 ([97, 98] : List UInt8)) then
  let v5 : ((List UInt8) × Int) := (F19 ([97, 98] : List UInt8))
  bif (P17 ([4, 97, 98, 99] : List UInt8) (0 : Int)) then
  let v6 : ((List UInt8) × (Int × Int)) := (F17 ([4, 97, 98, 99] : List UInt8) (0 : Int))
  bif (P17 ([4, 97] : List UInt8) (0 : Int)) then
  let v7 : ((List UInt8) × (Int × Int)) := (F17 ([4, 97] : List UInt8) (0 : Int))
  bif (P12 (4611686018427387904 : Int)) then
  let v8 : ((List UInt8) × Int) := (F12 (4611686018427387904 : Int))
  bif (P15 ([] : List UInt8) (1 : Int)) then
  let v9 : (Int × (Int × Int)) := (F15 ([] : List UInt8) (1 : Int))
  let v10 : Bool := (v1.1 == ([127] : List UInt8))
  let v11 : Bool := (v1.2 == (0 : Int))
  let v12 : Bool := (bif v10 then v11 else false)
  let v13 : Bool := (v2.1 == ([128, 1] : List UInt8))
  let v14 : Bool := (bif v12 then v13 else false)
  let v15 : Bool := (v2.2 == (0 : Int))
  let v16 : Bool := (bif v14 then v15 else false)
  let v17 : Bool := (v3.1 == (150 : Int))
  let v18 : Bool := (bif v16 then v17 else false)
  let v19 : Bool := (v3.2.1 == (3 : Int))
  let v20 : Bool := (bif v18 then v19 else false)
  let v21 : Bool := (v3.2.2 == (0 : Int))
  let v22 : Bool := (bif v20 then v21 else false)
  let v23 : Bool := (v4.2.2 == (10 : Int))
  let v24 : Bool := (bif v22 then v23 else false)
  let v25 : Bool := (v5.1 == ([4, 97, 98] : List UInt8))
  let v26 : Bool := (bif v24 then v25 else false)
  let v27 : Bool := (v5.2 == (0 : Int))
  let v28 : Bool := (bif v26 then v27 else false)
  let v29 : Bool := (v6.1 == ([97, 98] : List UInt8))
  let v30 : Bool := (bif v28 then v29 else false)
  let v31 : Bool := (v6.2.1 == (3 : Int))
  let v32 : Bool := (bif v30 then v31 else false)
  let v33 : Bool := (v6.2.2 == (0 : Int))
  let v34 : Bool := (bif v32 then v33 else false)
  let v35 : Bool := (v7.2.2 == (10 : Int))
  let v36 : Bool := (bif v34 then v35 else false)
  let v37 : Bool := (v8.2 == (10 : Int))
  let v38 : Bool := (bif v36 then v37 else false)
  let v39 : Bool := (v9.2.2 == (2 : Int))
  let v40 : Bool := (bif v38 then v39 else false)
  bif ((P21 ([49, 50, 51, 52, 53, 54, 55, 56, 57] : List UInt8)) || !(v40 && true)) then
  let v41 : Int := (F21 ([49, 50, 51, 52, 53, 54, 55, 56, 57] : List UInt8))
  let v42 : Bool := (v41 == (3808858755 : Int))
  let v43 : Bool := (bif v40 then v42 else false)
  some (v43)
  else none
  else none
  else none
  else none
  else none
  else none
  else none
  else none
  else none
  else none
theorem ev10  : ev2 env10 orc10 loops10 body10 (initSt 0 []) (retT [(0, .dat .bool)] [.bool] fun x => x.1) = G10  := by kernel_rfl
def P10  : Bool := (G10 ).isSome
def F10  : Bool := (G10 ).getD default
theorem G10_some  (h : P10  = true) : G10  = some (F10 ) := by
  unfold P10 at h; unfold F10
  cases hg : G10  with
  | none => rw [hg] at h; cases h
  | some r => rfl
theorem P10_of  {r : Bool} (h : G10  = some r) : P10  = true := by unfold P10; rw [h]; rfl
theorem F10_of  {r : Bool} (h : G10  = some r) : F10  = r := by unfold F10; rw [h]; rfl
def spec10 : Spec := ⟨[], [.dat .bool], fun | [] => P10 | _ => false, fun | [] => [⟨.bool, F10⟩] | _ => []⟩
theorem meets10 (hE : EnvOk Tryd.prog env10) (hm : Tryd.prog.follows .mixedOrders = true) : Meets Tryd.prog glob 10 spec10 :=
  meets_of_ev2 (O := orc10) (L := loops10) (c := body10) (slots := [0]) hE hm Tryd.func10 Tryd.call10 (by kernel_rfl) (by kernel_rfl) loops10_ok (rangesOk_nil (by kernel_rfl)) (by kernel_rfl) rfl (by decide) (fun ds hds hpre => by
  have h9 := dats0 hds; subst h9
  exact ev_ret (un := fun r => [⟨.bool, r⟩]) loops10_nat (fun _ => rfl) ((ev10 ).trans (G10_some  hpre)))
def env3 : Env where
  tab := tab
  glob := glob
  spec := fun
    | 10 => some spec10
    | 11 => some spec11
    | 12 => some spec12
    | 13 => some spec13
    | 14 => some spec14
    | 15 => some spec15
    | 16 => some spec16
    | 17 => some spec17
    | 18 => some spec18
    | 19 => some spec19
    | 20 => some spec20
    | 21 => some spec21
    | 22 => some spec22
    | _ => none
def orc3 : Orc := ⟨164, fun _ => none, fun
  | 0 => [(.slot 0, .own), (.slot 1, .own), (.slot 2, .own)]
  | 1 => [(.slot 0, .own), (.slot 1, .own), (.slot 2, .own), (.slot 7, .own)]
  | 2 => [(.slot 0, .own), (.slot 2, .own), (.slot 7, .own), (.slot 8, .own)]
  | 3 => [(.slot 2, .own), (.slot 7, .own), (.slot 8, .own), (.slot 42, .own), (.slot 43, .own), (.slot 44, .own)]
  | 4 => [(.slot 2, .own), (.slot 7, .own), (.slot 8, .own), (.slot 42, .own), (.slot 43, .own), (.slot 44, .own), (.slot 45, .own)]
  | 5 => [(.slot 2, .own), (.slot 7, .own), (.slot 8, .own), (.slot 10, .own), (.slot 42, .own), (.slot 43, .own), (.slot 44, .own)]
  | 6 => [(.slot 2, .own), (.slot 7, .own), (.slot 8, .own), (.slot 10, .own), (.slot 11, .own), (.slot 12, .own), (.slot 42, .own), (.slot 43, .own), (.slot 44, .own)]
  | 7 => [(.slot 2, .own), (.slot 7, .own), (.slot 8, .own), (.slot 11, .own), (.slot 12, .own), (.slot 13, .own), (.slot 14, .own), (.slot 42, .own), (.slot 43, .own), (.slot 44, .own)]
  | 8 => [(.slot 2, .own), (.slot 7, .own), (.slot 8, .own), (.slot 42, .own), (.slot 43, .own), (.slot 44, .own), (.slot 65, .own)]
  | 9 => [(.slot 6, .own)]
  | 10 => [(.slot 2, .own), (.slot 7, .own), (.slot 8, .own), (.slot 42, .own), (.slot 43, .own), (.slot 44, .own)]
  | 11 => [(.slot 7, .own), (.slot 8, .own), (.slot 73, .own), (.slot 74, .own), (.slot 75, .own)]
  | 12 => [(.slot 7, .own), (.slot 8, .own), (.slot 73, .own), (.slot 74, .own), (.slot 75, .own), (.slot 76, .own)]
  | 13 => [(.slot 7, .own), (.slot 8, .own), (.slot 16, .own), (.slot 73, .own), (.slot 74, .own), (.slot 75, .own)]
  | 14 => [(.slot 7, .own), (.slot 8, .own), (.slot 16, .own), (.slot 17, .own), (.slot 18, .own), (.slot 19, .own), (.slot 73, .own), (.slot 74, .own), (.slot 75, .own)]
  | 15 => [(.slot 7, .own), (.slot 8, .own), (.slot 16, .own), (.slot 17, .own), (.slot 18, .own), (.slot 19, .own), (.slot 20, .own), (.slot 21, .own), (.slot 22, .own), (.slot 73, .own), (.slot 74, .own), (.slot 75, .own)]
  | 16 => [(.slot 7, .own), (.slot 8, .own), (.slot 16, .own), (.slot 17, .own), (.slot 18, .own), (.slot 19, .own), (.slot 20, .own), (.slot 21, .own), (.slot 22, .own), (.slot 23, .own), (.slot 24, .own), (.slot 25, .own), (.slot 73, .own), (.slot 74, .own), (.slot 75, .own)]
  | 17 => [(.slot 7, .own), (.slot 8, .own), (.slot 17, .own), (.slot 18, .own), (.slot 19, .own), (.slot 20, .own), (.slot 21, .own), (.slot 22, .own), (.slot 23, .own), (.slot 24, .own), (.slot 25, .own), (.slot 26, .own), (.slot 27, .own), (.slot 28, .own), (.slot 73, .own), (.slot 74, .own), (.slot 75, .own)]
  | 18 => [(.slot 7, .own), (.slot 8, .own), (.slot 73, .own), (.slot 74, .own), (.slot 75, .own), (.slot 134, .own)]
  | 19 => [(.slot 6, .own)]
  | 20 => [(.slot 7, .own), (.slot 8, .own), (.slot 73, .own), (.slot 74, .own), (.slot 75, .own)]
  | 21 => [(.slot 7, .own), (.slot 8, .own), (.slot 29, .own), (.slot 30, .own)]
  | 22 => [(.slot 7, .own), (.slot 8, .own), (.slot 29, .own), (.slot 30, .own), (.slot 31, .own), (.slot 32, .own)]
  | 23 => [(.slot 6, .own)]
  | _ => []⟩
noncomputable def body3 : Code := Tryd.f3.body.getD .skip
def L3_12_sh : Shape := [(.slot 7, .dat .bool), (.slot 8, .dat .str), (.slot 73, .own 3 (.int .i64)), (.slot 74, .dat (.int .i64)), (.slot 75, .dat (.int .i64))]
def L3_12_x0 : Shape := [(.slot 6, .dat .bool)]
def L3_12_x1 : Shape := [(.slot 7, .dat .bool), (.slot 8, .dat .str), (.slot 73, .own 3 (.int .i64)), (.slot 74, .dat (.int .i64)), (.slot 75, .dat (.int .i64))]
def L3_12_pk (s : Tup L3_12_sh) : Bool × (List UInt8) × (List Int) × Int × Int := (s.1, s.2.1, s.2.2.1, s.2.2.2.1, s.2.2.2.2.1)
def L3_12_un (s : Bool × (List UInt8) × (List Int) × Int × Int) : Tup L3_12_sh := (s.1, (s.2.1, (s.2.2.1, (s.2.2.2.1, (s.2.2.2.2, ())))))
def L3_12_leave (x : (Bool) ⊕ (Bool × (List UInt8) × (List Int) × Int × Int)) (R : Type) (K : Cont R) : Option R := match x with
  | (.inl a) => K .ret (mkSt L3_12_x0 (a, ()))
  | (.inr a) => K (.exit 2) (mkSt L3_12_x1 (a.1, (a.2.1, (a.2.2.1, (a.2.2.2.1, (a.2.2.2.2, ()))))))
def L3_12_d (e : Exit) (st : St) : Option ((Bool) ⊕ (Bool × (List UInt8) × (List Int) × Int × Int)) := match e with
  | .ret => (match unSt L3_12_x0 st with
    | some s => some (.inl s.1)
    | none => none)
  | .exit 2 => (match unSt L3_12_x1 st with
    | some s => some (.inr (s.1, s.2.1, s.2.2.1, s.2.2.2.1, s.2.2.2.2.1))
    | none => none)
  | _ => none
def L3_12_r (s0 : Bool) (s1 : (List UInt8)) (s2 : (List Int)) (s3 : Int) (s4 : Int) : Option ((Bool × (List UInt8) × (List Int) × Int × Int) ⊕ ((Bool) ⊕ (Bool × (List UInt8) × (List Int) × Int × Int))) :=
  let v20 : Bool := (decide (s4 < s3))
  bif v20 then
  bif (decide (0 ≤ s4) && decide (s4 < (List.length s2))) then
  bif (decide ((Int.toNat s4) < List.length s2)) then
  let v21 : Int := (List.getD s2 (Int.toNat s4) (0 : Int))
  bif (P15 s1 v21) then
  let v22 : (Int × (Int × Int)) := (F15 s1 v21)
  bif (P16 s1 v21) then
  let v23 : (Int × (Int × Int)) := (F16 s1 v21)
  bif (P17 s1 v21) then
  let v24 : ((List UInt8) × (Int × Int)) := (F17 s1 v21)
  bif (P18 s1 v21) then
  let v25 : ((List UInt8) × (Int × Int)) := (F18 s1 v21)
  let v26 : Bool := (v22.1 != v23.1)
  let v27 : Bool := (v22.2.1 != v23.2.1)
  let v28 : Bool := (bif v26 then true else v27)
  let v29 : Bool := (v22.2.2 != v23.2.2)
  let v30 : Bool := (bif v28 then true else v29)
  let v31 : Bool := (!(v24.1 == v25.1))
  let v32 : Bool := (bif v30 then true else v31)
  let v33 : Bool := (v24.2.1 != v25.2.1)
  let v34 : Bool := (bif v32 then true else v33)
  let v35 : Bool := (v24.2.2 != v25.2.2)
  let v36 : Bool := (bif v34 then true else v35)
  bif v36 then
  some (.inr (.inl false))
  else
  let v37 : Int := (IntKind.i64.wrap (s4 + (1 : Int)))
  some (.inl (s0, s1, s2, s3, v37))
  else none
  else none
  else none
  else none
  else none
  else none
  else
  some (.inr (.inr (s0, s1, s2, s3, s4)))
def L3_12 : Bool × (List UInt8) × (List Int) × Int × Int → Option ((Bool) ⊕ (Bool × (List UInt8) × (List Int) × Int × Int)) := Lim (fun s => L3_12_r s.1 s.2.1 s.2.2.1 s.2.2.2.1 s.2.2.2.2)
def L3_12_sum : Sum := limSum L3_12_sh L3_12_pk (fun s => L3_12_r s.1 s.2.1 s.2.2.1 s.2.2.2.1 s.2.2.2.2) L3_12_leave
theorem L3_12_nat : Natural L3_12_sum := natural_lim fun x R K => by
  rcases x with x|x <;> rfl
theorem L3_12_dok : ∀ e st x, e ≠ .normal → L3_12_d e st = some x → ∀ R (K : Cont R), K e st = L3_12_leave x R K := by
  intro e st x _ h R K
  unfold L3_12_d at h
  split at h
  · split at h
    · rename_i s hs; cases h; rw [unSt_some hs]; rfl
    · cases h
  · split at h
    · rename_i s hs; cases h; rw [unSt_some hs]; rfl
    · cases h
  · cases h
def L3_4_sh : Shape := [(.slot 2, .dat (.int .i64)), (.slot 7, .dat .bool), (.slot 8, .dat .str), (.slot 42, .own 3 (.int .i64)), (.slot 43, .dat (.int .i64)), (.slot 44, .dat (.int .i64))]
def L3_4_x0 : Shape := [(.slot 6, .dat .bool)]
def L3_4_x1 : Shape := [(.slot 2, .dat (.int .i64)), (.slot 7, .dat .bool), (.slot 8, .dat .str), (.slot 42, .own 3 (.int .i64)), (.slot 43, .dat (.int .i64)), (.slot 44, .dat (.int .i64))]
def L3_4_pk (s : Tup L3_4_sh) : Int × Bool × (List UInt8) × (List Int) × Int × Int := (s.1, s.2.1, s.2.2.1, s.2.2.2.1, s.2.2.2.2.1, s.2.2.2.2.2.1)
def L3_4_un (s : Int × Bool × (List UInt8) × (List Int) × Int × Int) : Tup L3_4_sh := (s.1, (s.2.1, (s.2.2.1, (s.2.2.2.1, (s.2.2.2.2.1, (s.2.2.2.2.2, ()))))))
def L3_4_leave (x : (Bool) ⊕ (Int × Bool × (List UInt8) × (List Int) × Int × Int)) (R : Type) (K : Cont R) : Option R := match x with
  | (.inl a) => K .ret (mkSt L3_4_x0 (a, ()))
  | (.inr a) => K (.exit 0) (mkSt L3_4_x1 (a.1, (a.2.1, (a.2.2.1, (a.2.2.2.1, (a.2.2.2.2.1, (a.2.2.2.2.2, ())))))))
def L3_4_d (e : Exit) (st : St) : Option ((Bool) ⊕ (Int × Bool × (List UInt8) × (List Int) × Int × Int)) := match e with
  | .ret => (match unSt L3_4_x0 st with
    | some s => some (.inl s.1)
    | none => none)
  | .exit 0 => (match unSt L3_4_x1 st with
    | some s => some (.inr (s.1, s.2.1, s.2.2.1, s.2.2.2.1, s.2.2.2.2.1, s.2.2.2.2.2.1))
    | none => none)
  | _ => none
def L3_4_r (s0 : Int) (s1 : Bool) (s2 : (List UInt8)) (s3 : (List Int)) (s4 : Int) (s5 : Int) : Option ((Int × Bool × (List UInt8) × (List Int) × Int × Int) ⊕ ((Bool) ⊕ (Int × Bool × (List UInt8) × (List Int) × Int × Int))) :=
  let v6 : Bool := (decide (s5 < s4))
  bif v6 then
  bif (decide (0 ≤ s5) && decide (s5 < (List.length s3))) then
  bif (decide ((Int.toNat s5) < List.length s3)) then
  let v7 : Int := (List.getD s3 (Int.toNat s5) (0 : Int))
  bif (P12 v7) then
  let v8 : ((List UInt8) × Int) := (F12 v7)
  bif (P13 v7) then
  let v9 : ((List UInt8) × Int) := (F13 v7)
  let v10 : Bool := (!(v8.1 == v9.1))
  let v11 : Bool := (v8.2 != v9.2)
  let v12 : Bool := (bif v10 then true else v11)
  bif v12 then
  some (.inr (.inl false))
  else
  let v13 : Int := (IntKind.i64.wrap (s5 + (1 : Int)))
  some (.inl (s0, s1, s2, s3, s4, v13))
  else none
  else none
  else none
  else none
  else
  some (.inr (.inr (s0, s1, s2, s3, s4, s5)))
def L3_4 : Int × Bool × (List UInt8) × (List Int) × Int × Int → Option ((Bool) ⊕ (Int × Bool × (List UInt8) × (List Int) × Int × Int)) := Lim (fun s => L3_4_r s.1 s.2.1 s.2.2.1 s.2.2.2.1 s.2.2.2.2.1 s.2.2.2.2.2)
def L3_4_sum : Sum := limSum L3_4_sh L3_4_pk (fun s => L3_4_r s.1 s.2.1 s.2.2.1 s.2.2.2.1 s.2.2.2.2.1 s.2.2.2.2.2) L3_4_leave
theorem L3_4_nat : Natural L3_4_sum := natural_lim fun x R K => by
  rcases x with x|x <;> rfl
theorem L3_4_dok : ∀ e st x, e ≠ .normal → L3_4_d e st = some x → ∀ R (K : Cont R), K e st = L3_4_leave x R K := by
  intro e st x _ h R K
  unfold L3_4_d at h
  split at h
  · split at h
    · rename_i s hs; cases h; rw [unSt_some hs]; rfl
    · cases h
  · split at h
    · rename_i s hs; cases h; rw [unSt_some hs]; rfl
    · cases h
  · cases h
def loops3 : Nat → Option (Sum) := fun | 4 => some L3_4_sum | 12 => some L3_12_sum | _ => none
theorem loops3_nat : ∀ q f, loops3 q = some f → Natural f := by
  intro q f h
  unfold loops3 at h
  split at h
  · cases h; exact L3_4_nat
  · cases h; exact L3_12_nat
  · cases h
noncomputable def L3_4_code : Code := (loopsOf body3).getD 0 .skip
theorem L3_4_round (s0 : Int) (s1 : Bool) (s2 : (List UInt8)) (s3 : (List Int)) (s4 : Int) (s5 : Int) : ev2 env3 orc3 loops3 L3_4_code (mkSt L3_4_sh (s0, (s1, (s2, (s3, (s4, (s5, ()))))))) (back L3_4_sh L3_4_pk L3_4_d) = L3_4_r s0 s1 s2 s3 s4 s5 := by kernel_rfl
theorem L3_4_ok : SumOk env3 orc3 loops3 L3_4_code L3_4_sum := sumOk_lim (un := L3_4_un) loops3_nat (fun _ => rfl) L3_4_dok fun s => L3_4_round s.1 s.2.1 s.2.2.1 s.2.2.2.1 s.2.2.2.2.1 s.2.2.2.2.2
noncomputable def L3_12_code : Code := (loopsOf body3).getD 1 .skip
theorem L3_12_round (s0 : Bool) (s1 : (List UInt8)) (s2 : (List Int)) (s3 : Int) (s4 : Int) : ev2 env3 orc3 loops3 L3_12_code (mkSt L3_12_sh (s0, (s1, (s2, (s3, (s4, ())))))) (back L3_12_sh L3_12_pk L3_12_d) = L3_12_r s0 s1 s2 s3 s4 := by kernel_rfl
theorem L3_12_ok : SumOk env3 orc3 loops3 L3_12_code L3_12_sum := sumOk_lim (un := L3_12_un) loops3_nat (fun _ => rfl) L3_12_dok fun s => L3_12_round s.1 s.2.1 s.2.2.1 s.2.2.2.1 s.2.2.2.2
theorem loops3_all : loopsOf body3 = [L3_4_code, L3_12_code] := by kernel_rfl
theorem L3_4_key : lookL loops3 (keyOf L3_4_code) = some L3_4_sum := by kernel_rfl
theorem L3_12_key : lookL loops3 (keyOf L3_12_code) = some L3_12_sum := by kernel_rfl
theorem loops3_ok : LoopsOk env3 orc3 loops3 body3 := by
  intro c hc f hf
  rw [loops3_all] at hc
  simp only [List.mem_cons, List.not_mem_nil, or_false] at hc
  rcases hc with rfl | rfl
  · rw [L3_4_key] at hf; cases hf; exact L3_4_ok
  · rw [L3_12_key] at hf; cases hf; exact L3_12_ok
def G3 (x0 : Int) (x1 : (List UInt8)) (x2 : Int) : Option (Bool) :=
  bif (P10 ) then
  let v1 : Int := ((List.length x1 : Nat) : Int)
  let v2 : Int := (if (300 : Int) < v1 then (300 : Int) else v1)
  bif (sliceTest (0 : Int) v2 (List.length x1)) then
  let v3 : (List UInt8) := (cut x1 (0 : Int) v2)
  bif (P11 x0) then
  let v4 : Int := (F11 x0)
  let v5 : (List Int) := (List.set (List.set (List.replicate 2 (0 : Int)) 0 x0) 1 v4)
  Option.bind (L3_4 (x2, F10, v3, v5, (2 : Int), (0 : Int))) fun x => match x with
  | (.inl r14) =>
  some (r14)
  | (.inr r15) =>
  let v16 : Int := ((List.length r15.2.2.1 : Nat) : Int)
  let v17 : Int := (IntKind.i64.wrap (v16 + (2 : Int)))
  bif (P14 r15.1 v17) then
  let v18 : Int := (F14 r15.1 v17)
  let v19 : (List Int) := (List.set (List.set (List.replicate 2 (0 : Int)) 0 r15.1) 1 v18)
  Option.bind (L3_12 (r15.2.1, r15.2.2.1, v19, (2 : Int), (0 : Int))) fun x => match x with
  | (.inl r38) =>
  some (r38)
  | (.inr r39) =>
  bif (P19 r39.2.1) then
  let v40 : ((List UInt8) × Int) := (F19 r39.2.1)
  bif (P20 r39.2.1) then
  let v41 : ((List UInt8) × Int) := (F20 r39.2.1)
  let v42 : Bool := (v40.1 == v41.1)
  let v43 : Bool := (bif r39.1 then v42 else false)
  let v44 : Bool := (v40.2 == v41.2)
  let v45 : Bool := (bif v43 then v44 else false)
  bif ((P21 r39.2.1) || !(v45 && true)) then
  let v46 : Int := (F21 r39.2.1)
  bif ((P22 r39.2.1) || !(v45 && true)) then
  let v47 : Int := (F22 r39.2.1)
  let v48 : Bool := (v46 == v47)
  let v49 : Bool := (bif v45 then v48 else false)
  some (v49)
  else none
  else none
  else none
  else none
  else none
  else none
  else none
  else none
theorem ev3 (x0 : Int) (x1 : (List UInt8)) (x2 : Int) : ev2 env3 orc3 loops3 body3 (initSt 0 [⟨(.int .i64), x0⟩, ⟨.str, x1⟩, ⟨(.int .i64), x2⟩]) (retT [(6, .dat .bool)] [.bool] fun x => x.1) = G3 x0 x1 x2 := by kernel_rfl
def P3 (x0 : Int) (x1 : (List UInt8)) (x2 : Int) : Bool := (G3 x0 x1 x2).isSome
def F3 (x0 : Int) (x1 : (List UInt8)) (x2 : Int) : Bool := (G3 x0 x1 x2).getD default
theorem G3_some (x0 : Int) (x1 : (List UInt8)) (x2 : Int) (h : P3 x0 x1 x2 = true) : G3 x0 x1 x2 = some (F3 x0 x1 x2) := by
  unfold P3 at h; unfold F3
  cases hg : G3 x0 x1 x2 with
  | none => rw [hg] at h; cases h
  | some r => rfl
theorem P3_of (x0 : Int) (x1 : (List UInt8)) (x2 : Int) {r : Bool} (h : G3 x0 x1 x2 = some r) : P3 x0 x1 x2 = true := by unfold P3; rw [h]; rfl
theorem F3_of (x0 : Int) (x1 : (List UInt8)) (x2 : Int) {r : Bool} (h : G3 x0 x1 x2 = some r) : F3 x0 x1 x2 = r := by unfold F3; rw [h]; rfl
def spec3 : Spec := ⟨[(.int .i64), .str, (.int .i64)], [.dat .bool], fun | [a0, a1, a2] => P3 (a0.as (.int .i64)) (a1.as .str) (a2.as (.int .i64)) | _ => false, fun | [a0, a1, a2] => [⟨.bool, (F3 (a0.as (.int .i64)) (a1.as .str) (a2.as (.int .i64)))⟩] | _ => []⟩
theorem meets3 (hE : EnvOk Tryd.prog env3) (hm : Tryd.prog.follows .mixedOrders = true) : Meets Tryd.prog glob 3 spec3 :=
  meets_of_ev2 (O := orc3) (L := loops3) (c := body3) (slots := [6]) hE hm Tryd.func3 Tryd.call3 (by kernel_rfl) (by kernel_rfl) loops3_ok (rangesOk_nil (by kernel_rfl)) (by kernel_rfl) rfl (by decide) (fun ds hds hpre => by
  obtain ⟨x0, ds0, rfl, h0⟩ := datsS hds
  obtain ⟨x1, ds1, rfl, h1⟩ := datsS h0
  obtain ⟨x2, ds2, rfl, h2⟩ := datsS h1
  have h9 := dats0 h2; subst h9
  exact ev_ret (un := fun r => [⟨.bool, r⟩]) loops3_nat (fun _ => rfl) ((ev3 x0 x1 x2).trans (G3_some x0 x1 x2 hpre)))
def env4 : Env where
  tab := tab
  glob := glob
  spec := fun
    | 10 => some spec10
    | 11 => some spec11
    | 12 => some spec12
    | 15 => some spec15
    | 17 => some spec17
    | 19 => some spec19
    | _ => none
def orc4 : Orc := ⟨123, fun _ => none, fun
  | 0 => [(.slot 0, .own), (.slot 1, .own), (.slot 5, .own), (.box 5, .own), (.cell 5 0, .own)]
  | 1 => [(.slot 0, .own), (.slot 1, .own), (.slot 5, .own), (.slot 7, .own), (.box 5, .own), (.cell 5 0, .own)]
  | 2 => [(.slot 1, .own), (.slot 5, .own), (.slot 7, .own), (.slot 8, .own), (.box 5, .own), (.cell 5 0, .own)]
  | 3 => [(.slot 1, .own), (.slot 5, .own), (.slot 7, .own), (.slot 8, .own), (.slot 9, .own), (.box 5, .own), (.cell 5 0, .own)]
  | 4 => [(.slot 1, .own), (.slot 7, .own), (.slot 8, .own), (.slot 9, .own), (.slot 10, .own)]
  | 5 => [(.slot 7, .own), (.slot 8, .own), (.slot 9, .own), (.slot 10, .own), (.slot 11, .own)]
  | 6 => [(.slot 7, .own), (.slot 8, .own), (.slot 9, .own), (.slot 10, .own), (.slot 11, .own), (.slot 12, .own), (.slot 13, .own)]
  | 7 => [(.slot 7, .own), (.slot 8, .own), (.slot 9, .own), (.slot 10, .own), (.slot 11, .own), (.slot 12, .own), (.slot 13, .own), (.slot 14, .own), (.slot 15, .own)]
  | 8 => [(.slot 7, .own), (.slot 8, .own), (.slot 9, .own), (.slot 10, .own), (.slot 11, .own), (.slot 12, .own), (.slot 13, .own), (.slot 14, .own), (.slot 15, .own), (.slot 16, .own), (.slot 17, .own), (.slot 18, .own)]
  | 9 => [(.slot 7, .own), (.slot 8, .own), (.slot 9, .own), (.slot 11, .own), (.slot 12, .own), (.slot 13, .own), (.slot 14, .own), (.slot 15, .own), (.slot 16, .own), (.slot 17, .own), (.slot 18, .own), (.slot 19, .own), (.slot 20, .own), (.slot 21, .own)]
  | 10 => [(.slot 6, .own)]
  | _ => []⟩
noncomputable def body4 : Code := Tryd.f4.body.getD .skip
def loops4 : Nat → Option (Sum) := fun | _ => none
theorem loops4_nat : ∀ q f, loops4 q = some f → Natural f := by
  intro q f h
  cases h
theorem loops4_ok : LoopsOk env4 orc4 loops4 body4 := loopsOk_nil (by kernel_rfl)
def G4 (x0 : Int) (x1 : (List UInt8)) (x2 : (List (List UInt8))) : Option (Bool) :=
  bif (P10 ) then
  bif (P11 x0) then
  let v1 : Int := (F11 x0)
  bif (decide (0 ≤ (0 : Int)) && decide ((0 : Int) < (2 : Nat))) then
  bif (decide ((Int.toNat (0 : Int)) < List.length x2)) then
  let v2 : (List UInt8) := (List.getD x2 (Int.toNat (0 : Int)) ([] : List UInt8))
  bif (decide (0 ≤ (0 : Int)) && decide ((0 : Int) < (2 : Nat))) then
  bif (decide ((Int.toNat (0 : Int)) < List.length x2)) then
  let v3 : (List UInt8) := (List.getD x2 (Int.toNat (0 : Int)) ([] : List UInt8))
  let v4 : Int := ((List.length v3 : Nat) : Int)
  let v5 : Int := (if (200 : Int) < v4 then (200 : Int) else v4)
  bif (sliceTest (0 : Int) v5 (List.length v2)) then
  let v6 : (List UInt8) := (cut v2 (0 : Int) v5)
  bif (decide (0 ≤ (1 : Int)) && decide ((1 : Int) < (2 : Nat))) then
  bif (decide ((Int.toNat (1 : Int)) < List.length x2)) then
  let v7 : (List UInt8) := (List.getD x2 (Int.toNat (1 : Int)) ([] : List UInt8))
  bif (decide (0 ≤ (1 : Int)) && decide ((1 : Int) < (2 : Nat))) then
  bif (decide ((Int.toNat (1 : Int)) < List.length x2)) then
  let v8 : (List UInt8) := (List.getD x2 (Int.toNat (1 : Int)) ([] : List UInt8))
  let v9 : Int := ((List.length v8 : Nat) : Int)
  let v10 : Int := (if (200 : Int) < v9 then (200 : Int) else v9)
  bif (sliceTest (0 : Int) v10 (List.length v7)) then
  let v11 : (List UInt8) := (cut v7 (0 : Int) v10)
  let v12 : Int := ((List.length x1 : Nat) : Int)
  let v13 : Int := (if (200 : Int) < v12 then (200 : Int) else v12)
  bif (sliceTest (0 : Int) v13 (List.length x1)) then
  let v14 : (List UInt8) := (cut x1 (0 : Int) v13)
  bif (P12 v1) then
  let v15 : ((List UInt8) × Int) := (F12 v1)
  bif (P19 v14) then
  let v16 : ((List UInt8) × Int) := (F19 v14)
  bif (decide (List.length v6 + List.length v15.1 ≤ 9223372036854775807)) then
  let v17 : (List UInt8) := (v6 ++ v15.1)
  bif (decide (List.length v17 + List.length v11 ≤ 9223372036854775807)) then
  let v18 : (List UInt8) := (v17 ++ v11)
  let v19 : Int := ((List.length v6 : Nat) : Int)
  bif (P15 v18 v19) then
  let v20 : (Int × (Int × Int)) := (F15 v18 v19)
  bif (decide (List.length v6 + List.length v16.1 ≤ 9223372036854775807)) then
  let v21 : (List UInt8) := (v6 ++ v16.1)
  bif (decide (List.length v21 + List.length v11 ≤ 9223372036854775807)) then
  let v22 : (List UInt8) := (v21 ++ v11)
  let v23 : Int := ((List.length v6 : Nat) : Int)
  bif (P17 v22 v23) then
  let v24 : ((List UInt8) × (Int × Int)) := (F17 v22 v23)
  let v25 : Bool := (v15.2 == (0 : Int))
  let v26 : Bool := (bif F10 then v25 else false)
  let v27 : Bool := (v16.2 == (0 : Int))
  let v28 : Bool := (bif v26 then v27 else false)
  let v29 : Bool := (v20.2.2 == (0 : Int))
  let v30 : Bool := (bif v28 then v29 else false)
  let v31 : Bool := (v24.2.2 == (0 : Int))
  let v32 : Bool := (bif v30 then v31 else false)
  let v33 : Bool := (v20.1 == v1)
  let v34 : Bool := (bif v32 then v33 else false)
  let v35 : Int := ((List.length v6 : Nat) : Int)
  let v36 : Int := ((List.length v15.1 : Nat) : Int)
  let v37 : Int := (IntKind.i64.wrap (v35 + v36))
  let v38 : Bool := (v20.2.1 == v37)
  let v39 : Bool := (bif v34 then v38 else false)
  let v40 : Bool := (v24.1 == v14)
  let v41 : Bool := (bif v39 then v40 else false)
  let v42 : Int := ((List.length v6 : Nat) : Int)
  let v43 : Int := ((List.length v16.1 : Nat) : Int)
  let v44 : Int := (IntKind.i64.wrap (v42 + v43))
  let v45 : Bool := (v24.2.1 == v44)
  let v46 : Bool := (bif v41 then v45 else false)
  some (v46)
  else none
  else none
  else none
  else none
  else none
  else none
  else none
  else none
  else none
  else none
  else none
  else none
  else none
  else none
  else none
  else none
  else none
  else none
  else none
  else none
  else none
theorem ev4 (x0 : Int) (x1 : (List UInt8)) (x2 : (List (List UInt8))) : ev2 env4 orc4 loops4 body4 (initSt 0 [⟨(.int .i64), x0⟩, ⟨.str, x1⟩, ⟨(.arr 2 .str), x2⟩]) (retT [(6, .dat .bool)] [.bool] fun x => x.1) = G4 x0 x1 x2 := by kernel_rfl
def P4 (x0 : Int) (x1 : (List UInt8)) (x2 : (List (List UInt8))) : Bool := (G4 x0 x1 x2).isSome
def F4 (x0 : Int) (x1 : (List UInt8)) (x2 : (List (List UInt8))) : Bool := (G4 x0 x1 x2).getD default
theorem G4_some (x0 : Int) (x1 : (List UInt8)) (x2 : (List (List UInt8))) (h : P4 x0 x1 x2 = true) : G4 x0 x1 x2 = some (F4 x0 x1 x2) := by
  unfold P4 at h; unfold F4
  cases hg : G4 x0 x1 x2 with
  | none => rw [hg] at h; cases h
  | some r => rfl
theorem P4_of (x0 : Int) (x1 : (List UInt8)) (x2 : (List (List UInt8))) {r : Bool} (h : G4 x0 x1 x2 = some r) : P4 x0 x1 x2 = true := by unfold P4; rw [h]; rfl
theorem F4_of (x0 : Int) (x1 : (List UInt8)) (x2 : (List (List UInt8))) {r : Bool} (h : G4 x0 x1 x2 = some r) : F4 x0 x1 x2 = r := by unfold F4; rw [h]; rfl
def spec4 : Spec := ⟨[(.int .i64), .str, (.arr 2 .str)], [.dat .bool], fun | [a0, a1, a2] => P4 (a0.as (.int .i64)) (a1.as .str) (a2.as (.arr 2 .str)) | _ => false, fun | [a0, a1, a2] => [⟨.bool, (F4 (a0.as (.int .i64)) (a1.as .str) (a2.as (.arr 2 .str)))⟩] | _ => []⟩
theorem meets4 (hE : EnvOk Tryd.prog env4) (hm : Tryd.prog.follows .mixedOrders = true) : Meets Tryd.prog glob 4 spec4 :=
  meets_of_ev2 (O := orc4) (L := loops4) (c := body4) (slots := [6]) hE hm Tryd.func4 Tryd.call4 (by kernel_rfl) (by kernel_rfl) loops4_ok (rangesOk_nil (by kernel_rfl)) (by kernel_rfl) rfl (by decide) (fun ds hds hpre => by
  obtain ⟨x0, ds0, rfl, h0⟩ := datsS hds
  obtain ⟨x1, ds1, rfl, h1⟩ := datsS h0
  obtain ⟨x2, ds2, rfl, h2⟩ := datsS h1
  have h9 := dats0 h2; subst h9
  exact ev_ret (un := fun r => [⟨.bool, r⟩]) loops4_nat (fun _ => rfl) ((ev4 x0 x1 x2).trans (G4_some x0 x1 x2 hpre)))
def env5 : Env where
  tab := tab
  glob := glob
  spec := fun
    | 10 => some spec10
    | 12 => some spec12
    | 14 => some spec14
    | 15 => some spec15
    | 17 => some spec17
    | 19 => some spec19
    | _ => none
def orc5 : Orc := ⟨150, fun _ => none, fun
  | 0 => [(.slot 0, .own), (.slot 1, .own), (.slot 2, .own)]
  | 1 => [(.slot 0, .own), (.slot 1, .own), (.slot 2, .own), (.slot 7, .own)]
  | 2 => [(.slot 1, .own), (.slot 7, .own), (.slot 8, .own)]
  | 3 => [(.slot 7, .own), (.slot 8, .own), (.slot 36, .own), (.slot 37, .own), (.slot 38, .own)]
  | 4 => [(.slot 7, .own), (.slot 8, .own), (.slot 36, .own), (.slot 37, .own), (.slot 38, .own), (.slot 39, .own)]
  | 5 => [(.slot 7, .own), (.slot 8, .own), (.slot 10, .own), (.slot 36, .own), (.slot 37, .own), (.slot 38, .own)]
  | 6 => [(.slot 7, .own), (.slot 8, .own), (.slot 10, .own), (.slot 11, .own), (.slot 12, .own), (.slot 13, .own), (.slot 36, .own), (.slot 37, .own), (.slot 38, .own)]
  | 7 => [(.slot 7, .own), (.slot 8, .own), (.slot 10, .own), (.slot 11, .own), (.slot 12, .own), (.slot 13, .own), (.slot 14, .own), (.slot 15, .own), (.slot 36, .own), (.slot 37, .own), (.slot 38, .own)]
  | 8 => [(.slot 7, .own), (.slot 8, .own), (.slot 10, .own), (.slot 36, .own), (.slot 37, .own), (.slot 38, .own), (.slot 94, .own)]
  | 9 => [(.slot 6, .own)]
  | 10 => [(.slot 7, .own), (.slot 8, .own), (.slot 10, .own), (.slot 16, .own), (.slot 17, .own), (.slot 18, .own), (.slot 36, .own), (.slot 37, .own), (.slot 38, .own)]
  | 11 => [(.slot 7, .own), (.slot 8, .own), (.slot 10, .own), (.slot 16, .own), (.slot 17, .own), (.slot 18, .own), (.slot 19, .own), (.slot 20, .own), (.slot 36, .own), (.slot 37, .own), (.slot 38, .own)]
  | 12 => [(.slot 7, .own), (.slot 8, .own), (.slot 36, .own), (.slot 37, .own), (.slot 38, .own), (.slot 147, .own)]
  | 13 => [(.slot 6, .own)]
  | 14 => [(.slot 7, .own), (.slot 8, .own), (.slot 36, .own), (.slot 37, .own), (.slot 38, .own)]
  | 15 => [(.slot 6, .own)]
  | _ => []⟩
noncomputable def body5 : Code := Tryd.f5.body.getD .skip
def L5_4_sh : Shape := [(.slot 7, .dat .bool), (.slot 8, .dat .str), (.slot 36, .own 3 (.int .i64)), (.slot 37, .dat (.int .i64)), (.slot 38, .dat (.int .i64))]
def L5_4_x0 : Shape := [(.slot 6, .dat .bool)]
def L5_4_x1 : Shape := [(.slot 7, .dat .bool), (.slot 8, .dat .str), (.slot 36, .own 3 (.int .i64)), (.slot 37, .dat (.int .i64)), (.slot 38, .dat (.int .i64))]
def L5_4_pk (s : Tup L5_4_sh) : Bool × (List UInt8) × (List Int) × Int × Int := (s.1, s.2.1, s.2.2.1, s.2.2.2.1, s.2.2.2.2.1)
def L5_4_un (s : Bool × (List UInt8) × (List Int) × Int × Int) : Tup L5_4_sh := (s.1, (s.2.1, (s.2.2.1, (s.2.2.2.1, (s.2.2.2.2, ())))))
def L5_4_leave (x : (Bool) ⊕ (Bool × (List UInt8) × (List Int) × Int × Int)) (R : Type) (K : Cont R) : Option R := match x with
  | (.inl a) => K .ret (mkSt L5_4_x0 (a, ()))
  | (.inr a) => K (.exit 0) (mkSt L5_4_x1 (a.1, (a.2.1, (a.2.2.1, (a.2.2.2.1, (a.2.2.2.2, ()))))))
def L5_4_d (e : Exit) (st : St) : Option ((Bool) ⊕ (Bool × (List UInt8) × (List Int) × Int × Int)) := match e with
  | .ret => (match unSt L5_4_x0 st with
    | some s => some (.inl s.1)
    | none => none)
  | .exit 0 => (match unSt L5_4_x1 st with
    | some s => some (.inr (s.1, s.2.1, s.2.2.1, s.2.2.2.1, s.2.2.2.2.1))
    | none => none)
  | _ => none
def L5_4_r (s0 : Bool) (s1 : (List UInt8)) (s2 : (List Int)) (s3 : Int) (s4 : Int) : Option ((Bool × (List UInt8) × (List Int) × Int × Int) ⊕ ((Bool) ⊕ (Bool × (List UInt8) × (List Int) × Int × Int))) :=
  let v11 : Bool := (decide (s4 < s3))
  bif v11 then
  bif (decide (0 ≤ s4) && decide (s4 < (List.length s2))) then
  bif (decide ((Int.toNat s4) < List.length s2)) then
  let v12 : Int := (List.getD s2 (Int.toNat s4) (0 : Int))
  bif (P15 s1 v12) then
  let v13 : (Int × (Int × Int)) := (F15 s1 v12)
  bif (P12 v13.1) then
  let v14 : ((List UInt8) × Int) := (F12 v13.1)
  let v15 : Bool := (v13.2.2 == (0 : Int))
  let v16 : Bool := (v14.2 != (0 : Int))
  let v17 : Bool := (decide (v13.2.1 < v12))
  let v18 : Bool := (bif v16 then true else v17)
  let v19 : Int := ((List.length s1 : Nat) : Int)
  let v20 : Bool := (decide (v13.2.1 > v19))
  let v21 : Bool := (bif v18 then true else v20)
  bif ((sliceTest v12 v13.2.1 (List.length s1)) || !(!v21 && (v15 && true))) then
  let v22 : (List UInt8) := (cut s1 v12 v13.2.1)
  let v23 : Bool := (!(v22 == v14.1))
  let v24 : Bool := (bif v21 then true else v23)
  let v25 : Bool := (bif v15 then v24 else false)
  let v26 : Bool := (v13.2.2 != (0 : Int))
  let v27 : Bool := (v13.2.2 != (10 : Int))
  let v28 : Bool := (v13.1 != (0 : Int))
  let v29 : Bool := (bif v27 then true else v28)
  let v30 : Bool := (v13.2.1 != (0 : Int))
  let v31 : Bool := (bif v29 then true else v30)
  let v32 : Bool := (bif v26 then v31 else false)
  let v33 : Bool := (bif v25 then true else v32)
  bif v33 then
  some (.inr (.inl false))
  else
  bif (P17 s1 v12) then
  let v34 : ((List UInt8) × (Int × Int)) := (F17 s1 v12)
  bif (P19 v34.1) then
  let v35 : ((List UInt8) × Int) := (F19 v34.1)
  let v36 : Bool := (v34.2.2 == (0 : Int))
  let v37 : Bool := (v35.2 != (0 : Int))
  let v38 : Bool := (decide (v34.2.1 < v12))
  let v39 : Bool := (bif v37 then true else v38)
  let v40 : Int := ((List.length s1 : Nat) : Int)
  let v41 : Bool := (decide (v34.2.1 > v40))
  let v42 : Bool := (bif v39 then true else v41)
  bif ((sliceTest v12 v34.2.1 (List.length s1)) || !(!v42 && (v36 && true))) then
  let v43 : (List UInt8) := (cut s1 v12 v34.2.1)
  let v44 : Bool := (!(v43 == v35.1))
  let v45 : Bool := (bif v42 then true else v44)
  let v46 : Bool := (bif v36 then v45 else false)
  let v47 : Bool := (v34.2.2 != (0 : Int))
  let v48 : Bool := (v34.2.2 != (10 : Int))
  let v49 : Bool := (!(v34.1 == ([] : List UInt8)))
  let v50 : Bool := (bif v48 then true else v49)
  let v51 : Bool := (v34.2.1 != (0 : Int))
  let v52 : Bool := (bif v50 then true else v51)
  let v53 : Bool := (bif v47 then v52 else false)
  let v54 : Bool := (bif v46 then true else v53)
  bif v54 then
  some (.inr (.inl false))
  else
  let v55 : Int := (IntKind.i64.wrap (s4 + (1 : Int)))
  some (.inl (s0, s1, s2, s3, v55))
  else none
  else none
  else none
  else none
  else none
  else none
  else none
  else none
  else
  some (.inr (.inr (s0, s1, s2, s3, s4)))
def L5_4 : Bool × (List UInt8) × (List Int) × Int × Int → Option ((Bool) ⊕ (Bool × (List UInt8) × (List Int) × Int × Int)) := Lim (fun s => L5_4_r s.1 s.2.1 s.2.2.1 s.2.2.2.1 s.2.2.2.2)
def L5_4_sum : Sum := limSum L5_4_sh L5_4_pk (fun s => L5_4_r s.1 s.2.1 s.2.2.1 s.2.2.2.1 s.2.2.2.2) L5_4_leave
theorem L5_4_nat : Natural L5_4_sum := natural_lim fun x R K => by
  rcases x with x|x <;> rfl
theorem L5_4_dok : ∀ e st x, e ≠ .normal → L5_4_d e st = some x → ∀ R (K : Cont R), K e st = L5_4_leave x R K := by
  intro e st x _ h R K
  unfold L5_4_d at h
  split at h
  · split at h
    · rename_i s hs; cases h; rw [unSt_some hs]; rfl
    · cases h
  · split at h
    · rename_i s hs; cases h; rw [unSt_some hs]; rfl
    · cases h
  · cases h
def loops5 : Nat → Option (Sum) := fun | 4 => some L5_4_sum | _ => none
theorem loops5_nat : ∀ q f, loops5 q = some f → Natural f := by
  intro q f h
  unfold loops5 at h
  split at h
  · cases h; exact L5_4_nat
  · cases h
noncomputable def L5_4_code : Code := (loopsOf body5).getD 0 .skip
theorem L5_4_round (s0 : Bool) (s1 : (List UInt8)) (s2 : (List Int)) (s3 : Int) (s4 : Int) : ev2 env5 orc5 loops5 L5_4_code (mkSt L5_4_sh (s0, (s1, (s2, (s3, (s4, ())))))) (back L5_4_sh L5_4_pk L5_4_d) = L5_4_r s0 s1 s2 s3 s4 := by kernel_rfl
theorem L5_4_ok : SumOk env5 orc5 loops5 L5_4_code L5_4_sum := sumOk_lim (un := L5_4_un) loops5_nat (fun _ => rfl) L5_4_dok fun s => L5_4_round s.1 s.2.1 s.2.2.1 s.2.2.2.1 s.2.2.2.2
theorem loops5_all : loopsOf body5 = [L5_4_code] := by kernel_rfl
theorem L5_4_key : lookL loops5 (keyOf L5_4_code) = some L5_4_sum := by kernel_rfl
theorem loops5_ok : LoopsOk env5 orc5 loops5 body5 := by
  intro c hc f hf
  rw [loops5_all] at hc
  simp only [List.mem_cons, List.not_mem_nil, or_false] at hc
  subst hc
  · rw [L5_4_key] at hf; cases hf; exact L5_4_ok
def G5 (x0 : (List UInt8)) (x1 : Int) (x2 : Int) : Option (Bool) :=
  bif (P10 ) then
  let v1 : (List Int) := (List.set (List.replicate 1 (0 : Int)) 0 x2)
  let v2 : (List UInt8) := (List.map (fun (n : Int) => UInt8.ofNat n.toNat) v1)
  let v3 : Int := ((List.length x0 : Nat) : Int)
  let v4 : Int := (if (300 : Int) < v3 then (300 : Int) else v3)
  bif (sliceTest (0 : Int) v4 (List.length x0)) then
  let v5 : (List UInt8) := (cut x0 (0 : Int) v4)
  bif (decide (List.length v2 + List.length v5 ≤ 9223372036854775807)) then
  let v6 : (List UInt8) := (v2 ++ v5)
  let v7 : Int := ((List.length v6 : Nat) : Int)
  let v8 : Int := (IntKind.i64.wrap (v7 + (1 : Int)))
  bif (P14 x1 v8) then
  let v9 : Int := (F14 x1 v8)
  let v10 : (List Int) := (List.set (List.set (List.replicate 2 (0 : Int)) 0 (0 : Int)) 1 v9)
  Option.bind (L5_4 (F10, v6, v10, (2 : Int), (0 : Int))) fun x => match x with
  | (.inl r56) =>
  some (r56)
  | (.inr r57) =>
  some (r57.1)
  else none
  else none
  else none
  else none
theorem ev5 (x0 : (List UInt8)) (x1 : Int) (x2 : Int) : ev2 env5 orc5 loops5 body5 (initSt 0 [⟨.str, x0⟩, ⟨(.int .i64), x1⟩, ⟨(.int .u8), x2⟩]) (retT [(6, .dat .bool)] [.bool] fun x => x.1) = G5 x0 x1 x2 := by kernel_rfl
def P5 (x0 : (List UInt8)) (x1 : Int) (x2 : Int) : Bool := (G5 x0 x1 x2).isSome
def F5 (x0 : (List UInt8)) (x1 : Int) (x2 : Int) : Bool := (G5 x0 x1 x2).getD default
theorem G5_some (x0 : (List UInt8)) (x1 : Int) (x2 : Int) (h : P5 x0 x1 x2 = true) : G5 x0 x1 x2 = some (F5 x0 x1 x2) := by
  unfold P5 at h; unfold F5
  cases hg : G5 x0 x1 x2 with
  | none => rw [hg] at h; cases h
  | some r => rfl
theorem P5_of (x0 : (List UInt8)) (x1 : Int) (x2 : Int) {r : Bool} (h : G5 x0 x1 x2 = some r) : P5 x0 x1 x2 = true := by unfold P5; rw [h]; rfl
theorem F5_of (x0 : (List UInt8)) (x1 : Int) (x2 : Int) {r : Bool} (h : G5 x0 x1 x2 = some r) : F5 x0 x1 x2 = r := by unfold F5; rw [h]; rfl
def spec5 : Spec := ⟨[.str, (.int .i64), (.int .u8)], [.dat .bool], fun | [a0, a1, a2] => P5 (a0.as .str) (a1.as (.int .i64)) (a2.as (.int .u8)) | _ => false, fun | [a0, a1, a2] => [⟨.bool, (F5 (a0.as .str) (a1.as (.int .i64)) (a2.as (.int .u8)))⟩] | _ => []⟩
theorem meets5 (hE : EnvOk Tryd.prog env5) (hm : Tryd.prog.follows .mixedOrders = true) : Meets Tryd.prog glob 5 spec5 :=
  meets_of_ev2 (O := orc5) (L := loops5) (c := body5) (slots := [6]) hE hm Tryd.func5 Tryd.call5 (by kernel_rfl) (by kernel_rfl) loops5_ok (rangesOk_nil (by kernel_rfl)) (by kernel_rfl) rfl (by decide) (fun ds hds hpre => by
  obtain ⟨x0, ds0, rfl, h0⟩ := datsS hds
  obtain ⟨x1, ds1, rfl, h1⟩ := datsS h0
  obtain ⟨x2, ds2, rfl, h2⟩ := datsS h1
  have h9 := dats0 h2; subst h9
  exact ev_ret (un := fun r => [⟨.bool, r⟩]) loops5_nat (fun _ => rfl) ((ev5 x0 x1 x2).trans (G5_some x0 x1 x2 hpre)))
def env6 : Env where
  tab := tab
  glob := glob
  spec := fun
    | 10 => some spec10
    | 11 => some spec11
    | 12 => some spec12
    | 15 => some spec15
    | 17 => some spec17
    | 19 => some spec19
    | _ => none
def orc6 : Orc := ⟨138, fun _ => none, fun
  | 0 => [(.slot 0, .own), (.slot 1, .own)]
  | 1 => [(.slot 0, .own), (.slot 1, .own), (.slot 5, .own)]
  | 2 => [(.slot 0, .own), (.slot 1, .own), (.slot 5, .own), (.slot 6, .own)]
  | 3 => [(.slot 0, .own), (.slot 1, .own), (.slot 5, .own), (.slot 6, .own), (.slot 7, .own)]
  | 4 => [(.slot 0, .own), (.slot 1, .own), (.slot 5, .own), (.slot 6, .own), (.slot 7, .own), (.slot 8, .own)]
  | 5 => [(.slot 0, .own), (.slot 1, .own), (.slot 5, .own), (.slot 6, .own), (.slot 7, .own), (.slot 8, .own), (.slot 32, .own)]
  | 6 => [(.slot 0, .own), (.slot 1, .own), (.slot 5, .own), (.slot 6, .own), (.slot 7, .own), (.slot 8, .own)]
  | 7 => [(.slot 0, .own), (.slot 1, .own), (.slot 5, .own), (.slot 6, .own), (.slot 7, .own), (.slot 8, .own), (.slot 9, .own), (.slot 10, .own)]
  | 8 => [(.slot 0, .own), (.slot 1, .own), (.slot 5, .own), (.slot 6, .own), (.slot 7, .own), (.slot 8, .own), (.slot 9, .own), (.slot 10, .own), (.slot 11, .own), (.slot 12, .own)]
  | 9 => [(.slot 0, .own), (.slot 1, .own), (.slot 5, .own), (.slot 6, .own), (.slot 7, .own), (.slot 8, .own), (.slot 9, .own), (.slot 11, .own), (.slot 64, .own)]
  | 10 => [(.slot 4, .own)]
  | 11 => [(.slot 0, .own), (.slot 1, .own), (.slot 5, .own), (.slot 6, .own), (.slot 7, .own), (.slot 8, .own)]
  | 12 => [(.slot 0, .own), (.slot 1, .own), (.slot 5, .own), (.slot 6, .own), (.slot 7, .own), (.slot 13, .own)]
  | 13 => [(.slot 0, .own), (.slot 1, .own), (.slot 5, .own), (.slot 6, .own), (.slot 7, .own), (.slot 13, .own), (.slot 14, .own)]
  | 14 => [(.slot 0, .own), (.slot 1, .own), (.slot 5, .own), (.slot 6, .own), (.slot 7, .own), (.slot 13, .own), (.slot 14, .own), (.slot 72, .own)]
  | 15 => [(.slot 0, .own), (.slot 1, .own), (.slot 5, .own), (.slot 6, .own), (.slot 7, .own), (.slot 13, .own), (.slot 14, .own)]
  | 16 => [(.slot 0, .own), (.slot 1, .own), (.slot 5, .own), (.slot 6, .own), (.slot 7, .own), (.slot 14, .own), (.slot 15, .own), (.slot 16, .own), (.slot 17, .own)]
  | 17 => [(.slot 0, .own), (.slot 1, .own), (.slot 5, .own), (.slot 6, .own), (.slot 7, .own), (.slot 14, .own), (.slot 15, .own), (.slot 17, .own), (.slot 18, .own), (.slot 19, .own), (.slot 20, .own)]
  | 18 => [(.slot 0, .own), (.slot 1, .own), (.slot 5, .own), (.slot 6, .own), (.slot 7, .own), (.slot 14, .own), (.slot 19, .own), (.slot 118, .own)]
  | 19 => [(.slot 4, .own)]
  | 20 => [(.slot 0, .own), (.slot 1, .own), (.slot 5, .own), (.slot 6, .own), (.slot 7, .own), (.slot 13, .own), (.slot 14, .own)]
  | 21 => [(.slot 5, .own), (.slot 7, .own), (.slot 13, .own), (.slot 23, .own)]
  | 22 => [(.slot 4, .own)]
  | _ => []⟩
noncomputable def body6 : Code := Tryd.f6.body.getD .skip
def L6_14_sh : Shape := [(.slot 0, .dat (.list (.int .i64))), (.slot 1, .dat (.list .str)), (.slot 5, .dat .bool), (.slot 6, .dat (.int .i64)), (.slot 7, .dat .str), (.slot 13, .dat (.int .i64)), (.slot 14, .dat (.int .i64))]
def L6_14_x0 : Shape := [(.slot 4, .dat .bool)]
def L6_14_x1 : Shape := [(.slot 0, .dat (.list (.int .i64))), (.slot 1, .dat (.list .str)), (.slot 5, .dat .bool), (.slot 6, .dat (.int .i64)), (.slot 7, .dat .str), (.slot 13, .dat (.int .i64)), (.slot 14, .dat (.int .i64))]
def L6_14_pk (s : Tup L6_14_sh) : (List Int) × (List (List UInt8)) × Bool × Int × (List UInt8) × Int × Int := (s.1, s.2.1, s.2.2.1, s.2.2.2.1, s.2.2.2.2.1, s.2.2.2.2.2.1, s.2.2.2.2.2.2.1)
def L6_14_un (s : (List Int) × (List (List UInt8)) × Bool × Int × (List UInt8) × Int × Int) : Tup L6_14_sh := (s.1, (s.2.1, (s.2.2.1, (s.2.2.2.1, (s.2.2.2.2.1, (s.2.2.2.2.2.1, (s.2.2.2.2.2.2, ())))))))
def L6_14_leave (x : (Bool) ⊕ ((List Int) × (List (List UInt8)) × Bool × Int × (List UInt8) × Int × Int)) (R : Type) (K : Cont R) : Option R := match x with
  | (.inl a) => K .ret (mkSt L6_14_x0 (a, ()))
  | (.inr a) => K (.exit 2) (mkSt L6_14_x1 (a.1, (a.2.1, (a.2.2.1, (a.2.2.2.1, (a.2.2.2.2.1, (a.2.2.2.2.2.1, (a.2.2.2.2.2.2, ()))))))))
def L6_14_d (e : Exit) (st : St) : Option ((Bool) ⊕ ((List Int) × (List (List UInt8)) × Bool × Int × (List UInt8) × Int × Int)) := match e with
  | .ret => (match unSt L6_14_x0 st with
    | some s => some (.inl s.1)
    | none => none)
  | .exit 2 => (match unSt L6_14_x1 st with
    | some s => some (.inr (s.1, s.2.1, s.2.2.1, s.2.2.2.1, s.2.2.2.2.1, s.2.2.2.2.2.1, s.2.2.2.2.2.2.1))
    | none => none)
  | _ => none
def L6_14_r (s0 : (List Int)) (s1 : (List (List UInt8))) (s2 : Bool) (s3 : Int) (s4 : (List UInt8)) (s5 : Int) (s6 : Int) : Option (((List Int) × (List (List UInt8)) × Bool × Int × (List UInt8) × Int × Int) ⊕ ((Bool) ⊕ ((List Int) × (List (List UInt8)) × Bool × Int × (List UInt8) × Int × Int))) :=
  let v22 : Bool := (decide (s6 < s3))
  bif v22 then
  bif (P15 s4 s5) then
  let v23 : (Int × (Int × Int)) := (F15 s4 s5)
  bif (P17 s4 v23.2.1) then
  let v24 : ((List UInt8) × (Int × Int)) := (F17 s4 v23.2.1)
  let v25 : Bool := (v23.2.2 != (0 : Int))
  let v26 : Bool := (v24.2.2 != (0 : Int))
  let v27 : Bool := (bif v25 then true else v26)
  bif ((decide (0 ≤ s6) && decide (s6 < List.length s0)) || !(!v27 && true)) then
  let v28 : Int := (List.getD s0 (Int.toNat s6) (0 : Int))
  bif ((P11 v28) || !(!v27 && true)) then
  let v29 : Int := (F11 v28)
  let v30 : Bool := (v23.1 != v29)
  let v31 : Bool := (bif v27 then true else v30)
  bif ((decide (0 ≤ s6) && decide (s6 < List.length s1)) || !(!v31 && true)) then
  let v32 : (List UInt8) := (List.getD s1 (Int.toNat s6) ([] : List UInt8))
  bif ((decide (0 ≤ s6) && decide (s6 < List.length s1)) || !(!v31 && true)) then
  let v33 : (List UInt8) := (List.getD s1 (Int.toNat s6) ([] : List UInt8))
  let v34 : Int := ((List.length v33 : Nat) : Int)
  let v35 : Int := (if (100 : Int) < v34 then (100 : Int) else v34)
  bif ((sliceTest (0 : Int) v35 (List.length v32)) || !(!v31 && true)) then
  let v36 : (List UInt8) := (cut v32 (0 : Int) v35)
  let v37 : Bool := (!(v24.1 == v36))
  let v38 : Bool := (bif v31 then true else v37)
  bif v38 then
  some (.inr (.inl false))
  else
  let v39 : Int := (IntKind.i64.wrap (s6 + (1 : Int)))
  some (.inl (s0, s1, s2, s3, s4, v24.2.1, v39))
  else none
  else none
  else none
  else none
  else none
  else none
  else none
  else
  some (.inr (.inr (s0, s1, s2, s3, s4, s5, s6)))
def L6_14 : (List Int) × (List (List UInt8)) × Bool × Int × (List UInt8) × Int × Int → Option ((Bool) ⊕ ((List Int) × (List (List UInt8)) × Bool × Int × (List UInt8) × Int × Int)) := Lim (fun s => L6_14_r s.1 s.2.1 s.2.2.1 s.2.2.2.1 s.2.2.2.2.1 s.2.2.2.2.2.1 s.2.2.2.2.2.2)
def L6_14_sum : Sum := limSum L6_14_sh L6_14_pk (fun s => L6_14_r s.1 s.2.1 s.2.2.1 s.2.2.2.1 s.2.2.2.2.1 s.2.2.2.2.2.1 s.2.2.2.2.2.2) L6_14_leave
theorem L6_14_nat : Natural L6_14_sum := natural_lim fun x R K => by
  rcases x with x|x <;> rfl
theorem L6_14_dok : ∀ e st x, e ≠ .normal → L6_14_d e st = some x → ∀ R (K : Cont R), K e st = L6_14_leave x R K := by
  intro e st x _ h R K
  unfold L6_14_d at h
  split at h
  · split at h
    · rename_i s hs; cases h; rw [unSt_some hs]; rfl
    · cases h
  · split at h
    · rename_i s hs; cases h; rw [unSt_some hs]; rfl
    · cases h
  · cases h
def L6_5_sh : Shape := [(.slot 0, .dat (.list (.int .i64))), (.slot 1, .dat (.list .str)), (.slot 5, .dat .bool), (.slot 6, .dat (.int .i64)), (.slot 7, .dat .str), (.slot 8, .dat (.int .i64))]
def L6_5_x0 : Shape := [(.slot 4, .dat .bool)]
def L6_5_x1 : Shape := [(.slot 0, .dat (.list (.int .i64))), (.slot 1, .dat (.list .str)), (.slot 5, .dat .bool), (.slot 6, .dat (.int .i64)), (.slot 7, .dat .str), (.slot 8, .dat (.int .i64))]
def L6_5_pk (s : Tup L6_5_sh) : (List Int) × (List (List UInt8)) × Bool × Int × (List UInt8) × Int := (s.1, s.2.1, s.2.2.1, s.2.2.2.1, s.2.2.2.2.1, s.2.2.2.2.2.1)
def L6_5_un (s : (List Int) × (List (List UInt8)) × Bool × Int × (List UInt8) × Int) : Tup L6_5_sh := (s.1, (s.2.1, (s.2.2.1, (s.2.2.2.1, (s.2.2.2.2.1, (s.2.2.2.2.2, ()))))))
def L6_5_leave (x : (Bool) ⊕ ((List Int) × (List (List UInt8)) × Bool × Int × (List UInt8) × Int)) (R : Type) (K : Cont R) : Option R := match x with
  | (.inl a) => K .ret (mkSt L6_5_x0 (a, ()))
  | (.inr a) => K (.exit 0) (mkSt L6_5_x1 (a.1, (a.2.1, (a.2.2.1, (a.2.2.2.1, (a.2.2.2.2.1, (a.2.2.2.2.2, ())))))))
def L6_5_d (e : Exit) (st : St) : Option ((Bool) ⊕ ((List Int) × (List (List UInt8)) × Bool × Int × (List UInt8) × Int)) := match e with
  | .ret => (match unSt L6_5_x0 st with
    | some s => some (.inl s.1)
    | none => none)
  | .exit 0 => (match unSt L6_5_x1 st with
    | some s => some (.inr (s.1, s.2.1, s.2.2.1, s.2.2.2.1, s.2.2.2.2.1, s.2.2.2.2.2.1))
    | none => none)
  | _ => none
def L6_5_r (s0 : (List Int)) (s1 : (List (List UInt8))) (s2 : Bool) (s3 : Int) (s4 : (List UInt8)) (s5 : Int) : Option (((List Int) × (List (List UInt8)) × Bool × Int × (List UInt8) × Int) ⊕ ((Bool) ⊕ ((List Int) × (List (List UInt8)) × Bool × Int × (List UInt8) × Int))) :=
  let v4 : Bool := (decide (s5 < s3))
  bif v4 then
  bif (decide (0 ≤ s5) && decide (s5 < List.length s0)) then
  let v5 : Int := (List.getD s0 (Int.toNat s5) (0 : Int))
  bif (P11 v5) then
  let v6 : Int := (F11 v5)
  bif (P12 v6) then
  let v7 : ((List UInt8) × Int) := (F12 v6)
  bif (decide (0 ≤ s5) && decide (s5 < List.length s1)) then
  let v8 : (List UInt8) := (List.getD s1 (Int.toNat s5) ([] : List UInt8))
  bif (decide (0 ≤ s5) && decide (s5 < List.length s1)) then
  let v9 : (List UInt8) := (List.getD s1 (Int.toNat s5) ([] : List UInt8))
  let v10 : Int := ((List.length v9 : Nat) : Int)
  let v11 : Int := (if (100 : Int) < v10 then (100 : Int) else v10)
  bif (sliceTest (0 : Int) v11 (List.length v8)) then
  let v12 : (List UInt8) := (cut v8 (0 : Int) v11)
  bif (P19 v12) then
  let v13 : ((List UInt8) × Int) := (F19 v12)
  let v14 : Bool := (v7.2 != (0 : Int))
  let v15 : Bool := (v13.2 != (0 : Int))
  let v16 : Bool := (bif v14 then true else v15)
  bif v16 then
  some (.inr (.inl false))
  else
  bif (decide (List.length s4 + List.length v7.1 ≤ 9223372036854775807)) then
  let v17 : (List UInt8) := (s4 ++ v7.1)
  bif (decide (List.length v17 + List.length v13.1 ≤ 9223372036854775807)) then
  let v18 : (List UInt8) := (v17 ++ v13.1)
  let v19 : Int := (IntKind.i64.wrap (s5 + (1 : Int)))
  some (.inl (s0, s1, s2, s3, v18, v19))
  else none
  else none
  else none
  else none
  else none
  else none
  else none
  else none
  else none
  else
  some (.inr (.inr (s0, s1, s2, s3, s4, s5)))
def L6_5 : (List Int) × (List (List UInt8)) × Bool × Int × (List UInt8) × Int → Option ((Bool) ⊕ ((List Int) × (List (List UInt8)) × Bool × Int × (List UInt8) × Int)) := Lim (fun s => L6_5_r s.1 s.2.1 s.2.2.1 s.2.2.2.1 s.2.2.2.2.1 s.2.2.2.2.2)
def L6_5_sum : Sum := limSum L6_5_sh L6_5_pk (fun s => L6_5_r s.1 s.2.1 s.2.2.1 s.2.2.2.1 s.2.2.2.2.1 s.2.2.2.2.2) L6_5_leave
theorem L6_5_nat : Natural L6_5_sum := natural_lim fun x R K => by
  rcases x with x|x <;> rfl
theorem L6_5_dok : ∀ e st x, e ≠ .normal → L6_5_d e st = some x → ∀ R (K : Cont R), K e st = L6_5_leave x R K := by
  intro e st x _ h R K
  unfold L6_5_d at h
  split at h
  · split at h
    · rename_i s hs; cases h; rw [unSt_some hs]; rfl
    · cases h
  · split at h
    · rename_i s hs; cases h; rw [unSt_some hs]; rfl
    · cases h
  · cases h
def loops6 : Nat → Option (Sum) := fun | 5 => some L6_5_sum | 14 => some L6_14_sum | _ => none
theorem loops6_nat : ∀ q f, loops6 q = some f → Natural f := by
  intro q f h
  unfold loops6 at h
  split at h
  · cases h; exact L6_5_nat
  · cases h; exact L6_14_nat
  · cases h
noncomputable def L6_5_code : Code := (loopsOf body6).getD 0 .skip
theorem L6_5_round (s0 : (List Int)) (s1 : (List (List UInt8))) (s2 : Bool) (s3 : Int) (s4 : (List UInt8)) (s5 : Int) : ev2 env6 orc6 loops6 L6_5_code (mkSt L6_5_sh (s0, (s1, (s2, (s3, (s4, (s5, ()))))))) (back L6_5_sh L6_5_pk L6_5_d) = L6_5_r s0 s1 s2 s3 s4 s5 := by kernel_rfl
theorem L6_5_ok : SumOk env6 orc6 loops6 L6_5_code L6_5_sum := sumOk_lim (un := L6_5_un) loops6_nat (fun _ => rfl) L6_5_dok fun s => L6_5_round s.1 s.2.1 s.2.2.1 s.2.2.2.1 s.2.2.2.2.1 s.2.2.2.2.2
noncomputable def L6_14_code : Code := (loopsOf body6).getD 1 .skip
theorem L6_14_round (s0 : (List Int)) (s1 : (List (List UInt8))) (s2 : Bool) (s3 : Int) (s4 : (List UInt8)) (s5 : Int) (s6 : Int) : ev2 env6 orc6 loops6 L6_14_code (mkSt L6_14_sh (s0, (s1, (s2, (s3, (s4, (s5, (s6, ())))))))) (back L6_14_sh L6_14_pk L6_14_d) = L6_14_r s0 s1 s2 s3 s4 s5 s6 := by kernel_rfl
theorem L6_14_ok : SumOk env6 orc6 loops6 L6_14_code L6_14_sum := sumOk_lim (un := L6_14_un) loops6_nat (fun _ => rfl) L6_14_dok fun s => L6_14_round s.1 s.2.1 s.2.2.1 s.2.2.2.1 s.2.2.2.2.1 s.2.2.2.2.2.1 s.2.2.2.2.2.2
theorem loops6_all : loopsOf body6 = [L6_5_code, L6_14_code] := by kernel_rfl
theorem L6_5_key : lookL loops6 (keyOf L6_5_code) = some L6_5_sum := by kernel_rfl
theorem L6_14_key : lookL loops6 (keyOf L6_14_code) = some L6_14_sum := by kernel_rfl
theorem loops6_ok : LoopsOk env6 orc6 loops6 body6 := by
  intro c hc f hf
  rw [loops6_all] at hc
  simp only [List.mem_cons, List.not_mem_nil, or_false] at hc
  rcases hc with rfl | rfl
  · rw [L6_5_key] at hf; cases hf; exact L6_5_ok
  · rw [L6_14_key] at hf; cases hf; exact L6_14_ok
def G6 (x0 : (List Int)) (x1 : (List (List UInt8))) : Option (Bool) :=
  bif (P10 ) then
  let v1 : Int := ((List.length x0 : Nat) : Int)
  let v2 : Int := ((List.length x1 : Nat) : Int)
  let v3 : Int := (if (20 : Int) < (if v2 < v1 then v2 else v1) then (20 : Int) else (if v2 < v1 then v2 else v1))
  Option.bind (L6_5 (x0, x1, F10, v3, ([] : List UInt8), (0 : Int))) fun x => match x with
  | (.inl r20) =>
  some (r20)
  | (.inr r21) =>
  Option.bind (L6_14 (r21.1, r21.2.1, r21.2.2.1, r21.2.2.2.1, r21.2.2.2.2.1, (0 : Int), (0 : Int))) fun x => match x with
  | (.inl r40) =>
  some (r40)
  | (.inr r41) =>
  bif (P15 r41.2.2.2.2.1 r41.2.2.2.2.2.1) then
  let v42 : (Int × (Int × Int)) := (F15 r41.2.2.2.2.1 r41.2.2.2.2.2.1)
  let v43 : Int := ((List.length r41.2.2.2.2.1 : Nat) : Int)
  let v44 : Bool := (r41.2.2.2.2.2.1 == v43)
  let v45 : Bool := (bif r41.2.2.1 then v44 else false)
  let v46 : Bool := (v42.2.2 == (10 : Int))
  let v47 : Bool := (bif v45 then v46 else false)
  some (v47)
  else none
  else none
theorem ev6 (x0 : (List Int)) (x1 : (List (List UInt8))) : ev2 env6 orc6 loops6 body6 (initSt 0 [⟨(.list (.int .i64)), x0⟩, ⟨(.list .str), x1⟩]) (retT [(4, .dat .bool)] [.bool] fun x => x.1) = G6 x0 x1 := by kernel_rfl
def P6 (x0 : (List Int)) (x1 : (List (List UInt8))) : Bool := (G6 x0 x1).isSome
def F6 (x0 : (List Int)) (x1 : (List (List UInt8))) : Bool := (G6 x0 x1).getD default
theorem G6_some (x0 : (List Int)) (x1 : (List (List UInt8))) (h : P6 x0 x1 = true) : G6 x0 x1 = some (F6 x0 x1) := by
  unfold P6 at h; unfold F6
  cases hg : G6 x0 x1 with
  | none => rw [hg] at h; cases h
  | some r => rfl
theorem P6_of (x0 : (List Int)) (x1 : (List (List UInt8))) {r : Bool} (h : G6 x0 x1 = some r) : P6 x0 x1 = true := by unfold P6; rw [h]; rfl
theorem F6_of (x0 : (List Int)) (x1 : (List (List UInt8))) {r : Bool} (h : G6 x0 x1 = some r) : F6 x0 x1 = r := by unfold F6; rw [h]; rfl
def spec6 : Spec := ⟨[(.list (.int .i64)), (.list .str)], [.dat .bool], fun | [a0, a1] => P6 (a0.as (.list (.int .i64))) (a1.as (.list .str)) | _ => false, fun | [a0, a1] => [⟨.bool, (F6 (a0.as (.list (.int .i64))) (a1.as (.list .str)))⟩] | _ => []⟩
theorem meets6 (hE : EnvOk Tryd.prog env6) (hm : Tryd.prog.follows .mixedOrders = true) : Meets Tryd.prog glob 6 spec6 :=
  meets_of_ev2 (O := orc6) (L := loops6) (c := body6) (slots := [4]) hE hm Tryd.func6 Tryd.call6 (by kernel_rfl) (by kernel_rfl) loops6_ok (rangesOk_nil (by kernel_rfl)) (by kernel_rfl) rfl (by decide) (fun ds hds hpre => by
  obtain ⟨x0, ds0, rfl, h0⟩ := datsS hds
  obtain ⟨x1, ds1, rfl, h1⟩ := datsS h0
  have h9 := dats0 h1; subst h9
  exact ev_ret (un := fun r => [⟨.bool, r⟩]) loops6_nat (fun _ => rfl) ((ev6 x0 x1).trans (G6_some x0 x1 hpre)))
def env7 : Env where
  tab := tab
  glob := glob
  spec := fun
    | 10 => some spec10
    | 11 => some spec11
    | 12 => some spec12
    | 14 => some spec14
    | 15 => some spec15
    | 17 => some spec17
    | 19 => some spec19
    | _ => none
def orc7 : Orc := ⟨118, fun _ => none, fun
  | 0 => [(.slot 0, .own), (.slot 1, .own), (.slot 2, .own), (.slot 3, .own)]
  | 1 => [(.slot 0, .own), (.slot 1, .own), (.slot 2, .own), (.slot 3, .own), (.slot 9, .own)]
  | 2 => [(.slot 0, .own), (.slot 1, .own), (.slot 2, .own), (.slot 3, .own), (.slot 9, .own), (.slot 10, .own), (.slot 11, .own)]
  | 3 => [(.slot 0, .own), (.slot 1, .own), (.slot 2, .own), (.slot 3, .own), (.slot 9, .own), (.slot 10, .own), (.slot 11, .own), (.slot 12, .own), (.slot 13, .own)]
  | 4 => [(.slot 0, .own), (.slot 1, .own), (.slot 3, .own), (.slot 9, .own), (.slot 10, .own), (.slot 11, .own), (.slot 12, .own), (.slot 13, .own), (.slot 14, .own), (.slot 15, .own)]
  | 5 => [(.slot 0, .own), (.slot 1, .own), (.slot 3, .own), (.slot 9, .own), (.slot 10, .own), (.slot 12, .own), (.slot 14, .own), (.slot 64, .own)]
  | 6 => [(.slot 8, .own)]
  | 7 => [(.slot 0, .own), (.slot 1, .own), (.slot 3, .own), (.slot 9, .own), (.slot 10, .own), (.slot 12, .own), (.slot 14, .own), (.slot 18, .own)]
  | 8 => [(.slot 0, .own), (.slot 1, .own), (.slot 9, .own), (.slot 10, .own), (.slot 12, .own), (.slot 18, .own), (.slot 21, .own)]
  | 9 => [(.slot 0, .own), (.slot 1, .own), (.slot 9, .own), (.slot 18, .own), (.slot 21, .own), (.slot 22, .own)]
  | 10 => [(.slot 8, .own)]
  | _ => []⟩
noncomputable def body7 : Code := Tryd.f7.body.getD .skip
def loops7 : Nat → Option (Sum) := fun | _ => none
theorem loops7_nat : ∀ q f, loops7 q = some f → Natural f := by
  intro q f h
  cases h
theorem loops7_ok : LoopsOk env7 orc7 loops7 body7 := loopsOk_nil (by kernel_rfl)
def G7 (x0 : Int) (x1 : Int) (x2 : (List UInt8)) (x3 : Int) : Option (Bool) :=
  bif (P10 ) then
  bif (P11 x0) then
  let v1 : Int := (F11 x0)
  bif (P12 v1) then
  let v2 : ((List UInt8) × Int) := (F12 v1)
  bif (P11 x1) then
  let v3 : Int := (F11 x1)
  bif (P12 v3) then
  let v4 : ((List UInt8) × Int) := (F12 v3)
  let v5 : Int := ((List.length x2 : Nat) : Int)
  let v6 : Int := (if (200 : Int) < v5 then (200 : Int) else v5)
  bif (sliceTest (0 : Int) v6 (List.length x2)) then
  let v7 : (List UInt8) := (cut x2 (0 : Int) v6)
  bif (P19 v7) then
  let v8 : ((List UInt8) × Int) := (F19 v7)
  let v9 : Bool := (v2.2 != (0 : Int))
  let v10 : Bool := (v4.2 != (0 : Int))
  let v11 : Bool := (bif v9 then true else v10)
  let v12 : Bool := (v8.2 != (0 : Int))
  let v13 : Bool := (bif v11 then true else v12)
  let v14 : Int := ((List.length v2.1 : Nat) : Int)
  let v15 : Bool := (v14 == (0 : Int))
  let v16 : Bool := (bif v13 then true else v15)
  let v17 : Int := ((List.length v8.1 : Nat) : Int)
  let v18 : Bool := (v17 == (0 : Int))
  let v19 : Bool := (bif v16 then true else v18)
  bif v19 then
  some (false)
  else
  let v20 : Int := ((List.length v2.1 : Nat) : Int)
  bif (P14 x3 v20) then
  let v21 : Int := (F14 x3 v20)
  bif (sliceTest (0 : Int) v21 (List.length v2.1)) then
  let v22 : (List UInt8) := (cut v2.1 (0 : Int) v21)
  bif (P15 v22 (0 : Int)) then
  let v23 : (Int × (Int × Int)) := (F15 v22 (0 : Int))
  let v24 : Int := ((List.length v8.1 : Nat) : Int)
  bif (P14 x3 v24) then
  let v25 : Int := (F14 x3 v24)
  bif (sliceTest (0 : Int) v25 (List.length v8.1)) then
  let v26 : (List UInt8) := (cut v8.1 (0 : Int) v25)
  bif (P17 v26 (0 : Int)) then
  let v27 : ((List UInt8) × (Int × Int)) := (F17 v26 (0 : Int))
  let v28 : Int := ((List.length v2.1 : Nat) : Int)
  let v29 : Int := ((List.length v4.1 : Nat) : Int)
  let v30 : Bool := (decide (v28 ≤ v29))
  let v31 : Int := ((List.length v2.1 : Nat) : Int)
  bif ((sliceTest (0 : Int) v31 (List.length v4.1)) || !(v30 && true)) then
  let v32 : (List UInt8) := (cut v4.1 (0 : Int) v31)
  let v33 : Bool := (v32 == v2.1)
  let v34 : Bool := (bif v30 then v33 else false)
  let v35 : Bool := (v23.2.2 == (10 : Int))
  let v36 : Bool := (bif F10 then v35 else false)
  let v37 : Bool := (v27.2.2 == (10 : Int))
  let v38 : Bool := (bif v36 then v37 else false)
  bif ((P11 x0) || !(v38 && true)) then
  let v39 : Int := (F11 x0)
  bif ((P11 x1) || !(v38 && true)) then
  let v40 : Int := (F11 x1)
  let v41 : Bool := (v39 == v40)
  let v42 : Bool := (eqv .bool v34 v41)
  let v43 : Bool := (bif v38 then v42 else false)
  some (v43)
  else none
  else none
  else none
  else none
  else none
  else none
  else none
  else none
  else none
  else none
  else none
  else none
  else none
  else none
  else none
  else none
theorem ev7 (x0 : Int) (x1 : Int) (x2 : (List UInt8)) (x3 : Int) : ev2 env7 orc7 loops7 body7 (initSt 0 [⟨(.int .i64), x0⟩, ⟨(.int .i64), x1⟩, ⟨.str, x2⟩, ⟨(.int .i64), x3⟩]) (retT [(8, .dat .bool)] [.bool] fun x => x.1) = G7 x0 x1 x2 x3 := by kernel_rfl
def P7 (x0 : Int) (x1 : Int) (x2 : (List UInt8)) (x3 : Int) : Bool := (G7 x0 x1 x2 x3).isSome
def F7 (x0 : Int) (x1 : Int) (x2 : (List UInt8)) (x3 : Int) : Bool := (G7 x0 x1 x2 x3).getD default
theorem G7_some (x0 : Int) (x1 : Int) (x2 : (List UInt8)) (x3 : Int) (h : P7 x0 x1 x2 x3 = true) : G7 x0 x1 x2 x3 = some (F7 x0 x1 x2 x3) := by
  unfold P7 at h; unfold F7
  cases hg : G7 x0 x1 x2 x3 with
  | none => rw [hg] at h; cases h
  | some r => rfl
theorem P7_of (x0 : Int) (x1 : Int) (x2 : (List UInt8)) (x3 : Int) {r : Bool} (h : G7 x0 x1 x2 x3 = some r) : P7 x0 x1 x2 x3 = true := by unfold P7; rw [h]; rfl
theorem F7_of (x0 : Int) (x1 : Int) (x2 : (List UInt8)) (x3 : Int) {r : Bool} (h : G7 x0 x1 x2 x3 = some r) : F7 x0 x1 x2 x3 = r := by unfold F7; rw [h]; rfl
def spec7 : Spec := ⟨[(.int .i64), (.int .i64), .str, (.int .i64)], [.dat .bool], fun | [a0, a1, a2, a3] => P7 (a0.as (.int .i64)) (a1.as (.int .i64)) (a2.as .str) (a3.as (.int .i64)) | _ => false, fun | [a0, a1, a2, a3] => [⟨.bool, (F7 (a0.as (.int .i64)) (a1.as (.int .i64)) (a2.as .str) (a3.as (.int .i64)))⟩] | _ => []⟩
theorem meets7 (hE : EnvOk Tryd.prog env7) (hm : Tryd.prog.follows .mixedOrders = true) : Meets Tryd.prog glob 7 spec7 :=
  meets_of_ev2 (O := orc7) (L := loops7) (c := body7) (slots := [8]) hE hm Tryd.func7 Tryd.call7 (by kernel_rfl) (by kernel_rfl) loops7_ok (rangesOk_nil (by kernel_rfl)) (by kernel_rfl) rfl (by decide) (fun ds hds hpre => by
  obtain ⟨x0, ds0, rfl, h0⟩ := datsS hds
  obtain ⟨x1, ds1, rfl, h1⟩ := datsS h0
  obtain ⟨x2, ds2, rfl, h2⟩ := datsS h1
  obtain ⟨x3, ds3, rfl, h3⟩ := datsS h2
  have h9 := dats0 h3; subst h9
  exact ev_ret (un := fun r => [⟨.bool, r⟩]) loops7_nat (fun _ => rfl) ((ev7 x0 x1 x2 x3).trans (G7_some x0 x1 x2 x3 hpre)))
def env9 : Env where
  tab := tab
  glob := glob
  spec := fun
    | 10 => some spec10
    | 21 => some spec21
    | _ => none
def orc9 : Orc := ⟨61, fun _ => none, fun
  | 0 => [(.slot 0, .own), (.slot 1, .own), (.slot 2, .own)]
  | 1 => [(.slot 0, .own), (.slot 1, .own), (.slot 2, .own), (.slot 7, .own)]
  | 2 => [(.slot 0, .own), (.slot 1, .own), (.slot 2, .own), (.slot 7, .own), (.slot 8, .own)]
  | 3 => [(.slot 0, .own), (.slot 1, .own), (.slot 2, .own), (.slot 7, .own), (.slot 8, .own), (.slot 9, .own)]
  | 4 => [(.slot 0, .own), (.slot 1, .own), (.slot 2, .own), (.slot 7, .own), (.slot 8, .own), (.slot 9, .own), (.slot 10, .own)]
  | 5 => [(.slot 0, .own), (.slot 1, .own), (.slot 2, .own), (.slot 7, .own), (.slot 8, .own), (.slot 9, .own), (.slot 10, .own), (.slot 23, .own)]
  | 6 => [(.slot 0, .own), (.slot 1, .own), (.slot 2, .own), (.slot 7, .own), (.slot 8, .own), (.slot 9, .own), (.slot 10, .own)]
  | 7 => [(.slot 0, .own), (.slot 1, .own), (.slot 2, .own), (.slot 7, .own), (.slot 8, .own), (.slot 9, .own), (.slot 10, .own)]
  | 8 => [(.slot 6, .own)]
  | _ => []⟩
noncomputable def body9 : Code := Tryd.f9.body.getD .skip
def L9_5_sh : Shape := [(.slot 0, .dat .str), (.slot 1, .dat .str), (.slot 2, .dat .str), (.slot 7, .dat .bool), (.slot 8, .dat (.int .i64)), (.slot 9, .own 5 (.int .u8)), (.slot 10, .dat (.int .i64))]
def L9_5_x0 : Shape := [(.slot 0, .dat .str), (.slot 1, .dat .str), (.slot 2, .dat .str), (.slot 7, .dat .bool), (.slot 8, .dat (.int .i64)), (.slot 9, .own 5 (.int .u8)), (.slot 10, .dat (.int .i64))]
def L9_5_pk (s : Tup L9_5_sh) : (List UInt8) × (List UInt8) × (List UInt8) × Bool × Int × (List Int) × Int := (s.1, s.2.1, s.2.2.1, s.2.2.2.1, s.2.2.2.2.1, s.2.2.2.2.2.1, s.2.2.2.2.2.2.1)
def L9_5_un (s : (List UInt8) × (List UInt8) × (List UInt8) × Bool × Int × (List Int) × Int) : Tup L9_5_sh := (s.1, (s.2.1, (s.2.2.1, (s.2.2.2.1, (s.2.2.2.2.1, (s.2.2.2.2.2.1, (s.2.2.2.2.2.2, ())))))))
def L9_5_leave (x : ((List UInt8) × (List UInt8) × (List UInt8) × Bool × Int × (List Int) × Int)) (R : Type) (K : Cont R) : Option R := match x with
  | a => K (.exit 0) (mkSt L9_5_x0 (a.1, (a.2.1, (a.2.2.1, (a.2.2.2.1, (a.2.2.2.2.1, (a.2.2.2.2.2.1, (a.2.2.2.2.2.2, ()))))))))
def L9_5_d (e : Exit) (st : St) : Option (((List UInt8) × (List UInt8) × (List UInt8) × Bool × Int × (List Int) × Int)) := match e with
  | .exit 0 => (match unSt L9_5_x0 st with
    | some s => some (s.1, s.2.1, s.2.2.1, s.2.2.2.1, s.2.2.2.2.1, s.2.2.2.2.2.1, s.2.2.2.2.2.2.1)
    | none => none)
  | _ => none
def L9_5_r (s0 : (List UInt8)) (s1 : (List UInt8)) (s2 : (List UInt8)) (s3 : Bool) (s4 : Int) (s5 : (List Int)) (s6 : Int) : Option (((List UInt8) × (List UInt8) × (List UInt8) × Bool × Int × (List Int) × Int) ⊕ (((List UInt8) × (List UInt8) × (List UInt8) × Bool × Int × (List Int) × Int))) :=
  let v6 : Bool := (decide (s6 < s4))
  bif v6 then
  bif (decide (0 ≤ s6) && decide (s6 < List.length s0)) then
  let v7 : Int := ((List.getD s0 (Int.toNat s6) 0).toNat : Int)
  bif (decide (0 ≤ s6) && decide (s6 < List.length s1)) then
  let v8 : Int := ((List.getD s1 (Int.toNat s6) 0).toNat : Int)
  let v9 : Int := (bits .xor .u8 v7 v8)
  bif (decide (0 ≤ s6) && decide (s6 < List.length s2)) then
  let v10 : Int := ((List.getD s2 (Int.toNat s6) 0).toNat : Int)
  let v11 : Int := (bits .xor .u8 v9 v10)
  bif (decide (0 ≤ s6) && decide (s6 < (List.length s5))) then
  bif (decide ((Int.toNat s6) < List.length s5)) then
  let v12 : (List Int) := (List.set s5 (Int.toNat s6) v11)
  let v13 : Int := (IntKind.i64.wrap (s6 + (1 : Int)))
  some (.inl (s0, s1, s2, s3, s4, v12, v13))
  else none
  else none
  else none
  else none
  else none
  else
  some (.inr (s0, s1, s2, s3, s4, s5, s6))
def L9_5 : (List UInt8) × (List UInt8) × (List UInt8) × Bool × Int × (List Int) × Int → Option (((List UInt8) × (List UInt8) × (List UInt8) × Bool × Int × (List Int) × Int)) := Lim (fun s => L9_5_r s.1 s.2.1 s.2.2.1 s.2.2.2.1 s.2.2.2.2.1 s.2.2.2.2.2.1 s.2.2.2.2.2.2)
def L9_5_sum : Sum := limSum L9_5_sh L9_5_pk (fun s => L9_5_r s.1 s.2.1 s.2.2.1 s.2.2.2.1 s.2.2.2.2.1 s.2.2.2.2.2.1 s.2.2.2.2.2.2) L9_5_leave
theorem L9_5_nat : Natural L9_5_sum := natural_lim fun x R K => by
  rfl
theorem L9_5_dok : ∀ e st x, e ≠ .normal → L9_5_d e st = some x → ∀ R (K : Cont R), K e st = L9_5_leave x R K := by
  intro e st x _ h R K
  unfold L9_5_d at h
  split at h
  · split at h
    · rename_i s hs; cases h; rw [unSt_some hs]; rfl
    · cases h
  · cases h
def loops9 : Nat → Option (Sum) := fun | 5 => some L9_5_sum | _ => none
theorem loops9_nat : ∀ q f, loops9 q = some f → Natural f := by
  intro q f h
  unfold loops9 at h
  split at h
  · cases h; exact L9_5_nat
  · cases h
noncomputable def L9_5_code : Code := (loopsOf body9).getD 0 .skip
theorem L9_5_round (s0 : (List UInt8)) (s1 : (List UInt8)) (s2 : (List UInt8)) (s3 : Bool) (s4 : Int) (s5 : (List Int)) (s6 : Int) : ev2 env9 orc9 loops9 L9_5_code (mkSt L9_5_sh (s0, (s1, (s2, (s3, (s4, (s5, (s6, ())))))))) (back L9_5_sh L9_5_pk L9_5_d) = L9_5_r s0 s1 s2 s3 s4 s5 s6 := by kernel_rfl
theorem L9_5_ok : SumOk env9 orc9 loops9 L9_5_code L9_5_sum := sumOk_lim (un := L9_5_un) loops9_nat (fun _ => rfl) L9_5_dok fun s => L9_5_round s.1 s.2.1 s.2.2.1 s.2.2.2.1 s.2.2.2.2.1 s.2.2.2.2.2.1 s.2.2.2.2.2.2
theorem loops9_all : loopsOf body9 = [L9_5_code] := by kernel_rfl
theorem L9_5_key : lookL loops9 (keyOf L9_5_code) = some L9_5_sum := by kernel_rfl
theorem loops9_ok : LoopsOk env9 orc9 loops9 body9 := by
  intro c hc f hf
  rw [loops9_all] at hc
  simp only [List.mem_cons, List.not_mem_nil, or_false] at hc
  subst hc
  · rw [L9_5_key] at hf; cases hf; exact L9_5_ok
def G9 (x0 : (List UInt8)) (x1 : (List UInt8)) (x2 : (List UInt8)) : Option (Bool) :=
  bif (P10 ) then
  let v1 : Int := ((List.length x0 : Nat) : Int)
  let v2 : Int := ((List.length x1 : Nat) : Int)
  let v3 : Int := ((List.length x2 : Nat) : Int)
  let v4 : Int := (if (200 : Int) < (if v3 < (if v2 < v1 then v2 else v1) then v3 else (if v2 < v1 then v2 else v1)) then (200 : Int) else (if v3 < (if v2 < v1 then v2 else v1) then v3 else (if v2 < v1 then v2 else v1)))
  bif (decide (0 ≤ v4) && decide (v4 ≤ v4) && decide (v4 ≤ 100000000000)) then
  let v5 : (List Int) := (List.replicate (Int.toNat v4) (0 : Int))
  Option.bind (L9_5 (x0, x1, x2, F10, v4, v5, (0 : Int))) fun (r14 : (List UInt8) × (List UInt8) × (List UInt8) × Bool × Int × (List Int) × Int) =>
  let v15 : (List UInt8) := (List.map (fun (n : Int) => UInt8.ofNat n.toNat) (List.take (List.length r14.2.2.2.2.2.1) r14.2.2.2.2.2.1))
  bif ((P21 v15) || !(r14.2.2.2.1 && true)) then
  let v16 : Int := (F21 v15)
  bif ((sliceTest (0 : Int) r14.2.2.2.2.1 (List.length r14.1)) || !(r14.2.2.2.1 && true)) then
  let v17 : (List UInt8) := (cut r14.1 (0 : Int) r14.2.2.2.2.1)
  bif ((P21 v17) || !(r14.2.2.2.1 && true)) then
  let v18 : Int := (F21 v17)
  bif ((sliceTest (0 : Int) r14.2.2.2.2.1 (List.length r14.2.1)) || !(r14.2.2.2.1 && true)) then
  let v19 : (List UInt8) := (cut r14.2.1 (0 : Int) r14.2.2.2.2.1)
  bif ((P21 v19) || !(r14.2.2.2.1 && true)) then
  let v20 : Int := (F21 v19)
  let v21 : Int := (bits .xor .i64 v18 v20)
  bif ((sliceTest (0 : Int) r14.2.2.2.2.1 (List.length r14.2.2.1)) || !(r14.2.2.2.1 && true)) then
  let v22 : (List UInt8) := (cut r14.2.2.1 (0 : Int) r14.2.2.2.2.1)
  bif ((P21 v22) || !(r14.2.2.2.1 && true)) then
  let v23 : Int := (F21 v22)
  let v24 : Int := (bits .xor .i64 v21 v23)
  let v25 : Bool := (v16 == v24)
  let v26 : Bool := (bif r14.2.2.2.1 then v25 else false)
  some (v26)
  else none
  else none
  else none
  else none
  else none
  else none
  else none
  else none
  else none
theorem ev9 (x0 : (List UInt8)) (x1 : (List UInt8)) (x2 : (List UInt8)) : ev2 env9 orc9 loops9 body9 (initSt 0 [⟨.str, x0⟩, ⟨.str, x1⟩, ⟨.str, x2⟩]) (retT [(6, .dat .bool)] [.bool] fun x => x.1) = G9 x0 x1 x2 := by kernel_rfl
def P9 (x0 : (List UInt8)) (x1 : (List UInt8)) (x2 : (List UInt8)) : Bool := (G9 x0 x1 x2).isSome
def F9 (x0 : (List UInt8)) (x1 : (List UInt8)) (x2 : (List UInt8)) : Bool := (G9 x0 x1 x2).getD default
theorem G9_some (x0 : (List UInt8)) (x1 : (List UInt8)) (x2 : (List UInt8)) (h : P9 x0 x1 x2 = true) : G9 x0 x1 x2 = some (F9 x0 x1 x2) := by
  unfold P9 at h; unfold F9
  cases hg : G9 x0 x1 x2 with
  | none => rw [hg] at h; cases h
  | some r => rfl
theorem P9_of (x0 : (List UInt8)) (x1 : (List UInt8)) (x2 : (List UInt8)) {r : Bool} (h : G9 x0 x1 x2 = some r) : P9 x0 x1 x2 = true := by unfold P9; rw [h]; rfl
theorem F9_of (x0 : (List UInt8)) (x1 : (List UInt8)) (x2 : (List UInt8)) {r : Bool} (h : G9 x0 x1 x2 = some r) : F9 x0 x1 x2 = r := by unfold F9; rw [h]; rfl
def spec9 : Spec := ⟨[.str, .str, .str], [.dat .bool], fun | [a0, a1, a2] => P9 (a0.as .str) (a1.as .str) (a2.as .str) | _ => false, fun | [a0, a1, a2] => [⟨.bool, (F9 (a0.as .str) (a1.as .str) (a2.as .str))⟩] | _ => []⟩
theorem meets9 (hE : EnvOk Tryd.prog env9) (hm : Tryd.prog.follows .mixedOrders = true) : Meets Tryd.prog glob 9 spec9 :=
  meets_of_ev2 (O := orc9) (L := loops9) (c := body9) (slots := [6]) hE hm Tryd.func9 Tryd.call9 (by kernel_rfl) (by kernel_rfl) loops9_ok (rangesOk_nil (by kernel_rfl)) (by kernel_rfl) rfl (by decide) (fun ds hds hpre => by
  obtain ⟨x0, ds0, rfl, h0⟩ := datsS hds
  obtain ⟨x1, ds1, rfl, h1⟩ := datsS h0
  obtain ⟨x2, ds2, rfl, h2⟩ := datsS h1
  have h9 := dats0 h2; subst h9
  exact ev_ret (un := fun r => [⟨.bool, r⟩]) loops9_nat (fun _ => rfl) ((ev9 x0 x1 x2).trans (G9_some x0 x1 x2 hpre)))
def env8 : Env where
  tab := tab
  glob := glob
  spec := fun
    | 10 => some spec10
    | 14 => some spec14
    | 21 => some spec21
    | _ => none
def orc8 : Orc := ⟨81, fun _ => none, fun
  | 0 => [(.slot 0, .own), (.slot 1, .own), (.slot 2, .own)]
  | 1 => [(.slot 0, .own), (.slot 1, .own), (.slot 2, .own), (.slot 7, .own)]
  | 2 => [(.slot 0, .own), (.slot 1, .own), (.slot 2, .own), (.slot 7, .own), (.slot 8, .own)]
  | 3 => [(.slot 0, .own), (.slot 1, .own), (.slot 2, .own), (.slot 7, .own), (.slot 8, .own), (.slot 26, .own)]
  | 4 => [(.slot 6, .own)]
  | 5 => [(.slot 0, .own), (.slot 2, .own), (.slot 7, .own), (.slot 8, .own), (.slot 9, .own)]
  | 6 => [(.slot 0, .own), (.slot 2, .own), (.slot 7, .own), (.slot 8, .own), (.slot 9, .own), (.slot 10, .own)]
  | 7 => [(.slot 0, .own), (.slot 2, .own), (.slot 7, .own), (.slot 8, .own), (.slot 9, .own), (.slot 10, .own), (.slot 11, .own)]
  | 8 => [(.slot 0, .own), (.slot 2, .own), (.slot 7, .own), (.slot 8, .own), (.slot 9, .own), (.slot 10, .own), (.slot 11, .own), (.slot 43, .own)]
  | 9 => [(.slot 0, .own), (.slot 2, .own), (.slot 7, .own), (.slot 8, .own), (.slot 9, .own), (.slot 10, .own), (.slot 11, .own)]
  | 10 => [(.slot 0, .own), (.slot 2, .own), (.slot 7, .own), (.slot 8, .own), (.slot 9, .own), (.slot 10, .own), (.slot 11, .own), (.slot 50, .own)]
  | 11 => [(.slot 0, .own), (.slot 2, .own), (.slot 7, .own), (.slot 8, .own), (.slot 9, .own), (.slot 11, .own), (.slot 12, .own)]
  | 12 => [(.slot 0, .own), (.slot 2, .own), (.slot 7, .own), (.slot 8, .own), (.slot 9, .own), (.slot 11, .own)]
  | 13 => [(.slot 0, .own), (.slot 2, .own), (.slot 7, .own), (.slot 8, .own), (.slot 9, .own), (.slot 10, .own), (.slot 11, .own)]
  | 14 => [(.slot 6, .own)]
  | _ => []⟩
noncomputable def body8 : Code := Tryd.f8.body.getD .skip
def L8_8_sh : Shape := [(.slot 0, .dat .str), (.slot 2, .dat (.int .u32)), (.slot 7, .dat .bool), (.slot 8, .own 5 (.int .u8)), (.slot 9, .dat (.int .i64)), (.slot 10, .dat .bool), (.slot 11, .dat (.int .i64))]
def L8_8_x0 : Shape := [(.slot 0, .dat .str), (.slot 2, .dat (.int .u32)), (.slot 7, .dat .bool), (.slot 8, .own 5 (.int .u8)), (.slot 9, .dat (.int .i64)), (.slot 10, .dat .bool), (.slot 11, .dat (.int .i64))]
def L8_8_pk (s : Tup L8_8_sh) : (List UInt8) × Int × Bool × (List Int) × Int × Bool × Int := (s.1, s.2.1, s.2.2.1, s.2.2.2.1, s.2.2.2.2.1, s.2.2.2.2.2.1, s.2.2.2.2.2.2.1)
def L8_8_un (s : (List UInt8) × Int × Bool × (List Int) × Int × Bool × Int) : Tup L8_8_sh := (s.1, (s.2.1, (s.2.2.1, (s.2.2.2.1, (s.2.2.2.2.1, (s.2.2.2.2.2.1, (s.2.2.2.2.2.2, ())))))))
def L8_8_leave (x : ((List UInt8) × Int × Bool × (List Int) × Int × Bool × Int)) (R : Type) (K : Cont R) : Option R := match x with
  | a => K (.exit 0) (mkSt L8_8_x0 (a.1, (a.2.1, (a.2.2.1, (a.2.2.2.1, (a.2.2.2.2.1, (a.2.2.2.2.2.1, (a.2.2.2.2.2.2, ()))))))))
def L8_8_d (e : Exit) (st : St) : Option (((List UInt8) × Int × Bool × (List Int) × Int × Bool × Int)) := match e with
  | .exit 0 => (match unSt L8_8_x0 st with
    | some s => some (s.1, s.2.1, s.2.2.1, s.2.2.2.1, s.2.2.2.2.1, s.2.2.2.2.2.1, s.2.2.2.2.2.2.1)
    | none => none)
  | _ => none
def L8_8_r (s0 : (List UInt8)) (s1 : Int) (s2 : Bool) (s3 : (List Int)) (s4 : Int) (s5 : Bool) (s6 : Int) : Option (((List UInt8) × Int × Bool × (List Int) × Int × Bool × Int) ⊕ (((List UInt8) × Int × Bool × (List Int) × Int × Bool × Int))) :=
  let v12 : Bool := (decide (s6 < (32 : Int)))
  let v13 : Int := (IntKind.i64.wrap (s4 + s6))
  let v14 : Int := (((List.length s3) : Nat) : Int)
  let v15 : Int := (IntKind.i64.wrap ((8 : Int) * v14))
  let v16 : Bool := (decide (v13 < v15))
  let v17 : Bool := (bif v12 then v16 else false)
  bif v17 then
  bif (decide (0 ≤ s6)) then
  let v18 : Int := (Int.fdiv s1 (2 ^ min (Int.toNat s6) (IntKind.u32.bits)))
  let v19 : Int := (Int.tmod v18 (2 : Int))
  let v20 : Bool := (v19 == (1 : Int))
  bif v20 then
  let v21 : Int := (IntKind.i64.wrap (s4 + s6))
  let v22 : Int := (IntKind.i64.wrap (Int.tdiv v21 (8 : Int)))
  let v23 : Int := (IntKind.i64.wrap (Int.tdiv v21 (8 : Int)))
  bif (decide (0 ≤ v23) && decide (v23 < (List.length s3))) then
  bif (decide ((Int.toNat v23) < List.length s3)) then
  let v24 : Int := (List.getD s3 (Int.toNat v23) (0 : Int))
  let v25 : Int := (Int.tmod v21 (8 : Int))
  bif (decide (0 ≤ v25)) then
  let v26 : Int := (IntKind.u8.wrap ((1 : Int) * 2 ^ min (Int.toNat v25) (IntKind.u8.bits)))
  let v27 : Int := (bits .xor .u8 v24 v26)
  bif (decide (0 ≤ v22) && decide (v22 < (List.length s3))) then
  bif (decide ((Int.toNat v22) < List.length s3)) then
  let v28 : (List Int) := (List.set s3 (Int.toNat v22) v27)
  let v29 : Int := (IntKind.i64.wrap (s6 + (1 : Int)))
  some (.inl (s0, s1, s2, v28, s4, true, v29))
  else none
  else none
  else none
  else none
  else none
  else
  let v30 : Int := (IntKind.i64.wrap (s6 + (1 : Int)))
  some (.inl (s0, s1, s2, s3, s4, s5, v30))
  else none
  else
  some (.inr (s0, s1, s2, s3, s4, s5, s6))
def L8_8 : (List UInt8) × Int × Bool × (List Int) × Int × Bool × Int → Option (((List UInt8) × Int × Bool × (List Int) × Int × Bool × Int)) := Lim (fun s => L8_8_r s.1 s.2.1 s.2.2.1 s.2.2.2.1 s.2.2.2.2.1 s.2.2.2.2.2.1 s.2.2.2.2.2.2)
def L8_8_sum : Sum := limSum L8_8_sh L8_8_pk (fun s => L8_8_r s.1 s.2.1 s.2.2.1 s.2.2.2.1 s.2.2.2.2.1 s.2.2.2.2.2.1 s.2.2.2.2.2.2) L8_8_leave
theorem L8_8_nat : Natural L8_8_sum := natural_lim fun x R K => by
  rfl
theorem L8_8_dok : ∀ e st x, e ≠ .normal → L8_8_d e st = some x → ∀ R (K : Cont R), K e st = L8_8_leave x R K := by
  intro e st x _ h R K
  unfold L8_8_d at h
  split at h
  · split at h
    · rename_i s hs; cases h; rw [unSt_some hs]; rfl
    · cases h
  · cases h
def loops8 : Nat → Option (Sum) := fun | 8 => some L8_8_sum | _ => none
theorem loops8_nat : ∀ q f, loops8 q = some f → Natural f := by
  intro q f h
  unfold loops8 at h
  split at h
  · cases h; exact L8_8_nat
  · cases h
noncomputable def L8_8_code : Code := (loopsOf body8).getD 0 .skip
theorem L8_8_round (s0 : (List UInt8)) (s1 : Int) (s2 : Bool) (s3 : (List Int)) (s4 : Int) (s5 : Bool) (s6 : Int) : ev2 env8 orc8 loops8 L8_8_code (mkSt L8_8_sh (s0, (s1, (s2, (s3, (s4, (s5, (s6, ())))))))) (back L8_8_sh L8_8_pk L8_8_d) = L8_8_r s0 s1 s2 s3 s4 s5 s6 := by kernel_rfl
theorem L8_8_ok : SumOk env8 orc8 loops8 L8_8_code L8_8_sum := sumOk_lim (un := L8_8_un) loops8_nat (fun _ => rfl) L8_8_dok fun s => L8_8_round s.1 s.2.1 s.2.2.1 s.2.2.2.1 s.2.2.2.2.1 s.2.2.2.2.2.1 s.2.2.2.2.2.2
theorem loops8_all : loopsOf body8 = [L8_8_code] := by kernel_rfl
theorem L8_8_key : lookL loops8 (keyOf L8_8_code) = some L8_8_sum := by kernel_rfl
theorem loops8_ok : LoopsOk env8 orc8 loops8 body8 := by
  intro c hc f hf
  rw [loops8_all] at hc
  simp only [List.mem_cons, List.not_mem_nil, or_false] at hc
  subst hc
  · rw [L8_8_key] at hf; cases hf; exact L8_8_ok
def G8 (x0 : (List UInt8)) (x1 : Int) (x2 : Int) : Option (Bool) :=
  bif (P10 ) then
  let v1 : Int := ((List.length x0 : Nat) : Int)
  let v2 : Int := (if (300 : Int) < v1 then (300 : Int) else v1)
  bif (sliceTest (0 : Int) v2 (List.length x0)) then
  let v3 : (List UInt8) := (cut x0 (0 : Int) v2)
  bif (decide (List.length v3 ≤ 9223372036854775807)) then
  let v4 : (List Int) := (List.map (fun (b : UInt8) => (b.toNat : Int)) v3)
  let v5 : Int := (((List.length v4) : Nat) : Int)
  let v6 : Bool := (v5 == (0 : Int))
  let v7 : Bool := (x2 == (0 : Int))
  let v8 : Bool := (bif v6 then true else v7)
  bif v8 then
  some (F10)
  else
  let v9 : Int := (((List.length v4) : Nat) : Int)
  let v10 : Int := (IntKind.i64.wrap ((8 : Int) * v9))
  bif (P14 x1 v10) then
  let v11 : Int := (F14 x1 v10)
  Option.bind (L8_8 (x0, x2, F10, v4, v11, false, (0 : Int))) fun (r31 : (List UInt8) × Int × Bool × (List Int) × Int × Bool × Int) =>
  let v32 : (List UInt8) := (List.map (fun (n : Int) => UInt8.ofNat n.toNat) (List.take (List.length r31.2.2.2.1) r31.2.2.2.1))
  bif ((P21 v32) || !(r31.2.2.1 && true)) then
  let v33 : Int := (F21 v32)
  let v34 : Int := (((List.length r31.2.2.2.1) : Nat) : Int)
  bif ((sliceTest (0 : Int) v34 (List.length r31.1)) || !(r31.2.2.1 && true)) then
  let v35 : (List UInt8) := (cut r31.1 (0 : Int) v34)
  bif ((P21 v35) || !(r31.2.2.1 && true)) then
  let v36 : Int := (F21 v35)
  let v37 : Bool := (v33 != v36)
  let v38 : Bool := (eqv .bool r31.2.2.2.2.2.1 v37)
  let v39 : Bool := (bif r31.2.2.1 then v38 else false)
  some (v39)
  else none
  else none
  else none
  else none
  else none
  else none
  else none
theorem ev8 (x0 : (List UInt8)) (x1 : Int) (x2 : Int) : ev2 env8 orc8 loops8 body8 (initSt 0 [⟨.str, x0⟩, ⟨(.int .i64), x1⟩, ⟨(.int .u32), x2⟩]) (retT [(6, .dat .bool)] [.bool] fun x => x.1) = G8 x0 x1 x2 := by kernel_rfl
def P8 (x0 : (List UInt8)) (x1 : Int) (x2 : Int) : Bool := (G8 x0 x1 x2).isSome
def F8 (x0 : (List UInt8)) (x1 : Int) (x2 : Int) : Bool := (G8 x0 x1 x2).getD default
theorem G8_some (x0 : (List UInt8)) (x1 : Int) (x2 : Int) (h : P8 x0 x1 x2 = true) : G8 x0 x1 x2 = some (F8 x0 x1 x2) := by
  unfold P8 at h; unfold F8
  cases hg : G8 x0 x1 x2 with
  | none => rw [hg] at h; cases h
  | some r => rfl
theorem P8_of (x0 : (List UInt8)) (x1 : Int) (x2 : Int) {r : Bool} (h : G8 x0 x1 x2 = some r) : P8 x0 x1 x2 = true := by unfold P8; rw [h]; rfl
theorem F8_of (x0 : (List UInt8)) (x1 : Int) (x2 : Int) {r : Bool} (h : G8 x0 x1 x2 = some r) : F8 x0 x1 x2 = r := by unfold F8; rw [h]; rfl
def spec8 : Spec := ⟨[.str, (.int .i64), (.int .u32)], [.dat .bool], fun | [a0, a1, a2] => P8 (a0.as .str) (a1.as (.int .i64)) (a2.as (.int .u32)) | _ => false, fun | [a0, a1, a2] => [⟨.bool, (F8 (a0.as .str) (a1.as (.int .i64)) (a2.as (.int .u32)))⟩] | _ => []⟩
theorem meets8 (hE : EnvOk Tryd.prog env8) (hm : Tryd.prog.follows .mixedOrders = true) : Meets Tryd.prog glob 8 spec8 :=
  meets_of_ev2 (O := orc8) (L := loops8) (c := body8) (slots := [6]) hE hm Tryd.func8 Tryd.call8 (by kernel_rfl) (by kernel_rfl) loops8_ok (rangesOk_nil (by kernel_rfl)) (by kernel_rfl) rfl (by decide) (fun ds hds hpre => by
  obtain ⟨x0, ds0, rfl, h0⟩ := datsS hds
  obtain ⟨x1, ds1, rfl, h1⟩ := datsS h0
  obtain ⟨x2, ds2, rfl, h2⟩ := datsS h1
  have h9 := dats0 h2; subst h9
  exact ev_ret (un := fun r => [⟨.bool, r⟩]) loops8_nat (fun _ => rfl) ((ev8 x0 x1 x2).trans (G8_some x0 x1 x2 hpre)))
theorem tyOk2 : TyOk Tryd.prog tab 2 (.int .i64) := ⟨Tryd.underlying2, by kernel_rfl⟩
theorem tyOk3 : TyOk Tryd.prog tab 3 (.int .i64) := ⟨Tryd.underlying3, by kernel_rfl⟩
theorem tyOk4 : TyOk Tryd.prog tab 4 .bool := ⟨Tryd.underlying4, by kernel_rfl⟩
theorem tyOk5 : TyOk Tryd.prog tab 5 (.int .u8) := ⟨Tryd.underlying5, by kernel_rfl⟩
theorem tyOk6 : TyOk Tryd.prog tab 6 (.int .u8) := ⟨Tryd.underlying6, by kernel_rfl⟩
theorem tyOk7 : TyOk Tryd.prog tab 7 (.pair (.int .i64) (.pair (.int .i64) (.pair .bool (.pair (.int .u8) .unit)))) := ⟨⟨_, Tryd.underlying7, (And.intro rfl (And.intro rfl (And.intro rfl (And.intro rfl (And.intro rfl (And.intro rfl (And.intro rfl (And.intro rfl trivial))))))))⟩, by kernel_rfl⟩
theorem tyOk8 : TyOk Tryd.prog tab 8 (.pair (.int .i64) (.pair (.int .i64) (.pair .bool (.pair (.int .u8) .unit)))) := ⟨⟨_, Tryd.underlying8, (And.intro rfl (And.intro rfl (And.intro rfl (And.intro rfl (And.intro rfl (And.intro rfl (And.intro rfl (And.intro rfl trivial))))))))⟩, by kernel_rfl⟩
theorem tyOk9 : TyOk Tryd.prog tab 9 .str := ⟨Tryd.underlying9, by kernel_rfl⟩
theorem tyOk10 : TyOk Tryd.prog tab 10 .str := ⟨Tryd.underlying10, by kernel_rfl⟩
theorem tyOk11 : TyOk Tryd.prog tab 11 .str := ⟨Tryd.underlying11, by kernel_rfl⟩
theorem tyOk12 : TyOk Tryd.prog tab 12 (.int .u64) := ⟨Tryd.underlying12, by kernel_rfl⟩
theorem tyOk13 : TyOk Tryd.prog tab 13 (.pair .str (.pair (.int .u64) .unit)) := ⟨⟨_, Tryd.underlying13, (And.intro rfl (And.intro rfl (And.intro rfl (And.intro rfl trivial))))⟩, by kernel_rfl⟩
theorem tyOk14 : TyOk Tryd.prog tab 14 (.pair .str (.pair (.int .u64) .unit)) := ⟨⟨_, Tryd.underlying14, (And.intro rfl (And.intro rfl (And.intro rfl (And.intro rfl trivial))))⟩, by kernel_rfl⟩
theorem tyOk21 : TyOk Tryd.prog tab 21 (.int .i32) := ⟨Tryd.underlying21, by kernel_rfl⟩
theorem tyOk24 : TyOk Tryd.prog tab 24 (.list (.int .i64)) := ⟨⟨3, Tryd.underlying24, rfl, rfl, by decide, Tryd.t3.bytes, Nat.le_of_ble_eq_true (by kernel_rfl), by kernel_rfl⟩, by kernel_rfl⟩
theorem tyOk25 : TyOk Tryd.prog tab 25 (.int .i64) := ⟨Tryd.underlying25, by kernel_rfl⟩
theorem tyOk36 : TyOk Tryd.prog tab 36 (.arr 2 .str) := ⟨⟨9, Tryd.underlying36, rfl, by decide, by kernel_rfl⟩, by kernel_rfl⟩
theorem tyOk38 : TyOk Tryd.prog tab 38 (.list (.int .u8)) := ⟨⟨5, Tryd.underlying38, rfl, rfl, by decide, Tryd.t5.bytes, Nat.le_of_ble_eq_true (by kernel_rfl), by kernel_rfl⟩, by kernel_rfl⟩
theorem tyOk40 : TyOk Tryd.prog tab 40 (.list .str) := ⟨⟨9, Tryd.underlying40, rfl, rfl, by decide, Tryd.t9.bytes, Nat.le_of_ble_eq_true (by kernel_rfl), by kernel_rfl⟩, by kernel_rfl⟩
theorem tyOk43 : TyOk Tryd.prog tab 43 (.int .u32) := ⟨Tryd.underlying43, by kernel_rfl⟩
theorem tyOk49 : TyOk Tryd.prog tab 49 (.int .u64) := ⟨Tryd.underlying49, by kernel_rfl⟩
theorem tyOk50 : TyOk Tryd.prog tab 50 (.int .u64) := ⟨Tryd.underlying50, by kernel_rfl⟩
theorem tyOk52 : TyOk Tryd.prog tab 52 (.arr 16 (.int .u32)) := ⟨⟨43, Tryd.underlying52, rfl, by decide, by kernel_rfl⟩, by kernel_rfl⟩
theorem tyOk61 : TyOk Tryd.prog tab 61 (.int .u8) := ⟨Tryd.underlying61, by kernel_rfl⟩
theorem tyOk62 : TyOk Tryd.prog tab 62 (.int .u8) := ⟨Tryd.underlying62, by kernel_rfl⟩
theorem tyOk65 : TyOk Tryd.prog tab 65 (.int .i32) := ⟨Tryd.underlying65, by kernel_rfl⟩
theorem tyOk66 : TyOk Tryd.prog tab 66 (.int .i32) := ⟨Tryd.underlying66, by kernel_rfl⟩
theorem tabOk : TabOk Tryd.prog tab := by
  refine ⟨fun id t h => ?_, fun id t h he => ?_⟩
  · unfold tab at h
    dsimp only at h
    split at h
    · cases h; exact tyOk2
    · cases h; exact tyOk3
    · cases h; exact tyOk4
    · cases h; exact tyOk5
    · cases h; exact tyOk6
    · cases h; exact tyOk7
    · cases h; exact tyOk8
    · cases h; exact tyOk9
    · cases h; exact tyOk10
    · cases h; exact tyOk11
    · cases h; exact tyOk12
    · cases h; exact tyOk13
    · cases h; exact tyOk14
    · cases h; exact tyOk21
    · cases h; exact tyOk24
    · cases h; exact tyOk25
    · cases h; exact tyOk36
    · cases h; exact tyOk38
    · cases h; exact tyOk40
    · cases h; exact tyOk43
    · cases h; exact tyOk49
    · cases h; exact tyOk50
    · cases h; exact tyOk52
    · cases h; exact tyOk61
    · cases h; exact tyOk62
    · cases h; exact tyOk65
    · cases h; exact tyOk66
    · cases h
  · unfold tab at he
    dsimp only at he
    split at he
    · cases h; exact eqOk_bool Tryd.underlying4
    · cases he
theorem mixed : Tryd.prog.follows .mixedOrders = true := by kernel_rfl
theorem envOk25 : EnvOk Tryd.prog env25 := by
  refine ⟨tabOk, fun f S h => ?_, fun f l S h => ?_⟩
  · simp only [env25] at h
    cases h
  · simp only [env25] at h
    cases h
theorem fullI25 : IterOk Tryd.prog glob 25 I25 := iter25 envOk25 mixed
theorem envOk23 : EnvOk Tryd.prog env23 := by
  refine ⟨tabOk, fun f S h => ?_, fun f l S h => ?_⟩
  · simp only [env23] at h
    cases h
  · simp only [env23] at h
    cases h
theorem full23 : Meets2 Tryd.prog glob 23 sp23 := meets23 envOk23 mixed
theorem envOk12 : EnvOk Tryd.prog env12 := by
  refine ⟨tabOk, fun f S h => ?_, fun f l S h => ?_⟩
  · simp only [env12] at h
    cases h
  · simp only [env12] at h
    split at h
    · cases h; exact full23
    · cases h
theorem full12 : Meets Tryd.prog glob 12 spec12 := meets12 envOk12 mixed fullI25
theorem envOk14 : EnvOk Tryd.prog env14 := by
  refine ⟨tabOk, fun f S h => ?_, fun f l S h => ?_⟩
  · simp only [env14] at h
    cases h
  · simp only [env14] at h
    cases h
theorem full14 : Meets Tryd.prog glob 14 spec14 := meets14 envOk14 mixed
theorem envOk11 : EnvOk Tryd.prog env11 := by
  refine ⟨tabOk, fun f S h => ?_, fun f l S h => ?_⟩
  · simp only [env11] at h
    split at h
    · cases h; exact full14
    · cases h
  · simp only [env11] at h
    cases h
theorem full11 : Meets Tryd.prog glob 11 spec11 := meets11 envOk11 mixed
theorem envOk24 : EnvOk Tryd.prog env24 := by
  refine ⟨tabOk, fun f S h => ?_, fun f l S h => ?_⟩
  · simp only [env24] at h
    cases h
  · simp only [env24] at h
    cases h
theorem full24 : Meets Tryd.prog glob 24 spec24 := meets24 envOk24 mixed
theorem envOk13 : EnvOk Tryd.prog env13 := by
  refine ⟨tabOk, fun f S h => ?_, fun f l S h => ?_⟩
  · simp only [env13] at h
    split at h
    · cases h; exact full24
    · cases h
  · simp only [env13] at h
    cases h
theorem full13 : Meets Tryd.prog glob 13 spec13 := meets13 envOk13 mixed
theorem envOk15 : EnvOk Tryd.prog env15 := by
  refine ⟨tabOk, fun f S h => ?_, fun f l S h => ?_⟩
  · simp only [env15] at h
    cases h
  · simp only [env15] at h
    cases h
theorem full15 : Meets Tryd.prog glob 15 spec15 := meets15 envOk15 mixed
theorem envOk16 : EnvOk Tryd.prog env16 := by
  refine ⟨tabOk, fun f S h => ?_, fun f l S h => ?_⟩
  · simp only [env16] at h
    split at h
    · cases h; exact full13
    · cases h
  · simp only [env16] at h
    cases h
theorem full16 : Meets Tryd.prog glob 16 spec16 := meets16 envOk16 mixed
theorem envOk17 : EnvOk Tryd.prog env17 := by
  refine ⟨tabOk, fun f S h => ?_, fun f l S h => ?_⟩
  · simp only [env17] at h
    split at h
    · cases h; exact full15
    · cases h
  · simp only [env17] at h
    cases h
theorem full17 : Meets Tryd.prog glob 17 spec17 := meets17 envOk17 mixed
theorem envOk18 : EnvOk Tryd.prog env18 := by
  refine ⟨tabOk, fun f S h => ?_, fun f l S h => ?_⟩
  · simp only [env18] at h
    split at h
    · cases h; exact full16
    · cases h
  · simp only [env18] at h
    cases h
theorem full18 : Meets Tryd.prog glob 18 spec18 := meets18 envOk18 mixed
theorem envOk19 : EnvOk Tryd.prog env19 := by
  refine ⟨tabOk, fun f S h => ?_, fun f l S h => ?_⟩
  · simp only [env19] at h
    split at h
    · cases h; exact full12
    · cases h
  · simp only [env19] at h
    cases h
theorem full19 : Meets Tryd.prog glob 19 spec19 := meets19 envOk19 mixed
theorem envOk20 : EnvOk Tryd.prog env20 := by
  refine ⟨tabOk, fun f S h => ?_, fun f l S h => ?_⟩
  · simp only [env20] at h
    split at h
    · cases h; exact full13
    · cases h
  · simp only [env20] at h
    cases h
theorem full20 : Meets Tryd.prog glob 20 spec20 := meets20 envOk20 mixed
theorem envOk21 : EnvOk Tryd.prog env21 := by
  refine ⟨tabOk, fun f S h => ?_, fun f l S h => ?_⟩
  · simp only [env21] at h
    cases h
  · simp only [env21] at h
    cases h
theorem full21 : Meets Tryd.prog glob 21 spec21 := meets21 envOk21 mixed
theorem envOk22 : EnvOk Tryd.prog env22 := by
  refine ⟨tabOk, fun f S h => ?_, fun f l S h => ?_⟩
  · simp only [env22] at h
    cases h
  · simp only [env22] at h
    cases h
theorem full22 : Meets Tryd.prog glob 22 spec22 := meets22 envOk22 mixed
theorem envOk10 : EnvOk Tryd.prog env10 := by
  refine ⟨tabOk, fun f S h => ?_, fun f l S h => ?_⟩
  · simp only [env10] at h
    split at h
    · cases h; exact full12
    · cases h; exact full15
    · cases h; exact full17
    · cases h; exact full19
    · cases h; exact full21
    · cases h
  · simp only [env10] at h
    cases h
theorem full10 : Meets Tryd.prog glob 10 spec10 := meets10 envOk10 mixed
theorem envOk3 : EnvOk Tryd.prog env3 := by
  refine ⟨tabOk, fun f S h => ?_, fun f l S h => ?_⟩
  · simp only [env3] at h
    split at h
    · cases h; exact full10
    · cases h; exact full11
    · cases h; exact full12
    · cases h; exact full13
    · cases h; exact full14
    · cases h; exact full15
    · cases h; exact full16
    · cases h; exact full17
    · cases h; exact full18
    · cases h; exact full19
    · cases h; exact full20
    · cases h; exact full21
    · cases h; exact full22
    · cases h
  · simp only [env3] at h
    cases h
theorem full3 : Meets Tryd.prog glob 3 spec3 := meets3 envOk3 mixed
theorem envOk4 : EnvOk Tryd.prog env4 := by
  refine ⟨tabOk, fun f S h => ?_, fun f l S h => ?_⟩
  · simp only [env4] at h
    split at h
    · cases h; exact full10
    · cases h; exact full11
    · cases h; exact full12
    · cases h; exact full15
    · cases h; exact full17
    · cases h; exact full19
    · cases h
  · simp only [env4] at h
    cases h
theorem full4 : Meets Tryd.prog glob 4 spec4 := meets4 envOk4 mixed
theorem envOk5 : EnvOk Tryd.prog env5 := by
  refine ⟨tabOk, fun f S h => ?_, fun f l S h => ?_⟩
  · simp only [env5] at h
    split at h
    · cases h; exact full10
    · cases h; exact full12
    · cases h; exact full14
    · cases h; exact full15
    · cases h; exact full17
    · cases h; exact full19
    · cases h
  · simp only [env5] at h
    cases h
theorem full5 : Meets Tryd.prog glob 5 spec5 := meets5 envOk5 mixed
theorem envOk6 : EnvOk Tryd.prog env6 := by
  refine ⟨tabOk, fun f S h => ?_, fun f l S h => ?_⟩
  · simp only [env6] at h
    split at h
    · cases h; exact full10
    · cases h; exact full11
    · cases h; exact full12
    · cases h; exact full15
    · cases h; exact full17
    · cases h; exact full19
    · cases h
  · simp only [env6] at h
    cases h
theorem full6 : Meets Tryd.prog glob 6 spec6 := meets6 envOk6 mixed
theorem envOk7 : EnvOk Tryd.prog env7 := by
  refine ⟨tabOk, fun f S h => ?_, fun f l S h => ?_⟩
  · simp only [env7] at h
    split at h
    · cases h; exact full10
    · cases h; exact full11
    · cases h; exact full12
    · cases h; exact full14
    · cases h; exact full15
    · cases h; exact full17
    · cases h; exact full19
    · cases h
  · simp only [env7] at h
    cases h
theorem full7 : Meets Tryd.prog glob 7 spec7 := meets7 envOk7 mixed
theorem envOk9 : EnvOk Tryd.prog env9 := by
  refine ⟨tabOk, fun f S h => ?_, fun f l S h => ?_⟩
  · simp only [env9] at h
    split at h
    · cases h; exact full10
    · cases h; exact full21
    · cases h
  · simp only [env9] at h
    cases h
theorem full9 : Meets Tryd.prog glob 9 spec9 := meets9 envOk9 mixed
theorem envOk8 : EnvOk Tryd.prog env8 := by
  refine ⟨tabOk, fun f S h => ?_, fun f l S h => ?_⟩
  · simp only [env8] at h
    split at h
    · cases h; exact full10
    · cases h; exact full14
    · cases h; exact full21
    · cases h
  · simp only [env8] at h
    cases h
theorem full8 : Meets Tryd.prog glob 8 spec8 := meets8 envOk8 mixed
theorem globs_of_laid {W : World} (h : laidMetH Tryd.prog [("newswire/wire.nibbles", Go.Proofs.YtcnplckaaklfjaaDoor.Rows.laid_newswire_wire_nibbles)] W) : GlobR glob (fun b => b < W.heap.size) W := by
  rw [MakeChecks.laidMetH_plain _ _ _ (by kernel_rfl)] at h
  obtain ⟨ps, ⟨g, t, cs, fuel, p, q, hg, ht, hv, hd, _, _⟩, _, _⟩ := h
  obtain rfl := Option.some.inj ((show Tryd.prog.globalNamed "newswire/wire.nibbles" = some 0 by kernel_rfl).symm.trans hg)
  obtain rfl := Option.some.inj ((show (Tryd.prog.globals[0]?).map (·.type) = some 52 by kernel_rfl).symm.trans ht)
  obtain ⟨xs, m, _, ex, _, hl, hel⟩ := DataW.trod_array Tryd.underlying52 hd
  have c5 : Tryd.prog.cellsOf 43 = 1 := by kernel_rfl
  have hcell : ∀ r, r < 16 → W.cell? ⟨0, r, none⟩ = some (.int .u32 (nibbles.getD r 0)) := fun r hr => by
    have hE := hel r hr
    rw [c5, Nat.mul_one, List.getElem?_eq_getElem (by omega)] at hE
    obtain ⟨z, e1, e2, _⟩ := DataW.trod_int Tryd.underlying43 hE
    have e3 : (xs.map (·.1)) = nibbles.map fun n => .lit (.int .u32 n) := (DataW.agg.inj (Prod.mk.inj ex).1).symm
    have e4 : (xs.map (·.1))[r]? = (nibbles.map fun n => (DataW.lit (.int .u32 n) : DataW Unit))[r]? := by rw [e3]
    have hlen : nibbles.length = 16 := rfl
    rw [List.getElem?_map, List.getElem?_map, List.getElem?_eq_getElem (by omega : r < xs.length), List.getElem?_eq_getElem (by omega : r < nibbles.length), e2] at e4
    have hz : z = nibbles.getD r 0 := by
      simp only [Option.map_some, Option.some.injEq, DataW.lit.injEq, Lit.int.injEq, true_and] at e4
      rw [e4, List.getD, List.getElem?_eq_getElem (by omega : r < nibbles.length)]; rfl
    rw [World.var?_cell hg hv r, ← hz]
    have : cs.toList[r]? = some (.int .u32 z) := by
      have h0 : ((cs.toList.drop r).take 1)[0]? = some (.int .u32 z) := by rw [e1]; rfl
      simpa using h0
    simpa using this
  intro k d hk
  match k, hk with
  | 0, hk =>
    cases hk
    refine ⟨nibbles.map fun n => Value.int .u32 n, ⟨rfl, rows_ints _⟩, fun _ => ?_, fun j hj => ?_⟩
    · have := hcell 0 (by omega)
      cases hb : W.heap[0]? with
      | none => simp [World.cell?, hb] at this
      | some o => exact (Array.getElem?_eq_some_iff.1 hb).1
    · have hj' : j < 16 := by rw [List.length_map] at hj; exact hj
      rw [Nat.zero_add, hcell j hj']
      have hlen : nibbles.length = 16 := rfl
      simp [List.getD_eq_getElem?_getD, List.getElem?_eq_getElem (by omega : j < nibbles.length)]
  | _ + 1, hk => simp [glob] at hk
end
end Go.Ev.W
