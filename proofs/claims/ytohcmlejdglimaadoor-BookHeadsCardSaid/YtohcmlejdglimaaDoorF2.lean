/- The functions of the program as functions of Lean,with the proofs that they are. -/
import Derived.Test.YtohcmlejdglimaaDoorF1
import Derived.KernelRfl
set_option linter.unusedSimpArgs false
set_option linter.unusedVariables false
set_option linter.deprecated false
namespace Go.Ev.T
open Go Go.Proofs Go.Ev
noncomputable section
def L74_3_r (s0:Tin) (s1:Int) (s2:Tin) (s3:Tin) (s4:Tin):Option ((Tin×Int×Tin×Tin×Tin)⊕((Tin×Int×Tin×Tin×Tin))) :=
 let v4:Bool:=(decide (s1 < (64:Int)))
 bif v4 then
 bif (decide (0≤s1) && decide (s1 < (64:Nat))) then
 let v5:Int:=(List.getD s0 (Int.toNat s1) (0:Int))
 bif (decide (0≤(0:Int)) && decide ((0:Int) < (8:Nat))) then
 bif (decide ((Int.toNat (0:Int)) < List.length s3)) then
 let v6:Int:=(List.getD s3 (Int.toNat (0:Int)) (0:Int))
 bif (decide (0≤(4:Int)) && decide ((4:Int) < (8:Nat))) then
 bif (decide ((Int.toNat (4:Int)) < List.length s3)) then
 let v7:Int:=(List.getD s3 (Int.toNat (4:Int)) (0:Int))
 bif (decide (0≤(7:Int)) && decide ((7:Int) < (8:Nat))) then
 bif (decide ((Int.toNat (7:Int)) < List.length s3)) then
 let v8:Int:=(List.getD s3 (Int.toNat (7:Int)) (0:Int))
 let v9:Tin:=(List.set (List.set (List.set (List.replicate 3 (0:Int)) 0 (6:Int)) 1 (11:Int)) 2 (25:Int))
 bif (P78 v7 v9) then
 let v10:Int:=(F78 v7 v9)
 let v11:Int:=(IntKind.u32.wrap (v8+v10))
 bif (decide (0≤(5:Int)) && decide ((5:Int) < (8:Nat))) then
 bif (decide ((Int.toNat (5:Int)) < List.length s3)) then
 let v12:Int:=(List.getD s3 (Int.toNat (5:Int)) (0:Int))
 let v13:Int:=(bits .and .u32 v7 v12)
 let v14:Int:=(bits .xor .u32 (if IntKind.u32.signed then -1 else IntKind.u32.max) v7)
 bif (decide (0≤(6:Int)) && decide ((6:Int) < (8:Nat))) then
 bif (decide ((Int.toNat (6:Int)) < List.length s3)) then
 let v15:Int:=(List.getD s3 (Int.toNat (6:Int)) (0:Int))
 let v16:Int:=(bits .and .u32 v14 v15)
 let v17:Int:=(bits .xor .u32 v13 v16)
 let v18:Int:=(IntKind.u32.wrap (v11+v17))
 let v19:Int:=(IntKind.u32.wrap (v18+v5))
 bif (decide (0≤s1) && decide (s1 < (64:Nat))) then
 bif (decide ((Int.toNat s1) < List.length s2)) then
 let v20:Int:=(List.getD s2 (Int.toNat s1) (0:Int))
 let v21:Int:=(IntKind.u32.wrap (v19+v20))
 let v22:Tin:=(List.set (List.set (List.set (List.replicate 3 (0:Int)) 0 (2:Int)) 1 (13:Int)) 2 (22:Int))
 bif (P78 v6 v22) then
 let v23:Int:=(F78 v6 v22)
 bif (decide (0≤(1:Int)) && decide ((1:Int) < (8:Nat))) then
 bif (decide ((Int.toNat (1:Int)) < List.length s3)) then
 let v24:Int:=(List.getD s3 (Int.toNat (1:Int)) (0:Int))
 let v25:Int:=(bits .and .u32 v6 v24)
 bif (decide (0≤(2:Int)) && decide ((2:Int) < (8:Nat))) then
 bif (decide ((Int.toNat (2:Int)) < List.length s3)) then
 let v26:Int:=(List.getD s3 (Int.toNat (2:Int)) (0:Int))
 let v27:Int:=(bits .and .u32 v6 v26)
 let v28:Int:=(bits .xor .u32 v25 v27)
 bif (decide (0≤(1:Int)) && decide ((1:Int) < (8:Nat))) then
 bif (decide ((Int.toNat (1:Int)) < List.length s3)) then
 let v29:Int:=(List.getD s3 (Int.toNat (1:Int)) (0:Int))
 bif (decide (0≤(2:Int)) && decide ((2:Int) < (8:Nat))) then
 bif (decide ((Int.toNat (2:Int)) < List.length s3)) then
 let v30:Int:=(List.getD s3 (Int.toNat (2:Int)) (0:Int))
 let v31:Int:=(bits .and .u32 v29 v30)
 let v32:Int:=(bits .xor .u32 v28 v31)
 let v33:Int:=(IntKind.u32.wrap (v23+v32))
 bif (sliceTest (1:Int) ((8:Nat):Int) (8:Nat) && decide ((1:Int) < ((8:Nat):Int))) then
 bif (sliceTest (0:Int) (7:Int) (8:Nat)) then
 bif (decide ((Int.toNat (1:Int))+(min (Int.toNat (7:Int)) (Int.toNat ((8:Nat):Int) - Int.toNat (1:Int)))≤8) && decide (0+(min (Int.toNat (7:Int)) (Int.toNat ((8:Nat):Int) - Int.toNat (1:Int)))≤8)) then
 let v34:Tin:=(List.take (Int.toNat (1:Int)) s3++List.take (min (Int.toNat (7:Int)) (Int.toNat ((8:Nat):Int) - Int.toNat (1:Int))) (List.drop 0 s3)++List.drop ((Int.toNat (1:Int))+(min (Int.toNat (7:Int)) (Int.toNat ((8:Nat):Int) - Int.toNat (1:Int)))) s3)
 let v35:Int:=(((min (Int.toNat (7:Int)) (Int.toNat ((8:Nat):Int) - Int.toNat (1:Int))):Nat):Int)
 let v36:Int:=(IntKind.u32.wrap (v21+v33))
 bif (decide (0≤(4:Int)) && decide ((4:Int) < (8:Nat))) then
 bif (decide ((Int.toNat (4:Int)) < List.length v34)) then
 let v37:Int:=(List.getD v34 (Int.toNat (4:Int)) (0:Int))
 let v38:Int:=(IntKind.u32.wrap (v37+v21))
 bif (decide (0≤(0:Int)) && decide ((0:Int) < (8:Nat))) then
 bif (decide ((Int.toNat (0:Int)) < List.length v34)) then
 let v39:Tin:=(List.set v34 (Int.toNat (0:Int)) v36)
 bif (decide (0≤(4:Int)) && decide ((4:Int) < (8:Nat))) then
 bif (decide ((Int.toNat (4:Int)) < List.length v39)) then
 let v40:Tin:=(List.set v39 (Int.toNat (4:Int)) v38)
 let v41:Int:=(IntKind.i64.wrap (s1+(1:Int)))
 some (.inl (s0,v41,s2,v40,s4))
 else none
 else none
 else none
 else none
 else none
 else none
 else none
 else none
 else none
 else none
 else none
 else none
 else none
 else none
 else none
 else none
 else none
 else none
 else none
 else none
 else none
 else none
 else none
 else none
 else none
 else none
 else none
 else none
 else none
 else none
 else none
 else none
 else
 some (.inr (s0,s1,s2,s3,s4))
def L74_3:Tin×Int×Tin×Tin×Tin→Option ((Tin×Int×Tin×Tin×Tin)):=Lim (fun s=>L74_3_r s.1 s.2.1 s.2.2.1 s.2.2.2.1 s.2.2.2.2)
def L74_3_sum:Sum:=limSum L74_3_sh L74_3_pk (fun s=>L74_3_r s.1 s.2.1 s.2.2.1 s.2.2.2.1 s.2.2.2.2) L74_3_leave
theorem L74_3_nat:Natural L74_3_sum:=natural_lim fun x R K=>by
 rfl
theorem L74_3_dok:∀ e st x,e≠.normal→L74_3_d e st=some x→∀ R (K:Cont R),K e st=L74_3_leave x R K:=by
 intro e st x _ h R K
 unfold L74_3_d at h
 split at h
 ·split at h
  ·rename_i s hs; cases h; rw [unSt_some hs]; rfl
  ·cases h
 ·cases h
def loops74:Nat→Option (Sum):=fun | 3=>some L74_3_sum | 12=>some L74_12_sum | _=>none
theorem loops74_nat:∀ q f,loops74 q=some f→Natural f:=by
 intro q f h
 unfold loops74 at h
 split at h
 ·cases h; exact L74_3_nat
 ·cases h; exact L74_12_nat
 ·cases h
noncomputable def L74_3_code:Code:=(loopsOf body74).getD 0 .skip
theorem L74_3_round (s0:Tin) (s1:Int) (s2:Tin) (s3:Tin) (s4:Tin):ev2 env74 orc74 loops74 L74_3_code (mkSt L74_3_sh ((),((),((),(s0,(s1,((),(s2,((),(s3,((),(s4,())))))))))))) (back L74_3_sh L74_3_pk L74_3_d)=L74_3_r s0 s1 s2 s3 s4:=by kernel_rfl
theorem L74_3_ok:SumOk env74 orc74 loops74 L74_3_code L74_3_sum:=sumOk_lim (un:=L74_3_un) loops74_nat (fun _=>rfl) L74_3_dok fun s=>L74_3_round s.1 s.2.1 s.2.2.1 s.2.2.2.1 s.2.2.2.2
noncomputable def L74_12_code:Code:=(loopsOf body74).getD 1 .skip
theorem L74_12_round (s0:Int) (s1:Tin) (s2:Tin):ev2 env74 orc74 loops74 L74_12_code (mkSt L74_12_sh ((),((),(s0,((),(s1,((),(s2,())))))))) (back L74_12_sh L74_12_pk L74_12_d)=L74_12_r s0 s1 s2:=by kernel_rfl
theorem L74_12_ok:SumOk env74 orc74 loops74 L74_12_code L74_12_sum:=sumOk_lim (un:=L74_12_un) loops74_nat (fun _=>rfl) L74_12_dok fun s=>L74_12_round s.1 s.2.1 s.2.2
theorem loops74_all:loopsOf body74=[L74_3_code,L74_12_code]:=by kernel_rfl
theorem L74_3_key:lookL loops74 (keyOf L74_3_code)=some L74_3_sum:=by kernel_rfl
theorem L74_12_key:lookL loops74 (keyOf L74_12_code)=some L74_12_sum:=by kernel_rfl
theorem loops74_ok:LoopsOk env74 orc74 loops74 body74:=by
 intro c hc f hf
 rw [loops74_all] at hc
 simp only [List.mem_cons,List.not_mem_nil,or_false] at hc
 rcases hc with rfl | rfl
 ·rw [L74_3_key] at hf; cases hf; exact L74_3_ok
 ·rw [L74_12_key] at hf; cases hf; exact L74_12_ok
def G74 (x0:Tin) (x1:Tin):Option (Unit×(Tin×Unit)) :=
 bif (P77 x0) then
 let q1:(Tin×Unit):=F77 x0
 let v2:Tin:=(List.replicate 64 (0:Int))
 let v3:Tin:=(List.replicate 8 (0:Int))
 Option.bind (L74_3 (roundK,(0:Int),q1.1,x1,x1)) fun (r42:Tin×Int×Tin×Tin×Tin) =>
 Option.bind (L74_12 ((0:Int),r42.2.2.2.1,r42.2.2.2.2)) fun (r49:Int×Tin×Tin) =>
 some ((),(r49.2.2,()))
 else none
def P74 (x0:Tin) (x1:Tin):Bool:=(hold (G74 x0 x1)).isSome
def F74 (x0:Tin) (x1:Tin):(Unit×(Tin×Unit)):=(hold (G74 x0 x1)).getD (Tup.zero pout74)
theorem P74_of (x0:Tin) (x1:Tin) {r:(Unit×(Tin×Unit))} (h:G74 x0 x1=some r):P74 x0 x1=true:=by unfold P74; rw [hold_eq,h]; rfl
theorem F74_of (x0:Tin) (x1:Tin) {r:(Unit×(Tin×Unit))} (h:G74 x0 x1=some r):F74 x0 x1=r:=by unfold F74; rw [hold_eq,h]; rfl
theorem ev74 (x0:Tin) (x1:Tin):ev2 env74 orc74 loops74 body74 (mkSt pin74 ((),(x0,((),(x1,()))))) (retK3 env74 [] pout74)=G74 x0 x1:=by kernel_rfl
def sp74:Spec2:=⟨pin74,pout74,fun s=>hold (G74 s.2.1 s.2.2.2.1)⟩
theorem fit74:Fit Tryd.f74 [] sp74:=⟨by kernel_rfl,by kernel_rfl,by kernel_rfl,by kernel_rfl,by kernel_rfl,by decide,by decide,by decide⟩
theorem meets74 (hE:EnvOk Tryd.prog env74) (hm:Tryd.prog.follows .mixedOrders=true):Meets2 Tryd.prog glob 74 sp74 :=
 meets2_of_ev2 (O:=orc74) (L:=loops74) (c:=body74) (rs:=[]) hE (fun _=>rfl) hm Tryd.func74 Tryd.call74 (by kernel_rfl) (by kernel_rfl) loops74_ok (rangesOk_nil (by kernel_rfl)) fit74 (fun s o h=>(ev74 s.2.1 s.2.2.2.1).trans ((hold_eq _).symm.trans h))
def env75:Env:={
 tab:=tab
 glob:=glob
 spec:=fun
  | _=>none
 bldT:=bldT
 bld:=bldF }
def orc75:Orc:=⟨30,fun _=>none,fun
 | 0=>kp [1] [(1,[0])]
 | 1=>kp [1,3] [(1,[0]),(3,[0])]
 | 2=>kp [3,7,8] [(3,[0])]
 | 3=>kp [3,7,8,9] [(3,[0])]
 | 4=>kp [3,4,5,7,8] [(3,[0])]
 | 5=>kp [3,4,5,7,8,12] [(3,[0])]
 | 6=>kp [3,4,5,7,8,12,13] [(3,[0])]
 | 7=>kp [3,4,5,6,7,8,12] [(3,[0])]
 | 8=>kp [3,4,5,7,8,12] [(3,[0])]
 | 9=>kp [3,4,5,7,8,12] [(3,[0])]
 | 10=>kp [3,7,8] [(3,[0])]
 | 11=>kp [2] []
 | _=>[],fun | _=>false⟩
noncomputable def body75:Code:=Tryd.f75.body.getD .skip
abbrev L75_6_T:Type:=Int×Int×Tin×Int×Int×Tin
def L75_6_sh:Shape:=[(.slot 3,.ptr 3 0),(.slot 4,.dat (.int .i64)),(.slot 5,.dat (.int .u32)),(.slot 7,.dat (.arr 8 (.int .u32))),(.slot 8,.dat (.int .i64)),(.slot 12,.dat (.int .i64)),(.box 3,.bx 130 32),(.cell 3 0,.dat (.arr 32 (.int .u8)))]
def L75_6_x0:Shape:=[(.slot 3,.ptr 3 0),(.slot 4,.dat (.int .i64)),(.slot 5,.dat (.int .u32)),(.slot 7,.dat (.arr 8 (.int .u32))),(.slot 8,.dat (.int .i64)),(.slot 12,.dat (.int .i64)),(.box 3,.bx 130 32),(.cell 3 0,.dat (.arr 32 (.int .u8)))]
def L75_6_pk (s:Tup L75_6_sh):L75_6_T:=(s.2.1,s.2.2.1,s.2.2.2.1,s.2.2.2.2.1,s.2.2.2.2.2.1,s.2.2.2.2.2.2.2.1)
def L75_6_un (s:Int×Int×Tin×Int×Int×Tin):Tup L75_6_sh:=((),(s.1,(s.2.1,(s.2.2.1,(s.2.2.2.1,(s.2.2.2.2.1,((),(s.2.2.2.2.2,()))))))))
def L75_6_leave (x:L75_6_T) (R:Type) (K:Cont R):Option R:=match x with
 | a=>K (.exit 2) (mkSt L75_6_x0 ((),(a.1,(a.2.1,(a.2.2.1,(a.2.2.2.1,(a.2.2.2.2.1,((),(a.2.2.2.2.2,())))))))))
def L75_6_d (e:Exit) (st:St):Option (L75_6_T):=match e with
 | .exit 2=>(match unSt L75_6_x0 st with
  | some s=>some (s.2.1,s.2.2.1,s.2.2.2.1,s.2.2.2.2.1,s.2.2.2.2.2.1,s.2.2.2.2.2.2.2.1)
  | none=>none)
 | _=>none
def L75_6_r (s0:Int) (s1:Int) (s2:Tin) (s3:Int) (s4:Int) (s5:Tin):Option (L75_6_T⊕(L75_6_T)) :=
 let v4:Bool:=(decide (s4 < (4:Int)))
 bif v4 then
 let v5:Int:=(IntKind.i64.wrap ((4:Int) * s0))
 let v6:Int:=(IntKind.i64.wrap (v5+s4))
 let v7:Int:=(IntKind.i64.wrap ((8:Int) * s4))
 let v8:Int:=(IntKind.i64.wrap ((24:Int) - v7))
 bif (decide (0≤v8)) then
 let v9:Int:=(Int.fdiv s1 (2 ^ min (Int.toNat v8) (IntKind.u32.bits)))
 let v10:Int:=(IntKind.u8.wrap v9)
 bif (decide (0≤v6) && decide (v6 < (32:Nat))) then
 bif (decide ((Int.toNat v6) < List.length s5)) then
 let v11:Tin:=(List.set s5 (Int.toNat v6) v10)
 let v12:Int:=(IntKind.i64.wrap (s4+(1:Int)))
 some (.inl (s0,s1,s2,s3,v12,v11))
 else none
 else none
 else none
 else
 some (.inr (s0,s1,s2,s3,s4,s5))
def L75_6:L75_6_T→Option (L75_6_T):=Lim (fun s=>L75_6_r s.1 s.2.1 s.2.2.1 s.2.2.2.1 s.2.2.2.2.1 s.2.2.2.2.2)
def L75_6_sum:Sum:=limSum L75_6_sh L75_6_pk (fun s=>L75_6_r s.1 s.2.1 s.2.2.1 s.2.2.2.1 s.2.2.2.2.1 s.2.2.2.2.2) L75_6_leave
theorem L75_6_nat:Natural L75_6_sum:=natural_lim fun x R K=>by
 rfl
theorem L75_6_dok:∀ e st x,e≠.normal→L75_6_d e st=some x→∀ R (K:Cont R),K e st=L75_6_leave x R K:=by
 intro e st x _ h R K
 unfold L75_6_d at h
 split at h
 ·split at h
  ·rename_i s hs; cases h; rw [unSt_some hs]; rfl
  ·cases h
 ·cases h
abbrev L75_3_T:Type:=Tin×Int×Tin
def L75_3_sh:Shape:=[(.slot 3,.ptr 3 0),(.slot 7,.dat (.arr 8 (.int .u32))),(.slot 8,.dat (.int .i64)),(.box 3,.bx 130 32),(.cell 3 0,.dat (.arr 32 (.int .u8)))]
def L75_3_x0:Shape:=[(.slot 3,.ptr 3 0),(.slot 7,.dat (.arr 8 (.int .u32))),(.slot 8,.dat (.int .i64)),(.box 3,.bx 130 32),(.cell 3 0,.dat (.arr 32 (.int .u8)))]
def L75_3_pk (s:Tup L75_3_sh):L75_3_T:=(s.2.1,s.2.2.1,s.2.2.2.2.1)
def L75_3_un (s:Tin×Int×Tin):Tup L75_3_sh:=((),(s.1,(s.2.1,((),(s.2.2,())))))
def L75_3_leave (x:L75_3_T) (R:Type) (K:Cont R):Option R:=match x with
 | a=>K (.exit 0) (mkSt L75_3_x0 ((),(a.1,(a.2.1,((),(a.2.2,()))))))
def L75_3_d (e:Exit) (st:St):Option (L75_3_T):=match e with
 | .exit 0=>(match unSt L75_3_x0 st with
  | some s=>some (s.2.1,s.2.2.1,s.2.2.2.2.1)
  | none=>none)
 | _=>none
def L75_3_r (s0:Tin) (s1:Int) (s2:Tin):Option (L75_3_T⊕(L75_3_T)) :=
 let v2:Bool:=(decide (s1 < (8:Int)))
 bif v2 then
 bif (decide (0≤s1) && decide (s1 < (8:Nat))) then
 let v3:Int:=(List.getD s0 (Int.toNat s1) (0:Int))
 Option.bind (L75_6 (s1,v3,s0,s1,(0:Int),s2)) fun (r13:Int×Int×Tin×Int×Int×Tin) =>
 let v14:Int:=(IntKind.i64.wrap (r13.2.2.2.1+(1:Int)))
 some (.inl (r13.2.2.1,v14,r13.2.2.2.2.2))
 else none
 else
 some (.inr (s0,s1,s2))
def L75_3:L75_3_T→Option (L75_3_T):=Lim (fun s=>L75_3_r s.1 s.2.1 s.2.2)
def L75_3_sum:Sum:=limSum L75_3_sh L75_3_pk (fun s=>L75_3_r s.1 s.2.1 s.2.2) L75_3_leave
theorem L75_3_nat:Natural L75_3_sum:=natural_lim fun x R K=>by
 rfl
theorem L75_3_dok:∀ e st x,e≠.normal→L75_3_d e st=some x→∀ R (K:Cont R),K e st=L75_3_leave x R K:=by
 intro e st x _ h R K
 unfold L75_3_d at h
 split at h
 ·split at h
  ·rename_i s hs; cases h; rw [unSt_some hs]; rfl
  ·cases h
 ·cases h
def loops75:Nat→Option (Sum):=fun | 3=>some L75_3_sum | 6=>some L75_6_sum | _=>none
theorem loops75_nat:∀ q f,loops75 q=some f→Natural f:=by
 intro q f h
 unfold loops75 at h
 split at h
 ·cases h; exact L75_3_nat
 ·cases h; exact L75_6_nat
 ·cases h
noncomputable def L75_3_code:Code:=(loopsOf body75).getD 0 .skip
theorem L75_3_round (s0:Tin) (s1:Int) (s2:Tin):ev2 env75 orc75 loops75 L75_3_code (mkSt L75_3_sh ((),(s0,(s1,((),(s2,())))))) (back L75_3_sh L75_3_pk L75_3_d)=L75_3_r s0 s1 s2:=by kernel_rfl
theorem L75_3_ok:SumOk env75 orc75 loops75 L75_3_code L75_3_sum:=sumOk_lim (un:=L75_3_un) loops75_nat (fun _=>rfl) L75_3_dok fun s=>L75_3_round s.1 s.2.1 s.2.2
noncomputable def L75_6_code:Code:=(loopsOf body75).getD 1 .skip
theorem L75_6_round (s0:Int) (s1:Int) (s2:Tin) (s3:Int) (s4:Int) (s5:Tin):ev2 env75 orc75 loops75 L75_6_code (mkSt L75_6_sh ((),(s0,(s1,(s2,(s3,(s4,((),(s5,()))))))))) (back L75_6_sh L75_6_pk L75_6_d)=L75_6_r s0 s1 s2 s3 s4 s5:=by kernel_rfl
theorem L75_6_ok:SumOk env75 orc75 loops75 L75_6_code L75_6_sum:=sumOk_lim (un:=L75_6_un) loops75_nat (fun _=>rfl) L75_6_dok fun s=>L75_6_round s.1 s.2.1 s.2.2.1 s.2.2.2.1 s.2.2.2.2.1 s.2.2.2.2.2
theorem loops75_all:loopsOf body75=[L75_3_code,L75_6_code]:=by kernel_rfl
theorem L75_3_key:lookL loops75 (keyOf L75_3_code)=some L75_3_sum:=by kernel_rfl
theorem L75_6_key:lookL loops75 (keyOf L75_6_code)=some L75_6_sum:=by kernel_rfl
theorem loops75_ok:LoopsOk env75 orc75 loops75 body75:=by
 intro c hc f hf
 rw [loops75_all] at hc
 simp only [List.mem_cons,List.not_mem_nil,or_false] at hc
 rcases hc with rfl | rfl
 ·rw [L75_3_key] at hf; cases hf; exact L75_3_ok
 ·rw [L75_6_key] at hf; cases hf; exact L75_6_ok
def G75 (x0:Tin):Option (Tby) :=
 let v1:Tin:=(List.replicate 32 (0:Int))
 Option.bind (L75_3 (x0,(0:Int),v1)) fun (r15:Tin×Int×Tin) =>
 bif (sliceTest (0:Int) ((32:Nat):Int) (32:Nat)) then
 bif (decide (0+(Int.toNat ((32:Nat):Int))≤32)) then
 let v16:Tby:=(List.map (fun (n:Int)=>UInt8.ofNat n.toNat) (List.take (Int.toNat ((32:Nat):Int)) (List.drop 0 r15.2.2)))
 some (v16)
 else none
 else none
theorem ev75 (x0:Tin):ev2 env75 orc75 loops75 body75 (initSt 0 [⟨(.arr 8 (.int .u32)),x0⟩]) (retT [(2,.dat .str)] [.str] fun x=>x.1)=G75 x0:=by kernel_rfl
def P75 (x0:Tin):Bool:=(hold (G75 x0)).isSome
def F75 (x0:Tin):Tby:=(hold (G75 x0)).getD default
theorem G75_some (x0:Tin) (h:P75 x0=true):G75 x0=some (F75 x0):=by
 unfold P75 at h; unfold F75
 rw [hold_eq] at h ⊢
 exact some_getD h
theorem P75_of (x0:Tin) {r:Tby} (h:G75 x0=some r):P75 x0=true:=by unfold P75; rw [hold_eq,h]; rfl
theorem F75_of (x0:Tin) {r:Tby} (h:G75 x0=some r):F75 x0=r:=by unfold F75; rw [hold_eq,h]; rfl
def spec75:Spec:=⟨[(.arr 8 (.int .u32))],[.dat .str],fun | [a0]=>P75 (a0.as (.arr 8 (.int .u32))) | _=>false,fun | [a0]=>[⟨.str,(F75 (a0.as (.arr 8 (.int .u32))))⟩] | _=>[]⟩
theorem meets75 (hE:EnvOk Tryd.prog env75) (hm:Tryd.prog.follows .mixedOrders=true):Meets Tryd.prog glob 75 spec75 :=
 meets_of_ev2 (O:=orc75) (L:=loops75) (c:=body75) (slots:=[2]) hE hm Tryd.func75 Tryd.call75 (by kernel_rfl) (by kernel_rfl) loops75_ok (rangesOk_nil (by kernel_rfl)) (by kernel_rfl) rfl (by decide) (fun ds hds hpre=>by
 obtain ⟨x0,ds0,rfl,h0⟩:=datsS hds
 have h9:=dats0 h0; subst h9
 exact ev_ret (un:=fun r=>[⟨.str,r⟩]) loops75_nat (fun _=>rfl) ((ev75 x0).trans (G75_some x0 hpre)))
def env70:Env:={
 tab:=tab
 glob:=glob
 spec:=fun
  | 75=>some spec75
  | _=>none
 spec2:=fun
  | 73,[]=>some sp73
  | 74,[]=>some sp74
  | _,_=>none
 bldT:=bldT
 bld:=bldF }
def orc70:Orc:=⟨40,fun _=>none,fun
 | 0=>kp [0] []
 | 1=>kp [0,3] [(3,[0])]
 | 2=>kp [0,3,4] [(3,[0])]
 | 3=>kp [0,3,4,15] [(3,[0])]
 | 4=>kp [0,3,4] [(3,[0])]
 | 5=>kp [0,3,4,5] [(3,[0])]
 | 6=>kp [0,3,4,5,20] [(3,[0])]
 | 7=>kp [0,3,4,5] [(3,[0])]
 | 8=>kp [0,3,4,5] [(3,[0])]
 | 9=>kp [3,34] [(3,[0]),(3500002,[0]),(3500003,[0])]
 | 10=>kp [3,6,34] [(3,[0])]
 | 11=>kp [3,34] [(3,[0])]
 | 12=>kp [2] []
 | _=>[],fun | _=>false⟩
noncomputable def body70:Code:=Tryd.f70.body.getD .skip
abbrev L70_6_T:Type:=Tby×Tin×Int×Tin
def L70_6_sh:Shape:=[(.slot 0,.dat .str),(.slot 3,.ptr 3 0),(.slot 4,.own 5 (.int .u8)),(.slot 5,.dat (.int .i64)),(.box 3,.bx 120 8),(.cell 3 0,.dat (.arr 8 (.int .u32)))]
def L70_6_x0:Shape:=[(.slot 0,.dat .str),(.slot 3,.ptr 3 0),(.slot 4,.own 5 (.int .u8)),(.slot 5,.dat (.int .i64)),(.box 3,.bx 120 8),(.cell 3 0,.dat (.arr 8 (.int .u32)))]
def L70_6_pk (s:Tup L70_6_sh):L70_6_T:=(s.1,s.2.2.1,s.2.2.2.1,s.2.2.2.2.2.1)
def L70_6_un (s:Tby×Tin×Int×Tin):Tup L70_6_sh:=(s.1,((),(s.2.1,(s.2.2.1,((),(s.2.2.2,()))))))
def L70_6_leave (x:L70_6_T) (R:Type) (K:Cont R):Option R:=match x with
 | a=>K (.exit 2) (mkSt L70_6_x0 (a.1,((),(a.2.1,(a.2.2.1,((),(a.2.2.2,())))))))
def L70_6_d (e:Exit) (st:St):Option (L70_6_T):=match e with
 | .exit 2=>(match unSt L70_6_x0 st with
  | some s=>some (s.1,s.2.2.1,s.2.2.2.1,s.2.2.2.2.2.1)
  | none=>none)
 | _=>none
def L70_6_r (s0:Tby) (s1:Tin) (s2:Int) (s3:Tin):Option (L70_6_T⊕(L70_6_T)) :=
 let v12:Bool:=(decide (s2≥(0:Int)))
 bif v12 then
 let v13:Int:=((List.length s0:Nat):Int)
 let v14:Int:=(IntKind.i64.wrap ((8:Int) * v13))
 let v15:Int:=(IntKind.i64.wrap ((8:Int) * s2))
 bif (decide (0≤v15)) then
 let v16:Int:=(Int.fdiv v14 (2 ^ min (Int.toNat v15) (IntKind.i64.bits)))
 let v17:Int:=(IntKind.u8.wrap v16)
 let v18:Tin:=(List.set (List.replicate 1 (0:Int)) 0 v17)
 bif (decide (List.length (List.take (List.length s1) s1)+List.length v18≤100000000000)) then
 let v19:Tin:=((List.take (List.length s1) s1)++v18)
 let v20:Int:=(IntKind.i64.wrap (s2 - (1:Int)))
 some (.inl (s0,v19,v20,s3))
 else none
 else none
 else
 some (.inr (s0,s1,s2,s3))
def L70_6:L70_6_T→Option (L70_6_T):=Lim (fun s=>L70_6_r s.1 s.2.1 s.2.2.1 s.2.2.2)
def L70_6_sum:Sum:=limSum L70_6_sh L70_6_pk (fun s=>L70_6_r s.1 s.2.1 s.2.2.1 s.2.2.2) L70_6_leave
theorem L70_6_nat:Natural L70_6_sum:=natural_lim fun x R K=>by
 rfl
theorem L70_6_dok:∀ e st x,e≠.normal→L70_6_d e st=some x→∀ R (K:Cont R),K e st=L70_6_leave x R K:=by
 intro e st x _ h R K
 unfold L70_6_d at h
 split at h
 ·split at h
  ·rename_i s hs; cases h; rw [unSt_some hs]; rfl
  ·cases h
 ·cases h
abbrev L70_3_T:Type:=Tby×Tin×Tin
def L70_3_sh:Shape:=[(.slot 0,.dat .str),(.slot 3,.ptr 3 0),(.slot 4,.own 5 (.int .u8)),(.box 3,.bx 120 8),(.cell 3 0,.dat (.arr 8 (.int .u32)))]
def L70_3_x0:Shape:=[(.slot 0,.dat .str),(.slot 3,.ptr 3 0),(.slot 4,.own 5 (.int .u8)),(.box 3,.bx 120 8),(.cell 3 0,.dat (.arr 8 (.int .u32)))]
def L70_3_pk (s:Tup L70_3_sh):L70_3_T:=(s.1,s.2.2.1,s.2.2.2.2.1)
def L70_3_un (s:Tby×Tin×Tin):Tup L70_3_sh:=(s.1,((),(s.2.1,((),(s.2.2,())))))
def L70_3_leave (x:L70_3_T) (R:Type) (K:Cont R):Option R:=match x with
 | a=>K (.exit 0) (mkSt L70_3_x0 (a.1,((),(a.2.1,((),(a.2.2,()))))))
def L70_3_d (e:Exit) (st:St):Option (L70_3_T):=match e with
 | .exit 0=>(match unSt L70_3_x0 st with
  | some s=>some (s.1,s.2.2.1,s.2.2.2.2.1)
  | none=>none)
 | _=>none
def L70_3_r (s0:Tby) (s1:Tin) (s2:Tin):Option (L70_3_T⊕(L70_3_T)) :=
 let v6:Int:=(((List.length s1):Nat):Int)
 let v7:Int:=(Int.tmod v6 (64:Int))
 let v8:Bool:=(v7 != (56:Int))
 bif v8 then
 let v9:Tin:=(List.set (List.replicate 1 (0:Int)) 0 (0:Int))
 bif (decide (List.length (List.take (List.length s1) s1)+List.length v9≤100000000000)) then
 let v10:Tin:=((List.take (List.length s1) s1)++v9)
 some (.inl (s0,v10,s2))
 else none
 else
 some (.inr (s0,s1,s2))
def L70_3:L70_3_T→Option (L70_3_T):=Lim (fun s=>L70_3_r s.1 s.2.1 s.2.2)
def L70_3_sum:Sum:=limSum L70_3_sh L70_3_pk (fun s=>L70_3_r s.1 s.2.1 s.2.2) L70_3_leave
theorem L70_3_nat:Natural L70_3_sum:=natural_lim fun x R K=>by
 rfl
theorem L70_3_dok:∀ e st x,e≠.normal→L70_3_d e st=some x→∀ R (K:Cont R),K e st=L70_3_leave x R K:=by
 intro e st x _ h R K
 unfold L70_3_d at h
 split at h
 ·split at h
  ·rename_i s hs; cases h; rw [unSt_some hs]; rfl
  ·cases h
 ·cases h
def R70_10_esh:Shape:=[(.slot 3,.ptr 3 0),(.box 3,.bx 120 8),(.cell 3 0,.dat (.arr 8 (.int .u32)))]
def R70_10_pk (s:Tup R70_10_esh):Tin:=s.2.2.1
def R70_10_un (s:Tin):Tup R70_10_esh:=((),((),(s,())))
def R70_10_xo (x:(Tin)):Exit×Tup R70_10_esh:=match x with
 | a=>(.ret,R70_10_un a)
def R70_10_leave (x:(Tin)) (R:Type) (K:Cont R):Option R:=match x with
 | a=>K .ret (mkSt R70_10_esh (R70_10_un a))
theorem R70_10_lv (x:(Tin)) (R:Type) (K:Cont R):R70_10_leave x R K=K (R70_10_xo x).1 (mkSt R70_10_esh (R70_10_xo x).2):=by
 rfl
theorem R70_10_lvn (x:(Tin)) (R:Type) (K:Cont R):R70_10_leave x R K=(R70_10_leave x _ pairK).bind fun p=>K p.1 p.2:=by
 rfl
def R70_10_d (e:Exit) (s:Tup R70_10_esh):Option ((Tin)):=match e with
 | _=>none
theorem R70_10_dk:∀ x e v,R70_10_d x e=some v→R70_10_xo v=(x,e)∧∃ c,jumpOf x=some c:=by
 intro x e v h
 cases x<;>cases h
def R70_10_r (s0:Tin) (y0:Tin):Option ((Tin)⊕((Tin))) :=
 bif (P74 y0 s0) then
 let q23:(Unit×(Tin×Unit)):=F74 y0 s0
 some (.inl q23.2.1)
 else none
def R70_10_step (b:Tin) (y:Y76):Option ((Tin)⊕((Tin))):=R70_10_r b y
def loops70:Nat→Option (Sum):=fun | 3=>some L70_3_sum | 6=>some L70_6_sum | 10=>some (rangeSum env70 76 34 R70_10_esh I76 R70_10_pk R70_10_un R70_10_step R70_10_leave) | _=>none
theorem loops70_nat:∀ q f,loops70 q=some f→Natural f:=by
 intro q f h
 unfold loops70 at h
 split at h
 ·cases h; exact L70_3_nat
 ·cases h; exact L70_6_nat
 ·cases h; exact natural_range R70_10_lvn
 ·cases h
noncomputable def L70_3_code:Code:=(loopsOf body70).getD 0 .skip
theorem L70_3_round (s0:Tby) (s1:Tin) (s2:Tin):ev2 env70 orc70 loops70 L70_3_code (mkSt L70_3_sh (s0,((),(s1,((),(s2,())))))) (back L70_3_sh L70_3_pk L70_3_d)=L70_3_r s0 s1 s2:=by kernel_rfl
theorem L70_3_ok:SumOk env70 orc70 loops70 L70_3_code L70_3_sum:=sumOk_lim (un:=L70_3_un) loops70_nat (fun _=>rfl) L70_3_dok fun s=>L70_3_round s.1 s.2.1 s.2.2
noncomputable def L70_6_code:Code:=(loopsOf body70).getD 1 .skip
theorem L70_6_round (s0:Tby) (s1:Tin) (s2:Int) (s3:Tin):ev2 env70 orc70 loops70 L70_6_code (mkSt L70_6_sh (s0,((),(s1,(s2,((),(s3,()))))))) (back L70_6_sh L70_6_pk L70_6_d)=L70_6_r s0 s1 s2 s3:=by kernel_rfl
theorem L70_6_ok:SumOk env70 orc70 loops70 L70_6_code L70_6_sum:=sumOk_lim (un:=L70_6_un) loops70_nat (fun _=>rfl) L70_6_dok fun s=>L70_6_round s.1 s.2.1 s.2.2.1 s.2.2.2
theorem loops70_all:loopsOf body70=[L70_3_code,L70_6_code]:=by kernel_rfl
theorem L70_3_key:lookL loops70 (keyOf L70_3_code)=some L70_3_sum:=by kernel_rfl
theorem L70_6_key:lookL loops70 (keyOf L70_6_code)=some L70_6_sum:=by kernel_rfl
theorem loops70_ok:LoopsOk env70 orc70 loops70 body70:=by
 intro c hc f hf
 rw [loops70_all] at hc
 simp only [List.mem_cons,List.not_mem_nil,or_false] at hc
 rcases hc with rfl | rfl
 ·rw [L70_3_key] at hf; cases hf; exact L70_3_ok
 ·rw [L70_6_key] at hf; cases hf; exact L70_6_ok
noncomputable def R70_10_code:Code:=(rangesOf body70).getD 0 .skip
theorem R70_10_round (s0:Tin) (y0:Tin):roundQ env70 orc70 loops70 R70_10_esh R70_10_pk R70_10_d R70_10_code (I76.enc y0) ((),((),(s0,())))=R70_10_r s0 y0:=by kernel_rfl
theorem R70_10_form:R70_10_code=.rangeFunc (.tmp 34) (rgPs R70_10_code) (rgAsg R70_10_code) (rgBody R70_10_code):=by kernel_rfl
theorem R70_10_len (y:Y76):(rgPs R70_10_code).toList.length=(I76.enc y).length:=by kernel_rfl
theorem R70_10_ok (hE:EnvOk Tryd.prog env70) (hm:Tryd.prog.follows .mixedOrders=true) (hI:IterOk Tryd.prog glob 76 I76):RangeOk Tryd.prog env70 orc70.n R70_10_code (rangeSum env70 76 34 R70_10_esh I76 R70_10_pk R70_10_un R70_10_step R70_10_leave) :=
 rangeOk' (L:=loops70) hE hm hI R70_10_form (loopsOk_nil (by kernel_rfl)) (loopsOk_nil (by kernel_rfl)) (by kernel_rfl) (by kernel_rfl) (by kernel_rfl) (by kernel_rfl) (pk:=R70_10_pk) (un:=R70_10_un) (fun _=>rfl) R70_10_dk R70_10_lv R70_10_len fun b y=>R70_10_round b y
theorem ranges70_all:rangesOf body70=[R70_10_code]:=by kernel_rfl
theorem R70_10_key:lookL loops70 (keyOf R70_10_code)=some (rangeSum env70 76 34 R70_10_esh I76 R70_10_pk R70_10_un R70_10_step R70_10_leave):=by kernel_rfl
theorem ranges70_ok (hE:EnvOk Tryd.prog env70) (hm:Tryd.prog.follows .mixedOrders=true) (hI76:IterOk Tryd.prog glob 76 I76):RangesOk Tryd.prog env70 orc70.n loops70 body70:=by
 intro c hc f hf
 rw [ranges70_all] at hc
 simp only [List.mem_cons,List.not_mem_nil,or_false] at hc
 subst hc
 ·rw [R70_10_key] at hf; cases hf; exact R70_10_ok hE hm hI76
def G70 (x0:Tby):Option (Tby) :=
 let v1:Tin:=(List.set (List.set (List.set (List.set (List.set (List.set (List.set (List.set (List.replicate 8 (0:Int)) 0 (1779033703:Int)) 1 (3144134277:Int)) 2 (1013904242:Int)) 3 (2773480762:Int)) 4 (1359893119:Int)) 5 (2600822924:Int)) 6 (528734635:Int)) 7 (1541459225:Int))
 let v2:Tin:=(List.replicate 8 (0:Int))
 bif (decide (List.length x0≤9223372036854775807)) then
 let v3:Tin:=(List.map (fun (b:UInt8)=>(b.toNat:Int)) x0)
 let v4:Tin:=(List.set (List.replicate 1 (0:Int)) 0 (128:Int))
 bif (decide (List.length (List.take (List.length v3) v3)+List.length v4≤100000000000)) then
 let v5:Tin:=((List.take (List.length v3) v3)++v4)
 Option.bind (L70_3 (x0,v5,v1)) fun (r11:Tby×Tin×Tin) =>
 Option.bind (L70_6 (r11.1,r11.2.1,(7:Int),r11.2.2)) fun (r21:Tby×Tin×Int×Tin) =>
 bif (P73 (List.take (List.length r21.2.1) r21.2.1) (64:Int)) then
 let q22:(Unit×(Unit×(Tin×(Unit×(Int×Unit))))):=F73 (List.take (List.length r21.2.1) r21.2.1) (64:Int)
 Option.bind ((W76 q22.2.2.1 q22.2.2.2.2.1).ys) fun ys=>Option.bind (foldX R70_10_step ys r21.2.2.2) fun z=>match z with
 | .inl (r24:Tin) =>
 bif (P75 r24) then
 let v25:Tby:=(F75 r24)
 some (v25)
 else none
 | .inr r24 =>
 none
 else none
 else none
 else none
theorem ev70 (x0:Tby):ev2 env70 orc70 loops70 body70 (initSt 0 [⟨.str,x0⟩]) (retT [(2,.dat .str)] [.str] fun x=>x.1)=G70 x0:=by kernel_rfl
def P70 (x0:Tby):Bool:=(hold (G70 x0)).isSome
def F70 (x0:Tby):Tby:=(hold (G70 x0)).getD default
theorem G70_some (x0:Tby) (h:P70 x0=true):G70 x0=some (F70 x0):=by
 unfold P70 at h; unfold F70
 rw [hold_eq] at h ⊢
 exact some_getD h
theorem P70_of (x0:Tby) {r:Tby} (h:G70 x0=some r):P70 x0=true:=by unfold P70; rw [hold_eq,h]; rfl
theorem F70_of (x0:Tby) {r:Tby} (h:G70 x0=some r):F70 x0=r:=by unfold F70; rw [hold_eq,h]; rfl
def spec70:Spec:=⟨[.str],[.dat .str],fun | [a0]=>P70 (a0.as .str) | _=>false,fun | [a0]=>[⟨.str,(F70 (a0.as .str))⟩] | _=>[]⟩
theorem meets70 (hE:EnvOk Tryd.prog env70) (hm:Tryd.prog.follows .mixedOrders=true) (hI76:IterOk Tryd.prog glob 76 I76):Meets Tryd.prog glob 70 spec70 :=
 meets_of_ev2 (O:=orc70) (L:=loops70) (c:=body70) (slots:=[2]) hE hm Tryd.func70 Tryd.call70 (by kernel_rfl) (by kernel_rfl) loops70_ok (ranges70_ok hE hm hI76) (by kernel_rfl) rfl (by decide) (fun ds hds hpre=>by
 obtain ⟨x0,ds0,rfl,h0⟩:=datsS hds
 have h9:=dats0 h0; subst h9
 exact ev_ret (un:=fun r=>[⟨.str,r⟩]) loops70_nat (fun _=>rfl) ((ev70 x0).trans (G70_some x0 hpre)))
def pin69:Shape:=[(.slot 0,.dat (.list .str)),(.slot 1,.ptr 50000 0),(.box 50000,.bx 9 1),(.cell 50000 0,.dat .str)]
def pout69:Shape:=[(.slot 0,.dat .str),(.box 50000,.bx 9 1),(.cell 50000 0,.dat .str)]
def env69:Env:={
 tab:=tab
 glob:=glob
 spec:=fun
  | 70=>some spec70
  | 71=>some spec71
  | _=>none
 bldT:=bldT
 bld:=bldF }
def orc69:Orc:=⟨9,fun _=>none,fun
 | 0=>kp [0,1] [(50000,[0])]
 | 1=>kp [3] [(50000,[0])]
 | _=>[],fun | _=>false⟩
noncomputable def body69:Code:=Tryd.f69.body.getD .skip
def loops69:Nat→Option (Sum):=fun | _=>none
theorem loops69_ok:LoopsOk env69 orc69 loops69 body69:=loopsOk_nil (by kernel_rfl)
def G69 (x0:Tll) (x1:Tby):Option (Tby×(Unit×(Tby×Unit))) :=
 bif (P71 x0 ([]:List UInt8)) then
 let v1:Tby:=(F71 x0 ([]:List UInt8))
 bif (decide (List.length x1+List.length v1≤9223372036854775807)) then
 let v2:Tby:=(x1++v1)
 bif (P70 v2) then
 let v3:Tby:=(F70 v2)
 some (v3,((),(x1,())))
 else none
 else none
 else none
def P69 (x0:Tll) (x1:Tby):Bool:=(hold (G69 x0 x1)).isSome
def F69 (x0:Tll) (x1:Tby):(Tby×(Unit×(Tby×Unit))):=(hold (G69 x0 x1)).getD (Tup.zero pout69)
theorem P69_of (x0:Tll) (x1:Tby) {r:(Tby×(Unit×(Tby×Unit)))} (h:G69 x0 x1=some r):P69 x0 x1=true:=by unfold P69; rw [hold_eq,h]; rfl
theorem F69_of (x0:Tll) (x1:Tby) {r:(Tby×(Unit×(Tby×Unit)))} (h:G69 x0 x1=some r):F69 x0 x1=r:=by unfold F69; rw [hold_eq,h]; rfl
theorem ev69 (x0:Tll) (x1:Tby):ev2 env69 orc69 loops69 body69 (mkSt pin69 (x0,((),((),(x1,()))))) (retK3 env69 [.slot 3] pout69)=G69 x0 x1:=by kernel_rfl
def sp69:Spec2:=⟨pin69,pout69,fun s=>hold (G69 s.1 s.2.2.2.1)⟩
theorem fit69:Fit Tryd.f69 [.slot 3] sp69:=⟨by kernel_rfl,by kernel_rfl,by kernel_rfl,by kernel_rfl,by kernel_rfl,by decide,by decide,by decide⟩
theorem meets69 (hE:EnvOk Tryd.prog env69) (hm:Tryd.prog.follows .mixedOrders=true):Meets2 Tryd.prog glob 69 sp69 :=
 meets2_of_ev2 (O:=orc69) (L:=loops69) (c:=body69) (rs:=[.slot 3]) hE (fun _=>rfl) hm Tryd.func69 Tryd.call69 (by kernel_rfl) (by kernel_rfl) loops69_ok (rangesOk_nil (by kernel_rfl)) fit69 (fun s o h=>(ev69 s.1 s.2.2.2.1).trans ((hold_eq _).symm.trans h))
def env35:Env:={
 tab:=tab
 glob:=glob
 spec:=fun
  | _=>none
 spec2:=fun
  | 56,[]=>some sp56
  | 69,[]=>some sp69
  | _,_=>none
 bldT:=bldT
 bld:=bldF }
def orc35:Orc:=⟨10,fun _=>none,fun
 | 0=>kp [0,1] []
 | 1=>kp [4] []
 | _=>[],fun | _=>false⟩
noncomputable def body35:Code:=Tryd.f35.body.getD .skip
def loops35:Nat→Option (Sum):=fun | _=>none
theorem loops35_nat:∀ q f,loops35 q=some f→Natural f:=by
 intro q f h
 cases h
theorem loops35_ok:LoopsOk env35 orc35 loops35 body35:=loopsOk_nil (by kernel_rfl)
def G35 (x0:Tby) (x1:Tby):Option (Tby) :=
 bif (P56 ([2]:List UInt8)) then
 let q1:(Unit×(Unit×(Tby×Unit))):=F56 ([2]:List UInt8)
 let v2:Tll:=(List.set (List.set (List.replicate 2 ([]:List UInt8)) 0 x0) 1 x1)
 bif (P69 v2 q1.2.2.1) then
 let q3:(Tby×(Unit×(Tby×Unit))):=F69 v2 q1.2.2.1
 some (q3.1)
 else none
 else none
theorem ev35 (x0:Tby) (x1:Tby):ev2 env35 orc35 loops35 body35 (initSt 0 [⟨.str,x0⟩,⟨.str,x1⟩]) (retT [(4,.dat .str)] [.str] fun x=>x.1)=G35 x0 x1:=by kernel_rfl
def P35 (x0:Tby) (x1:Tby):Bool:=(hold (G35 x0 x1)).isSome
def F35 (x0:Tby) (x1:Tby):Tby:=(hold (G35 x0 x1)).getD default
theorem G35_some (x0:Tby) (x1:Tby) (h:P35 x0 x1=true):G35 x0 x1=some (F35 x0 x1):=by
 unfold P35 at h; unfold F35
 rw [hold_eq] at h ⊢
 exact some_getD h
theorem P35_of (x0:Tby) (x1:Tby) {r:Tby} (h:G35 x0 x1=some r):P35 x0 x1=true:=by unfold P35; rw [hold_eq,h]; rfl
theorem F35_of (x0:Tby) (x1:Tby) {r:Tby} (h:G35 x0 x1=some r):F35 x0 x1=r:=by unfold F35; rw [hold_eq,h]; rfl
def spec35:Spec:=⟨[.str,.str],[.dat .str],fun | [a0,a1]=>P35 (a0.as .str) (a1.as .str) | _=>false,fun | [a0,a1]=>[⟨.str,(F35 (a0.as .str) (a1.as .str))⟩] | _=>[]⟩
theorem meets35 (hE:EnvOk Tryd.prog env35) (hm:Tryd.prog.follows .mixedOrders=true):Meets Tryd.prog glob 35 spec35 :=
 meets_of_ev2 (O:=orc35) (L:=loops35) (c:=body35) (slots:=[4]) hE hm Tryd.func35 Tryd.call35 (by kernel_rfl) (by kernel_rfl) loops35_ok (rangesOk_nil (by kernel_rfl)) (by kernel_rfl) rfl (by decide) (fun ds hds hpre=>by
 obtain ⟨x0,ds0,rfl,h0⟩:=datsS hds
 obtain ⟨x1,ds1,rfl,h1⟩:=datsS h0
 have h9:=dats0 h1; subst h9
 exact ev_ret (un:=fun r=>[⟨.str,r⟩]) loops35_nat (fun _=>rfl) ((ev35 x0 x1).trans (G35_some x0 x1 hpre)))
def env9:Env:={
 tab:=tab
 glob:=glob
 spec:=fun
  | 6=>some spec6
  | 34=>some spec34
  | 35=>some spec35
  | _=>none
 spec2:=fun
  | 33,[]=>some sp33
  | _,_=>none
 bldT:=bldT
 bld:=bldF }
def orc9:Orc:=⟨42,fun _=>none,fun
 | 0=>kp [1] [(1,[0,1,2])]
 | 1=>kp [4,5] [(1400013,[0,1,2,3])]
 | 2=>kp [4,17] [(1400013,[0,1,2,3])]
 | 3=>kp [2,3] []
 | 4=>kp [4,6] [(1400013,[0,1,2,3])]
 | 5=>kp [6,23,24,25] []
 | 6=>kp [6,23,24,25,26] []
 | 7=>kp [6,8,23,24,25] [(8,[0,1,2,3,4,5,6])]
 | 8=>kp [6,9,10,23,24,25] []
 | 9=>kp [6,9,10,23,24,25,35] []
 | 10=>kp [2,3] []
 | 11=>kp [6,23,24,25] []
 | 12=>kp [6,23,24,25] []
 | 13=>kp [2,3] []
 | _=>[],fun | _=>false⟩
noncomputable def body9:Code:=Tryd.f9.body.getD .skip
abbrev L9_6_T:Type:=Tby×Tlp×Int×Int
def L9_6_sh:Shape:=[(.slot 6,.dat .str),(.slot 23,.dat (.list t26)),(.slot 24,.dat (.int .i64)),(.slot 25,.dat (.int .i64))]
def L9_6_x0:Shape:=[(.slot 2,.dat .str),(.slot 3,.dat (.int .i64))]
def L9_6_x1:Shape:=[(.slot 6,.dat .str),(.slot 23,.dat (.list t26)),(.slot 24,.dat (.int .i64)),(.slot 25,.dat (.int .i64))]
def L9_6_pk (s:Tup L9_6_sh):L9_6_T:=(s.1,s.2.1,s.2.2.1,s.2.2.2.1)
def L9_6_un (s:Tby×Tlp×Int×Int):Tup L9_6_sh:=(s.1,(s.2.1,(s.2.2.1,(s.2.2.2,()))))
def L9_6_leave (x:(Tby×Int)⊕L9_6_T) (R:Type) (K:Cont R):Option R:=match x with
 | (.inl a)=>K .ret (mkSt L9_6_x0 (a.1,(a.2,())))
 | (.inr a)=>K (.exit 0) (mkSt L9_6_x1 (a.1,(a.2.1,(a.2.2.1,(a.2.2.2,())))))
def L9_6_d (e:Exit) (st:St):Option ((Tby×Int)⊕L9_6_T):=match e with
 | .ret=>(match unSt L9_6_x0 st with
  | some s=>some (.inl (s.1,s.2.1))
  | none=>none)
 | .exit 0=>(match unSt L9_6_x1 st with
  | some s=>some (.inr (s.1,s.2.1,s.2.2.1,s.2.2.2.1))
  | none=>none)
 | _=>none
def L9_6_r (s0:Tby) (s1:Tlp) (s2:Int) (s3:Int):Option (L9_6_T⊕((Tby×Int)⊕L9_6_T)) :=
 let v5:Bool:=(decide (s3 < s2))
 bif v5 then
 bif (decide (0≤s3) && decide (s3 < List.length s1)) then
 let v6:D26:=(List.getD s1 (Int.toNat s3) z26)
 bif (P6 v6) then
 let v7:(Tby×Int):=(F6 v6)
 let v8:Bool:=(v7.2 != (0:Int))
 bif v8 then
 some (.inr (.inl (([]:List UInt8),v7.2)))
 else
 bif (P35 s0 v7.1) then
 let v9:Tby:=(F35 s0 v7.1)
 let v10:Int:=(IntKind.i64.wrap (s3+(1:Int)))
 some (.inl (v9,s1,s2,v10))
 else none
 else none
 else none
 else
 some (.inr (.inr (s0,s1,s2,s3)))
def L9_6:L9_6_T→Option ((Tby×Int)⊕L9_6_T):=Lim (fun s=>L9_6_r s.1 s.2.1 s.2.2.1 s.2.2.2)
def L9_6_sum:Sum:=limSum L9_6_sh L9_6_pk (fun s=>L9_6_r s.1 s.2.1 s.2.2.1 s.2.2.2) L9_6_leave
theorem L9_6_nat:Natural L9_6_sum:=natural_lim fun x R K=>by
 rcases x with x|x<;>rfl
theorem L9_6_dok:∀ e st x,e≠.normal→L9_6_d e st=some x→∀ R (K:Cont R),K e st=L9_6_leave x R K:=by
 intro e st x _ h R K
 unfold L9_6_d at h
 split at h
 ·split at h
  ·rename_i s hs; cases h; rw [unSt_some hs]; rfl
  ·cases h
 ·split at h
  ·rename_i s hs; cases h; rw [unSt_some hs]; rfl
  ·cases h
 ·cases h
def loops9:Nat→Option (Sum):=fun | 6=>some L9_6_sum | _=>none
theorem loops9_nat:∀ q f,loops9 q=some f→Natural f:=by
 intro q f h
 unfold loops9 at h
 split at h
 ·cases h; exact L9_6_nat
 ·cases h
noncomputable def L9_6_code:Code:=(loopsOf body9).getD 0 .skip
theorem L9_6_round (s0:Tby) (s1:Tlp) (s2:Int) (s3:Int):ev2 env9 orc9 loops9 L9_6_code (mkSt L9_6_sh (s0,(s1,(s2,(s3,()))))) (back L9_6_sh L9_6_pk L9_6_d)=L9_6_r s0 s1 s2 s3:=by kernel_rfl
theorem L9_6_ok:SumOk env9 orc9 loops9 L9_6_code L9_6_sum:=sumOk_lim (un:=L9_6_un) loops9_nat (fun _=>rfl) L9_6_dok fun s=>L9_6_round s.1 s.2.1 s.2.2.1 s.2.2.2
theorem loops9_all:loopsOf body9=[L9_6_code]:=by kernel_rfl
theorem L9_6_key:lookL loops9 (keyOf L9_6_code)=some L9_6_sum:=by kernel_rfl
theorem loops9_ok:LoopsOk env9 orc9 loops9 body9:=by
 intro c hc f hf
 rw [loops9_all] at hc
 simp only [List.mem_cons,List.not_mem_nil,or_false] at hc
 subst hc
 ·rw [L9_6_key] at hf; cases hf; exact L9_6_ok
def G9 (x0:D23):Option (Tby×Int) :=
 bif (P33 x0) then
 let q1:(Bool×(Bool×(Unit×(Int×(Tlp×(Int×((List Bool)×Unit))))))):=F33 x0
 let v2:Bool:=(!q1.2.1)
 bif v2 then
 some (([]:List UInt8),(310:Int))
 else
 bif (P34 ([0]:List UInt8) (32:Int)) then
 let v3:Tby:=(F34 ([0]:List UInt8) (32:Int))
 bif (q1.1) then
 let v4:Int:=(((List.length q1.2.2.2.2.1):Nat):Int)
 Option.bind (L9_6 (v3,(List.take (List.length q1.2.2.2.2.1) q1.2.2.2.2.1),v4,(0:Int))) fun x=>match x with
 | (.inl r11) =>
 some (r11.1,r11.2)
 | (.inr r12) =>
 some (r12.1,(0:Int))
 else none
 else none
 else none
theorem ev9 (x0:D23):ev2 env9 orc9 loops9 body9 (initSt 0 [⟨t23,x0⟩]) (retT [(2,.dat .str),(3,.dat (.int .i64))] [.str,(.int .i64)] fun x=>(x.1,x.2.1))=G9 x0:=by kernel_rfl
def P9 (x0:D23):Bool:=(hold (G9 x0)).isSome
def F9 (x0:D23):Tby×Int:=(hold (G9 x0)).getD default
theorem G9_some (x0:D23) (h:P9 x0=true):G9 x0=some (F9 x0):=by
 unfold P9 at h; unfold F9
 rw [hold_eq] at h ⊢
 exact some_getD h
theorem P9_of (x0:D23) {r:Tby×Int} (h:G9 x0=some r):P9 x0=true:=by unfold P9; rw [hold_eq,h]; rfl
theorem F9_of (x0:D23) {r:Tby×Int} (h:G9 x0=some r):F9 x0=r:=by unfold F9; rw [hold_eq,h]; rfl
def spec9:Spec:=⟨[t23],[.dat .str,.dat (.int .i64)],fun | [a0]=>P9 (a0.as t23) | _=>false,fun | [a0]=>[⟨.str,(F9 (a0.as t23)).1⟩,⟨(.int .i64),(F9 (a0.as t23)).2⟩] | _=>[]⟩
theorem meets9 (hE:EnvOk Tryd.prog env9) (hm:Tryd.prog.follows .mixedOrders=true):Meets Tryd.prog glob 9 spec9 :=
 meets_of_ev2 (O:=orc9) (L:=loops9) (c:=body9) (slots:=[2,3]) hE hm Tryd.func9 Tryd.call9 (by kernel_rfl) (by kernel_rfl) loops9_ok (rangesOk_nil (by kernel_rfl)) (by kernel_rfl) rfl (by decide) (fun ds hds hpre=>by
 obtain ⟨x0,ds0,rfl,h0⟩:=datsS hds
 have h9:=dats0 h0; subst h9
 exact ev_ret (un:=fun r=>[⟨.str,r.1⟩,⟨(.int .i64),r.2⟩]) loops9_nat (fun _=>rfl) ((ev9 x0).trans (G9_some x0 hpre)))
def env36:Env:={
 tab:=tab
 glob:=glob
 spec:=fun
  | 7=>some spec7
  | _=>none
 bldT:=bldT
 bld:=bldF }
def orc36:Orc:=⟨29,fun _=>none,fun
 | 0=>kp [0] []
 | 1=>kp [0,4] []
 | 2=>kp [0,4,5] []
 | 3=>kp [0,4,5,11] []
 | 4=>kp [0,4,5] []
 | 5=>kp [0,4,5,6,7] []
 | 6=>kp [0,4,5,6,23] []
 | 7=>kp [2,3] []
 | 8=>kp [0,4,5] []
 | 9=>kp [2,3] []
 | _=>[],fun | _=>false⟩
noncomputable def body36:Code:=Tryd.f36.body.getD .skip
abbrev L36_3_T:Type:=Tlp×Tll×Int
def L36_3_sh:Shape:=[(.slot 0,.dat (.list t26)),(.slot 4,.own 9 .str),(.slot 5,.dat (.int .i64))]
def L36_3_x0:Shape:=[(.slot 2,.own 9 .str),(.slot 3,.dat .bool)]
def L36_3_x1:Shape:=[(.slot 0,.dat (.list t26)),(.slot 4,.own 9 .str),(.slot 5,.dat (.int .i64))]
def L36_3_pk (s:Tup L36_3_sh):L36_3_T:=(s.1,s.2.1,s.2.2.1)
def L36_3_un (s:Tlp×Tll×Int):Tup L36_3_sh:=(s.1,(s.2.1,(s.2.2,())))
def L36_3_leave (x:(Tll×Bool)⊕L36_3_T) (R:Type) (K:Cont R):Option R:=match x with
 | (.inl a)=>K .ret (mkSt L36_3_x0 (a.1,(a.2,())))
 | (.inr a)=>K (.exit 0) (mkSt L36_3_x1 (a.1,(a.2.1,(a.2.2,()))))
def L36_3_d (e:Exit) (st:St):Option ((Tll×Bool)⊕L36_3_T):=match e with
 | .ret=>(match unSt L36_3_x0 st with
  | some s=>some (.inl (s.1,s.2.1))
  | none=>none)
 | .exit 0=>(match unSt L36_3_x1 st with
  | some s=>some (.inr (s.1,s.2.1,s.2.2.1))
  | none=>none)
 | _=>none
def L36_3_r (s0:Tlp) (s1:Tll) (s2:Int):Option (L36_3_T⊕((Tll×Bool)⊕L36_3_T)) :=
 let v3:Int:=((List.length s0:Nat):Int)
 let v4:Bool:=(decide (s2 < v3))
 bif v4 then
 bif (decide (0≤s2) && decide (s2 < List.length s0)) then
 let v5:D26:=(List.getD s0 (Int.toNat s2) z26)
 bif (P7 v5) then
 let v6:(Tby×Int):=(F7 v5)
 let v7:Bool:=(v6.2 != (0:Int))
 bif v7 then
 let v8:Tll:=([]:Tll)
 some (.inr (.inl (v8,false)))
 else
 let v9:Tll:=(List.set (List.replicate 1 ([]:List UInt8)) 0 v6.1)
 bif (decide (List.length (List.take (List.length s1) s1)+List.length v9≤100000000000)) then
 let v10:Tll:=((List.take (List.length s1) s1)++v9)
 let v11:Int:=(IntKind.i64.wrap (s2+(1:Int)))
 some (.inl (s0,v10,v11))
 else none
 else none
 else none
 else
 some (.inr (.inr (s0,s1,s2)))
def L36_3:L36_3_T→Option ((Tll×Bool)⊕L36_3_T):=Lim (fun s=>L36_3_r s.1 s.2.1 s.2.2)
def L36_3_sum:Sum:=limSum L36_3_sh L36_3_pk (fun s=>L36_3_r s.1 s.2.1 s.2.2) L36_3_leave
theorem L36_3_nat:Natural L36_3_sum:=natural_lim fun x R K=>by
 rcases x with x|x<;>rfl
theorem L36_3_dok:∀ e st x,e≠.normal→L36_3_d e st=some x→∀ R (K:Cont R),K e st=L36_3_leave x R K:=by
 intro e st x _ h R K
 unfold L36_3_d at h
 split at h
 ·split at h
  ·rename_i s hs; cases h; rw [unSt_some hs]; rfl
  ·cases h
 ·split at h
  ·rename_i s hs; cases h; rw [unSt_some hs]; rfl
  ·cases h
 ·cases h
def loops36:Nat→Option (Sum):=fun | 3=>some L36_3_sum | _=>none
theorem loops36_nat:∀ q f,loops36 q=some f→Natural f:=by
 intro q f h
 unfold loops36 at h
 split at h
 ·cases h; exact L36_3_nat
 ·cases h
noncomputable def L36_3_code:Code:=(loopsOf body36).getD 0 .skip
theorem L36_3_round (s0:Tlp) (s1:Tll) (s2:Int):ev2 env36 orc36 loops36 L36_3_code (mkSt L36_3_sh (s0,(s1,(s2,())))) (back L36_3_sh L36_3_pk L36_3_d)=L36_3_r s0 s1 s2:=by kernel_rfl
theorem L36_3_ok:SumOk env36 orc36 loops36 L36_3_code L36_3_sum:=sumOk_lim (un:=L36_3_un) loops36_nat (fun _=>rfl) L36_3_dok fun s=>L36_3_round s.1 s.2.1 s.2.2
theorem loops36_all:loopsOf body36=[L36_3_code]:=by kernel_rfl
theorem L36_3_key:lookL loops36 (keyOf L36_3_code)=some L36_3_sum:=by kernel_rfl
theorem loops36_ok:LoopsOk env36 orc36 loops36 body36:=by
 intro c hc f hf
 rw [loops36_all] at hc
 simp only [List.mem_cons,List.not_mem_nil,or_false] at hc
 subst hc
 ·rw [L36_3_key] at hf; cases hf; exact L36_3_ok
def G36 (x0:Tlp):Option (Tll×Bool) :=
 let v1:Tll:=([]:Tll)
 let v2:Tll:=([]:Tll)
 Option.bind (L36_3 (x0,v2,(0:Int))) fun x=>match x with
 | (.inl r12) =>
 some (r12.1,r12.2)
 | (.inr r13) =>
 let v14:Tll:=(List.take (List.length r13.2.1) r13.2.1)
 some (v14,true)
theorem ev36 (x0:Tlp):ev2 env36 orc36 loops36 body36 (initSt 0 [⟨(.list t26),x0⟩]) (retT [(2,.dat (.list .str)),(3,.dat .bool)] [(.list .str),.bool] fun x=>(x.1,x.2.1))=G36 x0:=by kernel_rfl
def P36 (x0:Tlp):Bool:=(hold (G36 x0)).isSome
def F36 (x0:Tlp):Tll×Bool:=(hold (G36 x0)).getD default
theorem G36_some (x0:Tlp) (h:P36 x0=true):G36 x0=some (F36 x0):=by
 unfold P36 at h; unfold F36
 rw [hold_eq] at h ⊢
 exact some_getD h
theorem P36_of (x0:Tlp) {r:Tll×Bool} (h:G36 x0=some r):P36 x0=true:=by unfold P36; rw [hold_eq,h]; rfl
theorem F36_of (x0:Tlp) {r:Tll×Bool} (h:G36 x0=some r):F36 x0=r:=by unfold F36; rw [hold_eq,h]; rfl
def spec36:Spec:=⟨[(.list t26)],[.dat (.list .str),.dat .bool],fun | [a0]=>P36 (a0.as (.list t26)) | _=>false,fun | [a0]=>[⟨(.list .str),(F36 (a0.as (.list t26))).1⟩,⟨.bool,(F36 (a0.as (.list t26))).2⟩] | _=>[]⟩
theorem meets36 (hE:EnvOk Tryd.prog env36) (hm:Tryd.prog.follows .mixedOrders=true):Meets Tryd.prog glob 36 spec36 :=
 meets_of_ev2 (O:=orc36) (L:=loops36) (c:=body36) (slots:=[2,3]) hE hm Tryd.func36 Tryd.call36 (by kernel_rfl) (by kernel_rfl) loops36_ok (rangesOk_nil (by kernel_rfl)) (by kernel_rfl) rfl (by decide) (fun ds hds hpre=>by
 obtain ⟨x0,ds0,rfl,h0⟩:=datsS hds
 have h9:=dats0 h0; subst h9
 exact ev_ret (un:=fun r=>[⟨(.list .str),r.1⟩,⟨.bool,r.2⟩]) loops36_nat (fun _=>rfl) ((ev36 x0).trans (G36_some x0 hpre)))
def env38:Env:={
 tab:=tab
 glob:=glob
 spec:=fun
  | _=>none
 bldT:=bldT
 bld:=bldF }
def orc38:Orc:=⟨43,fun _=>none,fun
 | 0=>kp [0] []
 | 1=>kp [0,3] []
 | 2=>kp [0,3,4] []
 | 3=>kp [0,3,4,9] []
 | 4=>kp [0,3,4] []
 | 5=>kp [0,3,4] []
 | 6=>kp [0,3] []
 | 7=>kp [0,3,24] []
 | 8=>kp [0,3] []
 | 9=>kp [0,3,5] []
 | 10=>kp [0,3,5,29] []
 | 11=>kp [0,3,5] []
 | 12=>kp [0,3,5] []
 | 13=>kp [2] []
 | _=>[],fun | _=>false⟩
noncomputable def body38:Code:=Tryd.f38.body.getD .skip
abbrev L38_10_T:Type:=Tby×Tin×Int
def L38_10_sh:Shape:=[(.slot 0,.dat .str),(.slot 3,.own 5 (.int .u8)),(.slot 5,.dat (.int .i64))]
def L38_10_x0:Shape:=[(.slot 0,.dat .str),(.slot 3,.own 5 (.int .u8)),(.slot 5,.dat (.int .i64))]
def L38_10_pk (s:Tup L38_10_sh):L38_10_T:=(s.1,s.2.1,s.2.2.1)
def L38_10_un (s:Tby×Tin×Int):Tup L38_10_sh:=(s.1,(s.2.1,(s.2.2,())))
def L38_10_leave (x:L38_10_T) (R:Type) (K:Cont R):Option R:=match x with
 | a=>K (.exit 4) (mkSt L38_10_x0 (a.1,(a.2.1,(a.2.2,()))))
def L38_10_d (e:Exit) (st:St):Option (L38_10_T):=match e with
 | .exit 4=>(match unSt L38_10_x0 st with
  | some s=>some (s.1,s.2.1,s.2.2.1)
  | none=>none)
 | _=>none
def L38_10_r (s0:Tby) (s1:Tin) (s2:Int):Option (L38_10_T⊕(L38_10_T)) :=
 let v18:Bool:=(decide (s2≥(0:Int)))
 bif v18 then
 let v19:Int:=((List.length s0:Nat):Int)
 let v20:Int:=(IntKind.i64.wrap ((8:Int) * v19))
 let v21:Int:=(IntKind.i64.wrap ((8:Int) * s2))
 bif (decide (0≤v21)) then
 let v22:Int:=(Int.fdiv v20 (2 ^ min (Int.toNat v21) (IntKind.i64.bits)))
 let v23:Int:=(IntKind.u8.wrap v22)
 let v24:Tin:=(List.set (List.replicate 1 (0:Int)) 0 v23)
 bif (decide (List.length (List.take (List.length s1) s1)+List.length v24≤100000000000)) then
 let v25:Tin:=((List.take (List.length s1) s1)++v24)
 let v26:Int:=(IntKind.i64.wrap (s2 - (1:Int)))
 some (.inl (s0,v25,v26))
 else none
 else none
 else
 some (.inr (s0,s1,s2))
def L38_10:L38_10_T→Option (L38_10_T):=Lim (fun s=>L38_10_r s.1 s.2.1 s.2.2)
def L38_10_sum:Sum:=limSum L38_10_sh L38_10_pk (fun s=>L38_10_r s.1 s.2.1 s.2.2) L38_10_leave
theorem L38_10_nat:Natural L38_10_sum:=natural_lim fun x R K=>by
 rfl
theorem L38_10_dok:∀ e st x,e≠.normal→L38_10_d e st=some x→∀ R (K:Cont R),K e st=L38_10_leave x R K:=by
 intro e st x _ h R K
 unfold L38_10_d at h
 split at h
 ·split at h
  ·rename_i s hs; cases h; rw [unSt_some hs]; rfl
  ·cases h
 ·cases h
abbrev L38_7_T:Type:=Tby×Tin
def L38_7_sh:Shape:=[(.slot 0,.dat .str),(.slot 3,.own 5 (.int .u8))]
def L38_7_x0:Shape:=[(.slot 0,.dat .str),(.slot 3,.own 5 (.int .u8))]
def L38_7_pk (s:Tup L38_7_sh):L38_7_T:=(s.1,s.2.1)
def L38_7_un (s:Tby×Tin):Tup L38_7_sh:=(s.1,(s.2,()))
def L38_7_leave (x:L38_7_T) (R:Type) (K:Cont R):Option R:=match x with
 | a=>K (.exit 2) (mkSt L38_7_x0 (a.1,(a.2,())))
def L38_7_d (e:Exit) (st:St):Option (L38_7_T):=match e with
 | .exit 2=>(match unSt L38_7_x0 st with
  | some s=>some (s.1,s.2.1)
  | none=>none)
 | _=>none
def L38_7_r (s0:Tby) (s1:Tin):Option (L38_7_T⊕(L38_7_T)) :=
 let v12:Int:=(((List.length s1):Nat):Int)
 let v13:Int:=(Int.tmod v12 (64:Int))
 let v14:Bool:=(v13 != (56:Int))
 bif v14 then
 let v15:Tin:=(List.set (List.replicate 1 (0:Int)) 0 (0:Int))
 bif (decide (List.length (List.take (List.length s1) s1)+List.length v15≤100000000000)) then
 let v16:Tin:=((List.take (List.length s1) s1)++v15)
 some (.inl (s0,v16))
 else none
 else
 some (.inr (s0,s1))
def L38_7:L38_7_T→Option (L38_7_T):=Lim (fun s=>L38_7_r s.1 s.2)
def L38_7_sum:Sum:=limSum L38_7_sh L38_7_pk (fun s=>L38_7_r s.1 s.2) L38_7_leave
theorem L38_7_nat:Natural L38_7_sum:=natural_lim fun x R K=>by
 rfl
theorem L38_7_dok:∀ e st x,e≠.normal→L38_7_d e st=some x→∀ R (K:Cont R),K e st=L38_7_leave x R K:=by
 intro e st x _ h R K
 unfold L38_7_d at h
 split at h
 ·split at h
  ·rename_i s hs; cases h; rw [unSt_some hs]; rfl
  ·cases h
 ·cases h
abbrev L38_3_T:Type:=Tby×Tin×Int
def L38_3_sh:Shape:=[(.slot 0,.dat .str),(.slot 3,.own 5 (.int .u8)),(.slot 4,.dat (.int .i64))]
def L38_3_x0:Shape:=[(.slot 0,.dat .str),(.slot 3,.own 5 (.int .u8)),(.slot 4,.dat (.int .i64))]
def L38_3_pk (s:Tup L38_3_sh):L38_10_T:=(s.1,s.2.1,s.2.2.1)
def L38_3_un (s:Tby×Tin×Int):Tup L38_3_sh:=(s.1,(s.2.1,(s.2.2,())))
def L38_3_leave (x:L38_10_T) (R:Type) (K:Cont R):Option R:=match x with
 | a=>K (.exit 0) (mkSt L38_3_x0 (a.1,(a.2.1,(a.2.2,()))))
def L38_3_d (e:Exit) (st:St):Option (L38_10_T):=match e with
 | .exit 0=>(match unSt L38_3_x0 st with
  | some s=>some (s.1,s.2.1,s.2.2.1)
  | none=>none)
 | _=>none
def L38_3_r (s0:Tby) (s1:Tin) (s2:Int):Option (L38_10_T⊕(L38_10_T)) :=
 let v3:Int:=((List.length s0:Nat):Int)
 let v4:Bool:=(decide (s2 < v3))
 bif v4 then
 bif (decide (0≤s2) && decide (s2 < List.length s0)) then
 let v5:Int:=((List.getD s0 (Int.toNat s2) 0).toNat:Int)
 let v6:Tin:=(List.set (List.replicate 1 (0:Int)) 0 v5)
 bif (decide (List.length (List.take (List.length s1) s1)+List.length v6≤100000000000)) then
 let v7:Tin:=((List.take (List.length s1) s1)++v6)
 let v8:Int:=(IntKind.i64.wrap (s2+(1:Int)))
 some (.inl (s0,v7,v8))
 else none
 else none
 else
 some (.inr (s0,s1,s2))
def L38_3:L38_10_T→Option (L38_10_T):=Lim (fun s=>L38_3_r s.1 s.2.1 s.2.2)
def L38_3_sum:Sum:=limSum L38_3_sh L38_3_pk (fun s=>L38_3_r s.1 s.2.1 s.2.2) L38_3_leave
theorem L38_3_nat:Natural L38_3_sum:=natural_lim fun x R K=>by
 rfl
theorem L38_3_dok:∀ e st x,e≠.normal→L38_3_d e st=some x→∀ R (K:Cont R),K e st=L38_3_leave x R K:=by
 intro e st x _ h R K
 unfold L38_3_d at h
 split at h
 ·split at h
  ·rename_i s hs; cases h; rw [unSt_some hs]; rfl
  ·cases h
 ·cases h
def loops38:Nat→Option (Sum):=fun | 3=>some L38_3_sum | 7=>some L38_7_sum | 10=>some L38_10_sum | _=>none
theorem loops38_nat:∀ q f,loops38 q=some f→Natural f:=by
 intro q f h
 unfold loops38 at h
 split at h
 ·cases h; exact L38_3_nat
 ·cases h; exact L38_7_nat
 ·cases h; exact L38_10_nat
 ·cases h
noncomputable def L38_3_code:Code:=(loopsOf body38).getD 0 .skip
theorem L38_3_round (s0:Tby) (s1:Tin) (s2:Int):ev2 env38 orc38 loops38 L38_3_code (mkSt L38_3_sh (s0,(s1,(s2,())))) (back L38_3_sh L38_3_pk L38_3_d)=L38_3_r s0 s1 s2:=by kernel_rfl
theorem L38_3_ok:SumOk env38 orc38 loops38 L38_3_code L38_3_sum:=sumOk_lim (un:=L38_3_un) loops38_nat (fun _=>rfl) L38_3_dok fun s=>L38_3_round s.1 s.2.1 s.2.2
noncomputable def L38_7_code:Code:=(loopsOf body38).getD 1 .skip
theorem L38_7_round (s0:Tby) (s1:Tin):ev2 env38 orc38 loops38 L38_7_code (mkSt L38_7_sh (s0,(s1,()))) (back L38_7_sh L38_7_pk L38_7_d)=L38_7_r s0 s1:=by kernel_rfl
theorem L38_7_ok:SumOk env38 orc38 loops38 L38_7_code L38_7_sum:=sumOk_lim (un:=L38_7_un) loops38_nat (fun _=>rfl) L38_7_dok fun s=>L38_7_round s.1 s.2
noncomputable def L38_10_code:Code:=(loopsOf body38).getD 2 .skip
theorem L38_10_round (s0:Tby) (s1:Tin) (s2:Int):ev2 env38 orc38 loops38 L38_10_code (mkSt L38_10_sh (s0,(s1,(s2,())))) (back L38_10_sh L38_10_pk L38_10_d)=L38_10_r s0 s1 s2:=by kernel_rfl
theorem L38_10_ok:SumOk env38 orc38 loops38 L38_10_code L38_10_sum:=sumOk_lim (un:=L38_10_un) loops38_nat (fun _=>rfl) L38_10_dok fun s=>L38_10_round s.1 s.2.1 s.2.2
theorem loops38_all:loopsOf body38=[L38_3_code,L38_7_code,L38_10_code]:=by kernel_rfl
theorem L38_3_key:lookL loops38 (keyOf L38_3_code)=some L38_3_sum:=by kernel_rfl
theorem L38_7_key:lookL loops38 (keyOf L38_7_code)=some L38_7_sum:=by kernel_rfl
theorem L38_10_key:lookL loops38 (keyOf L38_10_code)=some L38_10_sum:=by kernel_rfl
theorem loops38_ok:LoopsOk env38 orc38 loops38 body38:=by
 intro c hc f hf
 rw [loops38_all] at hc
 simp only [List.mem_cons,List.not_mem_nil,or_false] at hc
 rcases hc with rfl | rfl | rfl
 ·rw [L38_3_key] at hf; cases hf; exact L38_3_ok
 ·rw [L38_7_key] at hf; cases hf; exact L38_7_ok
 ·rw [L38_10_key] at hf; cases hf; exact L38_10_ok
def G38 (x0:Tby):Option (Tin) :=
 let v1:Tin:=([]:Tin)
 let v2:Tin:=([]:Tin)
 Option.bind (L38_3 (x0,v2,(0:Int))) fun (r9:Tby×Tin×Int) =>
 let v10:Tin:=(List.set (List.replicate 1 (0:Int)) 0 (128:Int))
 bif (decide (List.length (List.take (List.length r9.2.1) r9.2.1)+List.length v10≤100000000000)) then
 let v11:Tin:=((List.take (List.length r9.2.1) r9.2.1)++v10)
 Option.bind (L38_7 (r9.1,v11)) fun (r17:Tby×Tin) =>
 Option.bind (L38_10 (r17.1,r17.2,(7:Int))) fun (r27:Tby×Tin×Int) =>
 let v28:Tin:=(List.take (List.length r27.2.1) r27.2.1)
 some (v28)
 else none
theorem ev38 (x0:Tby):ev2 env38 orc38 loops38 body38 (initSt 0 [⟨.str,x0⟩]) (retT [(2,.dat (.list (.int .u8)))] [(.list (.int .u8))] fun x=>x.1)=G38 x0:=by kernel_rfl
def P38 (x0:Tby):Bool:=(hold (G38 x0)).isSome
def F38 (x0:Tby):Tin:=(hold (G38 x0)).getD default
theorem G38_some (x0:Tby) (h:P38 x0=true):G38 x0=some (F38 x0):=by
 unfold P38 at h; unfold F38
 rw [hold_eq] at h ⊢
 exact some_getD h
theorem P38_of (x0:Tby) {r:Tin} (h:G38 x0=some r):P38 x0=true:=by unfold P38; rw [hold_eq,h]; rfl
theorem F38_of (x0:Tby) {r:Tin} (h:G38 x0=some r):F38 x0=r:=by unfold F38; rw [hold_eq,h]; rfl
def spec38:Spec:=⟨[.str],[.dat (.list (.int .u8))],fun | [a0]=>P38 (a0.as .str) | _=>false,fun | [a0]=>[⟨(.list (.int .u8)),(F38 (a0.as .str))⟩] | _=>[]⟩
theorem meets38 (hE:EnvOk Tryd.prog env38) (hm:Tryd.prog.follows .mixedOrders=true):Meets Tryd.prog glob 38 spec38 :=
 meets_of_ev2 (O:=orc38) (L:=loops38) (c:=body38) (slots:=[2]) hE hm Tryd.func38 Tryd.call38 (by kernel_rfl) (by kernel_rfl) loops38_ok (rangesOk_nil (by kernel_rfl)) (by kernel_rfl) rfl (by decide) (fun ds hds hpre=>by
 obtain ⟨x0,ds0,rfl,h0⟩:=datsS hds
 have h9:=dats0 h0; subst h9
 exact ev_ret (un:=fun r=>[⟨(.list (.int .u8)),r⟩]) loops38_nat (fun _=>rfl) ((ev38 x0).trans (G38_some x0 hpre)))
def env58:Env:={
 tab:=tab
 glob:=glob
 spec:=fun
  | _=>none
 bldT:=bldT
 bld:=bldF }
def orc58:Orc:=⟨13,fun _=>none,fun
 | 0=>kp [0,1] []
 | 1=>kp [4] []
 | _=>[],fun | _=>false⟩
noncomputable def body58:Code:=Tryd.f58.body.getD .skip
def loops58:Nat→Option (Sum):=fun | _=>none
theorem loops58_nat:∀ q f,loops58 q=some f→Natural f:=by
 intro q f h
 cases h
theorem loops58_ok:LoopsOk env58 orc58 loops58 body58:=loopsOk_nil (by kernel_rfl)
def G58 (x0:Int) (x1:Int):Option (Int) :=
 bif (decide (0≤x1)) then
 let v1:Int:=(Int.fdiv x0 (2 ^ min (Int.toNat x1) (IntKind.u32.bits)))
 let v2:Int:=(IntKind.i64.wrap ((32:Int) - x1))
 bif (decide (0≤v2)) then
 let v3:Int:=(IntKind.u32.wrap (x0 * 2 ^ min (Int.toNat v2) (IntKind.u32.bits)))
 let v4:Int:=(bits .or .u32 v1 v3)
 some (v4)
 else none
 else none
theorem ev58 (x0:Int) (x1:Int):ev2 env58 orc58 loops58 body58 (initSt 0 [⟨(.int .u32),x0⟩,⟨(.int .i64),x1⟩]) (retT [(4,.dat (.int .u32))] [(.int .u32)] fun x=>x.1)=G58 x0 x1:=by kernel_rfl
def P58 (x0:Int) (x1:Int):Bool:=(hold (G58 x0 x1)).isSome
def F58 (x0:Int) (x1:Int):Int:=(hold (G58 x0 x1)).getD default
theorem G58_some (x0:Int) (x1:Int) (h:P58 x0 x1=true):G58 x0 x1=some (F58 x0 x1):=by
 unfold P58 at h; unfold F58
 rw [hold_eq] at h ⊢
 exact some_getD h
theorem P58_of (x0:Int) (x1:Int) {r:Int} (h:G58 x0 x1=some r):P58 x0 x1=true:=by unfold P58; rw [hold_eq,h]; rfl
theorem F58_of (x0:Int) (x1:Int) {r:Int} (h:G58 x0 x1=some r):F58 x0 x1=r:=by unfold F58; rw [hold_eq,h]; rfl
def spec58:Spec:=⟨[(.int .u32),(.int .i64)],[.dat (.int .u32)],fun | [a0,a1]=>P58 (a0.as (.int .u32)) (a1.as (.int .i64)) | _=>false,fun | [a0,a1]=>[⟨(.int .u32),(F58 (a0.as (.int .u32)) (a1.as (.int .i64)))⟩] | _=>[]⟩
theorem meets58 (hE:EnvOk Tryd.prog env58) (hm:Tryd.prog.follows .mixedOrders=true):Meets Tryd.prog glob 58 spec58 :=
 meets_of_ev2 (O:=orc58) (L:=loops58) (c:=body58) (slots:=[4]) hE hm Tryd.func58 Tryd.call58 (by kernel_rfl) (by kernel_rfl) loops58_ok (rangesOk_nil (by kernel_rfl)) (by kernel_rfl) rfl (by decide) (fun ds hds hpre=>by
 obtain ⟨x0,ds0,rfl,h0⟩:=datsS hds
 obtain ⟨x1,ds1,rfl,h1⟩:=datsS h0
 have h9:=dats0 h1; subst h9
 exact ev_ret (un:=fun r=>[⟨(.int .u32),r⟩]) loops58_nat (fun _=>rfl) ((ev58 x0 x1).trans (G58_some x0 x1 hpre)))
def env59:Env:={
 tab:=tab
 glob:=glob
 spec:=fun
  | _=>none
 bldT:=bldT
 bld:=bldF }
def orc59:Orc:=⟨2,fun _=>none,fun
 | 0=>[]
 | 1=>kp [0] []
 | _=>[],fun | _=>false⟩
noncomputable def body59:Code:=Tryd.f59.body.getD .skip
def loops59:Nat→Option (Sum):=fun | _=>none
theorem loops59_nat:∀ q f,loops59 q=some f→Natural f:=by
 intro q f h
 cases h
theorem loops59_ok:LoopsOk env59 orc59 loops59 body59:=loopsOk_nil (by kernel_rfl)
def G59  : Option (Tin) :=
 let v1:Tin:=([]:Tin)
 let v2:Tin:=(List.set (List.set (List.set (List.set (List.set (List.set (List.set (List.set (List.set (List.set (List.set (List.set (List.set (List.set (List.set (List.set (List.set (List.set (List.set (List.set (List.set (List.set (List.set (List.set (List.set (List.set (List.set (List.set (List.set (List.set (List.set (List.set (List.set (List.set (List.set (List.set (List.set (List.set (List.set (List.set (List.set (List.set (List.set (List.set (List.set (List.set (List.set (List.set (List.set (List.set (List.set (List.set (List.set (List.set (List.set (List.set (List.set (List.set (List.set (List.set (List.set (List.set (List.set (List.set (List.replicate 64 (0:Int)) 0 (1116352408:Int)) 1 (1899447441:Int)) 2 (3049323471:Int)) 3 (3921009573:Int)) 4 (961987163:Int)) 5 (1508970993:Int)) 6 (2453635748:Int)) 7 (2870763221:Int)) 8 (3624381080:Int)) 9 (310598401:Int)) 10 (607225278:Int)) 11 (1426881987:Int)) 12 (1925078388:Int)) 13 (2162078206:Int)) 14 (2614888103:Int)) 15 (3248222580:Int)) 16 (3835390401:Int)) 17 (4022224774:Int)) 18 (264347078:Int)) 19 (604807628:Int)) 20 (770255983:Int)) 21 (1249150122:Int)) 22 (1555081692:Int)) 23 (1996064986:Int)) 24 (2554220882:Int)) 25 (2821834349:Int)) 26 (2952996808:Int)) 27 (3210313671:Int)) 28 (3336571891:Int)) 29 (3584528711:Int)) 30 (113926993:Int)) 31 (338241895:Int)) 32 (666307205:Int)) 33 (773529912:Int)) 34 (1294757372:Int)) 35 (1396182291:Int)) 36 (1695183700:Int)) 37 (1986661051:Int)) 38 (2177026350:Int)) 39 (2456956037:Int)) 40 (2730485921:Int)) 41 (2820302411:Int)) 42 (3259730800:Int)) 43 (3345764771:Int)) 44 (3516065817:Int)) 45 (3600352804:Int)) 46 (4094571909:Int)) 47 (275423344:Int)) 48 (430227734:Int)) 49 (506948616:Int)) 50 (659060556:Int)) 51 (883997877:Int)) 52 (958139571:Int)) 53 (1322822218:Int)) 54 (1537002063:Int)) 55 (1747873779:Int)) 56 (1955562222:Int)) 57 (2024104815:Int)) 58 (2227730452:Int)) 59 (2361852424:Int)) 60 (2428436474:Int)) 61 (2756734187:Int)) 62 (3204031479:Int)) 63 (3329325298:Int))
 some (v2)
theorem ev59  : ev2 env59 orc59 loops59 body59 (initSt 0 []) (retT [(0,.dat (.list (.int .u32)))] [(.list (.int .u32))] fun x=>x.1)=G59  := by kernel_rfl
def P59  : Bool:=(hold (G59 )).isSome
def F59  : Tin:=(hold (G59 )).getD default
theorem G59_some  (h:P59  = true):G59  = some (F59 ):=by
 unfold P59 at h; unfold F59
 rw [hold_eq] at h ⊢
 exact some_getD h
theorem P59_of  {r:Tin} (h:G59  = some r):P59  = true:=by unfold P59; rw [hold_eq,h]; rfl
theorem F59_of  {r:Tin} (h:G59  = some r):F59  = r:=by unfold F59; rw [hold_eq,h]; rfl
def spec59:Spec:=⟨[],[.dat (.list (.int .u32))],fun | []=>P59 | _=>false,fun | []=>[⟨(.list (.int .u32)),F59⟩] | _=>[]⟩
theorem meets59 (hE:EnvOk Tryd.prog env59) (hm:Tryd.prog.follows .mixedOrders=true):Meets Tryd.prog glob 59 spec59 :=
 meets_of_ev2 (O:=orc59) (L:=loops59) (c:=body59) (slots:=[0]) hE hm Tryd.func59 Tryd.call59 (by kernel_rfl) (by kernel_rfl) loops59_ok (rangesOk_nil (by kernel_rfl)) (by kernel_rfl) rfl (by decide) (fun ds hds hpre=>by
 have h9:=dats0 hds; subst h9
 exact ev_ret (un:=fun r=>[⟨(.list (.int .u32)),r⟩]) loops59_nat (fun _=>rfl) ((ev59 ).trans (G59_some  hpre)))
def env39:Env:={
 tab:=tab
 glob:=glob
 spec:=fun
  | 58=>some spec58
  | 59=>some spec59
  | _=>none
 bldT:=bldT
 bld:=bldF }
def orc39:Orc:=⟨238,fun _=>none,fun
 | 0=>kp [0,1] []
 | 1=>kp [0,1,5] []
 | 2=>kp [0,1,5,6] []
 | 3=>kp [0,1,5,6,20] []
 | 4=>kp [0,1,5,6] []
 | 5=>kp [0,1,5,6] []
 | 6=>kp [0,5,7] []
 | 7=>kp [0,5,7,60] []
 | 8=>kp [0,5,7] []
 | 9=>kp [0,5,7,8] []
 | 10=>kp [0,5,7,8,9] []
 | 11=>kp [0,5,7] []
 | 12=>kp [0,5,10] []
 | 13=>kp [0,5,10,11] []
 | 14=>kp [0,5,10,11] []
 | 15=>kp [0,5,10,11,12] []
 | 16=>kp [0,5,10,11,12,126] []
 | 17=>kp [0,5,10,11,12] []
 | 18=>kp [0,5,10,11,12,13] []
 | 19=>kp [0,5,10,11,12,13,14] []
 | 20=>kp [0,5,10,11,12,13,14,15] []
 | 21=>kp [0,5,10,11,12,13,14,15,16] []
 | 22=>kp [0,5,10,11,12] []
 | 23=>kp [0,11,17] []
 | 24=>kp [0,11,17,18] []
 | 25=>kp [0,11,17,18,222] []
 | 26=>kp [0,11,17,18] []
 | 27=>kp [0,11,17,18] []
 | 28=>kp [4] []
 | _=>[],fun | _=>false⟩
noncomputable def body39:Code:=Tryd.f39.body.getD .skip
abbrev L39_25_T:Type:=Tin×Tin×Tin×Int
def L39_25_sh:Shape:=[(.slot 0,.dat (.list (.int .u32))),(.slot 11,.own 77 (.int .u32)),(.slot 17,.own 77 (.int .u32)),(.slot 18,.dat (.int .i64))]
def L39_25_x0:Shape:=[(.slot 0,.dat (.list (.int .u32))),(.slot 11,.own 77 (.int .u32)),(.slot 17,.own 77 (.int .u32)),(.slot 18,.dat (.int .i64))]
def L39_25_pk (s:Tup L39_25_sh):L39_25_T:=(s.1,s.2.1,s.2.2.1,s.2.2.2.1)
def L39_25_un (s:Tin×Tin×Tin×Int):Tup L39_25_sh:=(s.1,(s.2.1,(s.2.2.1,(s.2.2.2,()))))
def L39_25_leave (x:L39_25_T) (R:Type) (K:Cont R):Option R:=match x with
 | a=>K (.exit 6) (mkSt L39_25_x0 (a.1,(a.2.1,(a.2.2.1,(a.2.2.2,())))))
def L39_25_d (e:Exit) (st:St):Option (L39_25_T):=match e with
 | .exit 6=>(match unSt L39_25_x0 st with
  | some s=>some (s.1,s.2.1,s.2.2.1,s.2.2.2.1)
  | none=>none)
 | _=>none
def L39_25_r (s0:Tin) (s1:Tin) (s2:Tin) (s3:Int):Option (L39_25_T⊕(L39_25_T)) :=
 let v112:Bool:=(decide (s3 < (8:Int)))
 bif v112 then
 bif (decide (0≤s3) && decide (s3 < List.length s0)) then
 let v113:Int:=(List.getD s0 (Int.toNat s3) (0:Int))
 bif (decide (0≤s3) && decide (s3 < (List.length s1))) then
 bif (decide ((Int.toNat s3) < List.length s1)) then
 let v114:Int:=(List.getD s1 (Int.toNat s3) (0:Int))
 let v115:Int:=(IntKind.u32.wrap (v113+v114))
 let v116:Tin:=(List.set (List.replicate 1 (0:Int)) 0 v115)
 bif (decide (List.length (List.take (List.length s2) s2)+List.length v116≤100000000000)) then
 let v117:Tin:=((List.take (List.length s2) s2)++v116)
 let v118:Int:=(IntKind.i64.wrap (s3+(1:Int)))
 some (.inl (s0,s1,v117,v118))
 else none
 else none
 else none
 else none
 else
 some (.inr (s0,s1,s2,s3))
def L39_25:L39_25_T→Option (L39_25_T):=Lim (fun s=>L39_25_r s.1 s.2.1 s.2.2.1 s.2.2.2)
def L39_25_sum:Sum:=limSum L39_25_sh L39_25_pk (fun s=>L39_25_r s.1 s.2.1 s.2.2.1 s.2.2.2) L39_25_leave
theorem L39_25_nat:Natural L39_25_sum:=natural_lim fun x R K=>by
 rfl
theorem L39_25_dok:∀ e st x,e≠.normal→L39_25_d e st=some x→∀ R (K:Cont R),K e st=L39_25_leave x R K:=by
 intro e st x _ h R K
 unfold L39_25_d at h
 split at h
 ·split at h
  ·rename_i s hs; cases h; rw [unSt_some hs]; rfl
  ·cases h
 ·cases h
abbrev L39_16_T:Type:=Tin×Tin×Tin×Tin×Int
def L39_16_sh:Shape:=[(.slot 0,.dat (.list (.int .u32))),(.slot 5,.own 77 (.int .u32)),(.slot 10,.dat (.list (.int .u32))),(.slot 11,.own 77 (.int .u32)),(.slot 12,.dat (.int .i64))]
def L39_16_x0:Shape:=[(.slot 0,.dat (.list (.int .u32))),(.slot 5,.own 77 (.int .u32)),(.slot 10,.dat (.list (.int .u32))),(.slot 11,.own 77 (.int .u32)),(.slot 12,.dat (.int .i64))]
def L39_16_pk (s:Tup L39_16_sh):L39_16_T:=(s.1,s.2.1,s.2.2.1,s.2.2.2.1,s.2.2.2.2.1)
def L39_16_un (s:Tin×Tin×Tin×Tin×Int):Tup L39_16_sh:=(s.1,(s.2.1,(s.2.2.1,(s.2.2.2.1,(s.2.2.2.2,())))))
def L39_16_leave (x:L39_16_T) (R:Type) (K:Cont R):Option R:=match x with
 | a=>K (.exit 4) (mkSt L39_16_x0 (a.1,(a.2.1,(a.2.2.1,(a.2.2.2.1,(a.2.2.2.2,()))))))
def L39_16_d (e:Exit) (st:St):Option (L39_16_T):=match e with
 | .exit 4=>(match unSt L39_16_x0 st with
  | some s=>some (s.1,s.2.1,s.2.2.1,s.2.2.2.1,s.2.2.2.2.1)
  | none=>none)
 | _=>none
def L39_16_r (s0:Tin) (s1:Tin) (s2:Tin) (s3:Tin) (s4:Int):Option (L39_16_T⊕(L39_16_T)) :=
 let v65:Bool:=(decide (s4 < (64:Int)))
 bif v65 then
 bif (decide (0≤(0:Int)) && decide ((0:Int) < (List.length s3))) then
 bif (decide ((Int.toNat (0:Int)) < List.length s3)) then
 let v66:Int:=(List.getD s3 (Int.toNat (0:Int)) (0:Int))
 bif (decide (0≤(4:Int)) && decide ((4:Int) < (List.length s3))) then
 bif (decide ((Int.toNat (4:Int)) < List.length s3)) then
 let v67:Int:=(List.getD s3 (Int.toNat (4:Int)) (0:Int))
 bif (decide (0≤(7:Int)) && decide ((7:Int) < (List.length s3))) then
 bif (decide ((Int.toNat (7:Int)) < List.length s3)) then
 let v68:Int:=(List.getD s3 (Int.toNat (7:Int)) (0:Int))
 bif (P58 v67 (6:Int)) then
 let v69:Int:=(F58 v67 (6:Int))
 bif (P58 v67 (11:Int)) then
 let v70:Int:=(F58 v67 (11:Int))
 let v71:Int:=(bits .xor .u32 v69 v70)
 bif (P58 v67 (25:Int)) then
 let v72:Int:=(F58 v67 (25:Int))
 let v73:Int:=(bits .xor .u32 v71 v72)
 let v74:Int:=(IntKind.u32.wrap (v68+v73))
 bif (decide (0≤(5:Int)) && decide ((5:Int) < (List.length s3))) then
 bif (decide ((Int.toNat (5:Int)) < List.length s3)) then
 let v75:Int:=(List.getD s3 (Int.toNat (5:Int)) (0:Int))
 let v76:Int:=(bits .and .u32 v67 v75)
 let v77:Int:=(bits .xor .u32 (if IntKind.u32.signed then -1 else IntKind.u32.max) v67)
 bif (decide (0≤(6:Int)) && decide ((6:Int) < (List.length s3))) then
 bif (decide ((Int.toNat (6:Int)) < List.length s3)) then
 let v78:Int:=(List.getD s3 (Int.toNat (6:Int)) (0:Int))
 let v79:Int:=(bits .and .u32 v77 v78)
 let v80:Int:=(bits .xor .u32 v76 v79)
 let v81:Int:=(IntKind.u32.wrap (v74+v80))
 bif (decide (0≤s4) && decide (s4 < List.length s2)) then
 let v82:Int:=(List.getD s2 (Int.toNat s4) (0:Int))
 let v83:Int:=(IntKind.u32.wrap (v81+v82))
 bif (decide (0≤s4) && decide (s4 < (List.length s1))) then
 bif (decide ((Int.toNat s4) < List.length s1)) then
 let v84:Int:=(List.getD s1 (Int.toNat s4) (0:Int))
 let v85:Int:=(IntKind.u32.wrap (v83+v84))
 bif (P58 v66 (2:Int)) then
 let v86:Int:=(F58 v66 (2:Int))
 bif (P58 v66 (13:Int)) then
 let v87:Int:=(F58 v66 (13:Int))
 let v88:Int:=(bits .xor .u32 v86 v87)
 bif (P58 v66 (22:Int)) then
 let v89:Int:=(F58 v66 (22:Int))
 let v90:Int:=(bits .xor .u32 v88 v89)
 bif (decide (0≤(1:Int)) && decide ((1:Int) < (List.length s3))) then
 bif (decide ((Int.toNat (1:Int)) < List.length s3)) then
 let v91:Int:=(List.getD s3 (Int.toNat (1:Int)) (0:Int))
 let v92:Int:=(bits .and .u32 v66 v91)
 bif (decide (0≤(2:Int)) && decide ((2:Int) < (List.length s3))) then
 bif (decide ((Int.toNat (2:Int)) < List.length s3)) then
 let v93:Int:=(List.getD s3 (Int.toNat (2:Int)) (0:Int))
 let v94:Int:=(bits .and .u32 v66 v93)
 let v95:Int:=(bits .xor .u32 v92 v94)
 bif (decide (0≤(1:Int)) && decide ((1:Int) < (List.length s3))) then
 bif (decide ((Int.toNat (1:Int)) < List.length s3)) then
 let v96:Int:=(List.getD s3 (Int.toNat (1:Int)) (0:Int))
 bif (decide (0≤(2:Int)) && decide ((2:Int) < (List.length s3))) then
 bif (decide ((Int.toNat (2:Int)) < List.length s3)) then
 let v97:Int:=(List.getD s3 (Int.toNat (2:Int)) (0:Int))
 let v98:Int:=(bits .and .u32 v96 v97)
 let v99:Int:=(bits .xor .u32 v95 v98)
 let v100:Int:=(IntKind.u32.wrap (v90+v99))
 let v101:Int:=(IntKind.u32.wrap (v85+v100))
 bif (decide (0≤(1:Int)) && decide ((1:Int) < (List.length s3))) then
 bif (decide ((Int.toNat (1:Int)) < List.length s3)) then
 let v102:Int:=(List.getD s3 (Int.toNat (1:Int)) (0:Int))
 bif (decide (0≤(2:Int)) && decide ((2:Int) < (List.length s3))) then
 bif (decide ((Int.toNat (2:Int)) < List.length s3)) then
 let v103:Int:=(List.getD s3 (Int.toNat (2:Int)) (0:Int))
 bif (decide (0≤(3:Int)) && decide ((3:Int) < (List.length s3))) then
 bif (decide ((Int.toNat (3:Int)) < List.length s3)) then
 let v104:Int:=(List.getD s3 (Int.toNat (3:Int)) (0:Int))
 let v105:Int:=(IntKind.u32.wrap (v104+v85))
 bif (decide (0≤(5:Int)) && decide ((5:Int) < (List.length s3))) then
 bif (decide ((Int.toNat (5:Int)) < List.length s3)) then
 let v106:Int:=(List.getD s3 (Int.toNat (5:Int)) (0:Int))
 bif (decide (0≤(6:Int)) && decide ((6:Int) < (List.length s3))) then
 bif (decide ((Int.toNat (6:Int)) < List.length s3)) then
 let v107:Int:=(List.getD s3 (Int.toNat (6:Int)) (0:Int))
 let v108:Tin:=(List.set (List.set (List.set (List.set (List.set (List.set (List.set (List.set (List.replicate 8 (0:Int)) 0 v101) 1 v66) 2 v102) 3 v103) 4 v105) 5 v67) 6 v106) 7 v107)
 let v109:Int:=(IntKind.i64.wrap (s4+(1:Int)))
 some (.inl (s0,s1,s2,v108,v109))
 else none
 else none
 else none
 else none
 else none
 else none
 else none
 else none
 else none
 else none
 else none
 else none
 else none
 else none
 else none
 else none
 else none
 else none
 else none
 else none
 else none
 else none
 else none
 else none
 else none
 else none
 else none
 else none
 else none
 else none
 else none
 else none
 else none
 else none
 else none
 else none
 else none
 else
 some (.inr (s0,s1,s2,s3,s4))
def L39_16:L39_16_T→Option (L39_16_T):=Lim (fun s=>L39_16_r s.1 s.2.1 s.2.2.1 s.2.2.2.1 s.2.2.2.2)
def L39_16_sum:Sum:=limSum L39_16_sh L39_16_pk (fun s=>L39_16_r s.1 s.2.1 s.2.2.1 s.2.2.2.1 s.2.2.2.2) L39_16_leave
theorem L39_16_nat:Natural L39_16_sum:=natural_lim fun x R K=>by
 rfl
theorem L39_16_dok:∀ e st x,e≠.normal→L39_16_d e st=some x→∀ R (K:Cont R),K e st=L39_16_leave x R K:=by
 intro e st x _ h R K
 unfold L39_16_d at h
 split at h
 ·split at h
  ·rename_i s hs; cases h; rw [unSt_some hs]; rfl
  ·cases h
 ·cases h
abbrev L39_7_T:Type:=Tin×Tin×Int
def L39_7_sh:Shape:=[(.slot 0,.dat (.list (.int .u32))),(.slot 5,.own 77 (.int .u32)),(.slot 7,.dat (.int .i64))]
def L39_7_x0:Shape:=[(.slot 0,.dat (.list (.int .u32))),(.slot 5,.own 77 (.int .u32)),(.slot 7,.dat (.int .i64))]
def L39_7_pk (s:Tup L39_7_sh):L39_7_T:=(s.1,s.2.1,s.2.2.1)
def L39_7_un (s:Tin×Tin×Int):Tup L39_7_sh:=(s.1,(s.2.1,(s.2.2,())))
def L39_7_leave (x:L39_7_T) (R:Type) (K:Cont R):Option R:=match x with
 | a=>K (.exit 2) (mkSt L39_7_x0 (a.1,(a.2.1,(a.2.2,()))))
def L39_7_d (e:Exit) (st:St):Option (L39_7_T):=match e with
 | .exit 2=>(match unSt L39_7_x0 st with
  | some s=>some (s.1,s.2.1,s.2.2.1)
  | none=>none)
 | _=>none
def L39_7_r (s0:Tin) (s1:Tin) (s2:Int):Option (L39_7_T⊕(L39_7_T)) :=
 let v29:Bool:=(decide (s2 < (64:Int)))
 bif v29 then
 let v30:Int:=(IntKind.i64.wrap (s2 - (15:Int)))
 bif (decide (0≤v30) && decide (v30 < (List.length s1))) then
 bif (decide ((Int.toNat v30) < List.length s1)) then
 let v31:Int:=(List.getD s1 (Int.toNat v30) (0:Int))
 bif (P58 v31 (7:Int)) then
 let v32:Int:=(F58 v31 (7:Int))
 let v33:Int:=(IntKind.i64.wrap (s2 - (15:Int)))
 bif (decide (0≤v33) && decide (v33 < (List.length s1))) then
 bif (decide ((Int.toNat v33) < List.length s1)) then
 let v34:Int:=(List.getD s1 (Int.toNat v33) (0:Int))
 bif (P58 v34 (18:Int)) then
 let v35:Int:=(F58 v34 (18:Int))
 let v36:Int:=(bits .xor .u32 v32 v35)
 let v37:Int:=(IntKind.i64.wrap (s2 - (15:Int)))
 bif (decide (0≤v37) && decide (v37 < (List.length s1))) then
 bif (decide ((Int.toNat v37) < List.length s1)) then
 let v38:Int:=(List.getD s1 (Int.toNat v37) (0:Int))
 let v39:Int:=(Int.fdiv v38 (2 ^ min (Int.toNat (3:Int)) (IntKind.u32.bits)))
 let v40:Int:=(bits .xor .u32 v36 v39)
 let v41:Int:=(IntKind.i64.wrap (s2 - (2:Int)))
 bif (decide (0≤v41) && decide (v41 < (List.length s1))) then
 bif (decide ((Int.toNat v41) < List.length s1)) then
 let v42:Int:=(List.getD s1 (Int.toNat v41) (0:Int))
 bif (P58 v42 (17:Int)) then
 let v43:Int:=(F58 v42 (17:Int))
 let v44:Int:=(IntKind.i64.wrap (s2 - (2:Int)))
 bif (decide (0≤v44) && decide (v44 < (List.length s1))) then
 bif (decide ((Int.toNat v44) < List.length s1)) then
 let v45:Int:=(List.getD s1 (Int.toNat v44) (0:Int))
 bif (P58 v45 (19:Int)) then
 let v46:Int:=(F58 v45 (19:Int))
 let v47:Int:=(bits .xor .u32 v43 v46)
 let v48:Int:=(IntKind.i64.wrap (s2 - (2:Int)))
 bif (decide (0≤v48) && decide (v48 < (List.length s1))) then
 bif (decide ((Int.toNat v48) < List.length s1)) then
 let v49:Int:=(List.getD s1 (Int.toNat v48) (0:Int))
 let v50:Int:=(Int.fdiv v49 (2 ^ min (Int.toNat (10:Int)) (IntKind.u32.bits)))
 let v51:Int:=(bits .xor .u32 v47 v50)
 let v52:Int:=(IntKind.i64.wrap (s2 - (16:Int)))
 bif (decide (0≤v52) && decide (v52 < (List.length s1))) then
 bif (decide ((Int.toNat v52) < List.length s1)) then
 let v53:Int:=(List.getD s1 (Int.toNat v52) (0:Int))
 let v54:Int:=(IntKind.u32.wrap (v53+v40))
 let v55:Int:=(IntKind.i64.wrap (s2 - (7:Int)))
 bif (decide (0≤v55) && decide (v55 < (List.length s1))) then
 bif (decide ((Int.toNat v55) < List.length s1)) then
 let v56:Int:=(List.getD s1 (Int.toNat v55) (0:Int))
 let v57:Int:=(IntKind.u32.wrap (v54+v56))
 let v58:Int:=(IntKind.u32.wrap (v57+v51))
 let v59:Tin:=(List.set (List.replicate 1 (0:Int)) 0 v58)
 bif (decide (List.length (List.take (List.length s1) s1)+List.length v59≤100000000000)) then
 let v60:Tin:=((List.take (List.length s1) s1)++v59)
 let v61:Int:=(IntKind.i64.wrap (s2+(1:Int)))
 some (.inl (s0,v60,v61))
 else none
 else none
 else none
 else none
 else none
 else none
 else none
 else none
 else none
 else none
 else none
 else none
 else none
 else none
 else none
 else none
 else none
 else none
 else none
 else none
 else none
 else
 some (.inr (s0,s1,s2))
def L39_7:L39_7_T→Option (L39_7_T):=Lim (fun s=>L39_7_r s.1 s.2.1 s.2.2)
def L39_7_sum:Sum:=limSum L39_7_sh L39_7_pk (fun s=>L39_7_r s.1 s.2.1 s.2.2) L39_7_leave
theorem L39_7_nat:Natural L39_7_sum:=natural_lim fun x R K=>by
 rfl
theorem L39_7_dok:∀ e st x,e≠.normal→L39_7_d e st=some x→∀ R (K:Cont R),K e st=L39_7_leave x R K:=by
 intro e st x _ h R K
 unfold L39_7_d at h
 split at h
 ·split at h
  ·rename_i s hs; cases h; rw [unSt_some hs]; rfl
  ·cases h
 ·cases h
abbrev L39_3_T:Type:=Tin×Tin×Tin×Int
def L39_3_sh:Shape:=[(.slot 0,.dat (.list (.int .u32))),(.slot 1,.dat (.list (.int .u8))),(.slot 5,.own 77 (.int .u32)),(.slot 6,.dat (.int .i64))]
def L39_3_x0:Shape:=[(.slot 0,.dat (.list (.int .u32))),(.slot 1,.dat (.list (.int .u8))),(.slot 5,.own 77 (.int .u32)),(.slot 6,.dat (.int .i64))]
def L39_3_pk (s:Tup L39_3_sh):L39_25_T:=(s.1,s.2.1,s.2.2.1,s.2.2.2.1)
def L39_3_un (s:Tin×Tin×Tin×Int):Tup L39_3_sh:=(s.1,(s.2.1,(s.2.2.1,(s.2.2.2,()))))
def L39_3_leave (x:L39_25_T) (R:Type) (K:Cont R):Option R:=match x with
 | a=>K (.exit 0) (mkSt L39_3_x0 (a.1,(a.2.1,(a.2.2.1,(a.2.2.2,())))))
def L39_3_d (e:Exit) (st:St):Option (L39_25_T):=match e with
 | .exit 0=>(match unSt L39_3_x0 st with
  | some s=>some (s.1,s.2.1,s.2.2.1,s.2.2.2.1)
  | none=>none)
 | _=>none
def L39_3_r (s0:Tin) (s1:Tin) (s2:Tin) (s3:Int):Option (L39_25_T⊕(L39_25_T)) :=
 let v3:Bool:=(decide (s3 < (16:Int)))
 bif v3 then
 let v4:Int:=(IntKind.i64.wrap ((4:Int) * s3))
 bif (decide (0≤v4) && decide (v4 < List.length s1)) then
 let v5:Int:=(List.getD s1 (Int.toNat v4) (0:Int))
 let v6:Int:=(IntKind.u32.wrap v5)
 let v7:Int:=(IntKind.u32.wrap (v6 * 2 ^ min (Int.toNat (24:Int)) (IntKind.u32.bits)))
 let v8:Int:=(IntKind.i64.wrap ((4:Int) * s3))
 let v9:Int:=(IntKind.i64.wrap (v8+(1:Int)))
 bif (decide (0≤v9) && decide (v9 < List.length s1)) then
 let v10:Int:=(List.getD s1 (Int.toNat v9) (0:Int))
 let v11:Int:=(IntKind.u32.wrap v10)
 let v12:Int:=(IntKind.u32.wrap (v11 * 2 ^ min (Int.toNat (16:Int)) (IntKind.u32.bits)))
 let v13:Int:=(bits .or .u32 v7 v12)
 let v14:Int:=(IntKind.i64.wrap ((4:Int) * s3))
 let v15:Int:=(IntKind.i64.wrap (v14+(2:Int)))
 bif (decide (0≤v15) && decide (v15 < List.length s1)) then
 let v16:Int:=(List.getD s1 (Int.toNat v15) (0:Int))
 let v17:Int:=(IntKind.u32.wrap v16)
 let v18:Int:=(IntKind.u32.wrap (v17 * 2 ^ min (Int.toNat (8:Int)) (IntKind.u32.bits)))
 let v19:Int:=(bits .or .u32 v13 v18)
 let v20:Int:=(IntKind.i64.wrap ((4:Int) * s3))
 let v21:Int:=(IntKind.i64.wrap (v20+(3:Int)))
 bif (decide (0≤v21) && decide (v21 < List.length s1)) then
 let v22:Int:=(List.getD s1 (Int.toNat v21) (0:Int))
 let v23:Int:=(IntKind.u32.wrap v22)
 let v24:Int:=(bits .or .u32 v19 v23)
 let v25:Tin:=(List.set (List.replicate 1 (0:Int)) 0 v24)
 bif (decide (List.length (List.take (List.length s2) s2)+List.length v25≤100000000000)) then
 let v26:Tin:=((List.take (List.length s2) s2)++v25)
 let v27:Int:=(IntKind.i64.wrap (s3+(1:Int)))
 some (.inl (s0,s1,v26,v27))
 else none
 else none
 else none
 else none
 else none
 else
 some (.inr (s0,s1,s2,s3))
def L39_3:L39_25_T→Option (L39_25_T):=Lim (fun s=>L39_3_r s.1 s.2.1 s.2.2.1 s.2.2.2)
def L39_3_sum:Sum:=limSum L39_3_sh L39_3_pk (fun s=>L39_3_r s.1 s.2.1 s.2.2.1 s.2.2.2) L39_3_leave
theorem L39_3_nat:Natural L39_3_sum:=natural_lim fun x R K=>by
 rfl
theorem L39_3_dok:∀ e st x,e≠.normal→L39_3_d e st=some x→∀ R (K:Cont R),K e st=L39_3_leave x R K:=by
 intro e st x _ h R K
 unfold L39_3_d at h
 split at h
 ·split at h
  ·rename_i s hs; cases h; rw [unSt_some hs]; rfl
  ·cases h
 ·cases h
def loops39:Nat→Option (Sum):=fun | 3=>some L39_3_sum | 7=>some L39_7_sum | 16=>some L39_16_sum | 25=>some L39_25_sum | _=>none
theorem loops39_nat:∀ q f,loops39 q=some f→Natural f:=by
 intro q f h
 unfold loops39 at h
 split at h
 ·cases h; exact L39_3_nat
 ·cases h; exact L39_7_nat
 ·cases h; exact L39_16_nat
 ·cases h; exact L39_25_nat
 ·cases h
noncomputable def L39_3_code:Code:=(loopsOf body39).getD 0 .skip
theorem L39_3_round (s0:Tin) (s1:Tin) (s2:Tin) (s3:Int):ev2 env39 orc39 loops39 L39_3_code (mkSt L39_3_sh (s0,(s1,(s2,(s3,()))))) (back L39_3_sh L39_3_pk L39_3_d)=L39_3_r s0 s1 s2 s3:=by kernel_rfl
theorem L39_3_ok:SumOk env39 orc39 loops39 L39_3_code L39_3_sum:=sumOk_lim (un:=L39_3_un) loops39_nat (fun _=>rfl) L39_3_dok fun s=>L39_3_round s.1 s.2.1 s.2.2.1 s.2.2.2
noncomputable def L39_7_code:Code:=(loopsOf body39).getD 1 .skip
theorem L39_7_round (s0:Tin) (s1:Tin) (s2:Int):ev2 env39 orc39 loops39 L39_7_code (mkSt L39_7_sh (s0,(s1,(s2,())))) (back L39_7_sh L39_7_pk L39_7_d)=L39_7_r s0 s1 s2:=by kernel_rfl
theorem L39_7_ok:SumOk env39 orc39 loops39 L39_7_code L39_7_sum:=sumOk_lim (un:=L39_7_un) loops39_nat (fun _=>rfl) L39_7_dok fun s=>L39_7_round s.1 s.2.1 s.2.2
noncomputable def L39_16_code:Code:=(loopsOf body39).getD 2 .skip
theorem L39_16_round (s0:Tin) (s1:Tin) (s2:Tin) (s3:Tin) (s4:Int):ev2 env39 orc39 loops39 L39_16_code (mkSt L39_16_sh (s0,(s1,(s2,(s3,(s4,())))))) (back L39_16_sh L39_16_pk L39_16_d)=L39_16_r s0 s1 s2 s3 s4:=by kernel_rfl
theorem L39_16_ok:SumOk env39 orc39 loops39 L39_16_code L39_16_sum:=sumOk_lim (un:=L39_16_un) loops39_nat (fun _=>rfl) L39_16_dok fun s=>L39_16_round s.1 s.2.1 s.2.2.1 s.2.2.2.1 s.2.2.2.2
noncomputable def L39_25_code:Code:=(loopsOf body39).getD 3 .skip
theorem L39_25_round (s0:Tin) (s1:Tin) (s2:Tin) (s3:Int):ev2 env39 orc39 loops39 L39_25_code (mkSt L39_25_sh (s0,(s1,(s2,(s3,()))))) (back L39_25_sh L39_25_pk L39_25_d)=L39_25_r s0 s1 s2 s3:=by kernel_rfl
theorem L39_25_ok:SumOk env39 orc39 loops39 L39_25_code L39_25_sum:=sumOk_lim (un:=L39_25_un) loops39_nat (fun _=>rfl) L39_25_dok fun s=>L39_25_round s.1 s.2.1 s.2.2.1 s.2.2.2
theorem loops39_all:loopsOf body39=[L39_3_code,L39_7_code,L39_16_code,L39_25_code]:=by kernel_rfl
theorem L39_3_key:lookL loops39 (keyOf L39_3_code)=some L39_3_sum:=by kernel_rfl
theorem L39_7_key:lookL loops39 (keyOf L39_7_code)=some L39_7_sum:=by kernel_rfl
theorem L39_16_key:lookL loops39 (keyOf L39_16_code)=some L39_16_sum:=by kernel_rfl
theorem L39_25_key:lookL loops39 (keyOf L39_25_code)=some L39_25_sum:=by kernel_rfl
theorem loops39_ok:LoopsOk env39 orc39 loops39 body39:=by
 intro c hc f hf
 rw [loops39_all] at hc
 simp only [List.mem_cons,List.not_mem_nil,or_false] at hc
 rcases hc with rfl | rfl | rfl | rfl
 ·rw [L39_3_key] at hf; cases hf; exact L39_3_ok
 ·rw [L39_7_key] at hf; cases hf; exact L39_7_ok
 ·rw [L39_16_key] at hf; cases hf; exact L39_16_ok
 ·rw [L39_25_key] at hf; cases hf; exact L39_25_ok
def G39 (x0:Tin) (x1:Tin):Option (Tin) :=
 let v1:Tin:=([]:Tin)
 let v2:Tin:=([]:Tin)
 Option.bind (L39_3 (x0,x1,v2,(0:Int))) fun (r28:Tin×Tin×Tin×Int) =>
 Option.bind (L39_7 (r28.1,r28.2.2.1,(16:Int))) fun (r62:Tin×Tin×Int) =>
 bif (P59 ) then
 let v63:Tin:=([]:Tin)
 bif (decide (List.length (List.take (List.length v63) v63)+List.length r62.1≤100000000000)) then
 let v64:Tin:=((List.take (List.length v63) v63)++r62.1)
 Option.bind (L39_16 (r62.1,r62.2.1,F59,v64,(0:Int))) fun (r110:Tin×Tin×Tin×Tin×Int) =>
 let v111:Tin:=([]:Tin)
 Option.bind (L39_25 (r110.1,r110.2.2.2.1,v111,(0:Int))) fun (r119:Tin×Tin×Tin×Int) =>
 let v120:Tin:=(List.take (List.length r119.2.2.1) r119.2.2.1)
 some (v120)
 else none
 else none
theorem ev39 (x0:Tin) (x1:Tin):ev2 env39 orc39 loops39 body39 (initSt 0 [⟨(.list (.int .u32)),x0⟩,⟨(.list (.int .u8)),x1⟩]) (retT [(4,.dat (.list (.int .u32)))] [(.list (.int .u32))] fun x=>x.1)=G39 x0 x1:=by kernel_rfl
def P39 (x0:Tin) (x1:Tin):Bool:=(hold (G39 x0 x1)).isSome
def F39 (x0:Tin) (x1:Tin):Tin:=(hold (G39 x0 x1)).getD default
theorem G39_some (x0:Tin) (x1:Tin) (h:P39 x0 x1=true):G39 x0 x1=some (F39 x0 x1):=by
 unfold P39 at h; unfold F39
 rw [hold_eq] at h ⊢
 exact some_getD h
theorem P39_of (x0:Tin) (x1:Tin) {r:Tin} (h:G39 x0 x1=some r):P39 x0 x1=true:=by unfold P39; rw [hold_eq,h]; rfl
theorem F39_of (x0:Tin) (x1:Tin) {r:Tin} (h:G39 x0 x1=some r):F39 x0 x1=r:=by unfold F39; rw [hold_eq,h]; rfl
def spec39:Spec:=⟨[(.list (.int .u32)),(.list (.int .u8))],[.dat (.list (.int .u32))],fun | [a0,a1]=>P39 (a0.as (.list (.int .u32))) (a1.as (.list (.int .u8))) | _=>false,fun | [a0,a1]=>[⟨(.list (.int .u32)),(F39 (a0.as (.list (.int .u32))) (a1.as (.list (.int .u8))))⟩] | _=>[]⟩
theorem meets39 (hE:EnvOk Tryd.prog env39) (hm:Tryd.prog.follows .mixedOrders=true):Meets Tryd.prog glob 39 spec39 :=
 meets_of_ev2 (O:=orc39) (L:=loops39) (c:=body39) (slots:=[4]) hE hm Tryd.func39 Tryd.call39 (by kernel_rfl) (by kernel_rfl) loops39_ok (rangesOk_nil (by kernel_rfl)) (by kernel_rfl) rfl (by decide) (fun ds hds hpre=>by
 obtain ⟨x0,ds0,rfl,h0⟩:=datsS hds
 obtain ⟨x1,ds1,rfl,h1⟩:=datsS h0
 have h9:=dats0 h1; subst h9
 exact ev_ret (un:=fun r=>[⟨(.list (.int .u32)),r⟩]) loops39_nat (fun _=>rfl) ((ev39 x0 x1).trans (G39_some x0 x1 hpre)))
def env13:Env:={
 tab:=tab
 glob:=glob
 spec:=fun
  | 38=>some spec38
  | 39=>some spec39
  | _=>none
 bldT:=bldT
 bld:=bldF }
def orc13:Orc:=⟨56,fun _=>none,fun
 | 0=>kp [0] []
 | 1=>kp [0,3] []
 | 2=>kp [3,4] []
 | 3=>[(.slot 3,.frz)]++kp [4,5] []
 | 4=>kp [3,4,5,14] []
 | 5=>kp [3,4,5] []
 | 6=>kp [3,4,5] []
 | 7=>kp [3,6] []
 | 8=>kp [3,6,7] []
 | 9=>kp [3,6,7,25] []
 | 10=>kp [3,6,7] []
 | 11=>kp [3,6,7] []
 | 12=>kp [2] []
 | _=>[],fun | _=>false⟩
noncomputable def body13:Code:=Tryd.f13.body.getD .skip
abbrev L13_9_T:Type:=Tin×Tin×Int
def L13_9_sh:Shape:=[(.slot 3,.dat (.list (.int .u32))),(.slot 6,.own 5 (.int .u8)),(.slot 7,.dat (.int .i64))]
def L13_9_x0:Shape:=[(.slot 3,.dat (.list (.int .u32))),(.slot 6,.own 5 (.int .u8)),(.slot 7,.dat (.int .i64))]
def L13_9_pk (s:Tup L13_9_sh):L13_9_T:=(s.1,s.2.1,s.2.2.1)
def L13_9_un (s:Tin×Tin×Int):Tup L13_9_sh:=(s.1,(s.2.1,(s.2.2,())))
def L13_9_leave (x:L13_9_T) (R:Type) (K:Cont R):Option R:=match x with
 | a=>K (.exit 2) (mkSt L13_9_x0 (a.1,(a.2.1,(a.2.2,()))))
def L13_9_d (e:Exit) (st:St):Option (L13_9_T):=match e with
 | .exit 2=>(match unSt L13_9_x0 st with
  | some s=>some (s.1,s.2.1,s.2.2.1)
  | none=>none)
 | _=>none
def L13_9_r (s0:Tin) (s1:Tin) (s2:Int):Option (L13_9_T⊕(L13_9_T)) :=
 let v11:Bool:=(decide (s2 < (8:Int)))
 bif v11 then
 bif (decide (0≤s2) && decide (s2 < List.length s0)) then
 let v12:Int:=(List.getD s0 (Int.toNat s2) (0:Int))
 let v13:Int:=(Int.fdiv v12 (2 ^ min (Int.toNat (24:Int)) (IntKind.u32.bits)))
 let v14:Int:=(IntKind.u8.wrap v13)
 bif (decide (0≤s2) && decide (s2 < List.length s0)) then
 let v15:Int:=(List.getD s0 (Int.toNat s2) (0:Int))
 let v16:Int:=(Int.fdiv v15 (2 ^ min (Int.toNat (16:Int)) (IntKind.u32.bits)))
 let v17:Int:=(IntKind.u8.wrap v16)
 bif (decide (0≤s2) && decide (s2 < List.length s0)) then
 let v18:Int:=(List.getD s0 (Int.toNat s2) (0:Int))
 let v19:Int:=(Int.fdiv v18 (2 ^ min (Int.toNat (8:Int)) (IntKind.u32.bits)))
 let v20:Int:=(IntKind.u8.wrap v19)
 bif (decide (0≤s2) && decide (s2 < List.length s0)) then
 let v21:Int:=(List.getD s0 (Int.toNat s2) (0:Int))
 let v22:Int:=(IntKind.u8.wrap v21)
 let v23:Tin:=(List.set (List.set (List.set (List.set (List.replicate 4 (0:Int)) 0 v14) 1 v17) 2 v20) 3 v22)
 bif (decide (List.length (List.take (List.length s1) s1)+List.length v23≤100000000000)) then
 let v24:Tin:=((List.take (List.length s1) s1)++v23)
 let v25:Int:=(IntKind.i64.wrap (s2+(1:Int)))
 some (.inl (s0,v24,v25))
 else none
 else none
 else none
 else none
 else none
 else
 some (.inr (s0,s1,s2))
def L13_9:L13_9_T→Option (L13_9_T):=Lim (fun s=>L13_9_r s.1 s.2.1 s.2.2)
def L13_9_sum:Sum:=limSum L13_9_sh L13_9_pk (fun s=>L13_9_r s.1 s.2.1 s.2.2) L13_9_leave
theorem L13_9_nat:Natural L13_9_sum:=natural_lim fun x R K=>by
 rfl
theorem L13_9_dok:∀ e st x,e≠.normal→L13_9_d e st=some x→∀ R (K:Cont R),K e st=L13_9_leave x R K:=by
 intro e st x _ h R K
 unfold L13_9_d at h
 split at h
 ·split at h
  ·rename_i s hs; cases h; rw [unSt_some hs]; rfl
  ·cases h
 ·cases h
abbrev L13_4_T:Type:=Tin×Tin×Int
def L13_4_sh:Shape:=[(.slot 3,.dat (.list (.int .u32))),(.slot 4,.dat (.list (.int .u8))),(.slot 5,.dat (.int .i64))]
def L13_4_x0:Shape:=[(.slot 3,.dat (.list (.int .u32))),(.slot 4,.dat (.list (.int .u8))),(.slot 5,.dat (.int .i64))]
def L13_4_pk (s:Tup L13_4_sh):L13_9_T:=(s.1,s.2.1,s.2.2.1)
def L13_4_un (s:Tin×Tin×Int):Tup L13_4_sh:=(s.1,(s.2.1,(s.2.2,())))
def L13_4_leave (x:L13_9_T) (R:Type) (K:Cont R):Option R:=match x with
 | a=>K (.exit 0) (mkSt L13_4_x0 (a.1,(a.2.1,(a.2.2,()))))
def L13_4_d (e:Exit) (st:St):Option (L13_9_T):=match e with
 | .exit 0=>(match unSt L13_4_x0 st with
  | some s=>some (s.1,s.2.1,s.2.2.1)
  | none=>none)
 | _=>none
def L13_4_r (s0:Tin) (s1:Tin) (s2:Int):Option (L13_9_T⊕(L13_9_T)) :=
 let v3:Int:=((List.length s1:Nat):Int)
 let v4:Bool:=(decide (s2 < v3))
 bif v4 then
 let v5:Int:=(IntKind.i64.wrap (s2+(64:Int)))
 bif (sliceTest s2 v5 (List.length s1)) then
 let v6:Tin:=(cut s1 s2 v5)
 bif (P39 s0 v6) then
 let v7:Tin:=(F39 s0 v6)
 let v8:Int:=(IntKind.i64.wrap (s2+(64:Int)))
 some (.inl (v7,s1,v8))
 else none
 else none
 else
 some (.inr (s0,s1,s2))
def L13_4:L13_9_T→Option (L13_9_T):=Lim (fun s=>L13_4_r s.1 s.2.1 s.2.2)
def L13_4_sum:Sum:=limSum L13_4_sh L13_4_pk (fun s=>L13_4_r s.1 s.2.1 s.2.2) L13_4_leave
theorem L13_4_nat:Natural L13_4_sum:=natural_lim fun x R K=>by
 rfl
theorem L13_4_dok:∀ e st x,e≠.normal→L13_4_d e st=some x→∀ R (K:Cont R),K e st=L13_4_leave x R K:=by
 intro e st x _ h R K
 unfold L13_4_d at h
 split at h
 ·split at h
  ·rename_i s hs; cases h; rw [unSt_some hs]; rfl
  ·cases h
 ·cases h
def loops13:Nat→Option (Sum):=fun | 4=>some L13_4_sum | 9=>some L13_9_sum | _=>none
theorem loops13_nat:∀ q f,loops13 q=some f→Natural f:=by
 intro q f h
 unfold loops13 at h
 split at h
 ·cases h; exact L13_4_nat
 ·cases h; exact L13_9_nat
 ·cases h
noncomputable def L13_4_code:Code:=(loopsOf body13).getD 0 .skip
theorem L13_4_round (s0:Tin) (s1:Tin) (s2:Int):ev2 env13 orc13 loops13 L13_4_code (mkSt L13_4_sh (s0,(s1,(s2,())))) (back L13_4_sh L13_4_pk L13_4_d)=L13_4_r s0 s1 s2:=by kernel_rfl
theorem L13_4_ok:SumOk env13 orc13 loops13 L13_4_code L13_4_sum:=sumOk_lim (un:=L13_4_un) loops13_nat (fun _=>rfl) L13_4_dok fun s=>L13_4_round s.1 s.2.1 s.2.2
noncomputable def L13_9_code:Code:=(loopsOf body13).getD 1 .skip
theorem L13_9_round (s0:Tin) (s1:Tin) (s2:Int):ev2 env13 orc13 loops13 L13_9_code (mkSt L13_9_sh (s0,(s1,(s2,())))) (back L13_9_sh L13_9_pk L13_9_d)=L13_9_r s0 s1 s2:=by kernel_rfl
theorem L13_9_ok:SumOk env13 orc13 loops13 L13_9_code L13_9_sum:=sumOk_lim (un:=L13_9_un) loops13_nat (fun _=>rfl) L13_9_dok fun s=>L13_9_round s.1 s.2.1 s.2.2
theorem loops13_all:loopsOf body13=[L13_4_code,L13_9_code]:=by kernel_rfl
theorem L13_4_key:lookL loops13 (keyOf L13_4_code)=some L13_4_sum:=by kernel_rfl
theorem L13_9_key:lookL loops13 (keyOf L13_9_code)=some L13_9_sum:=by kernel_rfl
theorem loops13_ok:LoopsOk env13 orc13 loops13 body13:=by
 intro c hc f hf
 rw [loops13_all] at hc
 simp only [List.mem_cons,List.not_mem_nil,or_false] at hc
 rcases hc with rfl | rfl
 ·rw [L13_4_key] at hf; cases hf; exact L13_4_ok
 ·rw [L13_9_key] at hf; cases hf; exact L13_9_ok
def G13 (x0:Tby):Option (Tby) :=
 let v1:Tin:=(List.set (List.set (List.set (List.set (List.set (List.set (List.set (List.set (List.replicate 8 (0:Int)) 0 (1779033703:Int)) 1 (3144134277:Int)) 2 (1013904242:Int)) 3 (2773480762:Int)) 4 (1359893119:Int)) 5 (2600822924:Int)) 6 (528734635:Int)) 7 (1541459225:Int))
 bif (P38 x0) then
 let v2:Tin:=(F38 x0)
 Option.bind (L13_4 (v1,v2,(0:Int))) fun (r9:Tin×Tin×Int) =>
 let v10:Tin:=([]:Tin)
 Option.bind (L13_9 (r9.1,v10,(0:Int))) fun (r26:Tin×Tin×Int) =>
 let v27:Tby:=(List.map (fun (n:Int)=>UInt8.ofNat n.toNat) (List.take (List.length r26.2.1) r26.2.1))
 some (v27)
 else none
theorem ev13 (x0:Tby):ev2 env13 orc13 loops13 body13 (initSt 0 [⟨.str,x0⟩]) (retT [(2,.dat .str)] [.str] fun x=>x.1)=G13 x0:=by kernel_rfl
def P13 (x0:Tby):Bool:=(hold (G13 x0)).isSome
def F13 (x0:Tby):Tby:=(hold (G13 x0)).getD default
theorem G13_some (x0:Tby) (h:P13 x0=true):G13 x0=some (F13 x0):=by
 unfold P13 at h; unfold F13
 rw [hold_eq] at h ⊢
 exact some_getD h
theorem P13_of (x0:Tby) {r:Tby} (h:G13 x0=some r):P13 x0=true:=by unfold P13; rw [hold_eq,h]; rfl
theorem F13_of (x0:Tby) {r:Tby} (h:G13 x0=some r):F13 x0=r:=by unfold F13; rw [hold_eq,h]; rfl
def spec13:Spec:=⟨[.str],[.dat .str],fun | [a0]=>P13 (a0.as .str) | _=>false,fun | [a0]=>[⟨.str,(F13 (a0.as .str))⟩] | _=>[]⟩
theorem meets13 (hE:EnvOk Tryd.prog env13) (hm:Tryd.prog.follows .mixedOrders=true):Meets Tryd.prog glob 13 spec13 :=
 meets_of_ev2 (O:=orc13) (L:=loops13) (c:=body13) (slots:=[2]) hE hm Tryd.func13 Tryd.call13 (by kernel_rfl) (by kernel_rfl) loops13_ok (rangesOk_nil (by kernel_rfl)) (by kernel_rfl) rfl (by decide) (fun ds hds hpre=>by
 obtain ⟨x0,ds0,rfl,h0⟩:=datsS hds
 have h9:=dats0 h0; subst h9
 exact ev_ret (un:=fun r=>[⟨.str,r⟩]) loops13_nat (fun _=>rfl) ((ev13 x0).trans (G13_some x0 hpre)))
def env16:Env:={
 tab:=tab
 glob:=glob
 spec:=fun
  | 13=>some spec13
  | _=>none
 bldT:=bldT
 bld:=bldF }
def orc16:Orc:=⟨10,fun _=>none,fun
 | 0=>kp [0,1] []
 | 1=>kp [4] []
 | _=>[],fun | _=>false⟩
noncomputable def body16:Code:=Tryd.f16.body.getD .skip
def loops16:Nat→Option (Sum):=fun | _=>none
theorem loops16_nat:∀ q f,loops16 q=some f→Natural f:=by
 intro q f h
 cases h
theorem loops16_ok:LoopsOk env16 orc16 loops16 body16:=loopsOk_nil (by kernel_rfl)
def G16 (x0:Tby) (x1:Tby):Option (Tby) :=
 bif (decide (List.length ([2]:List UInt8)+List.length x0≤9223372036854775807)) then
 let v1:Tby:=(([2]:List UInt8)++x0)
 bif (decide (List.length v1+List.length x1≤9223372036854775807)) then
 let v2:Tby:=(v1++x1)
 bif (P13 v2) then
 let v3:Tby:=(F13 v2)
 some (v3)
 else none
 else none
 else none
theorem ev16 (x0:Tby) (x1:Tby):ev2 env16 orc16 loops16 body16 (initSt 0 [⟨.str,x0⟩,⟨.str,x1⟩]) (retT [(4,.dat .str)] [.str] fun x=>x.1)=G16 x0 x1:=by kernel_rfl
def P16 (x0:Tby) (x1:Tby):Bool:=(hold (G16 x0 x1)).isSome
def F16 (x0:Tby) (x1:Tby):Tby:=(hold (G16 x0 x1)).getD default
theorem G16_some (x0:Tby) (x1:Tby) (h:P16 x0 x1=true):G16 x0 x1=some (F16 x0 x1):=by
 unfold P16 at h; unfold F16
 rw [hold_eq] at h ⊢
 exact some_getD h
theorem P16_of (x0:Tby) (x1:Tby) {r:Tby} (h:G16 x0 x1=some r):P16 x0 x1=true:=by unfold P16; rw [hold_eq,h]; rfl
theorem F16_of (x0:Tby) (x1:Tby) {r:Tby} (h:G16 x0 x1=some r):F16 x0 x1=r:=by unfold F16; rw [hold_eq,h]; rfl
def spec16:Spec:=⟨[.str,.str],[.dat .str],fun | [a0,a1]=>P16 (a0.as .str) (a1.as .str) | _=>false,fun | [a0,a1]=>[⟨.str,(F16 (a0.as .str) (a1.as .str))⟩] | _=>[]⟩
theorem meets16 (hE:EnvOk Tryd.prog env16) (hm:Tryd.prog.follows .mixedOrders=true):Meets Tryd.prog glob 16 spec16 :=
 meets_of_ev2 (O:=orc16) (L:=loops16) (c:=body16) (slots:=[4]) hE hm Tryd.func16 Tryd.call16 (by kernel_rfl) (by kernel_rfl) loops16_ok (rangesOk_nil (by kernel_rfl)) (by kernel_rfl) rfl (by decide) (fun ds hds hpre=>by
 obtain ⟨x0,ds0,rfl,h0⟩:=datsS hds
 obtain ⟨x1,ds1,rfl,h1⟩:=datsS h0
 have h9:=dats0 h1; subst h9
 exact ev_ret (un:=fun r=>[⟨.str,r⟩]) loops16_nat (fun _=>rfl) ((ev16 x0 x1).trans (G16_some x0 x1 hpre)))
def env12:Env:={
 tab:=tab
 glob:=glob
 spec:=fun
  | 16=>some spec16
  | _=>none
 bldT:=bldT
 bld:=bldF }
def orc12:Orc:=⟨20,fun _=>none,fun
 | 0=>kp [0] []
 | 1=>kp [0,3] []
 | 2=>kp [0,3,4] []
 | 3=>kp [0,3,4,10] []
 | 4=>kp [0,3,4] []
 | 5=>kp [0,3,4] []
 | 6=>kp [2] []
 | _=>[],fun | _=>false⟩
noncomputable def body12:Code:=Tryd.f12.body.getD .skip
abbrev L12_3_T:Type:=Tll×Tby×Int
def L12_3_sh:Shape:=[(.slot 0,.dat (.list .str)),(.slot 3,.dat .str),(.slot 4,.dat (.int .i64))]
def L12_3_x0:Shape:=[(.slot 0,.dat (.list .str)),(.slot 3,.dat .str),(.slot 4,.dat (.int .i64))]
def L12_3_pk (s:Tup L12_3_sh):L12_3_T:=(s.1,s.2.1,s.2.2.1)
def L12_3_un (s:Tll×Tby×Int):Tup L12_3_sh:=(s.1,(s.2.1,(s.2.2,())))
def L12_3_leave (x:L12_3_T) (R:Type) (K:Cont R):Option R:=match x with
 | a=>K (.exit 0) (mkSt L12_3_x0 (a.1,(a.2.1,(a.2.2,()))))
def L12_3_d (e:Exit) (st:St):Option (L12_3_T):=match e with
 | .exit 0=>(match unSt L12_3_x0 st with
  | some s=>some (s.1,s.2.1,s.2.2.1)
  | none=>none)
 | _=>none
def L12_3_r (s0:Tll) (s1:Tby) (s2:Int):Option (L12_3_T⊕(L12_3_T)) :=
 let v3:Int:=((List.length s0:Nat):Int)
 let v4:Bool:=(decide (s2 < v3))
 bif v4 then
 bif (decide (0≤s2) && decide (s2 < List.length s0)) then
 let v5:Tby:=(List.getD s0 (Int.toNat s2) ([]:List UInt8))
 bif (P16 s1 v5) then
 let v6:Tby:=(F16 s1 v5)
 let v7:Int:=(IntKind.i64.wrap (s2+(1:Int)))
 some (.inl (s0,v6,v7))
 else none
 else none
 else
 some (.inr (s0,s1,s2))
def L12_3:L12_3_T→Option (L12_3_T):=Lim (fun s=>L12_3_r s.1 s.2.1 s.2.2)
def L12_3_sum:Sum:=limSum L12_3_sh L12_3_pk (fun s=>L12_3_r s.1 s.2.1 s.2.2) L12_3_leave
theorem L12_3_nat:Natural L12_3_sum:=natural_lim fun x R K=>by
 rfl
theorem L12_3_dok:∀ e st x,e≠.normal→L12_3_d e st=some x→∀ R (K:Cont R),K e st=L12_3_leave x R K:=by
 intro e st x _ h R K
 unfold L12_3_d at h
 split at h
 ·split at h
  ·rename_i s hs; cases h; rw [unSt_some hs]; rfl
  ·cases h
 ·cases h
def loops12:Nat→Option (Sum):=fun | 3=>some L12_3_sum | _=>none
theorem loops12_nat:∀ q f,loops12 q=some f→Natural f:=by
 intro q f h
 unfold loops12 at h
 split at h
 ·cases h; exact L12_3_nat
 ·cases h
noncomputable def L12_3_code:Code:=(loopsOf body12).getD 0 .skip
theorem L12_3_round (s0:Tll) (s1:Tby) (s2:Int):ev2 env12 orc12 loops12 L12_3_code (mkSt L12_3_sh (s0,(s1,(s2,())))) (back L12_3_sh L12_3_pk L12_3_d)=L12_3_r s0 s1 s2:=by kernel_rfl
theorem L12_3_ok:SumOk env12 orc12 loops12 L12_3_code L12_3_sum:=sumOk_lim (un:=L12_3_un) loops12_nat (fun _=>rfl) L12_3_dok fun s=>L12_3_round s.1 s.2.1 s.2.2
theorem loops12_all:loopsOf body12=[L12_3_code]:=by kernel_rfl
theorem L12_3_key:lookL loops12 (keyOf L12_3_code)=some L12_3_sum:=by kernel_rfl
theorem loops12_ok:LoopsOk env12 orc12 loops12 body12:=by
 intro c hc f hf
 rw [loops12_all] at hc
 simp only [List.mem_cons,List.not_mem_nil,or_false] at hc
 subst hc
 ·rw [L12_3_key] at hf; cases hf; exact L12_3_ok
def G12 (x0:Tll):Option (Tby) :=
 bif (decide (0≤(32:Int)) && decide ((32:Int)≤(32:Int)) && decide ((32:Int)≤100000000000)) then
 let v1:Tin:=(List.replicate (Int.toNat (32:Int)) (0:Int))
 let v2:Tby:=(List.map (fun (n:Int)=>UInt8.ofNat n.toNat) v1)
 Option.bind (L12_3 (x0,v2,(0:Int))) fun (r8:Tll×Tby×Int) =>
 some (r8.2.1)
 else none
theorem ev12 (x0:Tll):ev2 env12 orc12 loops12 body12 (initSt 0 [⟨(.list .str),x0⟩]) (retT [(2,.dat .str)] [.str] fun x=>x.1)=G12 x0:=by kernel_rfl
def P12 (x0:Tll):Bool:=(hold (G12 x0)).isSome
def F12 (x0:Tll):Tby:=(hold (G12 x0)).getD default
theorem G12_some (x0:Tll) (h:P12 x0=true):G12 x0=some (F12 x0):=by
 unfold P12 at h; unfold F12
 rw [hold_eq] at h ⊢
 exact some_getD h
theorem P12_of (x0:Tll) {r:Tby} (h:G12 x0=some r):P12 x0=true:=by unfold P12; rw [hold_eq,h]; rfl
theorem F12_of (x0:Tll) {r:Tby} (h:G12 x0=some r):F12 x0=r:=by unfold F12; rw [hold_eq,h]; rfl
def spec12:Spec:=⟨[(.list .str)],[.dat .str],fun | [a0]=>P12 (a0.as (.list .str)) | _=>false,fun | [a0]=>[⟨.str,(F12 (a0.as (.list .str)))⟩] | _=>[]⟩
theorem meets12 (hE:EnvOk Tryd.prog env12) (hm:Tryd.prog.follows .mixedOrders=true):Meets Tryd.prog glob 12 spec12 :=
 meets_of_ev2 (O:=orc12) (L:=loops12) (c:=body12) (slots:=[2]) hE hm Tryd.func12 Tryd.call12 (by kernel_rfl) (by kernel_rfl) loops12_ok (rangesOk_nil (by kernel_rfl)) (by kernel_rfl) rfl (by decide) (fun ds hds hpre=>by
 obtain ⟨x0,ds0,rfl,h0⟩:=datsS hds
 have h9:=dats0 h0; subst h9
 exact ev_ret (un:=fun r=>[⟨.str,r⟩]) loops12_nat (fun _=>rfl) ((ev12 x0).trans (G12_some x0 hpre)))
def G10 (x0:D23):Option (Tby×Int) :=
 bif (P36 x0.2.1) then
 let v1:(Tll×Bool):=(F36 x0.2.1)
 let v2:Bool:=(!v1.2)
 bif ((P37 x0) || !(!v2 && true)) then
 let v3:Bool:=(F37 x0)
 let v4:Bool:=(!v3)
 let v5:Bool:=(bif v2 then true else v4)
 bif v5 then
 some (([]:List UInt8),(310:Int))
 else
 bif (P12 v1.1) then
 let v6:Tby:=(F12 v1.1)
 some (v6,(0:Int))
 else none
 else none
 else none
def P10 (x0:D23):Bool:=(hold (G10 x0)).isSome
def F10 (x0:D23):Tby×Int:=(hold (G10 x0)).getD default
def L3_8_r (s0:Bool) (s1:(List D23)) (s2:Int) (s3:Int):Option ((Bool×(List D23)×Int×Int)⊕((Bool)⊕(Bool×(List D23)×Int×Int))) :=
 let v12:Bool:=(decide (s3 < s2))
 bif v12 then
 bif (decide (0≤s3) && decide (s3 < (List.length s1))) then
 bif (decide ((Int.toNat s3) < List.length s1)) then
 let v13:D23:=(List.getD s1 (Int.toNat s3) z23)
 let v14:Tlp:=([]:Tlp)
 let v15:Tlp:=([]:Tlp)
 bif (P9 v13) then
 let v16:(Tby×Int):=(F9 v13)
 bif (P10 v13) then
 let v17:(Tby×Int):=(F10 v13)
 let v18:Bool:=(!(v16.1==v17.1))
 let v19:Bool:=(v16.2 != v17.2)
 let v20:Bool:=(bif v18 then true else v19)
 bif v20 then
 some (.inr (.inl false))
 else
 let v21:Int:=(IntKind.i64.wrap (s3+(1:Int)))
 some (.inl (s0,s1,s2,v21))
 else none
 else none
 else none
 else none
 else
 some (.inr (.inr (s0,s1,s2,s3)))
def L3_8:Bool×(List D23)×Int×Int→Option ((Bool)⊕(Bool×(List D23)×Int×Int)):=Lim (fun s=>L3_8_r s.1 s.2.1 s.2.2.1 s.2.2.2)
def G3 (x0:D23) (x1:Int) (x2:(List Tin)) (x3:D26):Option (Bool) :=
 bif (P5 ) then
 let v1:Int:=((List.length x0.2.1:Nat):Int)
 let v2:Int:=(if (8:Int) < v1 then (8:Int) else v1)
 bif (sliceTest (0:Int) v2 (List.length x0.2.1)) then
 let v3:Tlp:=(cut x0.2.1 (0:Int) v2)
 bif (P6 x3) then
 let v4:(Tby×Int):=(F6 x3)
 bif (P7 x3) then
 let v5:(Tby×Int):=(F7 x3)
 let v6:Bool:=(!(v4.1==v5.1))
 let v7:Bool:=(v4.2 != v5.2)
 let v8:Bool:=(bif v6 then true else v7)
 bif v8 then
 some (false)
 else
 bif (P8 x1 x2) then
 let q9:(D23×Unit):=F8 x1 x2
 let v10:(List D23):=(List.set (List.set (List.replicate 2 z23) 0 (x0.1,(v3,x0.2.2))) 1 q9.1)
 let v11:Int:=((List.length v10:Nat):Int)
 Option.bind (L3_8 (F5,v10,v11,(0:Int))) fun x=>match x with
 | (.inl r22) =>
 some (r22)
 | (.inr r23) =>
 some (r23.1)
 else none
 else none
 else none
 else none
 else none
def env11:Env:={
 tab:=tab
 glob:=glob
 spec:=fun
  | 12=>some spec12
  | 36=>some spec36
  | _=>none
 bldT:=bldT
 bld:=bldF }
def orc11:Orc:=⟨35,fun _=>none,fun
 | 0=>kp [0] []
 | 1=>kp [3,4] []
 | 2=>kp [3,4,5] []
 | 3=>kp [3,4,5,6] []
 | 4=>kp [3,4,5,6,18] []
 | 5=>kp [3,4,5,6] []
 | 6=>kp [3,4,5,6] []
 | 7=>kp [2] []
 | _=>[],fun | _=>false⟩
noncomputable def body11:Code:=Tryd.f11.body.getD .skip
abbrev L11_4_T:Type:=Tll×Bool×Tll×Int
def L11_4_sh:Shape:=[(.slot 3,.dat (.list .str)),(.slot 4,.dat .bool),(.slot 5,.own 9 .str),(.slot 6,.dat (.int .i64))]
def L11_4_x0:Shape:=[(.slot 3,.dat (.list .str)),(.slot 4,.dat .bool),(.slot 5,.own 9 .str),(.slot 6,.dat (.int .i64))]
def L11_4_pk (s:Tup L11_4_sh):L11_4_T:=(s.1,s.2.1,s.2.2.1,s.2.2.2.1)
def L11_4_un (s:Tll×Bool×Tll×Int):Tup L11_4_sh:=(s.1,(s.2.1,(s.2.2.1,(s.2.2.2,()))))
def L11_4_leave (x:L11_4_T) (R:Type) (K:Cont R):Option R:=match x with
 | a=>K (.exit 0) (mkSt L11_4_x0 (a.1,(a.2.1,(a.2.2.1,(a.2.2.2,())))))
def L11_4_d (e:Exit) (st:St):Option (L11_4_T):=match e with
 | .exit 0=>(match unSt L11_4_x0 st with
  | some s=>some (s.1,s.2.1,s.2.2.1,s.2.2.2.1)
  | none=>none)
 | _=>none
def L11_4_r (s0:Tll) (s1:Bool) (s2:Tll) (s3:Int):Option (L11_4_T⊕(L11_4_T)) :=
 let v4:Int:=((List.length s0:Nat):Int)
 let v5:Bool:=(decide (s3 < v4))
 let v6:Bool:=(bif v5 then s1 else false)
 bif v6 then
 bif (sliceTest (0:Int) s3 (List.length s0)) then
 let v7:Tll:=(cut s0 (0:Int) s3)
 bif (P12 v7) then
 let v8:Tby:=(F12 v7)
 bif (decide (List.length ([2]:List UInt8)+List.length v8≤9223372036854775807)) then
 let v9:Tby:=(([2]:List UInt8)++v8)
 bif (decide (0≤s3) && decide (s3 < List.length s0)) then
 let v10:Tby:=(List.getD s0 (Int.toNat s3) ([]:List UInt8))
 bif (decide (List.length v9+List.length v10≤9223372036854775807)) then
 let v11:Tby:=(v9++v10)
 let v12:Tll:=(List.set (List.replicate 1 ([]:List UInt8)) 0 v11)
 bif (decide (List.length (List.take (List.length s2) s2)+List.length v12≤100000000000)) then
 let v13:Tll:=((List.take (List.length s2) s2)++v12)
 let v14:Int:=(IntKind.i64.wrap (s3+(1:Int)))
 some (.inl (s0,s1,v13,v14))
 else none
 else none
 else none
 else none
 else none
 else none
 else
 some (.inr (s0,s1,s2,s3))
def L11_4:L11_4_T→Option (L11_4_T):=Lim (fun s=>L11_4_r s.1 s.2.1 s.2.2.1 s.2.2.2)
def L11_4_sum:Sum:=limSum L11_4_sh L11_4_pk (fun s=>L11_4_r s.1 s.2.1 s.2.2.1 s.2.2.2) L11_4_leave
theorem L11_4_nat:Natural L11_4_sum:=natural_lim fun x R K=>by
 rfl
theorem L11_4_dok:∀ e st x,e≠.normal→L11_4_d e st=some x→∀ R (K:Cont R),K e st=L11_4_leave x R K:=by
 intro e st x _ h R K
 unfold L11_4_d at h
 split at h
 ·split at h
  ·rename_i s hs; cases h; rw [unSt_some hs]; rfl
  ·cases h
 ·cases h
def loops11:Nat→Option (Sum):=fun | 4=>some L11_4_sum | _=>none
theorem loops11_nat:∀ q f,loops11 q=some f→Natural f:=by
 intro q f h
 unfold loops11 at h
 split at h
 ·cases h; exact L11_4_nat
 ·cases h
noncomputable def L11_4_code:Code:=(loopsOf body11).getD 0 .skip
theorem L11_4_round (s0:Tll) (s1:Bool) (s2:Tll) (s3:Int):ev2 env11 orc11 loops11 L11_4_code (mkSt L11_4_sh (s0,(s1,(s2,(s3,()))))) (back L11_4_sh L11_4_pk L11_4_d)=L11_4_r s0 s1 s2 s3:=by kernel_rfl
theorem L11_4_ok:SumOk env11 orc11 loops11 L11_4_code L11_4_sum:=sumOk_lim (un:=L11_4_un) loops11_nat (fun _=>rfl) L11_4_dok fun s=>L11_4_round s.1 s.2.1 s.2.2.1 s.2.2.2
theorem loops11_all:loopsOf body11=[L11_4_code]:=by kernel_rfl
theorem L11_4_key:lookL loops11 (keyOf L11_4_code)=some L11_4_sum:=by kernel_rfl
theorem loops11_ok:LoopsOk env11 orc11 loops11 body11:=by
 intro c hc f hf
 rw [loops11_all] at hc
 simp only [List.mem_cons,List.not_mem_nil,or_false] at hc
 subst hc
 ·rw [L11_4_key] at hf; cases hf; exact L11_4_ok
def G11 (x0:Tlp):Option (Tll) :=
 let v1:Tll:=([]:Tll)
 bif (P36 x0) then
 let v2:(Tll×Bool):=(F36 x0)
 let v3:Tll:=([]:Tll)
 Option.bind (L11_4 (v2.1,v2.2,v3,(0:Int))) fun (r15:Tll×Bool×Tll×Int) =>
 let v16:Tll:=(List.take (List.length r15.2.2.1) r15.2.2.1)
 some (v16)
 else none
theorem ev11 (x0:Tlp):ev2 env11 orc11 loops11 body11 (initSt 0 [⟨(.list t26),x0⟩]) (retT [(2,.dat (.list .str))] [(.list .str)] fun x=>x.1)=G11 x0:=by kernel_rfl
def P11 (x0:Tlp):Bool:=(hold (G11 x0)).isSome
def F11 (x0:Tlp):Tll:=(hold (G11 x0)).getD default
theorem G11_some (x0:Tlp) (h:P11 x0=true):G11 x0=some (F11 x0):=by
 unfold P11 at h; unfold F11
 rw [hold_eq] at h ⊢
 exact some_getD h
theorem P11_of (x0:Tlp) {r:Tll} (h:G11 x0=some r):P11 x0=true:=by unfold P11; rw [hold_eq,h]; rfl
theorem F11_of (x0:Tlp) {r:Tll} (h:G11 x0=some r):F11 x0=r:=by unfold F11; rw [hold_eq,h]; rfl
def spec11:Spec:=⟨[(.list t26)],[.dat (.list .str)],fun | [a0]=>P11 (a0.as (.list t26)) | _=>false,fun | [a0]=>[⟨(.list .str),(F11 (a0.as (.list t26)))⟩] | _=>[]⟩
theorem meets11 (hE:EnvOk Tryd.prog env11) (hm:Tryd.prog.follows .mixedOrders=true):Meets Tryd.prog glob 11 spec11 :=
 meets_of_ev2 (O:=orc11) (L:=loops11) (c:=body11) (slots:=[2]) hE hm Tryd.func11 Tryd.call11 (by kernel_rfl) (by kernel_rfl) loops11_ok (rangesOk_nil (by kernel_rfl)) (by kernel_rfl) rfl (by decide) (fun ds hds hpre=>by
 obtain ⟨x0,ds0,rfl,h0⟩:=datsS hds
 have h9:=dats0 h0; subst h9
 exact ev_ret (un:=fun r=>[⟨(.list .str),r⟩]) loops11_nat (fun _=>rfl) ((ev11 x0).trans (G11_some x0 hpre)))
def env14:Env:={
 tab:=tab
 glob:=glob
 spec:=fun
  | _=>none
 bldT:=bldT
 bld:=bldF }
def orc14:Orc:=⟨26,fun _=>none,fun
 | 0=>kp [0,1] []
 | 1=>kp [0,1,10] []
 | 2=>kp [4] []
 | 3=>kp [0,1,5] []
 | 4=>kp [0,1,5,14] []
 | 5=>kp [0,1,5] []
 | 6=>kp [0,1,5,25] []
 | 7=>kp [4] []
 | 8=>kp [4] []
 | _=>[],fun | _=>false⟩
noncomputable def body14:Code:=Tryd.f14.body.getD .skip
abbrev L14_4_T:Type:=Tlp×Tlp×Int
def L14_4_sh:Shape:=[(.slot 0,.dat (.list t26)),(.slot 1,.dat (.list t26)),(.slot 5,.dat (.int .i64))]
def L14_4_x0:Shape:=[(.slot 4,.dat .bool)]
def L14_4_x1:Shape:=[(.slot 0,.dat (.list t26)),(.slot 1,.dat (.list t26)),(.slot 5,.dat (.int .i64))]
def L14_4_pk (s:Tup L14_4_sh):L14_4_T:=(s.1,s.2.1,s.2.2.1)
def L14_4_un (s:Tlp×Tlp×Int):Tup L14_4_sh:=(s.1,(s.2.1,(s.2.2,())))
def L14_4_leave (x:(Bool)⊕L14_4_T) (R:Type) (K:Cont R):Option R:=match x with
 | (.inl a)=>K .ret (mkSt L14_4_x0 (a,()))
 | (.inr a)=>K (.exit 0) (mkSt L14_4_x1 (a.1,(a.2.1,(a.2.2,()))))
def L14_4_d (e:Exit) (st:St):Option ((Bool)⊕L14_4_T):=match e with
 | .ret=>(match unSt L14_4_x0 st with
  | some s=>some (.inl s.1)
  | none=>none)
 | .exit 0=>(match unSt L14_4_x1 st with
  | some s=>some (.inr (s.1,s.2.1,s.2.2.1))
  | none=>none)
 | _=>none
def L14_4_r (s0:Tlp) (s1:Tlp) (s2:Int):Option (L14_4_T⊕((Bool)⊕L14_4_T)) :=
 let v4:Int:=((List.length s0:Nat):Int)
 let v5:Bool:=(decide (s2 < v4))
 bif v5 then
 bif (decide (0≤s2) && decide (s2 < List.length s0)) then
 let v6:D26:=(List.getD s0 (Int.toNat s2) z26)
 bif (decide (0≤s2) && decide (s2 < List.length s1)) then
 let v7:D26:=(List.getD s1 (Int.toNat s2) z26)
 let v8:Bool:=(!(eqv t26 v6 v7))
 bif v8 then
 some (.inr (.inl false))
 else
 let v9:Int:=(IntKind.i64.wrap (s2+(1:Int)))
 some (.inl (s0,s1,v9))
 else none
 else none
 else
 some (.inr (.inr (s0,s1,s2)))
def L14_4:L14_4_T→Option ((Bool)⊕L14_4_T):=Lim (fun s=>L14_4_r s.1 s.2.1 s.2.2)
def L14_4_sum:Sum:=limSum L14_4_sh L14_4_pk (fun s=>L14_4_r s.1 s.2.1 s.2.2) L14_4_leave
theorem L14_4_nat:Natural L14_4_sum:=natural_lim fun x R K=>by
 rcases x with x|x<;>rfl
theorem L14_4_dok:∀ e st x,e≠.normal→L14_4_d e st=some x→∀ R (K:Cont R),K e st=L14_4_leave x R K:=by
 intro e st x _ h R K
 unfold L14_4_d at h
 split at h
 ·split at h
  ·rename_i s hs; cases h; rw [unSt_some hs]; rfl
  ·cases h
 ·split at h
  ·rename_i s hs; cases h; rw [unSt_some hs]; rfl
  ·cases h
 ·cases h
def loops14:Nat→Option (Sum):=fun | 4=>some L14_4_sum | _=>none
theorem loops14_nat:∀ q f,loops14 q=some f→Natural f:=by
 intro q f h
 unfold loops14 at h
 split at h
 ·cases h; exact L14_4_nat
 ·cases h
noncomputable def L14_4_code:Code:=(loopsOf body14).getD 0 .skip
theorem L14_4_round (s0:Tlp) (s1:Tlp) (s2:Int):ev2 env14 orc14 loops14 L14_4_code (mkSt L14_4_sh (s0,(s1,(s2,())))) (back L14_4_sh L14_4_pk L14_4_d)=L14_4_r s0 s1 s2:=by kernel_rfl
theorem L14_4_ok:SumOk env14 orc14 loops14 L14_4_code L14_4_sum:=sumOk_lim (un:=L14_4_un) loops14_nat (fun _=>rfl) L14_4_dok fun s=>L14_4_round s.1 s.2.1 s.2.2
theorem loops14_all:loopsOf body14=[L14_4_code]:=by kernel_rfl
theorem L14_4_key:lookL loops14 (keyOf L14_4_code)=some L14_4_sum:=by kernel_rfl
theorem loops14_ok:LoopsOk env14 orc14 loops14 body14:=by
 intro c hc f hf
 rw [loops14_all] at hc
 simp only [List.mem_cons,List.not_mem_nil,or_false] at hc
 subst hc
 ·rw [L14_4_key] at hf; cases hf; exact L14_4_ok
def G14 (x0:Tlp) (x1:Tlp):Option (Bool) :=
 let v1:Int:=((List.length x0:Nat):Int)
 let v2:Int:=((List.length x1:Nat):Int)
 let v3:Bool:=(v1 != v2)
 bif v3 then
 some (false)
 else
 Option.bind (L14_4 (x0,x1,(0:Int))) fun x=>match x with
 | (.inl r10) =>
 some (r10)
 | (.inr r11) =>
 some (true)
theorem ev14 (x0:Tlp) (x1:Tlp):ev2 env14 orc14 loops14 body14 (initSt 0 [⟨(.list t26),x0⟩,⟨(.list t26),x1⟩]) (retT [(4,.dat .bool)] [.bool] fun x=>x.1)=G14 x0 x1:=by kernel_rfl
def P14 (x0:Tlp) (x1:Tlp):Bool:=(hold (G14 x0 x1)).isSome
def F14 (x0:Tlp) (x1:Tlp):Bool:=(hold (G14 x0 x1)).getD default
theorem G14_some (x0:Tlp) (x1:Tlp) (h:P14 x0 x1=true):G14 x0 x1=some (F14 x0 x1):=by
 unfold P14 at h; unfold F14
 rw [hold_eq] at h ⊢
 exact some_getD h
theorem P14_of (x0:Tlp) (x1:Tlp) {r:Bool} (h:G14 x0 x1=some r):P14 x0 x1=true:=by unfold P14; rw [hold_eq,h]; rfl
theorem F14_of (x0:Tlp) (x1:Tlp) {r:Bool} (h:G14 x0 x1=some r):F14 x0 x1=r:=by unfold F14; rw [hold_eq,h]; rfl
def spec14:Spec:=⟨[(.list t26),(.list t26)],[.dat .bool],fun | [a0,a1]=>P14 (a0.as (.list t26)) (a1.as (.list t26)) | _=>false,fun | [a0,a1]=>[⟨.bool,(F14 (a0.as (.list t26)) (a1.as (.list t26)))⟩] | _=>[]⟩
theorem meets14 (hE:EnvOk Tryd.prog env14) (hm:Tryd.prog.follows .mixedOrders=true):Meets Tryd.prog glob 14 spec14 :=
 meets_of_ev2 (O:=orc14) (L:=loops14) (c:=body14) (slots:=[4]) hE hm Tryd.func14 Tryd.call14 (by kernel_rfl) (by kernel_rfl) loops14_ok (rangesOk_nil (by kernel_rfl)) (by kernel_rfl) rfl (by decide) (fun ds hds hpre=>by
 obtain ⟨x0,ds0,rfl,h0⟩:=datsS hds
 obtain ⟨x1,ds1,rfl,h1⟩:=datsS h0
 have h9:=dats0 h1; subst h9
 exact ev_ret (un:=fun r=>[⟨.bool,r⟩]) loops14_nat (fun _=>rfl) ((ev14 x0 x1).trans (G14_some x0 x1 hpre)))
def env15:Env:={
 tab:=tab
 glob:=glob
 spec:=fun
  | 13=>some spec13
  | _=>none
 bldT:=bldT
 bld:=bldF }
def orc15:Orc:=⟨58,fun _=>none,fun
 | 0=>kp [0,1] []
 | 1=>kp [0,1,5] []
 | 2=>kp [0,1,5,6] []
 | 3=>kp [0,1,5,6,13] []
 | 4=>kp [0,1,5,6] []
 | 5=>kp [0,1,5,6] []
 | 6=>kp [0,1,5,7] []
 | 7=>kp [0,1,5,7,27] []
 | 8=>kp [0,1,5,7] []
 | 9=>kp [0,1,5,7,8] []
 | 10=>kp [0,1,5,7,8,9] []
 | 11=>kp [0,1,5,7,8,9,38] []
 | 12=>kp [0,1,5,7,8,9] []
 | 13=>kp [0,1,5,7,8,9,57] []
 | 14=>kp [4] []
 | 15=>kp [4] []
 | _=>[],fun | _=>false⟩
noncomputable def body15:Code:=Tryd.f15.body.getD .skip
abbrev L15_11_T:Type:=Tll×Tll×Tll×Int×Tby×Int
def L15_11_sh:Shape:=[(.slot 0,.dat (.list .str)),(.slot 1,.dat (.list .str)),(.slot 5,.own 9 .str),(.slot 7,.dat (.int .i64)),(.slot 8,.dat .str),(.slot 9,.dat (.int .i64))]
def L15_11_x0:Shape:=[(.slot 4,.dat .bool)]
def L15_11_x1:Shape:=[(.slot 0,.dat (.list .str)),(.slot 1,.dat (.list .str)),(.slot 5,.own 9 .str),(.slot 7,.dat (.int .i64)),(.slot 8,.dat .str),(.slot 9,.dat (.int .i64))]
def L15_11_pk (s:Tup L15_11_sh):L15_11_T:=(s.1,s.2.1,s.2.2.1,s.2.2.2.1,s.2.2.2.2.1,s.2.2.2.2.2.1)
def L15_11_un (s:Tll×Tll×Tll×Int×Tby×Int):Tup L15_11_sh:=(s.1,(s.2.1,(s.2.2.1,(s.2.2.2.1,(s.2.2.2.2.1,(s.2.2.2.2.2,()))))))
def L15_11_leave (x:(Bool)⊕L15_11_T) (R:Type) (K:Cont R):Option R:=match x with
 | (.inl a)=>K .ret (mkSt L15_11_x0 (a,()))
 | (.inr a)=>K (.exit 4) (mkSt L15_11_x1 (a.1,(a.2.1,(a.2.2.1,(a.2.2.2.1,(a.2.2.2.2.1,(a.2.2.2.2.2,())))))))
def L15_11_d (e:Exit) (st:St):Option ((Bool)⊕L15_11_T):=match e with
 | .ret=>(match unSt L15_11_x0 st with
  | some s=>some (.inl s.1)
  | none=>none)
 | .exit 4=>(match unSt L15_11_x1 st with
  | some s=>some (.inr (s.1,s.2.1,s.2.2.1,s.2.2.2.1,s.2.2.2.2.1,s.2.2.2.2.2.1))
  | none=>none)
 | _=>none
def L15_11_r (s0:Tll) (s1:Tll) (s2:Tll) (s3:Int) (s4:Tby) (s5:Int):Option (L15_11_T⊕((Bool)⊕L15_11_T)) :=
 let v14:Int:=((List.length s1:Nat):Int)
 let v15:Bool:=(decide (s5 < v14))
 bif v15 then
 bif (decide (0≤s3) && decide (s3 < List.length s0)) then
 let v16:Tby:=(List.getD s0 (Int.toNat s3) ([]:List UInt8))
 bif (decide (0≤s5) && decide (s5 < List.length s1)) then
 let v17:Tby:=(List.getD s1 (Int.toNat s5) ([]:List UInt8))
 let v18:Bool:=(!(v16==v17))
 bif ((decide (0≤s5) && decide (s5 < (List.length s2))) || !(v18 && true)) then
 bif ((decide ((Int.toNat s5) < List.length s2)) || !(v18 && true)) then
 let v19:Tby:=(List.getD s2 (Int.toNat s5) ([]:List UInt8))
 let v20:Bool:=(s4==v19)
 let v21:Bool:=(bif v18 then v20 else false)
 bif v21 then
 some (.inr (.inl true))
 else
 let v22:Int:=(IntKind.i64.wrap (s5+(1:Int)))
 some (.inl (s0,s1,s2,s3,s4,v22))
 else none
 else none
 else none
 else none
 else
 some (.inr (.inr (s0,s1,s2,s3,s4,s5)))
def L15_11:L15_11_T→Option ((Bool)⊕L15_11_T):=Lim (fun s=>L15_11_r s.1 s.2.1 s.2.2.1 s.2.2.2.1 s.2.2.2.2.1 s.2.2.2.2.2)
def L15_11_sum:Sum:=limSum L15_11_sh L15_11_pk (fun s=>L15_11_r s.1 s.2.1 s.2.2.1 s.2.2.2.1 s.2.2.2.2.1 s.2.2.2.2.2) L15_11_leave
theorem L15_11_nat:Natural L15_11_sum:=natural_lim fun x R K=>by
 rcases x with x|x<;>rfl
theorem L15_11_dok:∀ e st x,e≠.normal→L15_11_d e st=some x→∀ R (K:Cont R),K e st=L15_11_leave x R K:=by
 intro e st x _ h R K
 unfold L15_11_d at h
 split at h
 ·split at h
  ·rename_i s hs; cases h; rw [unSt_some hs]; rfl
  ·cases h
 ·split at h
  ·rename_i s hs; cases h; rw [unSt_some hs]; rfl
  ·cases h
 ·cases h
abbrev L15_7_T:Type:=Tll×Tll×Tll×Int
def L15_7_sh:Shape:=[(.slot 0,.dat (.list .str)),(.slot 1,.dat (.list .str)),(.slot 5,.own 9 .str),(.slot 7,.dat (.int .i64))]
def L15_7_x0:Shape:=[(.slot 4,.dat .bool)]
def L15_7_x1:Shape:=[(.slot 0,.dat (.list .str)),(.slot 1,.dat (.list .str)),(.slot 5,.own 9 .str),(.slot 7,.dat (.int .i64))]
def L15_7_pk (s:Tup L15_7_sh):L15_7_T:=(s.1,s.2.1,s.2.2.1,s.2.2.2.1)
def L15_7_un (s:Tll×Tll×Tll×Int):Tup L15_7_sh:=(s.1,(s.2.1,(s.2.2.1,(s.2.2.2,()))))
def L15_7_leave (x:(Bool)⊕L15_7_T) (R:Type) (K:Cont R):Option R:=match x with
 | (.inl a)=>K .ret (mkSt L15_7_x0 (a,()))
 | (.inr a)=>K (.exit 2) (mkSt L15_7_x1 (a.1,(a.2.1,(a.2.2.1,(a.2.2.2,())))))
def L15_7_d (e:Exit) (st:St):Option ((Bool)⊕L15_7_T):=match e with
 | .ret=>(match unSt L15_7_x0 st with
  | some s=>some (.inl s.1)
  | none=>none)
 | .exit 2=>(match unSt L15_7_x1 st with
  | some s=>some (.inr (s.1,s.2.1,s.2.2.1,s.2.2.2.1))
  | none=>none)
 | _=>none
def L15_7_r (s0:Tll) (s1:Tll) (s2:Tll) (s3:Int):Option (L15_7_T⊕((Bool)⊕L15_7_T)) :=
 let v10:Int:=((List.length s0:Nat):Int)
 let v11:Bool:=(decide (s3 < v10))
 bif v11 then
 bif (decide (0≤s3) && decide (s3 < List.length s0)) then
 let v12:Tby:=(List.getD s0 (Int.toNat s3) ([]:List UInt8))
 bif (P13 v12) then
 let v13:Tby:=(F13 v12)
 Option.bind (L15_11 (s0,s1,s2,s3,v13,(0:Int))) fun x=>match x with
 | (.inl r23) =>
 some (.inr (.inl r23))
 | (.inr r24) =>
 let v25:Int:=(IntKind.i64.wrap (r24.2.2.2.1+(1:Int)))
 some (.inl (r24.1,r24.2.1,r24.2.2.1,v25))
 else none
 else none
 else
 some (.inr (.inr (s0,s1,s2,s3)))
def L15_7:L15_7_T→Option ((Bool)⊕L15_7_T):=Lim (fun s=>L15_7_r s.1 s.2.1 s.2.2.1 s.2.2.2)
def L15_7_sum:Sum:=limSum L15_7_sh L15_7_pk (fun s=>L15_7_r s.1 s.2.1 s.2.2.1 s.2.2.2) L15_7_leave
theorem L15_7_nat:Natural L15_7_sum:=natural_lim fun x R K=>by
 rcases x with x|x<;>rfl
theorem L15_7_dok:∀ e st x,e≠.normal→L15_7_d e st=some x→∀ R (K:Cont R),K e st=L15_7_leave x R K:=by
 intro e st x _ h R K
 unfold L15_7_d at h
 split at h
 ·split at h
  ·rename_i s hs; cases h; rw [unSt_some hs]; rfl
  ·cases h
 ·split at h
  ·rename_i s hs; cases h; rw [unSt_some hs]; rfl
  ·cases h
 ·cases h
abbrev L15_3_T:Type:=Tll×Tll×Tll×Int
def L15_3_sh:Shape:=[(.slot 0,.dat (.list .str)),(.slot 1,.dat (.list .str)),(.slot 5,.own 9 .str),(.slot 6,.dat (.int .i64))]
def L15_3_x0:Shape:=[(.slot 0,.dat (.list .str)),(.slot 1,.dat (.list .str)),(.slot 5,.own 9 .str),(.slot 6,.dat (.int .i64))]
def L15_3_pk (s:Tup L15_3_sh):L15_7_T:=(s.1,s.2.1,s.2.2.1,s.2.2.2.1)
def L15_3_un (s:Tll×Tll×Tll×Int):Tup L15_3_sh:=(s.1,(s.2.1,(s.2.2.1,(s.2.2.2,()))))
def L15_3_leave (x:L15_7_T) (R:Type) (K:Cont R):Option R:=match x with
 | a=>K (.exit 0) (mkSt L15_3_x0 (a.1,(a.2.1,(a.2.2.1,(a.2.2.2,())))))
def L15_3_d (e:Exit) (st:St):Option (L15_7_T):=match e with
 | .exit 0=>(match unSt L15_3_x0 st with
  | some s=>some (s.1,s.2.1,s.2.2.1,s.2.2.2.1)
  | none=>none)
 | _=>none
def L15_3_r (s0:Tll) (s1:Tll) (s2:Tll) (s3:Int):Option (L15_7_T⊕(L15_7_T)) :=
 let v2:Int:=((List.length s1:Nat):Int)
 let v3:Bool:=(decide (s3 < v2))
 bif v3 then
 bif (decide (0≤s3) && decide (s3 < List.length s1)) then
 let v4:Tby:=(List.getD s1 (Int.toNat s3) ([]:List UInt8))
 bif (P13 v4) then
 let v5:Tby:=(F13 v4)
 let v6:Tll:=(List.set (List.replicate 1 ([]:List UInt8)) 0 v5)
 bif (decide (List.length (List.take (List.length s2) s2)+List.length v6≤100000000000)) then
 let v7:Tll:=((List.take (List.length s2) s2)++v6)
 let v8:Int:=(IntKind.i64.wrap (s3+(1:Int)))
 some (.inl (s0,s1,v7,v8))
 else none
 else none
 else none
 else
 some (.inr (s0,s1,s2,s3))
def L15_3:L15_7_T→Option (L15_7_T):=Lim (fun s=>L15_3_r s.1 s.2.1 s.2.2.1 s.2.2.2)
def L15_3_sum:Sum:=limSum L15_3_sh L15_3_pk (fun s=>L15_3_r s.1 s.2.1 s.2.2.1 s.2.2.2) L15_3_leave
theorem L15_3_nat:Natural L15_3_sum:=natural_lim fun x R K=>by
 rfl
theorem L15_3_dok:∀ e st x,e≠.normal→L15_3_d e st=some x→∀ R (K:Cont R),K e st=L15_3_leave x R K:=by
 intro e st x _ h R K
 unfold L15_3_d at h
 split at h
 ·split at h
  ·rename_i s hs; cases h; rw [unSt_some hs]; rfl
  ·cases h
 ·cases h
def loops15:Nat→Option (Sum):=fun | 3=>some L15_3_sum | 7=>some L15_7_sum | 11=>some L15_11_sum | _=>none
theorem loops15_nat:∀ q f,loops15 q=some f→Natural f:=by
 intro q f h
 unfold loops15 at h
 split at h
 ·cases h; exact L15_3_nat
 ·cases h; exact L15_7_nat
 ·cases h; exact L15_11_nat
 ·cases h
noncomputable def L15_3_code:Code:=(loopsOf body15).getD 0 .skip
theorem L15_3_round (s0:Tll) (s1:Tll) (s2:Tll) (s3:Int):ev2 env15 orc15 loops15 L15_3_code (mkSt L15_3_sh (s0,(s1,(s2,(s3,()))))) (back L15_3_sh L15_3_pk L15_3_d)=L15_3_r s0 s1 s2 s3:=by kernel_rfl
theorem L15_3_ok:SumOk env15 orc15 loops15 L15_3_code L15_3_sum:=sumOk_lim (un:=L15_3_un) loops15_nat (fun _=>rfl) L15_3_dok fun s=>L15_3_round s.1 s.2.1 s.2.2.1 s.2.2.2
noncomputable def L15_7_code:Code:=(loopsOf body15).getD 1 .skip
theorem L15_7_round (s0:Tll) (s1:Tll) (s2:Tll) (s3:Int):ev2 env15 orc15 loops15 L15_7_code (mkSt L15_7_sh (s0,(s1,(s2,(s3,()))))) (back L15_7_sh L15_7_pk L15_7_d)=L15_7_r s0 s1 s2 s3:=by kernel_rfl
theorem L15_7_ok:SumOk env15 orc15 loops15 L15_7_code L15_7_sum:=sumOk_lim (un:=L15_7_un) loops15_nat (fun _=>rfl) L15_7_dok fun s=>L15_7_round s.1 s.2.1 s.2.2.1 s.2.2.2
noncomputable def L15_11_code:Code:=(loopsOf body15).getD 2 .skip
theorem L15_11_round (s0:Tll) (s1:Tll) (s2:Tll) (s3:Int) (s4:Tby) (s5:Int):ev2 env15 orc15 loops15 L15_11_code (mkSt L15_11_sh (s0,(s1,(s2,(s3,(s4,(s5,()))))))) (back L15_11_sh L15_11_pk L15_11_d)=L15_11_r s0 s1 s2 s3 s4 s5:=by kernel_rfl
theorem L15_11_ok:SumOk env15 orc15 loops15 L15_11_code L15_11_sum:=sumOk_lim (un:=L15_11_un) loops15_nat (fun _=>rfl) L15_11_dok fun s=>L15_11_round s.1 s.2.1 s.2.2.1 s.2.2.2.1 s.2.2.2.2.1 s.2.2.2.2.2
theorem loops15_all:loopsOf body15=[L15_3_code,L15_7_code,L15_11_code]:=by kernel_rfl
theorem L15_3_key:lookL loops15 (keyOf L15_3_code)=some L15_3_sum:=by kernel_rfl
theorem L15_7_key:lookL loops15 (keyOf L15_7_code)=some L15_7_sum:=by kernel_rfl
theorem L15_11_key:lookL loops15 (keyOf L15_11_code)=some L15_11_sum:=by kernel_rfl
theorem loops15_ok:LoopsOk env15 orc15 loops15 body15:=by
 intro c hc f hf
 rw [loops15_all] at hc
 simp only [List.mem_cons,List.not_mem_nil,or_false] at hc
 rcases hc with rfl | rfl | rfl
 ·rw [L15_3_key] at hf; cases hf; exact L15_3_ok
 ·rw [L15_7_key] at hf; cases hf; exact L15_7_ok
 ·rw [L15_11_key] at hf; cases hf; exact L15_11_ok
def G15 (x0:Tll) (x1:Tll):Option (Bool) :=
 let v1:Tll:=([]:Tll)
 Option.bind (L15_3 (x0,x1,v1,(0:Int))) fun (r9:Tll×Tll×Tll×Int) =>
 Option.bind (L15_7 (r9.1,r9.2.1,r9.2.2.1,(0:Int))) fun x=>match x with
 | (.inl r26) =>
 some (r26)
 | (.inr r27) =>
 some (false)
theorem ev15 (x0:Tll) (x1:Tll):ev2 env15 orc15 loops15 body15 (initSt 0 [⟨(.list .str),x0⟩,⟨(.list .str),x1⟩]) (retT [(4,.dat .bool)] [.bool] fun x=>x.1)=G15 x0 x1:=by kernel_rfl
def P15 (x0:Tll) (x1:Tll):Bool:=(hold (G15 x0 x1)).isSome
def F15 (x0:Tll) (x1:Tll):Bool:=(hold (G15 x0 x1)).getD default
theorem G15_some (x0:Tll) (x1:Tll) (h:P15 x0 x1=true):G15 x0 x1=some (F15 x0 x1):=by
 unfold P15 at h; unfold F15
 rw [hold_eq] at h ⊢
 exact some_getD h
theorem P15_of (x0:Tll) (x1:Tll) {r:Bool} (h:G15 x0 x1=some r):P15 x0 x1=true:=by unfold P15; rw [hold_eq,h]; rfl
theorem F15_of (x0:Tll) (x1:Tll) {r:Bool} (h:G15 x0 x1=some r):F15 x0 x1=r:=by unfold F15; rw [hold_eq,h]; rfl
def spec15:Spec:=⟨[(.list .str),(.list .str)],[.dat .bool],fun | [a0,a1]=>P15 (a0.as (.list .str)) (a1.as (.list .str)) | _=>false,fun | [a0,a1]=>[⟨.bool,(F15 (a0.as (.list .str)) (a1.as (.list .str)))⟩] | _=>[]⟩
theorem meets15 (hE:EnvOk Tryd.prog env15) (hm:Tryd.prog.follows .mixedOrders=true):Meets Tryd.prog glob 15 spec15 :=
 meets_of_ev2 (O:=orc15) (L:=loops15) (c:=body15) (slots:=[4]) hE hm Tryd.func15 Tryd.call15 (by kernel_rfl) (by kernel_rfl) loops15_ok (rangesOk_nil (by kernel_rfl)) (by kernel_rfl) rfl (by decide) (fun ds hds hpre=>by
 obtain ⟨x0,ds0,rfl,h0⟩:=datsS hds
 obtain ⟨x1,ds1,rfl,h1⟩:=datsS h0
 have h9:=dats0 h1; subst h9
 exact ev_ret (un:=fun r=>[⟨.bool,r⟩]) loops15_nat (fun _=>rfl) ((ev15 x0 x1).trans (G15_some x0 x1 hpre)))
def env4:Env:={
 tab:=tab
 glob:=glob
 spec:=fun
  | 5=>some spec5
  | 6=>some spec6
  | 9=>some spec9
  | 11=>some spec11
  | 12=>some spec12
  | 13=>some spec13
  | 14=>some spec14
  | 15=>some spec15
  | 16=>some spec16
  | _=>none
 spec2:=fun
  | 8,[]=>some sp8
  | _,_=>none
 bldT:=bldT
 bld:=bldF }
def orc4:Orc:=⟨146,fun _=>none,fun
 | 0=>kp [0,1,2] []
 | 1=>kp [0,1,2,7] []
 | 2=>kp [0,2,7,8] [(8,[0,1,2])]
 | 3=>kp [7,8,9] [(8,[0,1,2]),(9,[0,1,2])]
 | 4=>kp [7,8,9,10,11] [(8,[0,1,2]),(9,[0,1,2])]
 | 5=>kp [7,8,9,10,11,12,13] [(8,[0,1,2]),(9,[0,1,2])]
 | 6=>kp [7,8,9,10,12,52] [(8,[0,1,2]),(9,[0,1,2])]
 | 7=>kp [6] []
 | 8=>kp [7,8,9,10,12,14] [(8,[0,1,2]),(9,[0,1,2])]
 | 9=>kp [7,8,9,10,12,14,15] [(8,[0,1,2]),(9,[0,1,2])]
 | 10=>kp [7,8,9,10,12,14,15,16] [(8,[0,1,2]),(9,[0,1,2])]
 | 11=>kp [7,8,9,10,12,14,15,16,17] [(8,[0,1,2]),(9,[0,1,2])]
 | 12=>kp [7,8,9,10,12,14,15,16,17,64,65,66] [(8,[0,1,2]),(9,[0,1,2])]
 | 13=>kp [7,8,9,10,12,14,15,16,17,64,65,66,67] [(8,[0,1,2]),(9,[0,1,2])]
 | 14=>kp [7,8,9,10,12,14,15,16,17,19,64,65,66] [(8,[0,1,2]),(9,[0,1,2])]
 | 15=>kp [7,8,9,10,12,14,15,16,17,64,65,66] [(8,[0,1,2]),(9,[0,1,2])]
 | 16=>kp [7,8,9,10,12,14,15,16,17,64,65,66] [(8,[0,1,2]),(9,[0,1,2])]
 | 17=>kp [7,8,10,16,96] [(8,[0,1,2])]
 | 18=>kp [6] []
 | 19=>kp [7,8,10,16,20] [(8,[0,1,2])]
 | 20=>kp [7,8,10,16,20,101] [(8,[0,1,2])]
 | 21=>kp [6] []
 | 22=>kp [7,8,10,20,21,22] [(8,[0,1,2])]
 | 23=>kp [7,10,21,22,23,24] []
 | 24=>kp [6] []
 | _=>[],fun | _=>false⟩
noncomputable def body4:Code:=Tryd.f4.body.getD .skip
abbrev L4_13_T:Type:=Bool×Tby×Tby×Tll×Tll×Tby×Bool×Tll×Int×Int×Int×Tlp×Int×Int×Tlp×Int
def L4_13_sh:Shape:=[(.slot 7,.dat .bool),(.slot 8,.ptr 8 0),(.slot 9,.ptr 9 0),(.slot 10,.dat .str),(.slot 12,.dat .str),(.slot 14,.dat (.list .str)),(.slot 15,.dat (.list .str)),(.slot 16,.dat .str),(.slot 17,.dat .bool),(.slot 64,.own 9 .str),(.slot 65,.dat (.int .i64)),(.slot 66,.dat (.int .i64)),(.box 8,.bx 24 3),(.cell 8 0,.dat (.int .i64)),(.cell 8 1,.dat (.list t26)),(.cell 8 2,.dat (.int .i64)),(.box 9,.bx 24 3),(.cell 9 0,.dat (.int .i64)),(.cell 9 1,.dat (.list t26)),(.cell 9 2,.dat (.int .i64))]
def L4_13_x0:Shape:=[(.slot 7,.dat .bool),(.slot 8,.ptr 8 0),(.slot 9,.ptr 9 0),(.slot 10,.dat .str),(.slot 12,.dat .str),(.slot 14,.dat (.list .str)),(.slot 15,.dat (.list .str)),(.slot 16,.dat .str),(.slot 17,.dat .bool),(.slot 64,.own 9 .str),(.slot 65,.dat (.int .i64)),(.slot 66,.dat (.int .i64)),(.box 8,.bx 24 3),(.cell 8 0,.dat (.int .i64)),(.cell 8 1,.dat (.list t26)),(.cell 8 2,.dat (.int .i64)),(.box 9,.bx 24 3),(.cell 9 0,.dat (.int .i64)),(.cell 9 1,.dat (.list t26)),(.cell 9 2,.dat (.int .i64))]
def L4_13_pk (s:Tup L4_13_sh):L4_13_T:=(s.1,s.2.2.2.1,s.2.2.2.2.1,s.2.2.2.2.2.1,s.2.2.2.2.2.2.1,s.2.2.2.2.2.2.2.1,s.2.2.2.2.2.2.2.2.1,s.2.2.2.2.2.2.2.2.2.1,s.2.2.2.2.2.2.2.2.2.2.1,s.2.2.2.2.2.2.2.2.2.2.2.1,s.2.2.2.2.2.2.2.2.2.2.2.2.2.1,s.2.2.2.2.2.2.2.2.2.2.2.2.2.2.1,s.2.2.2.2.2.2.2.2.2.2.2.2.2.2.2.1,s.2.2.2.2.2.2.2.2.2.2.2.2.2.2.2.2.2.1,s.2.2.2.2.2.2.2.2.2.2.2.2.2.2.2.2.2.2.1,s.2.2.2.2.2.2.2.2.2.2.2.2.2.2.2.2.2.2.2.1)
def L4_13_un (s:Bool×Tby×Tby×Tll×Tll×Tby×Bool×Tll×Int×Int×Int×Tlp×Int×Int×Tlp×Int):Tup L4_13_sh:=(s.1,((),((),(s.2.1,(s.2.2.1,(s.2.2.2.1,(s.2.2.2.2.1,(s.2.2.2.2.2.1,(s.2.2.2.2.2.2.1,(s.2.2.2.2.2.2.2.1,(s.2.2.2.2.2.2.2.2.1,(s.2.2.2.2.2.2.2.2.2.1,((),(s.2.2.2.2.2.2.2.2.2.2.1,(s.2.2.2.2.2.2.2.2.2.2.2.1,(s.2.2.2.2.2.2.2.2.2.2.2.2.1,((),(s.2.2.2.2.2.2.2.2.2.2.2.2.2.1,(s.2.2.2.2.2.2.2.2.2.2.2.2.2.2.1,(s.2.2.2.2.2.2.2.2.2.2.2.2.2.2.2,()))))))))))))))))))))
def L4_13_leave (x:L4_13_T) (R:Type) (K:Cont R):Option R:=match x with
 | a=>K (.exit 0) (mkSt L4_13_x0 (a.1,((),((),(a.2.1,(a.2.2.1,(a.2.2.2.1,(a.2.2.2.2.1,(a.2.2.2.2.2.1,(a.2.2.2.2.2.2.1,(a.2.2.2.2.2.2.2.1,(a.2.2.2.2.2.2.2.2.1,(a.2.2.2.2.2.2.2.2.2.1,((),(a.2.2.2.2.2.2.2.2.2.2.1,(a.2.2.2.2.2.2.2.2.2.2.2.1,(a.2.2.2.2.2.2.2.2.2.2.2.2.1,((),(a.2.2.2.2.2.2.2.2.2.2.2.2.2.1,(a.2.2.2.2.2.2.2.2.2.2.2.2.2.2.1,(a.2.2.2.2.2.2.2.2.2.2.2.2.2.2.2,())))))))))))))))))))))
def L4_13_d (e:Exit) (st:St):Option (L4_13_T):=match e with
 | .exit 0=>(match unSt L4_13_x0 st with
  | some s=>some (s.1,s.2.2.2.1,s.2.2.2.2.1,s.2.2.2.2.2.1,s.2.2.2.2.2.2.1,s.2.2.2.2.2.2.2.1,s.2.2.2.2.2.2.2.2.1,s.2.2.2.2.2.2.2.2.2.1,s.2.2.2.2.2.2.2.2.2.2.1,s.2.2.2.2.2.2.2.2.2.2.2.1,s.2.2.2.2.2.2.2.2.2.2.2.2.2.1,s.2.2.2.2.2.2.2.2.2.2.2.2.2.2.1,s.2.2.2.2.2.2.2.2.2.2.2.2.2.2.2.1,s.2.2.2.2.2.2.2.2.2.2.2.2.2.2.2.2.2.1,s.2.2.2.2.2.2.2.2.2.2.2.2.2.2.2.2.2.2.1,s.2.2.2.2.2.2.2.2.2.2.2.2.2.2.2.2.2.2.2.1)
  | none=>none)
 | _=>none
def L4_13_r (s0:Bool) (s1:Tby) (s2:Tby) (s3:Tll) (s4:Tll) (s5:Tby) (s6:Bool) (s7:Tll) (s8:Int) (s9:Int) (s10:Int) (s11:Tlp) (s12:Int) (s13:Int) (s14:Tlp) (s15:Int):Option (L4_13_T⊕(L4_13_T)) :=
 let v22:Bool:=(decide (s9 < s8))
 bif v22 then
 bif (decide (0≤s9) && decide (s9 < (List.length s7))) then
 bif (decide ((Int.toNat s9) < List.length s7)) then
 let v23:Tby:=(List.getD s7 (Int.toNat s9) ([]:List UInt8))
 bif ((P13 v23) || !(!s6 && true)) then
 let v24:Tby:=(F13 v23)
 let v25:Bool:=(v24==s5)
 let v26:Bool:=(bif s6 then true else v25)
 let v27:Int:=(IntKind.i64.wrap (s9+(1:Int)))
 some (.inl (s0,s1,s2,s3,s4,s5,v26,s7,s8,v27,s10,s11,s12,s13,s14,s15))
 else none
 else none
 else none
 else
 some (.inr (s0,s1,s2,s3,s4,s5,s6,s7,s8,s9,s10,s11,s12,s13,s14,s15))
def L4_13:L4_13_T→Option (L4_13_T):=Lim (fun s=>L4_13_r s.1 s.2.1 s.2.2.1 s.2.2.2.1 s.2.2.2.2.1 s.2.2.2.2.2.1 s.2.2.2.2.2.2.1 s.2.2.2.2.2.2.2.1 s.2.2.2.2.2.2.2.2.1 s.2.2.2.2.2.2.2.2.2.1 s.2.2.2.2.2.2.2.2.2.2.1 s.2.2.2.2.2.2.2.2.2.2.2.1 s.2.2.2.2.2.2.2.2.2.2.2.2.1 s.2.2.2.2.2.2.2.2.2.2.2.2.2.1 s.2.2.2.2.2.2.2.2.2.2.2.2.2.2.1 s.2.2.2.2.2.2.2.2.2.2.2.2.2.2.2)
def L4_13_sum:Sum:=limSum L4_13_sh L4_13_pk (fun s=>L4_13_r s.1 s.2.1 s.2.2.1 s.2.2.2.1 s.2.2.2.2.1 s.2.2.2.2.2.1 s.2.2.2.2.2.2.1 s.2.2.2.2.2.2.2.1 s.2.2.2.2.2.2.2.2.1 s.2.2.2.2.2.2.2.2.2.1 s.2.2.2.2.2.2.2.2.2.2.1 s.2.2.2.2.2.2.2.2.2.2.2.1 s.2.2.2.2.2.2.2.2.2.2.2.2.1 s.2.2.2.2.2.2.2.2.2.2.2.2.2.1 s.2.2.2.2.2.2.2.2.2.2.2.2.2.2.1 s.2.2.2.2.2.2.2.2.2.2.2.2.2.2.2) L4_13_leave
theorem L4_13_nat:Natural L4_13_sum:=natural_lim fun x R K=>by
 rfl
theorem L4_13_dok:∀ e st x,e≠.normal→L4_13_d e st=some x→∀ R (K:Cont R),K e st=L4_13_leave x R K:=by
 intro e st x _ h R K
 unfold L4_13_d at h
 split at h
 ·split at h
  ·rename_i s hs; cases h; rw [unSt_some hs]; rfl
  ·cases h
 ·cases h
def loops4:Nat→Option (Sum):=fun | 13=>some L4_13_sum | _=>none
theorem loops4_nat:∀ q f,loops4 q=some f→Natural f:=by
 intro q f h
 unfold loops4 at h
 split at h
 ·cases h; exact L4_13_nat
 ·cases h
noncomputable def L4_13_code:Code:=(loopsOf body4).getD 0 .skip
theorem L4_13_round (s0:Bool) (s1:Tby) (s2:Tby) (s3:Tll) (s4:Tll) (s5:Tby) (s6:Bool) (s7:Tll) (s8:Int) (s9:Int) (s10:Int) (s11:Tlp) (s12:Int) (s13:Int) (s14:Tlp) (s15:Int):ev2 env4 orc4 loops4 L4_13_code (mkSt L4_13_sh (s0,((),((),(s1,(s2,(s3,(s4,(s5,(s6,(s7,(s8,(s9,((),(s10,(s11,(s12,((),(s13,(s14,(s15,()))))))))))))))))))))) (back L4_13_sh L4_13_pk L4_13_d)=L4_13_r s0 s1 s2 s3 s4 s5 s6 s7 s8 s9 s10 s11 s12 s13 s14 s15:=by kernel_rfl
theorem L4_13_ok:SumOk env4 orc4 loops4 L4_13_code L4_13_sum:=sumOk_lim (un:=L4_13_un) loops4_nat (fun _=>rfl) L4_13_dok fun s=>L4_13_round s.1 s.2.1 s.2.2.1 s.2.2.2.1 s.2.2.2.2.1 s.2.2.2.2.2.1 s.2.2.2.2.2.2.1 s.2.2.2.2.2.2.2.1 s.2.2.2.2.2.2.2.2.1 s.2.2.2.2.2.2.2.2.2.1 s.2.2.2.2.2.2.2.2.2.2.1 s.2.2.2.2.2.2.2.2.2.2.2.1 s.2.2.2.2.2.2.2.2.2.2.2.2.1 s.2.2.2.2.2.2.2.2.2.2.2.2.2.1 s.2.2.2.2.2.2.2.2.2.2.2.2.2.2.1 s.2.2.2.2.2.2.2.2.2.2.2.2.2.2.2
theorem loops4_all:loopsOf body4=[L4_13_code]:=by kernel_rfl
theorem L4_13_key:lookL loops4 (keyOf L4_13_code)=some L4_13_sum:=by kernel_rfl
theorem loops4_ok:LoopsOk env4 orc4 loops4 body4:=by
 intro c hc f hf
 rw [loops4_all] at hc
 simp only [List.mem_cons,List.not_mem_nil,or_false] at hc
 subst hc
 ·rw [L4_13_key] at hf; cases hf; exact L4_13_ok
def G4 (x0:Int) (x1:(List Tin)) (x2:(List Tin)):Option (Bool) :=
 bif (P5 ) then
 bif (P8 x0 x1) then
 let q1:(D23×Unit):=F8 x0 x1
 let v2:Tlp:=([]:Tlp)
 let v3:Tlp:=([]:Tlp)
 bif (P8 x0 x2) then
 let q4:(D23×Unit):=F8 x0 x2
 let v5:Tlp:=([]:Tlp)
 let v6:Tlp:=([]:Tlp)
 bif (P9 q1.1) then
 let v7:(Tby×Int):=(F9 q1.1)
 bif (P9 q4.1) then
 let v8:(Tby×Int):=(F9 q4.1)
 let v9:Bool:=(v7.2 != (0:Int))
 let v10:Bool:=(v8.2 != (0:Int))
 let v11:Bool:=(bif v9 then true else v10)
 let v12:Int:=((List.length v7.1:Nat):Int)
 let v13:Bool:=(v12 != (32:Int))
 let v14:Bool:=(bif v11 then true else v13)
 bif v14 then
 some (false)
 else
 bif (P11 q1.1.2.1) then
 let v15:Tll:=(F11 q1.1.2.1)
 bif (P11 q4.1.2.1) then
 let v16:Tll:=(F11 q4.1.2.1)
 bif (P12 ([]:Tll)) then
 let v17:Tby:=(F12 ([]:Tll))
 let v18:Tll:=(List.replicate 0 ([]:List UInt8))
 bif (decide (List.length (List.take (List.length v18) v18)+List.length v15≤100000000000)) then
 let v19:Tll:=((List.take (List.length v18) v18)++v15)
 bif (decide (List.length (List.take (List.length v19) v19)+List.length v16≤100000000000)) then
 let v20:Tll:=((List.take (List.length v19) v19)++v16)
 let v21:Int:=((List.length v20:Nat):Int)
 Option.bind (L4_13 (F5,v7.1,v8.1,v15,v16,v17,false,v20,v21,(0:Int),q1.1.1,q1.1.2.1,q1.1.2.2.1,q4.1.1,q4.1.2.1,q4.1.2.2.1)) fun (r28:Bool×Tby×Tby×Tll×Tll×Tby×Bool×Tll×Int×Int×Int×Tlp×Int×Int×Tlp×Int) =>
 let v29:Bool:=(r28.2.1==r28.2.2.1)
 bif (P14 r28.2.2.2.2.2.2.2.2.2.2.2.1 r28.2.2.2.2.2.2.2.2.2.2.2.2.2.2.1) then
 let v30:Bool:=(F14 r28.2.2.2.2.2.2.2.2.2.2.2.1 r28.2.2.2.2.2.2.2.2.2.2.2.2.2.2.1)
 let v31:Bool:=(!(eqv .bool v29 v30))
 bif ((P15 r28.2.2.2.1 r28.2.2.2.2.1) || !(v31 && true)) then
 let v32:Bool:=(F15 r28.2.2.2.1 r28.2.2.2.2.1)
 let v33:Bool:=(!v32)
 let v34:Bool:=(bif v31 then v33 else false)
 let v35:Bool:=(!r28.2.2.2.2.2.2.1)
 let v36:Bool:=(bif v34 then v35 else false)
 bif v36 then
 some (false)
 else
 let v37:Int:=((List.length r28.2.2.2.2.2.2.2.2.2.2.2.1:Nat):Int)
 let v38:Bool:=(v37==(0:Int))
 bif v38 then
 let v39:Bool:=(r28.2.1==r28.2.2.2.2.2.1)
 let v40:Bool:=(bif r28.1 then v39 else false)
 some (v40)
 else
 let v41:Int:=(IntKind.i64.wrap (v37 - (1:Int)))
 bif (sliceTest (0:Int) v41 (List.length r28.2.2.2.2.2.2.2.2.2.2.2.1)) then
 let v42:Tlp:=(cut r28.2.2.2.2.2.2.2.2.2.2.2.1 (0:Int) v41)
 bif (P9 (r28.2.2.2.2.2.2.2.2.2.2.1,(v42,((0:Int),())))) then
 let v43:(Tby×Int):=(F9 (r28.2.2.2.2.2.2.2.2.2.2.1,(v42,((0:Int),()))))
 let v44:Int:=(IntKind.i64.wrap (v37 - (1:Int)))
 bif (decide (0≤v44) && decide (v44 < List.length r28.2.2.2.2.2.2.2.2.2.2.2.1)) then
 let v45:D26:=(List.getD r28.2.2.2.2.2.2.2.2.2.2.2.1 (Int.toNat v44) z26)
 bif (P6 v45) then
 let v46:(Tby×Int):=(F6 v45)
 let v47:Bool:=(v43.2==(0:Int))
 let v48:Bool:=(bif r28.1 then v47 else false)
 let v49:Bool:=(v46.2==(0:Int))
 let v50:Bool:=(bif v48 then v49 else false)
 bif ((P16 v43.1 v46.1) || !(v50 && true)) then
 let v51:Tby:=(F16 v43.1 v46.1)
 let v52:Bool:=(r28.2.1==v51)
 let v53:Bool:=(bif v50 then v52 else false)
 some (v53)
 else none
 else none
 else none
 else none
 else none
 else none
 else none
 else none
 else none
 else none
 else none
 else none
 else none
 else none
 else none
 else none
 else none
theorem ev4 (x0:Int) (x1:(List Tin)) (x2:(List Tin)):ev2 env4 orc4 loops4 body4 (initSt 0 [⟨(.int .i64),x0⟩,⟨(.list (.arr 5 (.int .i64))),x1⟩,⟨(.list (.arr 5 (.int .i64))),x2⟩]) (retT [(6,.dat .bool)] [.bool] fun x=>x.1)=G4 x0 x1 x2:=by kernel_rfl
def P4 (x0:Int) (x1:(List Tin)) (x2:(List Tin)):Bool:=(hold (G4 x0 x1 x2)).isSome
def F4 (x0:Int) (x1:(List Tin)) (x2:(List Tin)):Bool:=(hold (G4 x0 x1 x2)).getD default
theorem G4_some (x0:Int) (x1:(List Tin)) (x2:(List Tin)) (h:P4 x0 x1 x2=true):G4 x0 x1 x2=some (F4 x0 x1 x2):=by
 unfold P4 at h; unfold F4
 rw [hold_eq] at h ⊢
 exact some_getD h
theorem P4_of (x0:Int) (x1:(List Tin)) (x2:(List Tin)) {r:Bool} (h:G4 x0 x1 x2=some r):P4 x0 x1 x2=true:=by unfold P4; rw [hold_eq,h]; rfl
theorem F4_of (x0:Int) (x1:(List Tin)) (x2:(List Tin)) {r:Bool} (h:G4 x0 x1 x2=some r):F4 x0 x1 x2=r:=by unfold F4; rw [hold_eq,h]; rfl
def spec4:Spec:=⟨[(.int .i64),(.list (.arr 5 (.int .i64))),(.list (.arr 5 (.int .i64)))],[.dat .bool],fun | [a0,a1,a2]=>P4 (a0.as (.int .i64)) (a1.as (.list (.arr 5 (.int .i64)))) (a2.as (.list (.arr 5 (.int .i64)))) | _=>false,fun | [a0,a1,a2]=>[⟨.bool,(F4 (a0.as (.int .i64)) (a1.as (.list (.arr 5 (.int .i64)))) (a2.as (.list (.arr 5 (.int .i64)))))⟩] | _=>[]⟩
theorem meets4 (hE:EnvOk Tryd.prog env4) (hm:Tryd.prog.follows .mixedOrders=true):Meets Tryd.prog glob 4 spec4 :=
 meets_of_ev2 (O:=orc4) (L:=loops4) (c:=body4) (slots:=[6]) hE hm Tryd.func4 Tryd.call4 (by kernel_rfl) (by kernel_rfl) loops4_ok (rangesOk_nil (by kernel_rfl)) (by kernel_rfl) rfl (by decide) (fun ds hds hpre=>by
 obtain ⟨x0,ds0,rfl,h0⟩:=datsS hds
 obtain ⟨x1,ds1,rfl,h1⟩:=datsS h0
 obtain ⟨x2,ds2,rfl,h2⟩:=datsS h1
 have h9:=dats0 h2; subst h9
 exact ev_ret (un:=fun r=>[⟨.bool,r⟩]) loops4_nat (fun _=>rfl) ((ev4 x0 x1 x2).trans (G4_some x0 x1 x2 hpre)))
theorem mixed:Tryd.prog.follows .mixedOrders=true:=by kernel_rfl
theorem envOk41:EnvOk Tryd.prog env41:=by
 refine ⟨tabOk,fun f S h=>?_,fun f l S h=>?_,fun f fs I h=>?_,bldOk⟩
 ·simp only [env41] at h
  cases h
 ·simp only [env41] at h
  cases h
 ·simp only [env41] at h
  cases h
theorem full41:Meets Tryd.prog glob 41 spec41:=meets41 envOk41 mixed
theorem envOk63:EnvOk Tryd.prog env63:=by
 refine ⟨tabOk,fun f S h=>?_,fun f l S h=>?_,fun f fs I h=>?_,bldOk⟩
 ·simp only [env63] at h
  split at h
  ·cases h; exact full41
  ·cases h
 ·simp only [env63] at h
  cases h
 ·simp only [env63] at h
  cases h
theorem full63:Meets Tryd.prog glob 63 spec63:=meets63 envOk63 mixed
theorem envOk64:EnvOk Tryd.prog env64:=by
 refine ⟨tabOk,fun f S h=>?_,fun f l S h=>?_,fun f fs I h=>?_,bldOk⟩
 ·simp only [env64] at h
  cases h
 ·simp only [env64] at h
  cases h
 ·simp only [env64] at h
  cases h
theorem full64:Meets Tryd.prog glob 64 spec64:=meets64 envOk64 mixed
theorem envOk51:EnvOk Tryd.prog env51:=by
 refine ⟨tabOk,fun f S h=>?_,fun f l S h=>?_,fun f fs I h=>?_,bldOk⟩
 ·simp only [env51] at h
  split at h
  ·cases h; exact full63
  ·cases h; exact full64
  ·cases h
 ·simp only [env51] at h
  cases h
 ·simp only [env51] at h
  cases h
theorem full51:Meets2 Tryd.prog glob 51 sp51:=meets51 envOk51 mixed
theorem envOk33:EnvOk Tryd.prog env33:=by
 refine ⟨tabOk,fun f S h=>?_,fun f l S h=>?_,fun f fs I h=>?_,bldOk⟩
 ·simp only [env33] at h
  split at h
  ·cases h; exact full41
  ·cases h
 ·simp only [env33] at h
  split at h
  ·cases h; exact full51
  ·cases h
 ·simp only [env33] at h
  cases h
theorem full33:Meets2 Tryd.prog glob 33 sp33:=meets33 envOk33 mixed
theorem envOk10051:EnvOk Tryd.prog env10051:=by
 refine ⟨tabOk,fun f S h=>?_,fun f l S h=>?_,fun f fs I h=>?_,bldOk⟩
 ·simp only [env10051] at h
  split at h
  ·cases h; exact full63
  ·cases h; exact full64
  ·cases h
 ·simp only [env10051] at h
  cases h
 ·simp only [env10051] at h
  cases h
theorem full10051:Meets2 Tryd.prog glob 51 sp10051:=meets10051 envOk10051 mixed
theorem envOk40:EnvOk Tryd.prog env40:=by
 refine ⟨tabOk,fun f S h=>?_,fun f l S h=>?_,fun f fs I h=>?_,bldOk⟩
 ·simp only [env40] at h
  cases h
 ·simp only [env40] at h
  split at h
  ·cases h; exact full10051
  ·cases h
 ·simp only [env40] at h
  cases h
theorem full40:Meets2 Tryd.prog glob 40 sp40:=meets40 envOk40 mixed
theorem envOk17:EnvOk Tryd.prog env17:=by
 refine ⟨tabOk,fun f S h=>?_,fun f l S h=>?_,fun f fs I h=>?_,bldOk⟩
 ·simp only [env17] at h
  cases h
 ·simp only [env17] at h
  split at h
  ·cases h; exact full33
  ·cases h; exact full40
  ·cases h
 ·simp only [env17] at h
  cases h
theorem full17:Meets2 Tryd.prog glob 17 sp17:=meets17 envOk17 mixed
theorem envOk42:EnvOk Tryd.prog env42:=by
 refine ⟨tabOk,fun f S h=>?_,fun f l S h=>?_,fun f fs I h=>?_,bldOk⟩
 ·simp only [env42] at h
  cases h
 ·simp only [env42] at h
  cases h
 ·simp only [env42] at h
  cases h
theorem full42:Meets2 Tryd.prog glob 42 sp42:=meets42 envOk42 mixed
theorem envOk43:EnvOk Tryd.prog env43:=by
 refine ⟨tabOk,fun f S h=>?_,fun f l S h=>?_,fun f fs I h=>?_,bldOk⟩
 ·simp only [env43] at h
  cases h
 ·simp only [env43] at h
  cases h
 ·simp only [env43] at h
  cases h
theorem full43:Meets2 Tryd.prog glob 43 sp43:=meets43 envOk43 mixed
theorem envOk60:EnvOk Tryd.prog env60:=by
 refine ⟨tabOk,fun f S h=>?_,fun f l S h=>?_,fun f fs I h=>?_,bldOk⟩
 ·simp only [env60] at h
  cases h
 ·simp only [env60] at h
  split at h
  ·cases h; exact full43
  ·cases h
 ·simp only [env60] at h
  cases h
theorem fullI60:IterOk Tryd.prog glob 60 I60:=iter60 envOk60 mixed
theorem envOk44:EnvOk Tryd.prog env44:=by
 refine ⟨tabOk,fun f S h=>?_,fun f l S h=>?_,fun f fs I h=>?_,bldOk⟩
 ·simp only [env44] at h
  cases h
 ·simp only [env44] at h
  cases h
 ·simp only [env44] at h
  cases h
theorem full44:Meets2 Tryd.prog glob 44 sp44:=meets44 envOk44 mixed
theorem envOk45:EnvOk Tryd.prog env45:=by
 refine ⟨tabOk,fun f S h=>?_,fun f l S h=>?_,fun f fs I h=>?_,bldOk⟩
 ·simp only [env45] at h
  cases h
 ·simp only [env45] at h
  cases h
 ·simp only [env45] at h
  cases h
theorem full45:Meets Tryd.prog glob 45 spec45:=meets45 envOk45 mixed
theorem envOk18:EnvOk Tryd.prog env18:=by
 refine ⟨tabOk,fun f S h=>?_,fun f l S h=>?_,fun f fs I h=>?_,bldOk⟩
 ·simp only [env18] at h
  split at h
  ·cases h; exact full41
  ·cases h; exact full45
  ·cases h
 ·simp only [env18] at h
  split at h
  ·cases h; exact full33
  ·cases h; exact full42
  ·cases h; exact full44
  ·cases h
 ·simp only [env18] at h
  cases h
theorem full18:Meets Tryd.prog glob 18 spec18:=meets18 envOk18 mixed fullI60
theorem envOk19:EnvOk Tryd.prog env19:=by
 refine ⟨tabOk,fun f S h=>?_,fun f l S h=>?_,fun f fs I h=>?_,bldOk⟩
 ·simp only [env19] at h
  split at h
  ·cases h; exact full41
  ·cases h
 ·simp only [env19] at h
  split at h
  ·cases h; exact full33
  ·cases h; exact full40
  ·cases h
 ·simp only [env19] at h
  cases h
theorem full19:Meets2 Tryd.prog glob 19 sp19:=meets19 envOk19 mixed
theorem envOk10042:EnvOk Tryd.prog env10042:=by
 refine ⟨tabOk,fun f S h=>?_,fun f l S h=>?_,fun f fs I h=>?_,bldOk⟩
 ·simp only [env10042] at h
  cases h
 ·simp only [env10042] at h
  cases h
 ·simp only [env10042] at h
  cases h
theorem full10042:Meets2 Tryd.prog glob 42 sp10042:=meets10042 envOk10042 mixed
theorem envOk46:EnvOk Tryd.prog env46:=by
 refine ⟨tabOk,fun f S h=>?_,fun f l S h=>?_,fun f fs I h=>?_,bldOk⟩
 ·simp only [env46] at h
  cases h
 ·simp only [env46] at h
  cases h
 ·simp only [env46] at h
  cases h
theorem full46:Meets2 Tryd.prog glob 46 sp46:=meets46 envOk46 mixed
theorem envOk10060:EnvOk Tryd.prog env10060:=by
 refine ⟨tabOk,fun f S h=>?_,fun f l S h=>?_,fun f fs I h=>?_,bldOk⟩
 ·simp only [env10060] at h
  cases h
 ·simp only [env10060] at h
  split at h
  ·cases h; exact full46
  ·cases h
 ·simp only [env10060] at h
  cases h
theorem fullI10060:IterOk Tryd.prog glob 60 I10060:=iter10060 envOk10060 mixed
theorem envOk20:EnvOk Tryd.prog env20:=by
 refine ⟨tabOk,fun f S h=>?_,fun f l S h=>?_,fun f fs I h=>?_,bldOk⟩
 ·simp only [env20] at h
  split at h
  ·cases h; exact full41
  ·cases h; exact full45
  ·cases h
 ·simp only [env20] at h
  split at h
  ·cases h; exact full33
  ·cases h; exact full10042
  ·cases h; exact full44
  ·cases h
 ·simp only [env20] at h
  cases h
theorem full20:Meets Tryd.prog glob 20 spec20:=meets20 envOk20 mixed fullI10060
theorem envOk21:EnvOk Tryd.prog env21:=by
 refine ⟨tabOk,fun f S h=>?_,fun f l S h=>?_,fun f fs I h=>?_,bldOk⟩
 ·simp only [env21] at h
  split at h
  ·cases h; exact full41
  ·cases h
 ·simp only [env21] at h
  split at h
  ·cases h; exact full33
  ·cases h
 ·simp only [env21] at h
  cases h
theorem full21:Meets2 Tryd.prog glob 21 sp21:=meets21 envOk21 mixed
theorem envOk22:EnvOk Tryd.prog env22:=by
 refine ⟨tabOk,fun f S h=>?_,fun f l S h=>?_,fun f fs I h=>?_,bldOk⟩
 ·simp only [env22] at h
  split at h
  ·cases h; exact full18
  ·cases h
 ·simp only [env22] at h
  cases h
 ·simp only [env22] at h
  cases h
theorem full22:Meets Tryd.prog glob 22 spec22:=meets22 envOk22 mixed
theorem envOk23:EnvOk Tryd.prog env23:=by
 refine ⟨tabOk,fun f S h=>?_,fun f l S h=>?_,fun f fs I h=>?_,bldOk⟩
 ·simp only [env23] at h
  cases h
 ·simp only [env23] at h
  cases h
 ·simp only [env23] at h
  cases h
theorem full23:Meets Tryd.prog glob 23 spec23:=meets23 envOk23 mixed
theorem envOk24:EnvOk Tryd.prog env24:=by
 refine ⟨tabOk,fun f S h=>?_,fun f l S h=>?_,fun f fs I h=>?_,bldOk⟩
 ·simp only [env24] at h
  cases h
 ·simp only [env24] at h
  split at h
  ·cases h; exact full33
  ·cases h
 ·simp only [env24] at h
  cases h
theorem full24:Meets Tryd.prog glob 24 spec24:=meets24 envOk24 mixed
theorem envOk5:EnvOk Tryd.prog env5:=by
 refine ⟨tabOk,fun f S h=>?_,fun f l S h=>?_,fun f fs I h=>?_,bldOk⟩
 ·simp only [env5] at h
  split at h
  ·cases h; exact full18
  ·cases h; exact full20
  ·cases h; exact full22
  ·cases h; exact full23
  ·cases h; exact full24
  ·cases h
 ·simp only [env5] at h
  split at h
  ·cases h; exact full17
  ·cases h; exact full19
  ·cases h; exact full21
  ·cases h
 ·simp only [env5] at h
  cases h
theorem full5:Meets Tryd.prog glob 5 spec5:=meets5 envOk5 mixed
theorem envOk47:EnvOk Tryd.prog env47:=by
 refine ⟨tabOk,fun f S h=>?_,fun f l S h=>?_,fun f fs I h=>?_,bldOk⟩
 ·simp only [env47] at h
  cases h
 ·simp only [env47] at h
  cases h
 ·simp only [env47] at h
  cases h
theorem full47:Meets2 Tryd.prog glob 47 sp47:=meets47 envOk47 mixed
theorem envOk61:EnvOk Tryd.prog env61:=by
 refine ⟨tabOk,fun f S h=>?_,fun f l S h=>?_,fun f fs I h=>?_,bldOk⟩
 ·simp only [env61] at h
  cases h
 ·simp only [env61] at h
  cases h
 ·simp only [env61] at h
  cases h
theorem fullI61:IterOk Tryd.prog glob 61 I61:=iter61 envOk61 mixed
theorem envOk25:EnvOk Tryd.prog env25:=by
 refine ⟨tabOk,fun f S h=>?_,fun f l S h=>?_,fun f fs I h=>?_,bldOk⟩
 ·simp only [env25] at h
  cases h
 ·simp only [env25] at h
  split at h
  ·cases h; exact full47
  ·cases h
 ·simp only [env25] at h
  cases h
theorem full25:Meets Tryd.prog glob 25 spec25:=meets25 envOk25 mixed fullI61
theorem envOk6:EnvOk Tryd.prog env6:=by
 refine ⟨tabOk,fun f S h=>?_,fun f l S h=>?_,fun f fs I h=>?_,bldOk⟩
 ·simp only [env6] at h
  split at h
  ·cases h; exact full25
  ·cases h
 ·simp only [env6] at h
  cases h
 ·simp only [env6] at h
  cases h
theorem full6:Meets Tryd.prog glob 6 spec6:=meets6 envOk6 mixed
theorem envOk49:EnvOk Tryd.prog env49:=by
 refine ⟨tabOk,fun f S h=>?_,fun f l S h=>?_,fun f fs I h=>?_,bldOk⟩
 ·simp only [env49] at h
  cases h
 ·simp only [env49] at h
  cases h
 ·simp only [env49] at h
  cases h
theorem full49:Meets Tryd.prog glob 49 spec49:=meets49 envOk49 mixed
theorem envOk28:EnvOk Tryd.prog env28:=by
 refine ⟨tabOk,fun f S h=>?_,fun f l S h=>?_,fun f fs I h=>?_,bldOk⟩
 ·simp only [env28] at h
  split at h
  ·cases h; exact full49
  ·cases h
 ·simp only [env28] at h
  cases h
 ·simp only [env28] at h
  cases h
theorem full28:Meets Tryd.prog glob 28 spec28:=meets28 envOk28 mixed
theorem envOk7:EnvOk Tryd.prog env7:=by
 refine ⟨tabOk,fun f S h=>?_,fun f l S h=>?_,fun f fs I h=>?_,bldOk⟩
 ·simp only [env7] at h
  split at h
  ·cases h; exact full28
  ·cases h
 ·simp only [env7] at h
  cases h
 ·simp only [env7] at h
  cases h
theorem full7:Meets Tryd.prog glob 7 spec7:=meets7 envOk7 mixed
theorem envOk29:EnvOk Tryd.prog env29:=by
 refine ⟨tabOk,fun f S h=>?_,fun f l S h=>?_,fun f fs I h=>?_,bldOk⟩
 ·simp only [env29] at h
  cases h
 ·simp only [env29] at h
  cases h
 ·simp only [env29] at h
  cases h
theorem full29:Meets Tryd.prog glob 29 spec29:=meets29 envOk29 mixed
theorem envOk50:EnvOk Tryd.prog env50:=by
 refine ⟨tabOk,fun f S h=>?_,fun f l S h=>?_,fun f fs I h=>?_,bldOk⟩
 ·simp only [env50] at h
  cases h
 ·simp only [env50] at h
  cases h
 ·simp only [env50] at h
  cases h
theorem full50:Meets Tryd.prog glob 50 spec50:=meets50 envOk50 mixed
theorem envOk57:EnvOk Tryd.prog env57:=by
 refine ⟨tabOk,fun f S h=>?_,fun f l S h=>?_,fun f fs I h=>?_,bldOk⟩
 ·simp only [env57] at h
  split at h
  ·cases h; exact full50
  ·cases h
 ·simp only [env57] at h
  cases h
 ·simp only [env57] at h
  cases h
theorem full57:Meets Tryd.prog glob 57 spec57:=meets57 envOk57 mixed
theorem envOk37:EnvOk Tryd.prog env37:=by
 refine ⟨tabOk,fun f S h=>?_,fun f l S h=>?_,fun f fs I h=>?_,bldOk⟩
 ·simp only [env37] at h
  split at h
  ·cases h; exact full50
  ·cases h; exact full57
  ·cases h
 ·simp only [env37] at h
  cases h
 ·simp only [env37] at h
  cases h
theorem full37:Meets Tryd.prog glob 37 spec37:=meets37 envOk37 mixed
theorem envOk30:EnvOk Tryd.prog env30:=by
 refine ⟨tabOk,fun f S h=>?_,fun f l S h=>?_,fun f fs I h=>?_,bldOk⟩
 ·simp only [env30] at h
  split at h
  ·cases h; exact full37
  ·cases h
 ·simp only [env30] at h
  cases h
 ·simp only [env30] at h
  cases h
theorem full30:Meets2 Tryd.prog glob 30 sp30:=meets30 envOk30 mixed
theorem envOk31:EnvOk Tryd.prog env31:=by
 refine ⟨tabOk,fun f S h=>?_,fun f l S h=>?_,fun f fs I h=>?_,bldOk⟩
 ·simp only [env31] at h
  split at h
  ·cases h; exact full50
  ·cases h
 ·simp only [env31] at h
  split at h
  ·cases h; exact full30
  ·cases h
 ·simp only [env31] at h
  cases h
theorem full31:Meets2 Tryd.prog glob 31 sp31:=meets31 envOk31 mixed
theorem envOk32:EnvOk Tryd.prog env32:=by
 refine ⟨tabOk,fun f S h=>?_,fun f l S h=>?_,fun f fs I h=>?_,bldOk⟩
 ·simp only [env32] at h
  split at h
  ·cases h; exact full37
  ·cases h; exact full50
  ·cases h
 ·simp only [env32] at h
  cases h
 ·simp only [env32] at h
  cases h
theorem full32:Meets2 Tryd.prog glob 32 sp32:=meets32 envOk32 mixed
theorem envOk8:EnvOk Tryd.prog env8:=by
 refine ⟨tabOk,fun f S h=>?_,fun f l S h=>?_,fun f fs I h=>?_,bldOk⟩
 ·simp only [env8] at h
  split at h
  ·cases h; exact full29
  ·cases h
 ·simp only [env8] at h
  split at h
  ·cases h; exact full30
  ·cases h; exact full31
  ·cases h; exact full32
  ·cases h
 ·simp only [env8] at h
  cases h
theorem full8:Meets2 Tryd.prog glob 8 sp8:=meets8 envOk8 mixed
theorem envOk56:EnvOk Tryd.prog env56:=by
 refine ⟨tabOk,fun f S h=>?_,fun f l S h=>?_,fun f fs I h=>?_,bldOk⟩
 ·simp only [env56] at h
  cases h
 ·simp only [env56] at h
  cases h
 ·simp only [env56] at h
  cases h
theorem full56:Meets2 Tryd.prog glob 56 sp56:=meets56 envOk56 mixed
theorem envOk73:EnvOk Tryd.prog env73:=by
 refine ⟨tabOk,fun f S h=>?_,fun f l S h=>?_,fun f fs I h=>?_,bldOk⟩
 ·simp only [env73] at h
  cases h
 ·simp only [env73] at h
  cases h
 ·simp only [env73] at h
  cases h
theorem full73:Meets2 Tryd.prog glob 73 sp73:=meets73 envOk73 mixed
theorem envOk76:EnvOk Tryd.prog env76:=by
 refine ⟨tabOk,fun f S h=>?_,fun f l S h=>?_,fun f fs I h=>?_,bldOk⟩
 ·simp only [env76] at h
  cases h
 ·simp only [env76] at h
  cases h
 ·simp only [env76] at h
  cases h
theorem fullI76:IterOk Tryd.prog glob 76 I76:=iter76 envOk76 mixed
theorem envOk79:EnvOk Tryd.prog env79:=by
 refine ⟨tabOk,fun f S h=>?_,fun f l S h=>?_,fun f fs I h=>?_,bldOk⟩
 ·simp only [env79] at h
  cases h
 ·simp only [env79] at h
  cases h
 ·simp only [env79] at h
  cases h
theorem full79:Meets Tryd.prog glob 79 spec79:=meets79 envOk79 mixed
theorem envOk78:EnvOk Tryd.prog env78:=by
 refine ⟨tabOk,fun f S h=>?_,fun f l S h=>?_,fun f fs I h=>?_,bldOk⟩
 ·simp only [env78] at h
  split at h
  ·cases h; exact full79
  ·cases h
 ·simp only [env78] at h
  cases h
 ·simp only [env78] at h
  cases h
theorem full78:Meets Tryd.prog glob 78 spec78:=meets78 envOk78 mixed
theorem envOk77:EnvOk Tryd.prog env77:=by
 refine ⟨tabOk,fun f S h=>?_,fun f l S h=>?_,fun f fs I h=>?_,bldOk⟩
 ·simp only [env77] at h
  split at h
  ·cases h; exact full78
  ·cases h
 ·simp only [env77] at h
  cases h
 ·simp only [env77] at h
  cases h
theorem full77:Meets2 Tryd.prog glob 77 sp77:=meets77 envOk77 mixed
theorem envOk74:EnvOk Tryd.prog env74:=by
 refine ⟨tabOk,fun f S h=>?_,fun f l S h=>?_,fun f fs I h=>?_,bldOk⟩
 ·simp only [env74] at h
  split at h
  ·cases h; exact full78
  ·cases h
 ·simp only [env74] at h
  split at h
  ·cases h; exact full77
  ·cases h
 ·simp only [env74] at h
  cases h
theorem full74:Meets2 Tryd.prog glob 74 sp74:=meets74 envOk74 mixed
theorem envOk75:EnvOk Tryd.prog env75:=by
 refine ⟨tabOk,fun f S h=>?_,fun f l S h=>?_,fun f fs I h=>?_,bldOk⟩
 ·simp only [env75] at h
  cases h
 ·simp only [env75] at h
  cases h
 ·simp only [env75] at h
  cases h
theorem full75:Meets Tryd.prog glob 75 spec75:=meets75 envOk75 mixed
theorem envOk70:EnvOk Tryd.prog env70:=by
 refine ⟨tabOk,fun f S h=>?_,fun f l S h=>?_,fun f fs I h=>?_,bldOk⟩
 ·simp only [env70] at h
  split at h
  ·cases h; exact full75
  ·cases h
 ·simp only [env70] at h
  split at h
  ·cases h; exact full73
  ·cases h; exact full74
  ·cases h
 ·simp only [env70] at h
  cases h
theorem full70:Meets Tryd.prog glob 70 spec70:=meets70 envOk70 mixed fullI76
theorem envOk69:EnvOk Tryd.prog env69:=by
 refine ⟨tabOk,fun f S h=>?_,fun f l S h=>?_,fun f fs I h=>?_,bldOk⟩
 ·simp only [env69] at h
  split at h
  ·cases h; exact full70
  ·cases h; exact full71
  ·cases h
 ·simp only [env69] at h
  cases h
 ·simp only [env69] at h
  cases h
theorem full69:Meets2 Tryd.prog glob 69 sp69:=meets69 envOk69 mixed
theorem envOk35:EnvOk Tryd.prog env35:=by
 refine ⟨tabOk,fun f S h=>?_,fun f l S h=>?_,fun f fs I h=>?_,bldOk⟩
 ·simp only [env35] at h
  cases h
 ·simp only [env35] at h
  split at h
  ·cases h; exact full56
  ·cases h; exact full69
  ·cases h
 ·simp only [env35] at h
  cases h
theorem full35:Meets Tryd.prog glob 35 spec35:=meets35 envOk35 mixed
theorem envOk9:EnvOk Tryd.prog env9:=by
 refine ⟨tabOk,fun f S h=>?_,fun f l S h=>?_,fun f fs I h=>?_,bldOk⟩
 ·simp only [env9] at h
  split at h
  ·cases h; exact full6
  ·cases h; exact full34
  ·cases h; exact full35
  ·cases h
 ·simp only [env9] at h
  split at h
  ·cases h; exact full33
  ·cases h
 ·simp only [env9] at h
  cases h
theorem full9:Meets Tryd.prog glob 9 spec9:=meets9 envOk9 mixed
theorem envOk36:EnvOk Tryd.prog env36:=by
 refine ⟨tabOk,fun f S h=>?_,fun f l S h=>?_,fun f fs I h=>?_,bldOk⟩
 ·simp only [env36] at h
  split at h
  ·cases h; exact full7
  ·cases h
 ·simp only [env36] at h
  cases h
 ·simp only [env36] at h
  cases h
theorem full36:Meets Tryd.prog glob 36 spec36:=meets36 envOk36 mixed
theorem envOk38:EnvOk Tryd.prog env38:=by
 refine ⟨tabOk,fun f S h=>?_,fun f l S h=>?_,fun f fs I h=>?_,bldOk⟩
 ·simp only [env38] at h
  cases h
 ·simp only [env38] at h
  cases h
 ·simp only [env38] at h
  cases h
theorem full38:Meets Tryd.prog glob 38 spec38:=meets38 envOk38 mixed
theorem envOk58:EnvOk Tryd.prog env58:=by
 refine ⟨tabOk,fun f S h=>?_,fun f l S h=>?_,fun f fs I h=>?_,bldOk⟩
 ·simp only [env58] at h
  cases h
 ·simp only [env58] at h
  cases h
 ·simp only [env58] at h
  cases h
theorem full58:Meets Tryd.prog glob 58 spec58:=meets58 envOk58 mixed
theorem envOk59:EnvOk Tryd.prog env59:=by
 refine ⟨tabOk,fun f S h=>?_,fun f l S h=>?_,fun f fs I h=>?_,bldOk⟩
 ·simp only [env59] at h
  cases h
 ·simp only [env59] at h
  cases h
 ·simp only [env59] at h
  cases h
theorem full59:Meets Tryd.prog glob 59 spec59:=meets59 envOk59 mixed
theorem envOk39:EnvOk Tryd.prog env39:=by
 refine ⟨tabOk,fun f S h=>?_,fun f l S h=>?_,fun f fs I h=>?_,bldOk⟩
 ·simp only [env39] at h
  split at h
  ·cases h; exact full58
  ·cases h; exact full59
  ·cases h
 ·simp only [env39] at h
  cases h
 ·simp only [env39] at h
  cases h
theorem full39:Meets Tryd.prog glob 39 spec39:=meets39 envOk39 mixed
theorem envOk13:EnvOk Tryd.prog env13:=by
 refine ⟨tabOk,fun f S h=>?_,fun f l S h=>?_,fun f fs I h=>?_,bldOk⟩
 ·simp only [env13] at h
  split at h
  ·cases h; exact full38
  ·cases h; exact full39
  ·cases h
 ·simp only [env13] at h
  cases h
 ·simp only [env13] at h
  cases h
theorem full13:Meets Tryd.prog glob 13 spec13:=meets13 envOk13 mixed
theorem envOk16:EnvOk Tryd.prog env16:=by
 refine ⟨tabOk,fun f S h=>?_,fun f l S h=>?_,fun f fs I h=>?_,bldOk⟩
 ·simp only [env16] at h
  split at h
  ·cases h; exact full13
  ·cases h
 ·simp only [env16] at h
  cases h
 ·simp only [env16] at h
  cases h
theorem full16:Meets Tryd.prog glob 16 spec16:=meets16 envOk16 mixed
theorem envOk12:EnvOk Tryd.prog env12:=by
 refine ⟨tabOk,fun f S h=>?_,fun f l S h=>?_,fun f fs I h=>?_,bldOk⟩
 ·simp only [env12] at h
  split at h
  ·cases h; exact full16
  ·cases h
 ·simp only [env12] at h
  cases h
 ·simp only [env12] at h
  cases h
theorem full12:Meets Tryd.prog glob 12 spec12:=meets12 envOk12 mixed
theorem envOk11:EnvOk Tryd.prog env11:=by
 refine ⟨tabOk,fun f S h=>?_,fun f l S h=>?_,fun f fs I h=>?_,bldOk⟩
 ·simp only [env11] at h
  split at h
  ·cases h; exact full12
  ·cases h; exact full36
  ·cases h
 ·simp only [env11] at h
  cases h
 ·simp only [env11] at h
  cases h
theorem full11:Meets Tryd.prog glob 11 spec11:=meets11 envOk11 mixed
theorem envOk14:EnvOk Tryd.prog env14:=by
 refine ⟨tabOk,fun f S h=>?_,fun f l S h=>?_,fun f fs I h=>?_,bldOk⟩
 ·simp only [env14] at h
  cases h
 ·simp only [env14] at h
  cases h
 ·simp only [env14] at h
  cases h
theorem full14:Meets Tryd.prog glob 14 spec14:=meets14 envOk14 mixed
theorem envOk15:EnvOk Tryd.prog env15:=by
 refine ⟨tabOk,fun f S h=>?_,fun f l S h=>?_,fun f fs I h=>?_,bldOk⟩
 ·simp only [env15] at h
  split at h
  ·cases h; exact full13
  ·cases h
 ·simp only [env15] at h
  cases h
 ·simp only [env15] at h
  cases h
theorem full15:Meets Tryd.prog glob 15 spec15:=meets15 envOk15 mixed
theorem envOk4:EnvOk Tryd.prog env4:=by
 refine ⟨tabOk,fun f S h=>?_,fun f l S h=>?_,fun f fs I h=>?_,bldOk⟩
 ·simp only [env4] at h
  split at h
  ·cases h; exact full5
  ·cases h; exact full6
  ·cases h; exact full9
  ·cases h; exact full11
  ·cases h; exact full12
  ·cases h; exact full13
  ·cases h; exact full14
  ·cases h; exact full15
  ·cases h; exact full16
  ·cases h
 ·simp only [env4] at h
  split at h
  ·cases h; exact full8
  ·cases h
 ·simp only [env4] at h
  cases h
theorem full4:Meets Tryd.prog glob 4 spec4:=meets4 envOk4 mixed
end
end Go.Ev.T
