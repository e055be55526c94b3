/- What the functions of the program compute. -/
import Derived.Test.YtohcmlejdglimaaDoorEv2
import Derived.Shelf.Strings.Builder1
import Derived.Lib.FrozenHead
import Derived.Test.YtohcmlejdglimaaDoorEv4
import Derived.Lib.Join
import Derived.Lib.Repeat
import Derived.Test.YtohcmlejdglimaaDoorProg
import Derived.Shelf.Strings.OnBuilder
import Derived.Shelf.Strings.Repeat
import Derived.Ground.NamesProg
set_option linter.unusedSimpArgs false
set_option linter.unusedVariables false
set_option linter.deprecated false
set_option linter.unusedVariables false
namespace Go.Ev
open Go Go.RowKit Go.Lib
theorem run_append_string_Q {P:Program} (w:World) (t u ty e:TypeId) (i:TypeInfo) (ht:P.underlying t=some (.slice e)) (hu:P.underlying u=some .string) (hi:P.info? e=some i) (hz:i.zero=some (.int .u8 0))
  (hsize:i.size=1) (hby:i.bytes=1) (v:Value) (n:Nat) (xs:List Value) (hown:ownsQ w e 1 v n xs) (s:ByteArray) (h63:n+s.size≤maxLen) (hbytes:n+s.size≤140737488355328) :
  ∃ v' w',(Builtin.append_ #[t,u] ty #[v,.string s]).run P w=.ok v' w'∧ownsQ w' e 1 v' (n+s.size) (xs++strCells s)∧w.grownBy w' v.ownBlock ∧
   (v'.ownBlock=v.ownBlock∨∀ k,v'.ownBlock=some k→w.heap.size≤k):=by
 have hsmall:n+s.size≤9223372036854775807:=by simp only [maxLen] at h63; omega
 rcases hown.2 with ⟨rfl,rfl⟩ | ⟨g,cap,cur,rfl,⟨fz,hf,hg⟩,hnc,hcm,hcs,htake⟩
 ·have hx:xs=[]:=List.eq_nil_of_length_eq_zero (by simpa using hown.1)
  subst hx
  obtain ⟨v',w',h1,h2,h3,_⟩:=run_append_own_string (P:=P) w w.heap.size t u ty e i ht hu hi hz hsize hby (.slice none 0 0) 0 [] (World.ownsRow_nil w w.heap.size e 1) s h63 hbytes (Nat.le_refl _)
  refine ⟨v',w',h1,⟨h2.1,?_⟩,h3,.inr fun k hk=>?_⟩
  ·rcases h2.2 with h4 | ⟨g,cap,cur,hv,_,hg,rest⟩
   ·exact .inl h4
   ·exact .inr ⟨g,cap,cur,hv,⟨_,.inl rfl,hg⟩,rest⟩
  ·rcases h2.2 with ⟨h4,_⟩ | ⟨g,cap,cur,hv,hb,hg,rest⟩
   ·rw [h4] at hk; simp [Value.ownBlock] at hk
   ·rw [hv] at hk
    simp [Value.ownBlock] at hk
    subst hk
    exact hb
 ·have hxl:xs.length=n:=by simpa using hown.1
  have hlen:(xs++strCells s).length=(n+s.size) * 1:=by rw [List.length_append,hxl,strCells_length,Nat.mul_one]
  by_cases hroom:n+s.size≤cap
  ·have hcs':cur.size=cap:=by simpa using hcs
   have hfc:=run_firstCells_string (P:=P) w 1 s
   obtain ⟨w',s1,s2,s3⟩:=store_cells (P:=P) g e n fz (strCells s) 0 cur w hg hf (by rw [strCells_length]; omega) (strCells_oneCell s)
   have s4:=foldl_set' n (strCells s) 0 cur (by rw [strCells_length]; omega)
   simp only [Nat.add_zero,strCells_length] at s4
   have hsz:(((strCells s).zipIdx 0).foldl (fun cs (p:Value×Nat)=>cs.setIfInBounds (n+p.2) p.1) cur).size=cur.size:=by
    rw [← Array.length_toList,s4]
    simp only [List.length_append,List.length_take,List.length_drop,Array.length_toList,strCells_length]
    omega
   refine ⟨.slice (some ⟨g,0,none⟩) (n+s.size) cap,w',?_,⟨hlen,.inr ⟨g,cap,_,rfl,⟨fz,by rw [hsz]; exact hf,s2⟩,hroom,hcm,by rw [hsz]; exact hcs,?_⟩⟩,s3,.inl rfl⟩
   ·simp [Builtin.append_,run_underlying ht,run_underlying hu,sizeOf,typeInfo,hi,hsize,Builtin.lenOf,hroom,hfc,Addr.add_lit,s1]
   ·have ht':cur.toList.take n=xs:=by simpa using htake
    rw [s4,ht',← hlen]
    exact List.take_left
  ·have holds:∀ j u,xs[j]?=some u→w.cell? ((⟨g,0,none⟩:Addr).add j)=some u:=hown.cells (g:=g) rfl
   have hr:=run_append_grow_string (P:=P) w t u ty e i (.int .u8 0) ht hu hi hz ⟨g,0,none⟩ n cap xs (by rw [hsize]; simpa using hxl) holds s (by omega) (by omega) (by rw [hby]; exact growslice_fits (by omega) (by omega))
   have hge:=grownCap_ge w (n+s.size) cap e
   have hcm2:grownCap w (n+s.size) cap e≤maxLen:=grownCap_le_maxLen w (n+s.size) cap e h63
   refine ⟨_,_,hr,⟨hlen,.inr ⟨w.heap.size,_,_,rfl,⟨(0,0),.inl rfl,heap_alloc_new w.drew _⟩,hge,hcm2,?_,?_⟩⟩,⟨rfl,rfl,rfl,by simp,fun k hk _=>by first | exact heap_alloc_old w.drew _ k hk | exact heap_alloc_old w.drew _ hk⟩,.inr fun k hk=>?_⟩
   ·have hz1:(Value.int IntKind.u8 0).cells.size=1:=rfl
    simp only [Array.size_append,List.size_toArray,size_zeroCells,hz1,hxl,strCells_length]
    omega
   ·simp only [Array.toList_append,List.append_assoc]
    rw [← List.append_assoc,← hlen]
    exact List.take_left
   ·simp [Value.ownBlock] at hk; omega
theorem wpList_append_string_Q {P:Program} {ops:Array Oper} {rest:List Oper} {o:Oper} {a:Act} {Q:Exit→Act→World→Prop} {w:World} (hgd:o.guard=none) (sl x:Operand) (t u:TypeId)
  (ho:o.op=.call { callee:=.builtin .append,args:=#[sl,x],argTypes:=#[t,u] })
  (e:TypeId) (i:TypeInfo) (ht:P.underlying t=some (.slice e)) (hu:P.underlying u=some .string) (hi:P.info? e=some i) (hz:i.zero=some (.int .u8 0))
  (hsize:i.size=1) (hby:i.bytes=1)
  (v:Value) (n:Nat) (xs:List Value) (hs:a.eval sl=v) (hown:ownsQ w e 1 v n xs) (s:ByteArray) (hx:a.eval x=.string s)
  (h63:n+s.size≤maxLen) (hbytes:n+s.size≤140737488355328)
  (h:∀ v' w',ownsQ w' e 1 v' (n+s.size) (xs++strCells s)→w.grownBy w' v.ownBlock→(v'.ownBlock=v.ownBlock∨∀ k,v'.ownBlock=some k→w.heap.size≤k)→wpList P ops Q rest (a.put o.dst v') w'):wpList P ops Q (o::rest) a w:=by
 refine wpList_plain hgd fun K hK=>?_
 obtain ⟨v',w',hr,h2,h3,h4⟩:=run_append_string_Q (P:=P) w t u o.type e i ht hu hi hz hsize hby v n xs hown s h63 hbytes
 unfold Oper.wp execOp
 simp only [ho,resolve,invoke,builtin,Sem.run_bind,Sem.run_pure,Result.andThen_ok,List.map_toArray,List.map_cons,List.map_nil,hs,hx,hr]
 exact hK _ _ (h v' w' h2 h3 h4)
theorem strCells_strOf (s:List UInt8):strCells (strOf s)=(s.map fun b=>(b.toNat:Int)).map (Value.int .u8):=by
 simp [strCells,byteCells,strOf]
end Go.Ev
namespace Go.Proofs
open Go.Shelf Go.RowKit Go.Ev
variable {P:Program} {ρ:Ren}
set_option maxHeartbeats 1000000 in
set_option maxRecDepth 100000 in
theorem Any.bldW_meets (L:Lays.n166 P ρ) (X:Builder.Extra P ρ):MeetsBW P (ρ.f 166) (ρ.t 72) (ρ.t 5):=by
 refine ⟨enters_of L.f166 (by kernel_rfl) rfl,fun w gb p v xs s hbk hp hown hne hlen=>?_⟩
 obtain ⟨i0,hi,hz0,hz1,hz2⟩:=info_parts X.infoByte
 have mixed:=L.mixed
 have t72:=L.t72; have a72:=L.a72; have z72:=L.z72; have v72:=L.v72; have u72:=run_underlying L.t72
 have t70:=L.t70; have a70:=L.a70; have z70:=L.z70; have v70:=L.v70; have u70:=run_underlying L.t70
 have t37:=L.t37; have a37:=L.a37; have z37:=L.z37; have v37:=L.v37; have u37:=run_underlying L.t37
 have t3:=L.t3; have a3:=L.a3; have z3:=L.z3; have v3:=L.v3; have u3:=run_underlying L.t3
 have t9:=L.t9; have a9:=L.a9; have z9:=L.z9; have v9:=L.v9; have u9:=run_underlying L.t9
 have t4:=L.t4; have a4:=L.a4; have z4:=L.z4; have v4:=L.v4; have u4:=run_underlying L.t4
 have t164:=L.t164; have a164:=L.a164; have z164:=L.z164; have v164:=L.v164; have u164:=run_underlying L.t164
 have t5:=X.t5; have a5:=X.a5; have z5:=X.z5; have v5:=X.v5; have u5:=run_underlying X.t5
 have e240:∀ args w,(callFunc (ρ.f 240) args).run P w=.ok (.enter (ρ.f 240) args) w:=enters_of L.f240 (by kernel_rfl) rfl
 have hlt:gb < w.heap.size:=(Array.getElem?_eq_some_iff.1 hbk).1
 have hcc:Calls P (ρ.f 240) #[.pointer (some ⟨gb,0,none⟩)] w fun en w'=>en=.returned (.tuple #[])∧w'.heap[gb]?=some (.cells #[.pointer (some ⟨gb,0,none⟩),v] (ρ.t 72) (0,0))∧w'.os=w.os∧w'.tape=w.tape∧w'.output=w.output∧w'.heap.size=w.heap.size∧∀ k,k≠gb→w'.heap[k]?=w.heap[k]?:=by
  rcases hp with rfl | rfl
  ·refine (Any.Builder_copyCheck_fresh { L with } X.toX72 gb w (by rw [Lib.cell_of_heap hbk]; rfl) (by simp [World.shape?,hbk]) (Lib.frozen_of_heap hbk 0)).mono ?_
   rintro e w' ⟨rfl,rfl⟩
   refine ⟨rfl,?_,rfl,rfl,rfl,by simp [World.setCell],fun k hk=>by simp [World.setCell,Array.getElem?_modify,Ne.symm hk]⟩
   simp [World.setCell,Array.getElem?_modify,hbk]
  ·refine (Any.Builder_copyCheck_used { L with } X.toX72 gb w (by rw [Lib.cell_of_heap hbk]; rfl)).mono ?_
   rintro e w' ⟨rfl,rfl⟩
   exact ⟨rfl,hbk,rfl,rfl,rfl,rfl,fun _ _=>rfl⟩
 have hss:(strOf s).size=s.length:=by simp [strOf,ByteArray.size]
 go_enter L.f166,Body.n166_ntmps ρ
 go_wp2_with (go_at_fn (ρ.f 240); refine hcc.mono ?_)
 rintro e w1 ⟨rfl,hbk1,o1,o2,o3,o4,o5⟩
 have hown1:ownsQ w1 (ρ.t 5) 1 v xs.length (xs.map (Value.int .u8)):=by
  refine ⟨hown.1,?_⟩
  rcases hown.2 with hn | ⟨g,cap,cur,rfl,⟨fz,hf,hg⟩,rest⟩
  ·exact .inl hn
  ·exact .inr ⟨g,cap,cur,rfl,⟨fz,hf,(o5 g (fun e=>hne (by rw [e]; rfl))).trans hg⟩,rest⟩
 have c0:w1.cell? ⟨gb,0,none⟩=some (.pointer (some ⟨gb,0,none⟩)):=by rw [Lib.cell_of_heap hbk1]; rfl
 have c1:w1.cell? ⟨gb,1,none⟩=some v:=by rw [Lib.cell_of_heap hbk1]; rfl
 go_wp2_with (at_builtin; refine wpList_append_string_Q rfl _ _ (ρ.t 37) (ρ.t 9) rfl (ρ.t 5) i0 L.t37 L.t9 hi hz0 hz1 hz2 _ _ _ rfl hown1 (strOf s) rfl ?c3 ?c4 ?_)
 case c3=>unfold maxLen; omega
 case c4=>omega
 intro v' w2 hown' hgrow hob
 have hb2:w2.heap[gb]?=some (.cells #[.pointer (some ⟨gb,0,none⟩),v] (ρ.t 72) (0,0)):=by
  rw [hgrow.block gb (by omega) (fun e=>hne e.symm)]
  exact hbk1
 have d0:w2.cell? ⟨gb,0,none⟩=some (.pointer (some ⟨gb,0,none⟩)):=by rw [Lib.cell_of_heap hb2]; rfl
 have d1:w2.cell? ⟨gb,1,none⟩=some v:=by rw [Lib.cell_of_heap hb2]; rfl
 have f1:w2.frozen? ⟨gb,1,none⟩=false:=Lib.frozen_of_heap hb2 1
 obtain ⟨ao,n',cap,rfl⟩:∃ ao n' cap,v'=.slice ao n' cap:=by
  rcases hown'.2 with ⟨hv,_⟩ | ⟨g,cap,cur,hv,_⟩
  ·exact ⟨_,_,_,hv⟩
  ·exact ⟨_,_,_,hv⟩
 go_wp2
 go_ret2
 obtain ⟨vv,hvv⟩:∃ vv,vv=Value.slice ao n' cap:=⟨_,rfl⟩
 rw [← hvv] at hown' hob ⊢
 have hlt2:gb < w2.heap.size:=(Array.getElem?_eq_some_iff.1 hb2).1
 have hne':∀ k,vv.ownBlock=some k→(v.ownBlock=some k∨w.heap.size≤k)∧k < w2.heap.size∧k≠gb:=fun k hk=>by
  have h1:k < w2.heap.size:=hown'.lt k hk
  rcases hob with h2 | h2
  ·rw [h2] at hk
   exact ⟨.inl hk,h1,fun e=>hne (by rw [hk,e])⟩
  ·have h3:=h2 k hk
   exact ⟨.inr (by omega),h1,by omega⟩
 refine ⟨⟨_,rfl⟩,vv,?_,?_,?_,?_,?_,?_,?_,?_⟩
 ·simp [World.setCell,Array.getElem?_modify,hb2]
 ·have e1:(xs++s.map fun b=>(b.toNat:Int)).length=xs.length+(strOf s).size:=by rw [hss]; simp
  have e2:(xs++s.map fun b=>(b.toNat:Int)).map (Value.int .u8)=xs.map (Value.int .u8)++Lib.strCells (strOf s):=by rw [strCells_strOf,List.map_append]
  rw [e1,e2]
  refine ⟨hown'.1,?_⟩
  rcases hown'.2 with hn | ⟨g,cap1,cur,hv1,⟨fz,hf,hg⟩,rest⟩
  ·exact .inl hn
  ·refine .inr ⟨g,cap1,cur,hv1,⟨fz,hf,?_⟩,rest⟩
   have:g≠gb:=(hne' g (by rw [hv1]; rfl)).2.2
   simp only [World.setCell,Array.getElem?_modify,Ne.symm this,if_false]
   exact hg
 ·intro k hk
  obtain ⟨h1,h2,h3⟩:=hne' k hk
  exact ⟨h1,by simpa [World.setCell] using h2,h3⟩
 ·exact hgrow.os.trans o1
 ·exact hgrow.tape.trans o2
 ·exact hgrow.output.trans o3
 ·have:=hgrow.size
  simp only [World.setCell,Array.size_modify]; omega
 ·intro k hk hkg hkv
  simp only [World.setCell,Array.getElem?_modify,Ne.symm hkg,if_false]
  rw [hgrow.block k (by omega) (fun e=>hkv e.symm),o5 k hkg]
theorem grownBy_freeze (w:World) (g n:Nat):w.grownBy (w.drew.freeze ⟨g,0,none⟩ n) (some g):=by
 refine ⟨by unfold World.freeze; split<;>rfl,by unfold World.freeze; split<;>rfl,by unfold World.freeze; split<;>rfl,by unfold World.freeze; split<;>simp,fun k hk hne=>?_⟩
 unfold World.freeze
 split
 ·rfl
 ·have hkg:g≠k:=fun e=>hne (by rw [e])
  simp only [Array.getElem?_modify,hkg,if_false]
  rfl
set_option maxHeartbeats 2000000 in
set_option maxRecDepth 100000 in
theorem Any.bldS_some (L:Lays.n169 P ρ) (X:Builder.Extra P ρ) (w:World) (b:Nat) (p v:Value) (l:List UInt8) (hbk:w.heap[b]?=some (.cells #[p,v] (ρ.t 72) (0,0))) (hown:ownsQ w (ρ.t 5) 1 v l.length (Lib.byteCells l)) (h0:l≠[]) :
  Calls P (ρ.f 169) #[.pointer (some ⟨b,0,none⟩)] w fun e w'=>e=.returned (.string ⟨l.toArray⟩)∧w.grownBy w' v.ownBlock:=by
 have hl0:l.length≠0:=by simpa using h0
 obtain ⟨g,cap,cur,fz,rfl,hg,hnc,hcm,hcs,htake⟩:∃ g cap cur fz,v=.slice (some ⟨g,0,none⟩) l.length cap∧w.heap[g]?=some (.cells cur (ρ.t 5) fz)∧l.length≤cap∧cap≤maxLen∧cur.size=cap * 1∧cur.toList.take (l.length * 1)=Lib.byteCells l:=by
  rcases hown.2 with ⟨_,hz⟩ | ⟨g,cap,cur,hv,⟨fz,_,hg⟩,r⟩
  ·exact absurd hz hl0
  ·exact ⟨g,cap,cur,fz,hv,hg,r⟩
 have c1:w.drew.cell? ⟨b,1,none⟩=some (.slice (some ⟨g,0,none⟩) l.length cap):=by
  have:w.drew.heap[b]?=some (.cells #[p,.slice (some ⟨g,0,none⟩) l.length cap] (ρ.t 72) (0,0)):=hbk
  rw [Lib.cell_of_heap this]; rfl
 have hSD:(Builtin.unsafeSliceData_ #[(ρ.t 37)] (ρ.t 127) #[.slice (some ⟨g,0,none⟩) l.length cap]).run P w.drew=.ok (.pointer (some ⟨g,0,none⟩)) w.drew :=
  Lib.run_unsafeSliceData_row _ _ _ _ _ _ (by omega)
 have hUS:(Builtin.unsafeString_ #[(ρ.t 127),(ρ.t 3)] (ρ.t 9) #[.pointer (some ⟨g,0,none⟩),.int .i64 l.length]).run P w.drew=.ok (.string ⟨l.toArray⟩) (w.drew.freeze ⟨g,0,none⟩ l.length):=by
  refine Lib.run_unsafeString_row w.drew (ρ.t 127) (ρ.t 3) (ρ.t 9) (ρ.t 5) L.t127 X.cellsByte g cur.size (by have hg':w.drew.heap[g]?=some (.cells cur (ρ.t 5) fz):=hg; simp [World.shape?,hg']) l h0 (by omega) (by unfold maxLen at hcm; omega) ?_
  intro j x hx
  have:=hown.cells (g:=g) rfl j (.int .u8 x.toNat) (by simp [Lib.byteCells,hx])
  exact this
 have mixed:=L.mixed
 have t72:=L.t72; have a72:=L.a72; have z72:=L.z72; have v72:=L.v72; have u72:=run_underlying L.t72
 have t70:=L.t70; have a70:=L.a70; have z70:=L.z70; have v70:=L.v70; have u70:=run_underlying L.t70
 have t37:=L.t37; have a37:=L.a37; have z37:=L.z37; have v37:=L.v37; have u37:=run_underlying L.t37
 have t127:=L.t127; have a127:=L.a127; have z127:=L.z127; have v127:=L.v127; have u127:=run_underlying L.t127
 have t3:=L.t3; have a3:=L.a3; have z3:=L.z3; have v3:=L.v3; have u3:=run_underlying L.t3
 have t9:=L.t9; have a9:=L.a9; have z9:=L.z9; have v9:=L.v9; have u9:=run_underlying L.t9
 have t5:=X.t5; have a5:=X.a5; have z5:=X.z5; have v5:=X.v5; have u5:=run_underlying X.t5
 go_enter L.f169,Body.n169_ntmps ρ
 go_wp2
 go_region_o
 all_goals (go_wp2; go_ret; exact ⟨rfl,grownBy_freeze w g _⟩)
theorem grownBy_drew (w:World) (r:Option Nat):w.grownBy w.drew r:=⟨rfl,rfl,rfl,Nat.le_refl _,fun _ _ _=>rfl⟩
set_option maxHeartbeats 2000000 in
set_option maxRecDepth 100000 in
theorem Any.bldS_nil (L:Lays.n169 P ρ) (X:Builder.Extra P ρ) (w:World) (b:Nat) (p:Value) (hbk:w.heap[b]?=some (.cells #[p,.slice none 0 0] (ρ.t 72) (0,0))) :
  Calls P (ρ.f 169) #[.pointer (some ⟨b,0,none⟩)] w fun e w'=>e=.returned (.string ⟨#[]⟩)∧w.grownBy w' none:=by
 have hUS:=Any.unsafeString_none L X
 have c1:w.drew.cell? ⟨b,1,none⟩=some (.slice none 0 0):=by
  have:w.drew.heap[b]?=some (.cells #[p,.slice none 0 0] (ρ.t 72) (0,0)):=hbk
  rw [Lib.cell_of_heap this]; rfl
 have hSD:(Builtin.unsafeSliceData_ #[(ρ.t 37)] (ρ.t 127) #[.slice none 0 0]).run P w.drew=.ok (.pointer none) w.drew:=rfl
 have mixed:=L.mixed
 have t72:=L.t72; have a72:=L.a72; have z72:=L.z72; have v72:=L.v72; have u72:=run_underlying L.t72
 have t70:=L.t70; have a70:=L.a70; have z70:=L.z70; have v70:=L.v70; have u70:=run_underlying L.t70
 have t37:=L.t37; have a37:=L.a37; have z37:=L.z37; have v37:=L.v37; have u37:=run_underlying L.t37
 have t127:=L.t127; have a127:=L.a127; have z127:=L.z127; have v127:=L.v127; have u127:=run_underlying L.t127
 have t3:=L.t3; have a3:=L.a3; have z3:=L.z3; have v3:=L.v3; have u3:=run_underlying L.t3
 have t9:=L.t9; have a9:=L.a9; have z9:=L.z9; have v9:=L.v9; have u9:=run_underlying L.t9
 have t5:=X.t5; have a5:=X.a5; have z5:=X.z5; have v5:=X.v5; have u5:=run_underlying X.t5
 go_enter L.f169,Body.n169_ntmps ρ
 go_wp2
 go_region_o
 all_goals (go_wp2; go_ret; exact ⟨rfl,grownBy_drew w _⟩)
set_option maxHeartbeats 2000000 in
set_option maxRecDepth 100000 in
theorem Any.bldS_noroom (L:Lays.n169 P ρ) (X:Builder.Extra P ρ) (w:World) (b g:Nat) (p:Value) (cur:Array Value) (fz:Nat×Nat) (hbk:w.heap[b]?=some (.cells #[p,.slice (some ⟨g,0,none⟩) 0 0] (ρ.t 72) (0,0))) (hg:w.heap[g]?=some (.cells cur (ρ.t 5) fz)) :
  Calls P (ρ.f 169) #[.pointer (some ⟨b,0,none⟩)] w fun e w'=>e=.returned (.string ⟨#[]⟩)∧w.grownBy w' (some g):=by
 have hUS:=Any.unsafeString_none L X
 have hlt:b < w.heap.size:=(Array.getElem?_eq_some_iff.1 hbk).1
 have c1:w.drew.cell? ⟨b,1,none⟩=some (.slice (some ⟨g,0,none⟩) 0 0):=by
  have:w.drew.heap[b]?=some (.cells #[p,.slice (some ⟨g,0,none⟩) 0 0] (ρ.t 72) (0,0)):=hbk
  rw [Lib.cell_of_heap this]; rfl
 have hSD:(Builtin.unsafeSliceData_ #[(ρ.t 37)] (ρ.t 127) #[.slice (some ⟨g,0,none⟩) 0 0]).run P w.drew=.ok (.pointer (some ⟨w.drew.heap.size,0,none⟩)) (w.drew.alloc (.view ⟨g,0,none⟩ (ρ.t 5))) :=
  Lib.run_unsafeSliceData_zero w.drew _ _ (ρ.t 5) L.t127 ⟨g,0,none⟩ 0 ((ρ.t 5),cur.size) (by have hg':w.drew.heap[g]?=some (.cells cur (ρ.t 5) fz):=hg; simp [World.shape?,hg'])
 have c2:(w.drew.alloc (.view ⟨g,0,none⟩ (ρ.t 5))).cell? ⟨b,1,none⟩=some (.slice (some ⟨g,0,none⟩) 0 0):=by
  have:(w.drew.alloc (.view ⟨g,0,none⟩ (ρ.t 5))).heap[b]?=_:=(Lib.alloc_old w.drew _ b hlt).trans hbk
  rw [Lib.cell_of_heap this]; rfl
 have c3:(w.alloc (.view ⟨g,0,none⟩ (ρ.t 5))).drew.cell? ⟨b,1,none⟩=some (.slice (some ⟨g,0,none⟩) 0 0):=c2
 have c0:w.cell? ⟨b,1,none⟩=some (.slice (some ⟨g,0,none⟩) 0 0):=c1
 have hgr:w.grownBy (w.drew.alloc (.view ⟨g,0,none⟩ (ρ.t 5))) (some g):=⟨rfl,rfl,rfl,by simp,fun k hk _=>by first | exact Lib.alloc_old w.drew _ k hk | exact heap_alloc_old w.drew _ hk⟩
 have mixed:=L.mixed
 have t72:=L.t72; have a72:=L.a72; have z72:=L.z72; have v72:=L.v72; have u72:=run_underlying L.t72
 have t70:=L.t70; have a70:=L.a70; have z70:=L.z70; have v70:=L.v70; have u70:=run_underlying L.t70
 have t37:=L.t37; have a37:=L.a37; have z37:=L.z37; have v37:=L.v37; have u37:=run_underlying L.t37
 have t127:=L.t127; have a127:=L.a127; have z127:=L.z127; have v127:=L.v127; have u127:=run_underlying L.t127
 have t3:=L.t3; have a3:=L.a3; have z3:=L.z3; have v3:=L.v3; have u3:=run_underlying L.t3
 have t9:=L.t9; have a9:=L.a9; have z9:=L.z9; have v9:=L.v9; have u9:=run_underlying L.t9
 have t5:=X.t5; have a5:=X.a5; have z5:=X.z5; have v5:=X.v5; have u5:=run_underlying X.t5
 go_enter L.f169,Body.n169_ntmps ρ
 go_wp2
 go_region_o
 all_goals (go_wp2; go_ret; exact ⟨rfl,hgr⟩)
set_option maxHeartbeats 2000000 in
set_option maxRecDepth 100000 in
theorem Any.bldS_room (L:Lays.n169 P ρ) (X:Builder.Extra P ρ) (w:World) (b g cap:Nat) (p:Value) (hc0:cap≠0) (hbk:w.heap[b]?=some (.cells #[p,.slice (some ⟨g,0,none⟩) 0 cap] (ρ.t 72) (0,0))) :
  Calls P (ρ.f 169) #[.pointer (some ⟨b,0,none⟩)] w fun e w'=>e=.returned (.string ⟨#[]⟩)∧w.grownBy w' (some g):=by
 have hUS:=Any.unsafeString_none L X
 have c1:w.drew.cell? ⟨b,1,none⟩=some (.slice (some ⟨g,0,none⟩) 0 cap):=by
  have:w.drew.heap[b]?=some (.cells #[p,.slice (some ⟨g,0,none⟩) 0 cap] (ρ.t 72) (0,0)):=hbk
  rw [Lib.cell_of_heap this]; rfl
 have hSD:(Builtin.unsafeSliceData_ #[(ρ.t 37)] (ρ.t 127) #[.slice (some ⟨g,0,none⟩) 0 cap]).run P w.drew=.ok (.pointer (some ⟨g,0,none⟩)) w.drew :=
  Lib.run_unsafeSliceData_row _ _ _ _ _ _ hc0
 clear hc0
 have mixed:=L.mixed
 have t72:=L.t72; have a72:=L.a72; have z72:=L.z72; have v72:=L.v72; have u72:=run_underlying L.t72
 have t70:=L.t70; have a70:=L.a70; have z70:=L.z70; have v70:=L.v70; have u70:=run_underlying L.t70
 have t37:=L.t37; have a37:=L.a37; have z37:=L.z37; have v37:=L.v37; have u37:=run_underlying L.t37
 have t127:=L.t127; have a127:=L.a127; have z127:=L.z127; have v127:=L.v127; have u127:=run_underlying L.t127
 have t3:=L.t3; have a3:=L.a3; have z3:=L.z3; have v3:=L.v3; have u3:=run_underlying L.t3
 have t9:=L.t9; have a9:=L.a9; have z9:=L.z9; have v9:=L.v9; have u9:=run_underlying L.t9
 have t5:=X.t5; have a5:=X.a5; have z5:=X.z5; have v5:=X.v5; have u5:=run_underlying X.t5
 go_enter L.f169,Body.n169_ntmps ρ
 go_wp2
 go_region_o
 all_goals (go_wp2; go_ret; exact ⟨rfl,grownBy_drew w _⟩)
theorem Any.bldS_meets (L:Lays.n169 P ρ) (X:Builder.Extra P ρ):MeetsBS P (ρ.f 169) (ρ.t 72) (ρ.t 5):=by
 refine ⟨enters_of L.f169 (by kernel_rfl) rfl,fun w gb p v l hbk _ hown _=>?_⟩
 by_cases h0:l=[]
 ·subst h0
  rcases hown.2 with ⟨rfl,_⟩ | ⟨g,cap,cur,rfl,⟨fz,_,hg⟩,_⟩
  ·exact Any.bldS_nil L X w gb p hbk
  ·by_cases hc0:cap=0
   ·subst hc0
    exact Any.bldS_noroom L X w gb g p cur fz hbk hg
   ·exact Any.bldS_room L X w gb g cap p hc0 hbk
 ·exact Any.bldS_some L X w gb p v l hbk hown h0
end Go.Proofs
namespace Go.Ev.T
open Go Go.Proofs Go.Ev
def P71 (l:List (List UInt8)) (s:List UInt8):Bool:=decide (l.length≤100000) && decide ((Lib.join l s).length≤100000000)
def F71 (l:List (List UInt8)) (s:List UInt8):List UInt8:=Lib.join l s
def spec71:Spec:=⟨[.list .str,.str],[.dat .str],fun | [a0,a1]=>P71 (a0.as (.list .str)) (a1.as .str) | _=>false,fun | [a0,a1]=>[⟨.str,F71 (a0.as (.list .str)) (a1.as .str)⟩] | _=>[]⟩
def P34 (s:List UInt8) (n:Int):Bool:=decide (0≤n) && decide (n≤9223372036854775807) && decide (s.length * n.toNat≤140737488355328)
def F34 (s:List UInt8) (n:Int):List UInt8:=Lib.repeatL s n.toNat
def spec34:Spec:=⟨[.str,.int .i64],[.dat .str],fun | [a0,a1]=>P34 (a0.as .str) (a1.as (.int .i64)) | _=>false,fun | [a0,a1]=>[⟨.str,F34 (a0.as .str) (a1.as (.int .i64))⟩] | _=>[]⟩
end Go.Ev.T
namespace Go.Proofs
open Go.Shelf Go.Ev
def Tryd.laysJoin_ren:Go.Shelf.Ren:=⟨fun | 156=>71 | 165=>54 | 166=>26 | 169=>27 | 240=>48 | 241=>68 | 276=>62 | 277=>72 | n=>n,fun | 31=>36 | 9=>9 | 3=>3 | 4=>4 | 0=>0 | 20=>20 | 72=>59 | 76=>63 | 70=>56 | 37=>57 | 75=>62 | 127=>95 | 164=>110 | 5=>5 | 80=>65 | n=>n,fun | n=>n⟩
theorem Tryd.laysJoin:Go.Proofs.Lays.n156 Tryd.prog Tryd.laysJoin_ren:={
 mixed:=by kernel_rfl
 f156:=Tryd.func71.trans (congrArg some (by kernel_rfl))
 f165:=Tryd.func54.trans (congrArg some (by kernel_rfl))
 f166:=Tryd.func26.trans (congrArg some (by kernel_rfl))
 f169:=Tryd.func27.trans (congrArg some (by kernel_rfl))
 f240:=Tryd.func48.trans (congrArg some (by kernel_rfl))
 f241:=Tryd.func68.trans (congrArg some (by kernel_rfl))
 f276:=Tryd.func62.trans (congrArg some (by kernel_rfl))
 f277:=Tryd.func72.trans (congrArg some (by kernel_rfl))
 t0:=Tryd.underlying0
 a0:=Tryd.isAgg0
 z0:=Tryd.sizeOf0
 v0:=Tryd.zeroValue0
 t3:=Tryd.underlying3
 a3:=Tryd.isAgg3
 z3:=Tryd.sizeOf3
 v3:=Tryd.zeroValue3
 t4:=Tryd.underlying4
 a4:=Tryd.isAgg4
 z4:=Tryd.sizeOf4
 v4:=Tryd.zeroValue4
 t9:=Tryd.underlying9
 a9:=Tryd.isAgg9
 z9:=Tryd.sizeOf9
 v9:=Tryd.zeroValue9
 t20:=Tryd.underlying20
 a20:=Tryd.isAgg20
 z20:=Tryd.sizeOf20
 v20:=Tryd.zeroValue20
 t31:=Tryd.underlying36
 a31:=Tryd.isAgg36
 z31:=Tryd.sizeOf36
 v31:=Tryd.zeroValue36
 t37:=Tryd.underlying57
 a37:=Tryd.isAgg57
 z37:=Tryd.sizeOf57
 v37:=Tryd.zeroValue57
 t70:=Tryd.underlying56
 a70:=Tryd.isAgg56
 z70:=Tryd.sizeOf56
 v70:=Tryd.zeroValue56
 t72:=Tryd.underlying59
 a72:=Tryd.isAgg59
 z72:=Tryd.sizeOf59
 v72:=Tryd.zeroValue59
 t75:=Tryd.underlying62
 a75:=Tryd.isAgg62
 z75:=Tryd.sizeOf62
 v75:=Tryd.zeroValue62
 t76:=Tryd.underlying63
 a76:=Tryd.isAgg63
 z76:=Tryd.sizeOf63
 v76:=Tryd.zeroValue63
 t127:=Tryd.underlying95
 a127:=Tryd.isAgg95
 z127:=Tryd.sizeOf95
 v127:=Tryd.zeroValue95
 t164:=Tryd.underlying110
 a164:=Tryd.isAgg110
 z164:=Tryd.sizeOf110
 v164:=Tryd.zeroValue110 }
def Tryd.laysRep_ren:Go.Shelf.Ren:=⟨fun | 105=>34 | 212=>52 | 99=>53 | 165=>54 | 166=>26 | 170=>55 | 169=>27 | 263=>65 | 264=>66 | 206=>67 | 240=>48 | 241=>68 | 276=>62 | 277=>72 | n=>n,fun | 9=>9 | 3=>3 | 4=>4 | 20=>20 | 0=>0 | 46=>81 | 109=>97 | 5=>5 | 72=>59 | 76=>63 | 51=>77 | 146=>113 | 53=>94 | 148=>115 | 70=>56 | 37=>57 | 75=>62 | 127=>95 | 164=>110 | 80=>65 | n=>n,fun | n=>n⟩
theorem Tryd.laysRep:Go.Proofs.Lays.n105 Tryd.prog Tryd.laysRep_ren:={
 mixed:=by kernel_rfl
 f99:=Tryd.func53.trans (congrArg some (by kernel_rfl))
 f105:=Tryd.func34.trans (congrArg some (by kernel_rfl))
 f165:=Tryd.func54.trans (congrArg some (by kernel_rfl))
 f166:=Tryd.func26.trans (congrArg some (by kernel_rfl))
 f169:=Tryd.func27.trans (congrArg some (by kernel_rfl))
 f170:=Tryd.func55.trans (congrArg some (by kernel_rfl))
 f206:=Tryd.func67.trans (congrArg some (by kernel_rfl))
 f212:=Tryd.func52.trans (congrArg some (by kernel_rfl))
 f240:=Tryd.func48.trans (congrArg some (by kernel_rfl))
 f241:=Tryd.func68.trans (congrArg some (by kernel_rfl))
 f263:=Tryd.func65.trans (congrArg some (by kernel_rfl))
 f264:=Tryd.func66.trans (congrArg some (by kernel_rfl))
 f276:=Tryd.func62.trans (congrArg some (by kernel_rfl))
 f277:=Tryd.func72.trans (congrArg some (by kernel_rfl))
 t0:=Tryd.underlying0
 a0:=Tryd.isAgg0
 z0:=Tryd.sizeOf0
 v0:=Tryd.zeroValue0
 t3:=Tryd.underlying3
 a3:=Tryd.isAgg3
 z3:=Tryd.sizeOf3
 v3:=Tryd.zeroValue3
 t4:=Tryd.underlying4
 a4:=Tryd.isAgg4
 z4:=Tryd.sizeOf4
 v4:=Tryd.zeroValue4
 t5:=Tryd.underlying5
 a5:=Tryd.isAgg5
 z5:=Tryd.sizeOf5
 v5:=Tryd.zeroValue5
 t9:=Tryd.underlying9
 a9:=Tryd.isAgg9
 z9:=Tryd.sizeOf9
 v9:=Tryd.zeroValue9
 t20:=Tryd.underlying20
 a20:=Tryd.isAgg20
 z20:=Tryd.sizeOf20
 v20:=Tryd.zeroValue20
 t37:=Tryd.underlying57
 a37:=Tryd.isAgg57
 z37:=Tryd.sizeOf57
 v37:=Tryd.zeroValue57
 t46:=Tryd.underlying81
 a46:=Tryd.isAgg81
 z46:=Tryd.sizeOf81
 v46:=Tryd.zeroValue81
 t51:=Tryd.underlying77
 a51:=Tryd.isAgg77
 z51:=Tryd.sizeOf77
 v51:=Tryd.zeroValue77
 t53:=Tryd.underlying94
 a53:=Tryd.isAgg94
 z53:=Tryd.sizeOf94
 v53:=Tryd.zeroValue94
 t70:=Tryd.underlying56
 a70:=Tryd.isAgg56
 z70:=Tryd.sizeOf56
 v70:=Tryd.zeroValue56
 t72:=Tryd.underlying59
 a72:=Tryd.isAgg59
 z72:=Tryd.sizeOf59
 v72:=Tryd.zeroValue59
 t75:=Tryd.underlying62
 a75:=Tryd.isAgg62
 z75:=Tryd.sizeOf62
 v75:=Tryd.zeroValue62
 t76:=Tryd.underlying63
 a76:=Tryd.isAgg63
 z76:=Tryd.sizeOf63
 v76:=Tryd.zeroValue63
 t109:=Tryd.underlying97
 a109:=Tryd.isAgg97
 z109:=Tryd.sizeOf97
 v109:=Tryd.zeroValue97
 t127:=Tryd.underlying95
 a127:=Tryd.isAgg95
 z127:=Tryd.sizeOf95
 v127:=Tryd.zeroValue95
 t146:=Tryd.underlying113
 a146:=Tryd.isAgg113
 z146:=Tryd.sizeOf113
 v146:=Tryd.zeroValue113
 t148:=Tryd.underlying115
 a148:=Tryd.isAgg115
 z148:=Tryd.sizeOf115
 v148:=Tryd.zeroValue115
 t164:=Tryd.underlying110
 a164:=Tryd.isAgg110
 z164:=Tryd.sizeOf110
 v164:=Tryd.zeroValue110 }
theorem Tryd.extraJoin:Builder.Extra Tryd.prog Tryd.laysJoin_ren:={
 sizeBuilder:=by kernel_rfl
 liesBuilder:=by kernel_rfl
 t5:=Tryd.underlying5
 a5:=Tryd.isAgg5
 z5:=Tryd.sizeOf5
 v5:=Tryd.zeroValue5
 infoByte:=by kernel_rfl
 cellsByte:=by kernel_rfl
 sizeByte:=by kernel_rfl
 neB5:=by decide }
theorem Tryd.extraRep:Builder.Extra Tryd.prog Tryd.laysRep_ren:={
 sizeBuilder:=by kernel_rfl
 liesBuilder:=by kernel_rfl
 t5:=Tryd.underlying5
 a5:=Tryd.isAgg5
 z5:=Tryd.sizeOf5
 v5:=Tryd.zeroValue5
 infoByte:=by kernel_rfl
 cellsByte:=by kernel_rfl
 sizeByte:=by kernel_rfl
 neB5:=by decide }
theorem Tryd.bldW_26:MeetsBW Tryd.prog 26 59 5:=Any.bldW_meets (ρ:=Tryd.laysJoin_ren) { Tryd.laysJoin with } Tryd.extraJoin
theorem Tryd.bldS_27:MeetsBS Tryd.prog 27 59 5:=Any.bldS_meets (ρ:=Tryd.laysJoin_ren) { Tryd.laysJoin with } Tryd.extraJoin
end Go.Proofs
namespace Go.Ev.T
open Go Go.Proofs Go.Ev Go.RowKit
theorem rows_strs {Pr:Nat→Prop} {w:World}:∀ {xs:List (List UInt8)} {ds:List Value},Rows (RV Pr w .str) xs ds→ds=xs.map fun s=>Value.string (strOf s)
 | _,_,.nil=>rfl
 | _,_,.cons h t=>by
  simp only [RV] at h
  subst h
  rw [rows_strs t]; rfl
theorem join_meets (glob:Nat→Option Dat):Meets Tryd.prog glob 71 spec71:=by
 refine ⟨Tryd.call71,fun w Pr ds args hPr _ hds hA hpre=>?_⟩
 obtain ⟨x0,ds0,rfl,h0⟩:=datsS hds
 obtain ⟨x1,ds1,rfl,h1⟩:=datsS h0
 have h9:=dats0 h1; subst h9
 match args,hA with
 | [v0,v1],hA =>
  obtain ⟨⟨c0,r0,rfl⟩,⟨c1,r1,rfl⟩,_⟩:=hA
  have hp:P71 x0 x1=true:=hpre
  simp only [P71,Bool.and_eq_true,decide_eq_true_eq] at hp
  obtain ⟨hp1,hp2⟩:=hp
  simp only [RV] at r1
  subst r1
  obtain ⟨A,cap,rfl,hc,hm,hr⟩:=r0.list_cells
  have fin:∀ (e:Ending) (w':World),e=.returned (.string ⟨(Lib.join x0 x1).toArray⟩)→Below w.heap.size w w'→∃ vs,e=.returned (retVal vs)∧w.grownBy w' none∧ResOK Pr w.heap.size w' spec71.results (spec71.val [⟨.list .str,x0⟩,⟨.str,x1⟩]) vs:=by
   intro e w' he hb
   refine ⟨[.string (strOf (Lib.join x0 x1))],he,⟨hb.os,hb.tape,hb.output,hb.size,fun k hk _=>hb.block k hk⟩,rfl,?_,?_⟩
   ·intro i k hi
    match i,hi with
    | 0,hi=>cases hi; exact ⟨[.string (strOf (Lib.join x0 x1))],rfl,rfl⟩
    | i+1,hi=>cases hi
   ·intro i j e t e' t' b hi hj
    match i,hi with
    | 0,hi=>cases hi
    | i+1,hi=>cases hi
  show Calls Tryd.prog 71 #[.slice A x0.length cap,.string (strOf x1)] w _
  by_cases hx:0 < x0.length
  ·obtain ⟨ad,ds,rfl,h5,h6,h7⟩:=hr hx
   have hd:=rows_strs h6
   subst hd
   have hsp:ad=⟨ad.block,ad.off,none⟩:=by
    have:=h7 0 (by simpa using hx)
    rw [show ad.add 0=ad from by simp [Addr.add]] at this
    cases ad with
    | mk b o s =>
     cases s with
     | none=>rfl
     | some s=>simp [World.cell?] at this; split at this<;>simp at this
   obtain ⟨bk,o,rfl⟩:∃ bk o,ad=⟨bk,o,none⟩:=⟨_,_,hsp⟩
   have hmap:(x0.map strOf).map (·.data.toList)=x0:=by rw [List.map_map]; exact List.map_id'' (fun _=>rfl) _
   have hj:=Any.strings_Join Tryd.laysJoin Tryd.extraJoin bk o cap (x0.map strOf) (strOf x1) w (fun j x hj=>by
    rw [List.getElem?_map,Option.map_eq_some_iff] at hj
    obtain ⟨y,hy,rfl⟩:=hj
    obtain ⟨hjl,hy'⟩:=List.getElem?_eq_some_iff.1 hy
    have:=h7 j (by simpa using hjl)
    rw [add_plain] at this
    rw [this]
    simp [hy']) (hPr _ h5) (by simp; omega) (by simpa using hc) (by rw [hmap]; show (Lib.join x0 x1).length≤_; omega)
   rw [List.length_map,hmap] at hj
   exact Calls.mono hj fun e w' h=>fin e w' h.1 h.2
  ·have hx0:x0=[]:=List.eq_nil_of_length_eq_zero (by omega)
   subst hx0
   exact Calls.mono (Any.strings_Join_none Tryd.laysJoin Tryd.extraJoin A cap (strOf x1) w) fun e w' h=>fin e w' h.1 (h.2▸Below.refl _ _)
theorem repeat_meets (glob:Nat→Option Dat):Meets Tryd.prog glob 34 spec34:=by
 refine ⟨Tryd.call34,fun w Pr ds args hPr _ hds hA hpre=>?_⟩
 obtain ⟨x0,ds0,rfl,h0⟩:=datsS hds
 obtain ⟨x1,ds1,rfl,h1⟩:=datsS h0
 have h9:=dats0 h1; subst h9
 match args,hA with
 | [v0,v1],hA =>
  obtain ⟨⟨c0,r0,rfl⟩,⟨c1,r1,rfl⟩,_⟩:=hA
  have hp:P34 x0 x1=true:=hpre
  simp only [P34,Bool.and_eq_true,decide_eq_true_eq] at hp
  obtain ⟨⟨hp1,hp2⟩,hp3⟩:=hp
  simp only [RV] at r0 r1
  subst r0
  subst r1
  obtain ⟨c,rfl⟩:=Int.eq_ofNat_of_zero_le hp1
  rw [Int.toNat_natCast] at hp3
  have hsz:(strOf x0).size=x0.length:=by simp [strOf,ByteArray.size]
  have hj:=Any.strings_Repeat Tryd.laysRep Tryd.extraRep (strOf x0) c w (by omega) (by rw [hsz]; exact hp3)
  show Calls Tryd.prog 34 #[.string (strOf x0),.int .i64 c] w _
  refine Calls.mono hj fun e w' h=>?_
  obtain ⟨he,hb⟩:=h
  refine ⟨[.string (strOf (Lib.repeatL x0 c))],?_,⟨hb.os,hb.tape,hb.output,hb.size,fun k hk _=>hb.block k hk⟩,rfl,?_,?_⟩
  ·rw [he]; rfl
  ·intro i k hi
   match i,hi with
   | 0,hi=>cases hi; exact ⟨[.string (strOf (Lib.repeatL x0 c))],rfl,rfl⟩
   | i+1,hi=>cases hi
  ·intro i j e t e' t' b hi hj
   match i,hi with
   | 0,hi=>cases hi
   | i+1,hi=>cases hi
end Go.Ev.T
