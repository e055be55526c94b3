/- What the functions of the program compute. -/
import Derived.Test.YtohcmlejdglimaaDoorF2
import Derived.Test.YtohcmlejdglimaaDoorEv4
import Derived.Laws.Bits64b
import Derived.Test.YtohcmlejdglimaaDoorRows
import Derived.LaidMore
import Derived.SevenTiedAt
import Derived.Carry
set_option linter.unusedSimpArgs false
set_option linter.unusedVariables false
set_option linter.deprecated false
namespace Go.Ev.T
open Go Go.Ev
abbrev Po:=D26
abbrev Bk:=D23
def bk0:Bk:=(0,([],(0,())))
theorem poEta (x:Po):(x.1,(x.2.1,(x.2.2.1,(x.2.2.2.1,(x.2.2.2.2.1,(x.2.2.2.2.2.1,(x.2.2.2.2.2.2.1,())))))))=x:=rfl
theorem bkEta (x:Bk):(x.1,(x.2.1,(x.2.2.1,())))=x:=rfl
theorem wrapI {n:Int} (h1:-9223372036854775808≤n) (h2:n≤9223372036854775807):IntKind.i64.wrap n=n:=by
 simp only [IntKind.wrap,IntKind.bits,IntKind.signed]
 by_cases h:0≤n
 ·have:n % (2 ^ 64:Int)=n:=by omega
  simp only [this]
  rw [if_neg (by simp; omega)]
 ·have:n % (2 ^ 64:Int)=n+18446744073709551616:=by omega
  simp only [this]
  rw [if_pos (by simp; omega)]
  omega
def isIn (n a b:Int):Bool:=decide (a≤n) && decide (n≤b)
theorem G50_eq (n a b:Int):G50 n a b=some (isIn n a b):=by
 unfold G50 isIn; rw [show (decide (n≥a))=decide (a≤n) from rfl]; cases decide (a≤n)<;>rfl
theorem P50_eq (n a b:Int):P50 n a b=true:=P50_of _ _ _ (G50_eq n a b)
theorem F50_eq (n a b:Int):F50 n a b=isIn n a b:=F50_of _ _ _ (G50_eq n a b)
theorem G41_eq (n a b:Int):G41 n a b=some (isIn n a b):=by
 unfold G41 isIn; cases decide (a≤n)<;>rfl
theorem P41_eq (n a b:Int):P41 n a b=true:=P41_of _ _ _ (G41_eq n a b)
theorem F41_eq (n a b:Int):F41 n a b=isIn n a b:=F41_of _ _ _ (G41_eq n a b)
def formed (p:Po) (a:Int):Bool :=
 isIn p.2.1 0 359 && isIn p.2.2.1 0 (IntKind.i64.wrap (a - 1)) && isIn p.2.2.2.1 0 (IntKind.i64.wrap (a - 1)) && !(p.2.2.1==p.2.2.2.1) && isIn p.2.2.2.2.1 1 1000000000 && isIn p.2.2.2.2.2.1 0 999
  && bif p.1==1 then p.2.2.2.2.2.2.1==-1 else p.1==2 && isIn p.2.2.2.2.2.2.1 0 199
theorem G57_eq (p:Po) (a:Int):G57 p a=some (formed p a):=by
 unfold G57 formed
 simp only [P50_eq,F50_eq]
 generalize isIn p.2.1 0 359=b1
 generalize isIn p.2.2.1 0 _=b2
 generalize isIn p.2.2.2.1 0 _=b3
 generalize (p.2.2.1==p.2.2.2.1)=b4
 generalize isIn p.2.2.2.2.1 _ _=b5
 generalize isIn p.2.2.2.2.2.1 _ _=b6
 generalize (p.1==(1:Int))=b7
 generalize (p.2.2.2.2.2.2.1==(-1:Int))=b8
 generalize (p.1==(2:Int))=b9
 generalize isIn p.2.2.2.2.2.2.1 _ _=b10
 revert b1 b2 b3 b4 b5 b6 b7 b8 b9 b10
 decide +kernel
theorem P57_eq (p:Po) (a:Int):P57 p a=true:=P57_of _ _ (G57_eq p a)
theorem F57_eq (p:Po) (a:Int):F57 p a=formed p a:=F57_of _ _ (G57_eq p a)
theorem G63_eq (p:Po) (a:Int):G63 p a=some (formed p a):=by
 unfold G63 formed
 simp only [P41_eq,F41_eq]
 generalize isIn p.2.1 0 359=b1
 generalize isIn p.2.2.1 0 _=b2
 generalize isIn p.2.2.2.1 0 _=b3
 generalize (p.2.2.1==p.2.2.2.1)=b4
 generalize isIn p.2.2.2.2.1 _ _=b5
 generalize isIn p.2.2.2.2.2.1 _ _=b6
 generalize (p.1==(1:Int))=b7
 generalize (p.2.2.2.2.2.2.1==(-1:Int))=b8
 generalize (p.1==(2:Int))=b9
 generalize isIn p.2.2.2.2.2.2.1 _ _=b10
 revert b1 b2 b3 b4 b5 b6 b7 b8 b9 b10
 decide +kernel
theorem P63_eq (p:Po) (a:Int):P63 p a=true:=P63_of _ _ (G63_eq p a)
theorem F63_eq (p:Po) (a:Int):F63 p a=formed p a:=F63_of _ _ (G63_eq p a)
def backs (p q:Po):Bool:=q.1==1 && p.2.2.1==q.2.2.2.1 && p.2.2.2.1==q.2.2.1 && p.2.2.2.2.1==q.2.2.2.2.1 && p.2.2.2.2.2.1==q.2.2.2.2.2.1
theorem G64_eq (p q:Po):G64 p q=some (backs p q):=by
 unfold G64 backs
 generalize (q.1==(1:Int))=b1
 generalize (p.2.2.1==q.2.2.2.1)=b2
 generalize (p.2.2.2.1==q.2.2.1)=b3
 generalize (p.2.2.2.2.1==q.2.2.2.2.1)=b4
 generalize (p.2.2.2.2.2.1==q.2.2.2.2.2.1)=b5
 revert b1 b2 b3 b4 b5; decide
theorem P64_eq (p q:Po):P64 p q=true:=P64_of _ _ (G64_eq p q)
theorem F64_eq (p q:Po):F64 p q=backs p q:=F64_of _ _ (G64_eq p q)
theorem isIn_iff {n a b:Int}:isIn n a b=true↔a≤n∧n≤b:=by simp [isIn]
theorem formed_iff {p:Po} {a:Int}:formed p a=true↔(0≤p.2.1∧p.2.1≤359)∧(0≤p.2.2.1∧p.2.2.1≤IntKind.i64.wrap (a - 1))∧(0≤p.2.2.2.1∧p.2.2.2.1≤IntKind.i64.wrap (a - 1))∧p.2.2.1≠p.2.2.2.1∧(1≤p.2.2.2.2.1∧p.2.2.2.2.1≤1000000000)∧(0≤p.2.2.2.2.2.1∧p.2.2.2.2.2.1≤999)∧((p.1=1∧p.2.2.2.2.2.2.1=-1)∨(p.1=2∧0≤p.2.2.2.2.2.2.1∧p.2.2.2.2.2.2.1≤199)):=by
 unfold formed
 by_cases h1:p.1=1
 ·simp [h1,isIn_iff,and_assoc]
 ·have:(p.1==(1:Int))=false:=by simpa using h1
  simp [this,h1,isIn_iff,and_assoc]
def okNext (a:Int) (l:List Po) (p:Po):Bool :=
 decide (l.length < 200) && formed p a && (decide (l.length=0) || decide ((l.getD (l.length - 1) z26).2.1≤p.2.1))
  && (p.1==1 || (decide (p.2.2.2.2.2.2.1 < (l.length:Int)) && !(l.any fun q=>q.2.2.2.2.2.2.1==p.2.2.2.2.2.2.1) && backs p (l.getD p.2.2.2.2.2.2.1.toNat z26)))
def Back (n:Nat) (l:List Po) (b:List Bool):Prop:=b.length=n∧∀ i:Nat,i < n→b.getD i false=l.any fun q=>q.2.2.2.2.2.2.1==(i:Int)
theorem back_nil (n:Nat):Back n [] (List.replicate n false):=⟨List.length_replicate,fun i hi=>by simp [List.getD_eq_getElem?_getD,hi]⟩
theorem back_fee {n:Nat} {l:List Po} {b:List Bool} (h:Back n l b) {p:Po} (hp:p.2.2.2.2.2.2.1=-1):Back n (l++[p]) b:=by
 refine ⟨h.1,fun i hi=>?_⟩
 rw [h.2 i hi,List.any_append]
 have:(p.2.2.2.2.2.2.1==(i:Int))=false:=by rw [hp]; exact beq_eq_false_iff_ne.mpr (by omega)
 simp [this]
theorem back_rev {n:Nat} {l:List Po} {b:List Bool} (h:Back n l b) {p:Po} (h0:0≤p.2.2.2.2.2.2.1) (h1:p.2.2.2.2.2.2.1 < n):Back n (l++[p]) (b.set p.2.2.2.2.2.2.1.toNat true):=by
 refine ⟨by rw [List.length_set]; exact h.1,fun i hi=>?_⟩
 rw [List.any_append]
 by_cases e:p.2.2.2.2.2.2.1.toNat=i
 ·have:(p.2.2.2.2.2.2.1==(i:Int))=true:=by simp; omega
  have hl:i < b.length:=by rw [h.1]; exact hi
  simp [this,e,List.getD_eq_getElem?_getD,List.getElem?_set,hl]
 ·have:(p.2.2.2.2.2.2.1==(i:Int))=false:=by simp; omega
  have:=h.2 i hi
  simp only [List.getD_eq_getElem?_getD,List.getElem?_set,e] at this ⊢
  simp_all
theorem tk_all {α:Type} (l:List α):List.take (List.length l) l=l:=List.take_length
end Go.Ev.T
namespace Go.Ev.T
open Go Go.Ev
theorem G51_eq (p:Po) (a:Int) (l:List Po) (c:Int) (b:List Bool) (hb:Back 200 l b) :
  ∃ b',G51 p a l c b=some (okNext a l p,((),(a,(bif okNext a l p then l++[p] else l,(c,(b',()))))))∧Back 200 (bif okNext a l p then l++[p] else l) b':=by
 unfold G51
 simp only [poEta,P63_eq,F63_eq,P64_eq,F64_eq]
 by_cases hl:l.length < 200
 rotate_left
 ·have h1:decide ((List.length l:Int)≥200)=true:=by simp; omega
  have h2:okNext a l p=false:=by simp [okNext,hl]
  exact ⟨b,by simp [h1,h2],by simpa [h2] using hb⟩
 have h1:decide ((List.length l:Int)≥200)=false:=by simp; omega
 simp only [h1]
 cases hf:formed p a
 ·have h2:okNext a l p=false:=by simp [okNext,hf]
  exact ⟨b,by simp [h2],by simpa [h2] using hb⟩
 have hF:=formed_iff.mp hf
 have hday:(bif decide ((List.length l:Int) > 0) then decide (p.2.1 < (List.getD l (IntKind.i64.wrap ((List.length l:Int) - 1)).toNat z26).2.1) else false)=!(decide (l.length=0) || decide ((l.getD (l.length - 1) z26).2.1≤p.2.1)):=by
  by_cases h0:l.length=0
  ·simp [h0]
  ·have e1:decide ((List.length l:Int) > 0)=true:=by simp; omega
   have e2:(IntKind.i64.wrap ((List.length l:Int) - 1)).toNat=l.length - 1:=by rw [wrapI (by omega) (by omega)]; omega
   rw [e1,e2]
   generalize (List.getD l (l.length - 1) z26).2.1=d
   simp only [cond_true,h0,decide_false,Bool.false_or]
   by_cases hd:p.2.1 < d
   ·simp [hd]
   ·simp [hd]; omega
 have ht:((decide (0≤IntKind.i64.wrap ((List.length l:Int) - 1)) && decide (IntKind.i64.wrap ((List.length l:Int) - 1) < (List.length l:Int))) || !(decide ((List.length l:Int) > 0) && (!false && true)))=true:=by
  by_cases h0:l.length=0
  ·simp [h0]
  ·rw [wrapI (by omega) (by omega)]; simp; omega
 have ht2:(decide ((IntKind.i64.wrap ((List.length l:Int) - 1)).toNat < List.length l) || !(decide ((List.length l:Int) > 0) && (!false && true)))=true:=by
  by_cases h0:l.length=0
  ·simp [h0]
  ·rw [wrapI (by omega) (by omega)]; simp; omega
 simp only [Bool.true_or,cond_true,cond_false,Bool.not_true,hday,ht,ht2]
 cases hd:(decide (l.length=0) || decide ((l.getD (l.length - 1) z26).2.1≤p.2.1))
 ·have h2:okNext a l p=false:=by simp only [okNext,hd]; simp
  exact ⟨b,by simp [h2],by simpa [h2] using hb⟩
 simp only [Bool.not_true,cond_false,List.set,List.replicate,tk_all,List.length_cons,List.length_nil]
 have hlen:decide (l.length+(0+1)≤100000000000)=true:=by simp; omega
 by_cases hk:p.1=2
 rotate_left
 ·have hk1:p.1=1∧p.2.2.2.2.2.2.1=-1:=by rcases hF.2.2.2.2.2.2 with h | h; exact h; exact absurd h.1 hk
  have h2:okNext a l p=true:=by simp only [okNext,hd,hf,hk1.1]; simp [hl]
  have hk':(p.1==(2:Int))=false:=by simpa using hk
  refine ⟨b,?_,by simpa [h2] using back_fee hb hk1.2⟩
  simp only [hk',hlen,h2,cond_true,cond_false]
 have ho:0≤p.2.2.2.2.2.2.1∧p.2.2.2.2.2.2.1≤199:=by rcases hF.2.2.2.2.2.2 with h | h; exact absurd h.1 (by omega); exact h.2
 have hk':(p.1==(2:Int))=true:=by simpa using hk
 have hk1:(p.1==(1:Int))=false:=by simp [hk]
 have o1:decide (0≤p.2.2.2.2.2.2.1)=true:=by simpa using ho.1
 have o2:decide (p.2.2.2.2.2.2.1 < ((200:Nat):Int))=true:=by simp; omega
 have o3:decide (p.2.2.2.2.2.2.1.toNat < b.length)=true:=by rw [hb.1]; simp; omega
 have hg:b.getD p.2.2.2.2.2.2.1.toNat false=l.any fun q=>q.2.2.2.2.2.2.1==p.2.2.2.2.2.2.1:=by
  rw [hb.2 _ (by omega)]; congr 1; funext q; rw [Int.toNat_of_nonneg ho.1]
 simp only [hk',o1,o2,o3,hg,cond_true,Bool.true_or,Bool.and_true,Bool.true_and]
 by_cases hn:p.2.2.2.2.2.2.1 < (l.length:Int)
 rotate_left
 ·have e:decide (p.2.2.2.2.2.2.1≥(l.length:Int))=true:=by simp; omega
  have h2:okNext a l p=false:=by simp [okNext,hk1,hn]
  exact ⟨b,by simp [e,h2],by simpa [h2] using hb⟩
 have e:decide (p.2.2.2.2.2.2.1≥(l.length:Int))=false:=by simp; omega
 have o4:decide (p.2.2.2.2.2.2.1 < (l.length:Int))=true:=by simpa using hn
 have o5:decide (p.2.2.2.2.2.2.1.toNat < l.length)=true:=by simp; omega
 simp only [e,o4,o5,cond_false,Bool.true_or]
 cases ha:(l.any fun q=>q.2.2.2.2.2.2.1==p.2.2.2.2.2.2.1)
 rotate_left
 ·have h2:okNext a l p=false:=by simp only [okNext,ha,hk1]; simp
  exact ⟨b,by simp [h2],by simpa [h2] using hb⟩
 cases hq:backs p (l.getD p.2.2.2.2.2.2.1.toNat z26)
 ·have h2:okNext a l p=false:=by simp only [okNext,hq,hk1]; simp
  exact ⟨b,by simp [h2],by simpa [h2] using hb⟩
 have h2:okNext a l p=true:=by simp only [okNext,ha,hq,hd,hf,o4,decide_eq_true hl]; simp
 refine ⟨b.set p.2.2.2.2.2.2.1.toNat true,?_,by simpa [h2] using back_rev hb ho.1 (by omega)⟩
 simp only [hlen,h2,cond_true,cond_false,Bool.not_true]
def okAll (a:Int) (pre:List Po):List Po→Bool
 | []=>true
 | p::r=>okNext a pre p && okAll a (pre++[p]) r
def valid (b:Bk):Bool:=okAll b.1 [] b.2.1 && isIn b.1 2 12 && isIn b.2.2.1 0 12
theorem getD_drop {l:List Po} {i:Nat} (h:i < l.length):l.drop i=l.getD i z26::l.drop (i+1):=by
 rw [List.drop_eq_getElem_cons h,List.getD_eq_getElem?_getD,List.getElem?_eq_getElem h]; rfl
theorem take_getD {l:List Po} {i:Nat} (h:i < l.length):l.take i++[l.getD i z26]=l.take (i+1):=by
 rw [List.take_succ_eq_append_getElem h,List.getD_eq_getElem?_getD,List.getElem?_eq_getElem h]; rfl
theorem open_loop (l:List Po) (hl:l.length≤1000000000000000000) (a c:Int):∀ (n i:Nat),n=l.length - i→i≤l.length→∀ b,Back 200 (l.take i) b →
  (okAll a (l.take i) (l.drop i)=true→∃ b',L33_3 (l,(l.length:Int),(i:Int),a,l,c,a,l.take i,c,b)=some (.inr (l,(l.length:Int),(l.length:Int),a,l,c,a,l,c,b'))∧Back 200 l b')
  ∧ (okAll a (l.take i) (l.drop i)=false→∃ r,L33_3 (l,(l.length:Int),(i:Int),a,l,c,a,l.take i,c,b)=some (.inl (false,r))):=by
 intro n
 induction n with
 | zero =>
  intro i hn hi b hb
  have e:i=l.length:=by omega
  subst e
  have hr:L33_3 (l,(l.length:Int),(l.length:Int),a,l,c,a,l.take l.length,c,b)=some (.inr (l,(l.length:Int),(l.length:Int),a,l,c,a,l.take l.length,c,b)):=by
   unfold L33_3; rw [lim_step]; simp only [L33_3_r]
   rw [show decide ((l.length:Int) < (l.length:Int))=false by simp]; rfl
  rw [List.drop_length] at *
  rw [List.take_length] at *
  exact ⟨fun _=>⟨b,hr,hb⟩,fun h=>absurd h (by simp [okAll])⟩
 | succ n ih =>
  intro i hn hi b hb
  have hlt:i < l.length:=by omega
  obtain ⟨b',hg,hb'⟩:=G51_eq (l.getD i z26) a (l.take i) c b hb
  rw [getD_drop hlt]
  have hstep:L33_3 (l,(l.length:Int),(i:Int),a,l,c,a,l.take i,c,b)=bif okNext a (l.take i) (l.getD i z26) then L33_3 (l,(l.length:Int),((i+1:Nat):Int),a,l,c,a,l.take (i+1),c,b') else some (.inl (false,a,l.take i,c,b')):=by
   conv=>lhs; unfold L33_3; rw [lim_step]
   simp only [L33_3_r,poEta]
   rw [show decide ((i:Int) < (l.length:Int))=true by simpa using hlt,show decide (0≤(i:Int))=true by simp]
   rw [show ((i:Int)).toNat=i by simp,P51_of _ _ _ _ _ hg,F51_of _ _ _ _ _ hg]
   cases h:okNext a (l.take i) (l.getD i z26)
   ·rfl
   ·simp only [h,cond_true,take_getD hlt,cond_false,Bool.not_true,Bool.and_true]
    rw [show IntKind.i64.wrap ((i:Int)+1)=((i+1:Nat):Int) by rw [wrapI (by omega) (by omega)]; omega]
    rfl
  rw [hstep]
  cases h:okNext a (l.take i) (l.getD i z26)
  ·simp only [okAll,h,cond_false,Bool.false_and]
   exact ⟨fun h=>absurd h (by simp),fun _=>⟨_,rfl⟩⟩
  ·simp only [okAll,h,cond_true,Bool.true_and]
   rw [h,cond_true,take_getD hlt] at hb'
   have:=ih (i+1) (by omega) (by omega) b' hb'
   rw [take_getD hlt]
   exact this
theorem G33_eq (x:Bk) (hl:x.2.1.length≤1000000000000000000):∃ t,G33 x=some t∧t.2.1=valid x∧(valid x=true→∃ b',t=(true,(true,((),(x.1,(x.2.1,(x.2.2.1,(b',())))))))∧Back 200 x.2.1 b'):=by
 have h:=open_loop x.2.1 hl x.1 x.2.2.1 (x.2.1.length - 0) 0 rfl (by omega) (List.replicate 200 false) (by simpa using back_nil 200)
 rw [List.drop_zero,List.take_zero,show ((0:Nat):Int)=0 from rfl] at h
 unfold G33
 simp only [P41_eq,F41_eq]
 cases ho:okAll x.1 [] x.2.1
 ·obtain ⟨r,hr⟩:=h.2 ho
  have hv:valid x=false:=by simp [valid,ho]
  refine ⟨(false,(false,((),(r.1,(r.2.1,(r.2.2.1,(r.2.2.2,()))))))),?_,hv.symm,fun h=>absurd h (by simp [hv])⟩
  rw [hr]; rfl
 ·obtain ⟨b',hr,hb'⟩:=h.1 ho
  have hv:valid x=(isIn x.1 2 12 && isIn x.2.2.1 0 12):=by simp [valid,ho]
  refine ⟨(true,(valid x,((),(x.1,(x.2.1,(x.2.2.1,(b',()))))))),?_,rfl,fun h=>⟨b',by rw [h],hb'⟩⟩
  rw [hr,hv]
  simp only [Option.bind_some,cond_true,Bool.true_or]
  cases isIn x.1 2 12<;>rfl
theorem G24_eq (x:Bk) (hl:x.2.1.length≤1000000000000000000):G24 x=some (valid x):=by
 obtain ⟨t,ht,hv,_⟩:=G33_eq x hl
 unfold G24
 simp only [bkEta,P33_of _ ht,F33_of _ ht,cond_true,hv]
end Go.Ev.T
namespace Go.Ev.T
open Go Go.Ev
theorem getD_take {l:List Po} {i j:Nat} (h:j < i):(l.take i).getD j z26=l.getD j z26:=by
 rw [List.getD_eq_getElem?_getD,List.getD_eq_getElem?_getD,List.getElem?_take_of_lt h]
theorem len_take {l:List Po} {i:Nat} (h:i≤l.length):(l.take i).length=i:=by rw [List.length_take]; omega
theorem L37_step (l:List Po) (hl:l.length≤200) (a c:Int) (i:Nat) (hi:i < l.length) (b:List Bool) (hb:Back l.length (l.take i) b) :
  ∃ b',L37_5_r b (i:Int) a l c=some (bif okNext a (l.take i) (l.getD i z26) then .inl (b',((i+1:Nat):Int),a,l,c) else .inr (.inl false))∧(okNext a (l.take i) (l.getD i z26)=true→Back l.length (l.take (i+1)) b'):=by
 unfold L37_5_r
 simp only [poEta,P57_eq,F57_eq]
 rw [show decide ((i:Int) < (l.length:Int))=true by simpa using hi,show decide (0≤(i:Int))=true by simp,show ((i:Int)).toNat=i by simp,show IntKind.i64.wrap ((i:Int)+1)=((i+1:Nat):Int) by rw [wrapI (by omega) (by omega)]; omega]
 simp only [Bool.and_true,cond_true]
 rw [← take_getD hi]
 generalize hp:l.getD i z26=p
 have hlt:=len_take (l:=l) (i:=i) (by omega)
 cases hf:formed p a
 ·have h2:okNext a (l.take i) p=false:=by simp [okNext,hf]
  exact ⟨b,by simp [h2],fun h=>absurd h (by simp [h2])⟩
 have hF:=formed_iff.mp hf
 have hday:(bif decide ((i:Int) > 0) then decide (p.2.1 < (List.getD l (IntKind.i64.wrap ((i:Int) - 1)).toNat z26).2.1) else false)=!(decide (i=0) || decide (((l.take i).getD (i - 1) z26).2.1≤p.2.1)):=by
  by_cases h0:i=0
  ·simp [h0]
  ·have e1:decide ((i:Int) > 0)=true:=by simp; omega
   have e2:(IntKind.i64.wrap ((i:Int) - 1)).toNat=i - 1:=by rw [wrapI (by omega) (by omega)]; omega
   rw [e1,e2,getD_take (by omega)]
   generalize (List.getD l (i - 1) z26).2.1=d
   simp only [cond_true,h0,decide_false,Bool.false_or]
   by_cases hd:p.2.1 < d
   ·simp [hd]
   ·simp [hd]; omega
 have ht:((decide (0≤IntKind.i64.wrap ((i:Int) - 1)) && decide (IntKind.i64.wrap ((i:Int) - 1) < (List.length l:Int))) || !(decide ((i:Int) > 0) && !false))=true:=by
  by_cases h0:i=0
  ·simp [h0]
  ·rw [wrapI (by omega) (by omega)]; simp; omega
 simp only [Bool.true_or,cond_true,cond_false,Bool.not_true,hday,ht]
 cases hd:(decide (i=0) || decide (((l.take i).getD (i - 1) z26).2.1≤p.2.1))
 ·have h2:okNext a (l.take i) p=false:=by simp only [okNext,hlt,hd]; simp
  exact ⟨b,by simp [h2],fun h=>absurd h (by simp [h2])⟩
 simp only [Bool.not_true,cond_false]
 by_cases hk:p.1=1
 ·have hk1:p.2.2.2.2.2.2.1=-1:=by rcases hF.2.2.2.2.2.2 with h | h; exact h.2; exact absurd h.1 (by omega)
  have h2:okNext a (l.take i) p=true:=by simp only [okNext,hlt,hd,hf,hk,show decide (i < 200)=true by simp; omega]; simp
  have hk':(p.1==(1:Int))=true:=by simpa using hk
  exact ⟨b,by simp [hk',h2],fun _=>back_fee hb hk1⟩
 have ho:0≤p.2.2.2.2.2.2.1∧p.2.2.2.2.2.2.1≤199:=by rcases hF.2.2.2.2.2.2 with h | h; exact absurd h.1 hk; exact h.2
 have hk':(p.1==(1:Int))=false:=by simpa using hk
 simp only [hk',cond_false]
 by_cases hn:p.2.2.2.2.2.2.1 < (i:Int)
 rotate_left
 ·have e:decide (p.2.2.2.2.2.2.1≥(i:Int))=true:=by simp; omega
  have h2:okNext a (l.take i) p=false:=by simp only [okNext,hlt,hn,hk']; simp
  exact ⟨b,by simp [e,h2],fun h=>absurd h (by simp [h2])⟩
 have e:decide (p.2.2.2.2.2.2.1≥(i:Int))=false:=by simp; omega
 have o1:decide (0≤p.2.2.2.2.2.2.1)=true:=by simpa using ho.1
 have o2:decide (p.2.2.2.2.2.2.1 < (l.length:Int))=true:=by simp; omega
 have o2':decide (p.2.2.2.2.2.2.1 < (b.length:Int))=true:=by rw [hb.1]; exact o2
 have o3:decide (p.2.2.2.2.2.2.1.toNat < b.length)=true:=by rw [hb.1]; simp; omega
 have hg:b.getD p.2.2.2.2.2.2.1.toNat false=(l.take i).any fun q=>q.2.2.2.2.2.2.1==p.2.2.2.2.2.2.1:=by
  rw [hb.2 _ (by omega)]; congr 1; funext q; rw [Int.toNat_of_nonneg ho.1]
 have o4:decide (p.2.2.2.2.2.2.1 < (i:Int))=true:=by simpa using hn
 simp only [o1,o2,o2',o3,hg,e,cond_true,cond_false,Bool.true_or,Bool.and_true,Bool.true_and]
 cases ha:((l.take i).any fun q=>q.2.2.2.2.2.2.1==p.2.2.2.2.2.2.1)
 rotate_left
 ·have h2:okNext a (l.take i) p=false:=by simp only [okNext,ha,hk']; simp
  exact ⟨b,by simp [h2],fun h=>absurd h (by simp [h2])⟩
 have hq':(bif bif bif bif (l.getD p.2.2.2.2.2.2.1.toNat z26).1 != 1 then true else p.2.2.1 != (l.getD p.2.2.2.2.2.2.1.toNat z26).2.2.2.1 then true else p.2.2.2.1 != (l.getD p.2.2.2.2.2.2.1.toNat z26).2.2.1 then true else p.2.2.2.2.1 != (l.getD p.2.2.2.2.2.2.1.toNat z26).2.2.2.2.1 then true else p.2.2.2.2.2.1 != (l.getD p.2.2.2.2.2.2.1.toNat z26).2.2.2.2.2.1)=!backs p ((l.take i).getD p.2.2.2.2.2.2.1.toNat z26):=by
  rw [getD_take (by omega)]
  unfold backs bne
  generalize ((l.getD p.2.2.2.2.2.2.1.toNat z26).1==(1:Int))=b1
  generalize (p.2.2.1==(l.getD p.2.2.2.2.2.2.1.toNat z26).2.2.2.1)=b2
  generalize (p.2.2.2.1==(l.getD p.2.2.2.2.2.2.1.toNat z26).2.2.1)=b3
  generalize (p.2.2.2.2.1==(l.getD p.2.2.2.2.2.2.1.toNat z26).2.2.2.2.1)=b4
  generalize (p.2.2.2.2.2.1==(l.getD p.2.2.2.2.2.2.1.toNat z26).2.2.2.2.2.1)=b5
  revert b1 b2 b3 b4 b5; decide
 simp only [cond_false,hq']
 cases hq:backs p ((l.take i).getD p.2.2.2.2.2.2.1.toNat z26)
 ·have h2:okNext a (l.take i) p=false:=by simp only [okNext,hq,hk']; simp
  exact ⟨b,by simp [h2],fun h=>absurd h (by simp [h2])⟩
 have h2:okNext a (l.take i) p=true:=by simp only [okNext,ha,hq,hd,hf,hlt,o4,show decide (i < 200)=true by simp; omega]; simp
 refine ⟨b.set p.2.2.2.2.2.2.1.toNat true,?_,fun _=>back_rev hb ho.1 (by omega)⟩
 simp only [h2,cond_true,cond_false,Bool.not_true]
theorem L37_loop (l:List Po) (hl:l.length≤200) (a c:Int):∀ (n i:Nat),n=l.length - i→i≤l.length→∀ b,Back l.length (l.take i) b →
  (okAll a (l.take i) (l.drop i)=true→∃ r,L37_5 (b,(i:Int),a,l,c)=some (.inr r))∧(okAll a (l.take i) (l.drop i)=false→L37_5 (b,(i:Int),a,l,c)=some (.inl false)):=by
 intro n
 induction n with
 | zero =>
  intro i hn hi b hb
  have e:i=l.length:=by omega
  subst e
  rw [List.drop_length]
  refine ⟨fun _=>⟨(b,(l.length:Int),a,l,c),?_⟩,fun h=>absurd h (by simp [okAll])⟩
  unfold L37_5; rw [lim_step]; simp only [L37_5_r]
  rw [show decide ((l.length:Int) < (l.length:Int))=false by simp]; rfl
 | succ n ih =>
  intro i hn hi b hb
  have hlt:i < l.length:=by omega
  obtain ⟨b',hg,hb'⟩:=L37_step l hl a c i hlt b hb
  rw [getD_drop hlt]
  have hstep:L37_5 (b,(i:Int),a,l,c)=bif okNext a (l.take i) (l.getD i z26) then L37_5 (b',((i+1:Nat):Int),a,l,c) else some (.inl false):=by
   conv=>lhs; unfold L37_5; rw [lim_step]
   simp only []
   rw [hg]
   cases h:okNext a (l.take i) (l.getD i z26)<;>rfl
  rw [hstep]
  cases h:okNext a (l.take i) (l.getD i z26)
  ·simp only [okAll,h,cond_false,Bool.false_and]
   exact ⟨fun h=>absurd h (by simp),fun _=>trivial⟩
  ·simp only [okAll,h,cond_true,Bool.true_and]
   have:=ih (i+1) (by omega) (by omega) b' (hb' h)
   rw [take_getD hlt]
   exact this
theorem okAll_long (a:Int):∀ (r pre:List Po),200 < pre.length+r.length→pre.length≤200→okAll a pre r=false:=by
 intro r
 induction r with
 | nil=>intro pre h1 h2; simp at h1; omega
 | cons p r ih =>
  intro pre h1 h2
  simp only [okAll]
  by_cases h:pre.length < 200
  ·rw [ih (pre++[p]) (by simp at h1 ⊢; omega) (by simp; omega)]; simp
  ·have:okNext a pre p=false:=by simp [okNext,h]
   rw [this]; rfl
theorem G37_eq (x:Bk):G37 x=some (valid x):=by
 unfold G37
 simp only [P50_eq,F50_eq]
 cases h1:isIn x.1 2 12
 ·simp [valid,h1]
 cases h2:isIn x.2.2.1 0 12
 ·simp [valid,h2]
 by_cases hl:x.2.1.length≤200
 rotate_left
 ·have e:decide ((x.2.1.length:Int) > 200)=true:=by simp; omega
  have:valid x=false:=by simp only [valid]; rw [okAll_long _ _ _ (by simp; omega) (by simp)]; rfl
  simp [e,this]
 have e:decide ((x.2.1.length:Int) > 200)=false:=by simp; omega
 have h:=L37_loop x.2.1 hl x.1 x.2.2.1 (x.2.1.length - 0) 0 rfl (by omega) (List.replicate x.2.1.length false) (by simpa using back_nil _)
 rw [List.drop_zero,List.take_zero,show ((0:Nat):Int)=0 from rfl] at h
 have e2:(decide (0≤(x.2.1.length:Int)) && decide ((x.2.1.length:Int)≤(x.2.1.length:Int)) && decide ((x.2.1.length:Int)≤100000000000))=true:=by simp; omega
 rw [e,e2]
 simp only [cond_true,cond_false,Bool.not_true,Bool.true_or,show ((x.2.1.length:Int)).toNat=x.2.1.length by simp]
 cases ho:okAll x.1 [] x.2.1
 ·rw [h.2 ho]; simp [valid,ho]
 ·obtain ⟨r,hr⟩:=h.1 ho
  rw [hr]; simp [valid,ho,h1,h2]
theorem P37_eq (x:Bk):P37 x=true:=P37_of _ (G37_eq x)
theorem F37_eq (x:Bk):F37 x=valid x:=F37_of _ (G37_eq x)
end Go.Ev.T
namespace Go.Ev.T
open Go Go.Ev
theorem G10051_eq (p:Po) (a:Int) (l:List Po) (c:Int) (b:List Bool):G10051 true p a l c b=G51 p a l c b:=by
 unfold G10051 G51
 simp only [cond_true,Bool.true_or]
def postOk (p:Po) (a:Int) (l:List Po) (c:Int):Bool:=decide (p.2.1≥IntKind.i64.wrap (30 * c)) && okNext a l p
theorem G40_eq (p:Po) (a:Int) (l:List Po) (c:Int) (b:List Bool) (hb:Back 200 l b) :
  ∃ b',G40 true p a l c b=some (postOk p a l c,((),(a,(bif postOk p a l c then l++[p] else l,(c,(b',()))))))∧Back 200 (bif postOk p a l c then l++[p] else l) b':=by
 obtain ⟨b',hg,hb'⟩:=G51_eq p a l c b hb
 unfold G40
 simp only [poEta,cond_true]
 rw [P10051_of _ _ _ _ _ _ ((G10051_eq p a l c b).trans hg),F10051_of _ _ _ _ _ _ ((G10051_eq p a l c b).trans hg)]
 cases hd:decide (p.2.1≥IntKind.i64.wrap (30 * c))
 ·have:postOk p a l c=false:=by simp only [postOk,hd]; rfl
  rw [this]
  exact ⟨b,rfl,hb⟩
 ·have:postOk p a l c=okNext a l p:=by simp only [postOk,hd]; rfl
  rw [this]
  exact ⟨b',rfl,hb'⟩
def postM (b:Bk) (p:Po):Option Bk:=if valid b && postOk p b.1 b.2.1 b.2.2.1 then some (b.1,(b.2.1++[p],(b.2.2.1,()))) else none
def outP (b:Bk):Option Bk→Bk×(Int×(Int×Unit)) | some r=>(r,((b.2.1.length:Int),(0,()))) | none=>(bk0,(0,(310,())))
def outD:Option Bk→Bk×(Int×Unit) | some r=>(r,(0,())) | none=>(bk0,(310,()))
theorem G17_eq (x:Bk) (p:Po) (hl:x.2.1.length≤1000000000000000000):G17 x p=some (outP x (postM x p)):=by
 obtain ⟨t,ht,hv,hh⟩:=G33_eq x hl
 unfold G17; simp only [poEta]
 simp only [bkEta,P33_of _ ht,F33_of _ ht]
 cases hx:valid x
 ·rw [hx] at hv
  have hp:postM x p=none:=by simp [postM,hx]
  rw [hp]
  simp only [hv,Bool.not_false,Bool.not_true,Bool.false_and,Bool.or_true,cond_true,outP,bk0]
 ·obtain ⟨b',rfl,hb'⟩:=hh hx
  obtain ⟨b2,hg,hb2⟩:=G40_eq p x.1 x.2.1 x.2.2.1 b' hb'
  simp only [cond_true]
  rw [P40_of _ _ _ _ _ _ hg,F40_of _ _ _ _ _ _ hg]
  cases hq:postOk p x.1 x.2.1 x.2.2.1
  ·have hp:postM x p=none:=by simp [postM,hq]
   rw [hp]; rfl
  ·have hp:postM x p=some (x.1,(x.2.1++[p],(x.2.2.1,()))):=by simp [postM,hq,hx]
   rw [hp]; rfl
theorem okAll_app (a:Int) (p:Po):∀ (r pre:List Po),okAll a pre (r++[p])=(okAll a pre r && okNext a (pre++r) p):=by
 intro r
 induction r with
 | nil=>intro pre; simp [okAll]
 | cons q r ih=>intro pre; simp only [List.cons_append,okAll]; rw [ih]; simp [Bool.and_assoc]
theorem valid_app (a:Int) (c:Int×Unit) (l:List Po) (p:Po):valid (a,(l++[p],c))=(valid (a,(l,c)) && okNext a l p):=by
 simp only [valid,okAll_app,List.nil_append]
 cases okAll a [] l<;>cases okNext a l p<;>cases isIn a 2 12<;>cases isIn c.1 0 12<;>rfl
theorem G30_eq (x:Bk) (p:Po) (hl:x.2.1.length≤1000000000):G30 x p=some (outP x (postM x p)):=by
 unfold G30
 simp only [poEta,bkEta,P37_eq,F37_eq,tk_all,List.replicate,List.set,List.nil_append,List.take_nil,List.length_nil,List.length_cons,valid_app]
 rw [show decide (0+x.2.1.length≤100000000000)=true by simp; omega,show decide (x.2.1.length+(0+1)≤100000000000)=true by simp; omega]
 simp only [cond_true,Bool.true_or]
 cases hx:valid x
 ·have hp:postM x p=none:=by simp [postM,hx]
  rw [hp]; rfl
 simp only [Bool.not_true,cond_false,Bool.true_and]
 cases hn:okNext x.1 x.2.1 p
 ·have hp:postM x p=none:=by simp [postM,postOk,hn]
  rw [hp]; rfl
 by_cases hd:p.2.1 < IntKind.i64.wrap (30 * x.2.2.1)
 ·have hp:postM x p=none:=by simp [postM,postOk]; intros; omega
  rw [hp]; simp [hd,outP,bk0]
 ·have hp:postM x p=some (x.1,(x.2.1++[p],(x.2.2.1,()))):=by simp [postM,postOk,hn,hx]; omega
  rw [hp]; simp [hd,outP]
theorem postM_valid {b c:Bk} {p:Po} (h:postM b p=some c):valid c=true∧c=(b.1,(b.2.1++[p],(b.2.2.1,()))):=by
 unfold postM at h
 split at h
 ·rename_i hc
  simp only [Bool.and_eq_true,postOk] at hc
  have:=Option.some.inj h
  subst this
  refine ⟨?_,rfl⟩
  rw [valid_app]; simp only [Bool.and_eq_true]
  exact ⟨hc.1,hc.2.2⟩
 ·exact absurd h (by simp)
def backP (p:Po) (i day:Int):Po:=(2,(day,(p.2.2.2.1,(p.2.2.1,(p.2.2.2.2.1,(p.2.2.2.2.2.1,(i,())))))))
def newP (p:Po) (day amt:Int):Po:=(p.1,(day,(p.2.2.1,(p.2.2.2.1,(amt,(p.2.2.2.2.2.1,(p.2.2.2.2.2.2.1,())))))))
theorem backP_eq (q:Po) (i day:Int):(2,(day,(q.2.2.2.1,(q.2.2.1,(q.2.2.2.2.1,(q.2.2.2.2.2.1,(i,())))))))=backP q i day:=rfl
theorem newP_eq (q:Po) (day amt:Int):(q.1,(day,(q.2.2.1,(q.2.2.2.1,(amt,q.2.2.2.2.2)))))=newP q day amt:=rfl
def disputeM (b:Bk) (i day amt:Int):Option Bk :=
 if valid b && decide (0≤i) && decide (i < (b.2.1.length:Int)) && isIn amt 0 1000000000 then
  (postM b (backP (b.2.1.getD i.toNat z26) i day)).bind fun c=>if amt=0 then some c else postM c (newP (b.2.1.getD i.toNat z26) day amt)
 else none
theorem postM_no {b:Bk} {p:Po} (h:postOk p b.1 b.2.1 b.2.2.1=false):postM b p=none:=by simp [postM,h]
theorem postM_yes {b:Bk} {p:Po} (hv:valid b=true) (h:postOk p b.1 b.2.1 b.2.2.1=true):postM b p=some (b.1,(b.2.1++[p],(b.2.2.1,()))):=by simp [postM,h,hv]
theorem G19_eq (x:Bk) (i day amt:Int) (hl:x.2.1.length≤1000000000000000000):G19 x i day amt=some (outD (disputeM x i day amt)):=by
 obtain ⟨t,ht,hv,hh⟩:=G33_eq x hl
 unfold G19; simp only [poEta,P41_eq,F41_eq]
 simp only [bkEta,P33_of _ ht,F33_of _ ht]
 simp only [cond_true,hv,Bool.true_or]
 by_cases hc:(valid x && decide (0≤i) && decide (i < (x.2.1.length:Int)) && isIn amt 0 1000000000)=true
 rotate_left
 ·have hp:disputeM x i day amt=none:=by simp only [disputeM]; rw [if_neg hc]
  have e:(bif bif bif !valid x then true else decide (i < 0) then true else decide (i≥(x.2.1.length:Int)) then true else !isIn amt 0 1000000000)=true:=by
   have h1:decide (i < 0)=!decide (0≤i):=by by_cases h:0≤i<;>simp [h]; omega
   have h2:decide (i≥(x.2.1.length:Int))=!decide (i < (x.2.1.length:Int)):=by by_cases h:i < (x.2.1.length:Int)<;>simp [h]; omega
   rw [h1,h2]; revert hc
   generalize decide (0≤i)=b1; generalize decide (i < (x.2.1.length:Int))=b2; generalize isIn amt 0 1000000000=b3; generalize valid x=b4
   revert b1 b2 b3 b4; decide
  simp only [e,hp,cond_true]; rfl
 have hc':=hc
 simp only [Bool.and_eq_true,decide_eq_true_eq] at hc'
 obtain ⟨⟨⟨hx,h0⟩,h1⟩,h2⟩:=hc'
 have hp:disputeM x i day amt=(postM x (backP (x.2.1.getD i.toNat z26) i day)).bind fun c=>if amt=0 then some c else postM c (newP (x.2.1.getD i.toNat z26) day amt):=by simp only [disputeM]; rw [if_pos hc]
 have e1:decide (i < 0)=false:=by simp; omega
 have e2:decide (i≥(x.2.1.length:Int))=false:=by simp; omega
 have e3:decide (i < (x.2.1.length:Int))=true:=by simpa using h1
 have e4:decide (0≤i)=true:=by simpa using h0
 obtain ⟨b',rfl,hb'⟩:=hh hx
 rw [hp]
 simp only [hx,h2,e1,e2,e3,e4,cond_true,cond_false,Bool.not_true,Bool.and_true]
 generalize hq:x.2.1.getD i.toNat z26=q
 simp only [backP_eq,newP_eq]
 obtain ⟨b2,hg,hb2⟩:=G40_eq (backP q i day) x.1 x.2.1 x.2.2.1 b' hb'
 rw [P40_of _ _ _ _ _ _ hg,F40_of _ _ _ _ _ _ hg]
 cases hr:postOk (backP q i day) x.1 x.2.1 x.2.2.1
 ·rw [postM_no hr]
  simp only [Bool.not_false,Bool.not_true,Bool.false_and,Bool.and_false,Bool.or_true,cond_true,Option.isSome_some,Option.getD_some]; rfl
 rw [hr,cond_true] at hb2
 simp only [postM_yes hx hr,Option.bind_some,cond_true,Bool.not_true,cond_false,Bool.not_false,Bool.true_and,Bool.and_true]
 obtain ⟨b3,hg3,hb3⟩:=G40_eq (newP q day amt) x.1 (x.2.1++[backP q i day]) x.2.2.1 b2 hb2
 rw [P40_of _ _ _ _ _ _ hg3,F40_of _ _ _ _ _ _ hg3]
 have hamt:=isIn_iff.mp h2
 by_cases ha:amt=0
 ·have e5:decide (amt > 0)=false:=by simp; omega
  rw [e5,if_pos ha]; rfl
 have e5:decide (amt > 0)=true:=by simp; omega
 rw [e5,if_neg ha]
 have hv2:=(postM_valid (postM_yes hx hr)).1
 cases hs:postOk (newP q day amt) x.1 (x.2.1++[backP q i day]) x.2.2.1
 ·rw [postM_no (b:=(x.1,(x.2.1++[backP q i day],(x.2.2.1,())))) hs]; rfl
 ·rw [postM_yes hv2 hs]; rfl
theorem G31_eq (x:Bk) (i day amt:Int) (hl:x.2.1.length≤1000000000 - 1):G31 x i day amt=some (outD (disputeM x i day amt)):=by
 unfold G31; simp only [poEta,P50_eq,F50_eq,cond_true,Bool.true_or]
 by_cases hc:(decide (0≤i) && decide (i < (x.2.1.length:Int)) && isIn amt 0 1000000000)=true
 rotate_left
 ·have hp:disputeM x i day amt=none:=by simp only [disputeM]; rw [if_neg]; intro h; apply hc; simp only [Bool.and_eq_true] at h ⊢; exact ⟨⟨h.1.1.2,h.1.2⟩,h.2⟩
  have e:(bif bif decide (i < 0) then true else decide (i≥(x.2.1.length:Int)) then true else !isIn amt 0 1000000000)=true:=by
   have h1:decide (i < 0)=!decide (0≤i):=by by_cases h:0≤i<;>simp [h]; omega
   have h2:decide (i≥(x.2.1.length:Int))=!decide (i < (x.2.1.length:Int)):=by by_cases h:i < (x.2.1.length:Int)<;>simp [h]; omega
   rw [h1,h2]; revert hc
   generalize decide (0≤i)=b1; generalize decide (i < (x.2.1.length:Int))=b2; generalize isIn amt 0 1000000000=b3
   revert b1 b2 b3; decide
  simp only [e,hp,cond_true]; rfl
 have hc':=hc
 simp only [Bool.and_eq_true,decide_eq_true_eq] at hc'
 obtain ⟨⟨h0,h1⟩,h2⟩:=hc'
 have e1:decide (i < 0)=false:=by simp; omega
 have e2:decide (i≥(x.2.1.length:Int))=false:=by simp; omega
 have e3:decide (i < (x.2.1.length:Int))=true:=by simpa using h1
 have e4:decide (0≤i)=true:=by simpa using h0
 simp only [h2,e1,e2,e3,e4,cond_true,cond_false,Bool.not_true,Bool.and_true]
 generalize hq:x.2.1.getD i.toNat z26=q
 simp only [backP_eq,newP_eq]
 change (bif P30 x (backP q i day) then _ else _)=_
 rw [P30_of _ _ (G30_eq x (backP q i day) (by omega)),F30_of _ _ (G30_eq x (backP q i day) (by omega))]
 have hp:disputeM x i day amt=(postM x (backP q i day)).bind fun c=>if amt=0 then some c else postM c (newP q day amt):=by
  cases hx:valid x
  ·have:postM x (backP q i day)=none:=by simp [postM,hx]
   rw [this]; simp [disputeM,hx]
  ·simp only [disputeM]; rw [if_pos (by rw [hx,Bool.true_and]; exact hc),hq]
 rw [hp]
 cases hr:postM x (backP q i day) with
 | none=>rfl
 | some c =>
  simp only [outP,cond_true,Option.bind_some,bne_self_eq_false,cond_false]
  by_cases ha:amt=0
  ·rw [if_pos ha,ha]; rfl
  ·have e5:(amt==(0:Int))=false:=by simpa using ha
   rw [if_neg ha,e5]
   have hcl:c.2.1.length≤1000000000:=by rw [(postM_valid hr).2]; simp; omega
   simp only [cond_false]
   rw [P30_of _ _ (G30_eq c (newP q day amt) hcl),F30_of _ _ (G30_eq c (newP q day amt) hcl)]
   cases postM c (newP q day amt)<;>rfl
def closeM (b:Bk) (m:Int):Option Bk:=if valid b && (m==b.2.2.1) && isIn m 0 11 then some (b.1,(b.2.1,(m+1,()))) else none
theorem G21_eq (x:Bk) (m:Int) (hl:x.2.1.length≤1000000000000000000):G21 x m=some (outD (closeM x m)):=by
 obtain ⟨t,ht,hv,hh⟩:=G33_eq x hl
 unfold G21; simp only [P41_eq,F41_eq]
 simp only [bkEta,P33_of _ ht,F33_of _ ht]
 simp only [cond_true,hv,Bool.true_or]
 cases hx:valid x
 ·have:closeM x m=none:=by simp [closeM,hx]
  rw [this]; rfl
 obtain ⟨b',rfl,hb'⟩:=hh hx
 cases h1:(m==x.2.2.1)
 ·have:closeM x m=none:=by simp [closeM,h1]
  rw [this]; simp only [bne,h1]; rfl
 cases h2:isIn m 0 11
 ·have:closeM x m=none:=by simp [closeM,h2]
  rw [this]; simp only [bne,h1]; rfl
 have:closeM x m=some (x.1,(x.2.1,(m+1,()))):=by simp [closeM,h1,h2,hx]
 have h3:=isIn_iff.mp h2
 rw [this,wrapI (by omega) (by omega)]; simp only [bne,h1]; rfl
theorem G32_eq (x:Bk) (m:Int) (hl:x.2.1.length≤1000000000):G32 x m=some (outD (closeM x m)):=by
 unfold G32; simp only [P37_eq,F37_eq,P50_eq,F50_eq,bkEta,tk_all,List.replicate,List.nil_append,List.take_nil,List.length_nil,cond_true,Bool.true_or]
 rw [show decide (0+x.2.1.length≤100000000000)=true by simp; omega]
 cases hx:valid x
 ·have:closeM x m=none:=by simp [closeM,hx]
  rw [this]; rfl
 cases h1:(m==x.2.2.1)
 ·have:closeM x m=none:=by simp [closeM,h1]
  rw [this]; simp only [bne,h1]; rfl
 cases h2:isIn m 0 11
 ·have:closeM x m=none:=by simp [closeM,h2]
  rw [this]; simp only [bne,h1]; rfl
 have:closeM x m=some (x.1,(x.2.1,(m+1,()))):=by simp [closeM,h1,h2,hx]
 have h3:=isIn_iff.mp h2
 rw [this,wrapI (by omega) (by omega)]; simp only [bne,h1]; rfl
end Go.Ev.T
namespace Go.Ev.T
open Go Go.Ev
def ent (t:Nat) (p:Po):Int:=(if p.2.2.2.1=(t:Int) then p.2.2.2.2.1 else 0) - (if p.2.2.1=(t:Int) then p.2.2.2.2.1 else 0)
def sumT (t:Nat):List Po→Int
 | []=>0
 | p::l=>ent t p+sumT t l
def tabl (n:Nat) (l:List Po):List Int:=(List.range n).map fun t=>sumT t l
theorem sumT_app (t:Nat) (p:Po):∀ l:List Po,sumT t (l++[p])=sumT t l+ent t p:=by
 intro l; induction l with
 | nil=>simp [sumT]
 | cons q l ih=>simp only [List.cons_append,sumT,ih]; omega
theorem tabl_len (n:Nat) (l:List Po):(tabl n l).length=n:=by simp [tabl]
theorem tabl_get {n t:Nat} (l:List Po) (h:t < n):(tabl n l).getD t 0=sumT t l:=by
 simp [tabl,List.getD_eq_getElem?_getD,h]
def PoOk (n:Nat) (p:Po):Prop:=0≤p.2.2.1∧p.2.2.1 < (n:Int)∧0≤p.2.2.2.1∧p.2.2.2.1 < (n:Int)∧p.2.2.1≠p.2.2.2.1∧1≤p.2.2.2.2.1∧p.2.2.2.2.1≤1000000000
theorem ent_bound {n t:Nat} {p:Po} (h:PoOk n p):-1000000000≤ent t p∧ent t p≤1000000000:=by
 obtain ⟨_,_,_,_,h1,h2,h3⟩:=h
 unfold ent; split<;>split<;>omega
theorem sumT_bound {n t:Nat}:∀ l:List Po,(∀ p∈l,PoOk n p)→-(1000000000 * (l.length:Int))≤sumT t l∧sumT t l≤1000000000 * (l.length:Int):=by
 intro l; induction l with
 | nil=>intro _; simp [sumT]
 | cons q l ih =>
  intro h
  have h1:=ent_bound (t:=t) (h q (by simp)); have h2:=ih fun p hp=>h p (by simp [hp])
  simp only [sumT,List.length_cons]; omega
theorem tabl_app {n:Nat} {l:List Po} {p:Po} (h:PoOk n p):((tabl n l).set p.2.2.2.1.toNat (sumT p.2.2.2.1.toNat l+p.2.2.2.2.1)).set p.2.2.1.toNat (sumT p.2.2.1.toNat l - p.2.2.2.2.1)=tabl n (l++[p]):=by
 obtain ⟨h1,h2,h3,h4,h5,_,_⟩:=h
 apply List.ext_getElem
 ·simp [tabl]
 ·intro i hi _
  have hi':i < n:=by simpa [tabl] using hi
  simp only [tabl,List.getElem_set,List.getElem_map,List.getElem_range,sumT_app]
  unfold ent
  by_cases e1:p.2.2.1.toNat=i
  ·have:p.2.2.1=(i:Int):=by omega
   have e2:¬ p.2.2.2.1=(i:Int):=by omega
   simp [e1,this,e2]; omega
  ·have:¬ p.2.2.1=(i:Int):=by omega
   by_cases e2:p.2.2.2.1.toNat=i
   ·have e3:p.2.2.2.1=(i:Int):=by omega
    simp [e1,e2,this,e3]
   ·have e3:¬ p.2.2.2.1=(i:Int):=by omega
    simp [e1,e2,this,e3]
theorem add_eq {n:Nat} {l:List Po} {p:Po} (h:PoOk n p) (hl:∀ q∈l,PoOk n q) (hn:l.length≤1000) :
  (decide (0≤p.2.2.2.1)=true∧decide (p.2.2.2.1 < (n:Int))=true∧decide (p.2.2.2.1.toNat < (tabl n l).length)=true∧decide (0≤p.2.2.1)=true∧decide (p.2.2.1 < (n:Int))=true∧∀ y,decide (p.2.2.1.toNat < ((tabl n l).set p.2.2.2.1.toNat y).length)=true)
  ∧ IntKind.i64.wrap ((tabl n l).getD p.2.2.2.1.toNat 0+p.2.2.2.2.1)=sumT p.2.2.2.1.toNat l+p.2.2.2.2.1
  ∧ ∀ y,IntKind.i64.wrap (((tabl n l).set p.2.2.2.1.toNat y).getD p.2.2.1.toNat 0 - p.2.2.2.2.1)=sumT p.2.2.1.toNat l - p.2.2.2.2.1:=by
 obtain ⟨h1,h2,h3,h4,h5,h6,h7⟩:=h
 refine ⟨⟨by simpa using h3,by simpa using h4,by rw [tabl_len]; simp; omega,by simpa using h1,by simpa using h2,fun y=>by rw [List.length_set,tabl_len]; simp; omega⟩,?_,fun y=>?_⟩
 ·have:=sumT_bound (t:=p.2.2.2.1.toNat) l hl
  rw [tabl_get l (by omega),wrapI (by omega) (by omega)]
 ·have:=sumT_bound (t:=p.2.2.1.toNat) l hl
  have e:((tabl n l).set p.2.2.2.1.toNat y).getD p.2.2.1.toNat 0=sumT p.2.2.1.toNat l:=by
   rw [← tabl_get (n:=n) l (by omega),List.getD_eq_getElem?_getD,List.getElem?_set_ne (by omega),← List.getD_eq_getElem?_getD]
  rw [e,wrapI (by omega) (by omega)]
theorem G44_eq {l:List Po} {p:Po} (h:PoOk 12 p) (hl:∀ q∈l,PoOk 12 q) (hn:l.length≤1000):G44 p (tabl 12 l)=some ((),(tabl 12 (l++[p]),())):=by
 obtain ⟨⟨a1,a2,a3,a4,a5,a6⟩,a7,a8⟩:=add_eq h hl hn
 unfold G44
 simp only [a1,a2,a3,a4,a5,a6,a7,a8,tabl_app h,Bool.and_true,cond_true]
theorem add_fold:∀ (ys l:List Po) (a c:Int) (b:List Po),(∀ q∈l,PoOk 12 q)→(∀ q∈ys,PoOk 12 q)→l.length+ys.length≤1000 →
  foldX R18_6_step ys (a,b,c,tabl 12 l)=some (.inl (a,b,c,tabl 12 (l++ys))):=by
 intro ys; induction ys with
 | nil=>intros; simp [foldX]
 | cons p ys ih =>
  intro l a c b hl hy hn
  have hg:=G44_eq (hy p (by simp)) hl (by simp at hn; omega)
  have hs:R18_6_step (a,b,c,tabl 12 l) p=some (.inl (a,b,c,tabl 12 (l++[p]))):=by
   unfold R18_6_step R18_6_r
   simp only [poEta,P44_of _ _ hg,F44_of _ _ hg,cond_true]
  simp only [foldX,hs]
  rw [ih (l++[p]) a c b (by intro q hq; rcases List.mem_append.mp hq with h | h; exact hl q h; simp at h; subst h; exact hy _ (by simp)) (fun q hq=>hy q (by simp [hq])) (by simp at hn ⊢; omega)]
  simp
theorem add_fold' (ys:List Po) (s:Int×List Po×Int×List Int):foldX R20_7_step ys s=foldX R18_6_step ys s:=rfl
theorem eqv_ints:∀ (n:Nat) (x y:List Int),x.length=n→y.length=n→eqv (.arr n (.int .i64)) x y=decide (x=y):=by
 intro n x y hx hy
 change (x.zip y).all (fun p=>p.1==p.2)=decide (x=y)
 have:∀ (x y:List Int),x.length=y.length→(x.zip y).all (fun p=>p.1==p.2)=decide (x=y):=by
  intro x; induction x with
  | nil=>intro y h; cases y with | nil=>rfl | cons=>simp at h
  | cons a x ih =>
   intro y h; cases y with
   | nil=>simp at h
   | cons b y=>simp only [List.zip_cons_cons,List.all_cons,ih y (by simpa using h),List.cons.injEq,Bool.decide_and]; rfl
 exact this x y (by omega)
theorem tabl_take (a:Nat) (h:a≤12) (l:List Po):(tabl 12 l).take a=tabl a l:=by
 simp only [tabl,← List.map_take,List.take_range,Nat.min_eq_left h]
theorem G45_eq {a:Nat} (h:a≤12) (l:List Po):G45 (tabl 12 l) (a:Int)=some (tabl a l):=by
 unfold G45
 simp only [eqv_ints 12 (tabl 12 l) (List.replicate 12 0) (tabl_len _ _) (by simp),List.replicate_zero,List.take_nil,List.nil_append,Int.toNat_natCast]
 rw [show (decide (0≤(a:Int)) && decide ((a:Int)≤(a:Int)) && decide ((a:Int)≤100000000000))=true by simp; omega,show sliceTest 0 (a:Int) ((12:Nat):Int)=true by simp [sliceTest]; omega,tabl_take a h,tabl_len]
 rw [show (decide (a≤12) && decide ((List.nil (α:=Int)).length+a≤100000000000))=true by simp; omega]
 cases hz:decide (tabl 12 l=List.replicate 12 0)
 ·rfl
 ·have hz:=of_decide_eq_true hz
  simp only [cond_true]
  rw [← tabl_take a h l,hz,List.take_replicate,Nat.min_eq_left h]
end Go.Ev.T
namespace Go.Ev.T
open Go Go.Ev
def sel (f:Nat→Po→Bool):Nat→List Po→List Po
 | _,[]=>[]
 | i,p::r=>bif f i p then p::sel f (i+1) r else sel f (i+1) r
theorem sel_mem {f:Nat→Po→Bool} {q:Po}:∀ {l:List Po} {i:Nat},q∈sel f i l→q∈l:=by
 intro l; induction l with
 | nil=>intro i h; simp [sel] at h
 | cons p r ih =>
  intro i h; simp only [sel] at h
  cases hf:f i p<;>rw [hf] at h
  ·exact List.mem_cons_of_mem _ (ih h)
  ·rcases List.mem_cons.mp h with h | h
   ·subst h; simp
   ·exact List.mem_cons_of_mem _ (ih h)
theorem sel_len {f:Nat→Po→Bool}:∀ {l:List Po} {i:Nat},(sel f i l).length≤l.length:=by
 intro l; induction l with
 | nil=>intro i; simp [sel]
 | cons p r ih =>
  intro i; simp only [sel]; have:=ih (i:=i+1)
  cases f i p<;>simp<;>omega
def inM (m:Int) (_:Nat) (p:Po):Bool:=IntKind.i64.wrap (Int.tdiv p.2.1 30)==m
def stands (s:Int) (l:List Po) (i:Nat) (p:Po):Bool:=p.1==1 && p.2.2.2.2.2.1==s && !(l.any fun q=>q.2.2.2.2.2.2.1==(i:Int))
theorem L60_loop (l:List Po) (hl:l.length≤1000000000000000000) (f:Bool) (a:Int) (l':List Po) (c:Int) (b:List Bool) (m:Int):∀ (n i:Nat),n=l.length - i→i≤l.length →
  ∃ r,L60_1 (l,(l.length:Int),(i:Int),f,a,l',c,b,m)=some (sel (inM m) i (l.drop i),.inr r):=by
 intro n
 induction n with
 | zero =>
  intro i hn hi
  have e:i=l.length:=by omega
  subst e
  refine ⟨(l,(l.length:Int),(l.length:Int),f,a,l',c,b,m),?_⟩
  rw [List.drop_length]
  refine limW_end ?_
  simp only [L60_1_r]
  rw [show decide ((l.length:Int) < (l.length:Int))=false by simp]; rfl
 | succ n ih =>
  intro i hn hi
  have hlt:i < l.length:=by omega
  obtain ⟨r,hr⟩:=ih (i+1) (by omega) (by omega)
  refine ⟨r,?_⟩
  have h34:G43 (i:Int) (l.getD i z26) m=some (inM m i (l.getD i z26),((),(m,()))):=rfl
  have hs:L60_1_r l (l.length:Int) (i:Int) f a l' c b m=some (bif inM m i (l.getD i z26) then [l.getD i z26] else [],.inl (l,(l.length:Int),((i+1:Nat):Int),f,a,l',c,b,m)):=by
   simp only [L60_1_r,poEta]
   rw [show ((i:Int)).toNat=i by simp,P43_of _ _ _ h34,F43_of _ _ _ h34,show decide ((i:Int) < (l.length:Int))=true by simpa using hlt,show decide (0≤(i:Int))=true by simp,show IntKind.i64.wrap ((i:Int)+1)=((i+1:Nat):Int) by rw [wrapI (by omega) (by omega)]; omega]
   cases h:inM m i (l.getD i z26)<;>rfl
  refine (limW_go hs).trans ?_
  change Option.map _ (L60_1 _)=_
  rw [hr,getD_drop hlt]
  simp only [sel]
  cases h:inM m i (l.getD i z26)<;>rfl
theorem W60_eq (l:List Po) (hl:l.length≤1000000000000000000) (a c:Int) (b:List Bool) (m:Int):(W60 true a l c b m).ys=some (sel (inM m) 0 l):=by
 obtain ⟨r,hr⟩:=L60_loop l hl true a l c b m (l.length - 0) 0 rfl (by omega)
 unfold W60
 rw [show ((0:Nat):Int)=0 from rfl,List.drop_zero] at hr
 simp only [cond_true,tk_all,hr,YW.bind,YW.ys,List.append_nil]
theorem L10060_loop (l:List Po) (hl:l.length≤200) (a:Int) (c:Int) (b:List Bool) (hb:Back 200 l b) (m:Int):∀ (n i:Nat),n=l.length - i→i≤l.length →
  ∃ r,L10060_1 (l,(l.length:Int),(i:Int),true,a,l,c,b,m,true)=some (sel (stands m l) i (l.drop i),.inr r):=by
 intro n
 induction n with
 | zero =>
  intro i hn hi
  have e:i=l.length:=by omega
  subst e
  refine ⟨(l,(l.length:Int),(l.length:Int),true,a,l,c,b,m,true),?_⟩
  rw [List.drop_length]
  refine limW_end ?_
  simp only [L10060_1_r]
  rw [show decide ((l.length:Int) < (l.length:Int))=false by simp]; rfl
 | succ n ih =>
  intro i hn hi
  have hlt:i < l.length:=by omega
  obtain ⟨r,hr⟩:=ih (i+1) (by omega) (by omega)
  refine ⟨r,?_⟩
  have h37:G46 (i:Int) (l.getD i z26) m true a l c b=some (stands m l i (l.getD i z26),((),(m,((),(true,((),(a,(l,(c,(b,())))))))))):=by
   unfold G46
   rw [show decide (0≤(i:Int))=true by simp,show decide ((i:Int) < ((200:Nat):Int))=true by simp; omega,show ((i:Int)).toNat=i by simp,show decide (i < b.length)=true by rw [hb.1]; simp; omega,hb.2 i (by omega)]
   simp only [Bool.true_or,Bool.and_true,cond_true,stands]
   cases ((l.getD i z26).1==(1:Int))<;>cases ((l.getD i z26).2.2.2.2.2.1==m)<;>rfl
  have hs:L10060_1_r l (l.length:Int) (i:Int) true a l c b m true=some (bif stands m l i (l.getD i z26) then [l.getD i z26] else [],.inl (l,(l.length:Int),((i+1:Nat):Int),true,a,l,c,b,m,true)):=by
   simp only [L10060_1_r,poEta]
   rw [show ((i:Int)).toNat=i by simp,P46_of _ _ _ _ _ _ _ _ h37,F46_of _ _ _ _ _ _ _ _ h37,show decide ((i:Int) < (l.length:Int))=true by simpa using hlt,show decide (0≤(i:Int))=true by simp,show IntKind.i64.wrap ((i:Int)+1)=((i+1:Nat):Int) by rw [wrapI (by omega) (by omega)]; omega]
   cases h:stands m l i (l.getD i z26)<;>rfl
  refine (limW_go hs).trans ?_
  change Option.map _ (L10060_1 _)=_
  rw [hr,getD_drop hlt]
  simp only [sel]
  cases h:stands m l i (l.getD i z26)<;>rfl
theorem W10060_eq (l:List Po) (hl:l.length≤200) (a c:Int) (b:List Bool) (hb:Back 200 l b) (m:Int):(W10060 true a l c b m true).ys=some (sel (stands m l) 0 l):=by
 obtain ⟨r,hr⟩:=L10060_loop l hl a c b hb m (l.length - 0) 0 rfl (by omega)
 unfold W10060
 rw [show ((0:Nat):Int)=0 from rfl,List.drop_zero] at hr
 simp only [cond_true,tk_all,hr,YW.bind,YW.ys,List.append_nil]
theorem okAll_formed {a:Int}:∀ {r pre:List Po},okAll a pre r=true→∀ p∈r,formed p a=true:=by
 intro r; induction r with
 | nil=>intro pre _ p hp; cases hp
 | cons q r ih =>
  intro pre h p hp
  simp only [okAll,Bool.and_eq_true] at h
  rcases List.mem_cons.mp hp with e | e
  ·subst e; have:=h.1; simp only [okNext,Bool.and_eq_true] at this; exact this.1.1.2
  ·exact ih h.2 p e
theorem valid_iff {b:Bk}:valid b=true↔okAll b.1 [] b.2.1=true∧(2≤b.1∧b.1≤12)∧(0≤b.2.2.1∧b.2.2.1≤12):=by
 simp only [valid,Bool.and_eq_true,isIn_iff,and_assoc]
theorem valid_len {b:Bk} (h:valid b=true):b.2.1.length≤200:=by
 have:=(valid_iff.mp h).1
 rcases Nat.lt_or_ge 200 b.2.1.length with h2 | h2
 ·rw [okAll_long _ _ _ (by simp; omega) (by simp)] at this; cases this
 ·exact h2
theorem formed_ok {p:Po} {a:Int} (h:formed p a=true) (h1:2≤a) (h2:a≤12):PoOk a.toNat p:=by
 have:=formed_iff.mp h
 rw [wrapI (by omega) (by omega)] at this
 obtain ⟨_,⟨h3,h4⟩,⟨h5,h6⟩,h7,⟨h8,h9⟩,_⟩:=this
 exact ⟨h3,by omega,h5,by omega,h7,h8,h9⟩
theorem valid_ok {b:Bk} (h:valid b=true):∀ p∈b.2.1,PoOk b.1.toNat p:=by
 obtain ⟨h1,⟨h2,h3⟩,_⟩:=valid_iff.mp h
 intro p hp; exact formed_ok (okAll_formed h1 p hp) h2 h3
theorem ok_le {n:Nat} {p:Po} (h:PoOk n p) (hn:n≤12):PoOk 12 p:=by
 obtain ⟨h1,h2,h3,h4,h5⟩:=h; exact ⟨h1,by omega,h3,by omega,h5⟩
def statM (b:Bk) (m:Int):List Int×Int:=if valid b && isIn m 0 11 then (tabl b.1.toNat (sel (inM m) 0 b.2.1),0) else ([],310)
def owedM (b:Bk) (s:Int):List Int×Int:=if valid b && isIn s 0 999 then (tabl b.1.toNat (sel (stands s b.2.1) 0 b.2.1),0) else ([],310)
theorem G18_eq (x:Bk) (m:Int) (hl:x.2.1.length≤1000000000000000000):G18 x m=some (statM x m):=by
 obtain ⟨t,ht,hv,hh⟩:=G33_eq x hl
 unfold G18
 simp only [bkEta,P33_of _ ht,F33_of _ ht,P41_eq,F41_eq,cond_true,hv,Bool.true_or]
 cases hx:valid x
 ·have:statM x m=([],310):=by simp [statM,hx]
  rw [this]; rfl
 cases hm:isIn m 0 11
 ·have:statM x m=([],310):=by simp [statM,hm]
  rw [this]; rfl
 have:statM x m=(tabl x.1.toNat (sel (inM m) 0 x.2.1),0):=by simp [statM,hx,hm]
 rw [this]
 obtain ⟨b',rfl,hb'⟩:=hh hx
 have h33:G42 true x.1 x.2.1 x.2.2.1 b' m=some ((),((),(x.1,(x.2.1,(x.2.2.1,(b',((),(m,((),(true,((),((),())))))))))))):=rfl
 simp only [P42_of _ _ _ _ _ _ h33,F42_of _ _ _ _ _ _ h33,Bool.not_true,cond_false,cond_true,W60_eq _ hl,Option.bind_some]
 obtain ⟨hok,⟨ha1,ha2⟩,_⟩:=valid_iff.mp hx
 have hp:∀ q∈sel (inM m) 0 x.2.1,PoOk 12 q:=fun q hq=>ok_le (valid_ok hx q (sel_mem hq)) (by omega)
 have hle:=valid_len hx
 have hse:=sel_len (f:=inM m) (l:=x.2.1) (i:=0)
 rw [show List.replicate 12 (0:Int)=tabl 12 [] from rfl,add_fold _ [] _ _ _ (by intro q hq; cases hq) hp (by simp; omega)]
 simp only [Option.bind_some,List.nil_append]
 have h36:=G45_eq (a:=x.1.toNat) (by omega) (sel (inM m) 0 x.2.1)
 rw [Int.toNat_of_nonneg (by omega)] at h36
 rw [P45_of _ _ h36,F45_of _ _ h36]; rfl
theorem G20_eq (x:Bk) (m:Int) (hl:x.2.1.length≤1000000000000000000):G20 x m=some (owedM x m):=by
 obtain ⟨t,ht,hv,hh⟩:=G33_eq x hl
 unfold G20
 simp only [bkEta,P33_of _ ht,F33_of _ ht,P41_eq,F41_eq,cond_true,hv,Bool.true_or]
 cases hx:valid x
 ·have:owedM x m=([],310):=by simp [owedM,hx]
  rw [this]; rfl
 cases hm:isIn m 0 999
 ·have:owedM x m=([],310):=by simp [owedM,hm]
  rw [this]; rfl
 have:owedM x m=(tabl x.1.toNat (sel (stands m x.2.1) 0 x.2.1),0):=by simp [owedM,hx,hm]
 rw [this]
 obtain ⟨b',rfl,hb'⟩:=hh hx
 have hle:=valid_len hx
 have h33:G10042 true x.1 x.2.1 x.2.2.1 b' m true=some ((),((),(x.1,(x.2.1,(x.2.2.1,(b',((),(m,((),(true,((),(true,((),((),())))))))))))))):=rfl
 simp only [P10042_of _ _ _ _ _ _ _ h33,F10042_of _ _ _ _ _ _ _ h33,Bool.not_true,cond_false,cond_true,W10060_eq _ hle _ _ _ hb',Option.bind_some]
 obtain ⟨hok,⟨ha1,ha2⟩,_⟩:=valid_iff.mp hx
 have hp:∀ q∈sel (stands m x.2.1) 0 x.2.1,PoOk 12 q:=fun q hq=>ok_le (valid_ok hx q (sel_mem hq)) (by omega)
 have hse:=sel_len (f:=stands m x.2.1) (l:=x.2.1) (i:=0)
 rw [add_fold',show List.replicate 12 (0:Int)=tabl 12 [] from rfl,add_fold _ [] _ _ _ (by intro q hq; cases hq) hp (by simp; omega)]
 simp only [Option.bind_some,List.nil_append]
 have h36:=G45_eq (a:=x.1.toNat) (by omega) (sel (stands m x.2.1) 0 x.2.1)
 rw [Int.toNat_of_nonneg (by omega)] at h36
 rw [P45_of _ _ h36,F45_of _ _ h36]; rfl
def balM (b:Bk) (t m:Int):Int×Int:=if valid b && isIn t 0 (b.1 - 1) && isIn m 0 11 then (sumT t.toNat (sel (inM m) 0 b.2.1),0) else (0,310)
theorem G22_eq (x:Bk) (t m:Int) (hl:x.2.1.length≤1000000000000000000):G22 x t m=some (balM x t m):=by
 have h:=G18_eq x m hl
 unfold G22
 simp only [bkEta,P18_of _ _ h,F18_of _ _ h,cond_true]
 by_cases hc:(valid x && isIn m 0 11)=true
 rotate_left
 ·have h1:statM x m=([],310):=by simp only [statM]; rw [if_neg hc]
  have h2:balM x t m=(0,310):=by
   simp only [balM]; rw [if_neg]; intro h; apply hc; simp only [Bool.and_eq_true] at h ⊢; exact ⟨h.1.1,h.2⟩
  rw [h1,h2]; rfl
 have h1:statM x m=(tabl x.1.toNat (sel (inM m) 0 x.2.1),0):=by simp only [statM]; rw [if_pos hc]
 simp only [Bool.and_eq_true] at hc
 obtain ⟨hx,hm⟩:=hc
 obtain ⟨hok,⟨ha1,ha2⟩,_⟩:=valid_iff.mp hx
 rw [h1]
 simp only [tabl_len,bne_self_eq_false,cond_false]
 by_cases ht:0≤t∧t < x.1
 ·have e:balM x t m=(sumT t.toNat (sel (inM m) 0 x.2.1),0):=by
   simp only [balM,hx,hm]; rw [if_pos]; simp [isIn]; omega
  rw [e,show decide (t < 0)=false by simp; omega,show decide (t≥(x.1.toNat:Int))=false by simp; omega,show (decide (0≤t) && decide (t < (x.1.toNat:Int)))=true by simp; omega,show decide (t.toNat < x.1.toNat)=true by simp; omega,tabl_get _ (by omega)]; rfl
 ·have e:balM x t m=(0,310):=by
   simp only [balM,hx,hm]; rw [if_neg]; simp [isIn]; omega
  rw [e]
  by_cases h0:t < 0
  ·rw [show decide (t < 0)=true by simpa using h0]; rfl
  ·rw [show decide (t < 0)=false by simpa using h0,show decide (t≥(x.1.toNat:Int))=true by simp; omega]; rfl
end Go.Ev.T
namespace Go.Ev.T
open Go Go.Ev
theorem getD_mem {l:List Po} {i:Nat} (h:i < l.length):l.getD i z26∈l:=by
 rw [List.getD_eq_getElem?_getD,List.getElem?_eq_getElem h]; exact List.getElem_mem h
theorem wsucc {i:Nat} (h:i≤1000000000000000000):IntKind.i64.wrap ((i:Int)+1)=((i+1:Nat):Int):=by rw [wrapI (by omega) (by omega)]; omega
end Go.Ev.T
namespace Go.Ev.T
open Go Go.Ev
theorem ints_refl {l:List Int} (hl:l.length≤1000000000000000000):G23 l l=some true:=by
 unfold G23
 have h:=lim_inv (r:=fun s=>L23_4_r s.1 s.2.1 s.2.2) (fun i=>(l,l,(i:Int))) (.inr (l,l,(l.length:Int))) l.length ?_ ?_ 0 (by omega)
 ·have h':L23_4 (l,l,0)=some (.inr (l,l,(l.length:Int))):=h
  simp only [bne_self_eq_false,cond_false,h',Option.bind_some]
 ·intro i hi
  simp only [L23_4_r]
  rw [show decide ((i:Int) < (l.length:Int))=true by simpa using hi,show decide (0≤(i:Int))=true by simp,wsucc (by omega),bne_self_eq_false]; rfl
 ·simp only [L23_4_r]
  rw [show decide ((l.length:Int) < (l.length:Int))=false by simp]; rfl
def I64 (n:Int):Prop:=-9223372036854775808≤n∧n≤9223372036854775807
def pickM (c n:Int):Int:=(if c < 0 then -(c+1) else c) % n
theorem pickM_bound (c:Int) {n:Int} (h:0 < n):0≤pickM c n∧pickM c n < n:=⟨Int.emod_nonneg _ (by omega),Int.emod_lt_of_pos _ h⟩
theorem G29_eq {c:Int} (hc:I64 c) {n:Int} (hn:0 < n):G29 c n=some (pickM c n):=by
 unfold G29 pickM
 have e:(n==(0:Int))=false:=beq_eq_false_iff_ne.mpr (by omega)
 obtain ⟨h1,h2⟩:=hc
 simp only [e,Bool.not_false,cond_true]
 by_cases h:c < 0
 ·rw [show decide (c < 0)=true by simpa using h,if_pos h,wrapI (n:=c+1) (by omega) (by omega),wrapI (by omega) (by omega)]
  simp only [cond_true]; rw [Int.tmod_eq_emod_of_nonneg (by omega),show (0:Int) - (c+1)=-(c+1) by omega]
 ·rw [show decide (c < 0)=false by simpa using h,if_neg h]
  simp only [cond_false]; rw [Int.tmod_eq_emod_of_nonneg (by omega)]
def p0:Po:=(1,(5,(0,(1,(90,(7,(-1,())))))))
def p1:Po:=(2,(40,(1,(0,(90,(7,(0,())))))))
def p2:Po:=(1,(40,(0,(1,(60,(7,(-1,())))))))
def b1:Bk:=(3,([p0],(0,())))
def c1:Bk:=(3,([p0,p1,p2],(0,())))
theorem sane:G5=some true:=by
 have e1:G17 (3,([],(0,()))) (1,(5,(0,(1,(90,(7,(-1,())))))))=some (b1,(0,(0,()))):=(G17_eq _ _ (by decide)).trans (by kernel_rfl)
 have e2:G18 b1 0=some ([-90,90,0],0):=(G18_eq _ _ (by decide)).trans (by kernel_rfl)
 have e3:G19 b1 0 40 60=some (c1,(0,())):=(G19_eq _ _ _ _ (by decide)).trans (by kernel_rfl)
 have e4:G18 c1 0=some ([-90,90,0],0):=(G18_eq _ _ (by decide)).trans (by kernel_rfl)
 have e5:G18 c1 1=some ([30,-30,0],0):=(G18_eq _ _ (by decide)).trans (by kernel_rfl)
 have e6:G20 c1 7=some ([-60,60,0],0):=(G20_eq _ _ (by decide)).trans (by kernel_rfl)
 have e7:G19 c1 0 50 1=some (bk0,(310,())):=(G19_eq _ _ _ _ (by decide)).trans (by kernel_rfl)
 have e8:G17 c1 (1,(39,(0,(1,(1,(0,(-1,())))))))=some (bk0,(0,(310,()))):=(G17_eq _ _ (by decide)).trans (by kernel_rfl)
 have e9:G21 c1 0=some ((3,([p0,p1,p2],(1,()))),(0,())):=(G21_eq _ _ (by decide)).trans (by kernel_rfl)
 have e10:G22 c1 1 1=some (-30,0):=(G22_eq _ _ _ (by decide)).trans (by kernel_rfl)
 have e11:G24 (3,([p0,p1,p2],(1,())))=some true:=(G24_eq _ (by decide)).trans (by kernel_rfl)
 have e12:G24 (0,([],(0,())))=some false:=(G24_eq _ (by decide)).trans (by kernel_rfl)
 have i1:G23 [-90,90,0] [-90,90,0]=some true:=ints_refl (by decide)
 have i2:G23 [30,-30,0] [30,-30,0]=some true:=ints_refl (by decide)
 have i3:G23 [-60,60,0] [-60,60,0]=some true:=ints_refl (by decide)
 unfold G5
 simp only [P17_of _ _ e1,F17_of _ _ e1,bkEta,P18_of _ _ e2,F18_of _ _ e2,P19_of _ _ _ _ e3,F19_of _ _ _ _ e3,P18_of _ _ e4,F18_of _ _ e4,P18_of _ _ e5,F18_of _ _ e5,P20_of _ _ e6,F20_of _ _ e6,P19_of _ _ _ _ e7,F19_of _ _ _ _ e7,P17_of _ _ e8,F17_of _ _ e8,P21_of _ _ e9,F21_of _ _ e9,P22_of _ _ _ e10,F22_of _ _ _ e10,P24_of _ e11,F24_of _ e11,P24_of _ e12,F24_of _ e12,cond_true,tk_all,List.replicate,List.set,P23_of _ _ i1,F23_of _ _ i1,P23_of _ _ i2,F23_of _ _ i2,P23_of _ _ i3,F23_of _ _ i3]
 decide +kernel
theorem P5_eq:P5=true:=P5_of sane
theorem F5_eq:F5=true:=F5_of sane
end Go.Ev.T
namespace Go.Ev.T
open Go Go.Ev
theorem good_int {n:Int} (h:(Lit.int .i64 n).wf=true):I64 n:=by
 simp only [Lit.wf,IntKind.min,IntKind.max,IntKind.signed,IntKind.bits,Bool.and_eq_true,decide_eq_true_eq,if_true] at h
 unfold I64; omega
theorem P29_eq {c:Int} (hc:I64 c) {n:Int} (hn:0 < n):P29 c n=true:=P29_of _ _ (G29_eq hc hn)
theorem F29_eq {c:Int} (hc:I64 c) {n:Int} (hn:0 < n):F29 c n=pickM c n:=F29_of _ _ (G29_eq hc hn)
def Mk (n:Nat) (b:Bk):Prop:=valid b=true∧b.2.1.length≤n∧∀ p∈b.2.1,p.2.2.2.2.2.1≤5
theorem mk_post {n:Nat} {b c:Bk} {p:Po} (h:Mk n b) (hp:p.2.2.2.2.2.1≤5) (hc:postM b p=some c):Mk (n+1) c:=by
 obtain ⟨h1,h2,h3⟩:=h
 obtain ⟨hv,rfl⟩:=postM_valid hc
 refine ⟨hv,by simp; omega,fun q hq=>?_⟩
 rcases List.mem_append.mp hq with e | e
 ·exact h3 q e
 ·simp at e; subst e; exact hp
theorem mk_mono {n m:Nat} {b:Bk} (h:Mk n b) (hm:n≤m):Mk m b:=⟨h.1,Nat.le_trans h.2.1 hm,h.2.2⟩
theorem mk_dispute {n:Nat} {b c:Bk} {i day amt:Int} (h:Mk n b) (hc:disputeM b i day amt=some c):Mk (n+2) c:=by
 unfold disputeM at hc
 split at hc
 ·rename_i hh
  simp only [Bool.and_eq_true,decide_eq_true_eq] at hh
  have hq:=h.2.2 _ (getD_mem (l:=b.2.1) (i:=i.toNat) (by omega))
  rw [oBs] at hc
  obtain ⟨d,hd,hc⟩:=hc
  have h1:=mk_post (p:=backP _ i day) h hq hd
  split at hc
  ·cases hc; exact mk_mono h1 (by omega)
  ·exact mk_post (p:=newP _ day amt) h1 hq hc
 ·cases hc
theorem closeM_valid {b c:Bk} {m:Int} (hc:closeM b m=some c):valid c=true∧c=(b.1,(b.2.1,(m+1,())))∧m=b.2.2.1∧0≤m∧m≤11:=by
 unfold closeM at hc
 split at hc
 ·rename_i hh
  cases hc
  simp only [Bool.and_eq_true,isIn_iff] at hh
  obtain ⟨⟨h1,h2⟩,h3,h4⟩:=hh
  have h2:m=b.2.2.1:=eq_of_beq h2
  refine ⟨?_,rfl,h2,h3,h4⟩
  obtain ⟨a1,a2,a3⟩:=valid_iff.mp h1
  exact valid_iff.mpr ⟨a1,a2,by simp only; omega⟩
 ·cases hc
theorem mk_close {n:Nat} {b c:Bk} {m:Int} (h:Mk n b) (hc:closeM b m=some c):Mk n c:=by
 obtain ⟨hv,rfl,_⟩:=closeM_valid hc
 exact ⟨hv,h.2.1,h.2.2⟩
def Rows5 (l:List (List Int)):Prop:=l.length≤1000000000000000000∧∀ i k:Nat,I64 ((l.getD i (List.replicate 5 0)).getD k 0)
theorem min_eq (a b:Int):(if a < b then a else b)=min a b:=by omega
theorem max_eq (a b:Int):(if a > b then a else b)=max a b:=by omega
theorem round8 {l:List (List Int)} (hl:Rows5 l) {i:Nat} (hi:i < l.length) (h24:i < 24) {day s3 s5 A c:Int} {s4 ps:List Po} (hb:Mk (2 * i) (A,(ps,(c,())))) (hd:0≤day∧day≤359) :
  ∃ day' b',L8_4_r l day (i:Int) s3 s4 s5 A ps c=some (.inl (l,day',((i+1:Nat):Int),s3,s4,s5,b'.1,b'.2.1,b'.2.2.1))∧Mk (2 * (i+1)) b'∧0≤day'∧day'≤359:=by
 obtain ⟨hll,hr⟩:=hl
 obtain ⟨_,⟨hA1,hA2⟩,hc1,hc2⟩:=valid_iff.mp hb.1
 simp only at hA1 hA2 hc1 hc2
 have hps:ps.length≤2 * i:=hb.2.1
 unfold L8_4_r
 have g1:decide ((i:Int) < (l.length:Int))=true:=by simpa using hi
 have g2:decide ((i:Int) < 24)=true:=by simp; omega
 have g3:decide (0≤(i:Int))=true:=by simp
 have g4:IntKind.i64.wrap ((i:Int)+1)=((i+1:Nat):Int):=wsucc (by omega)
 simp only [g1,g2,g3,g4,Int.toNat_natCast,cond_true,Bool.and_true]
 have hk:=hr i
 generalize l.getD i (List.replicate 5 0)=v at hk
 have k0:=hk 0; have k1:=hk 1; have k2:=hk 2; have k3:=hk 3; have k4:=hk 4
 have wA:IntKind.i64.wrap (A - 1)=A - 1:=wrapI (by omega) (by omega)
 have wL:IntKind.i64.wrap ((ps.length:Int)+1)=(ps.length:Int)+1:=wrapI (by omega) (by omega)
 have b1:=pickM_bound (v.getD 1 0) (n:=20) (by omega)
 have b2:=pickM_bound (v.getD 2 0) (n:=A) (by omega)
 have b3:=pickM_bound (v.getD 3 0) (n:=A - 1) (by omega)
 have b4:=pickM_bound (v.getD 4 0) (n:=1000) (by omega)
 have b5:=pickM_bound (v.getD 4 0) (n:=6) (by omega)
 have d0:(decide (0≤(0:Int)) && decide ((0:Int) < ((5:Nat):Int)))=true:=rfl
 have d1:(decide (0≤(1:Int)) && decide ((1:Int) < ((5:Nat):Int)))=true:=rfl
 have d2:(decide (0≤(2:Int)) && decide ((2:Int) < ((5:Nat):Int)))=true:=rfl
 have d3:(decide (0≤(3:Int)) && decide ((3:Int) < ((5:Nat):Int)))=true:=rfl
 have d4:(decide (0≤(4:Int)) && decide ((4:Int) < ((5:Nat):Int)))=true:=rfl
 have t0:(0:Int).toNat=0:=rfl
 have t1:(1:Int).toNat=1:=rfl
 have t2:(2:Int).toNat=2:=rfl
 have t3:(3:Int).toNat=3:=rfl
 have t4:(4:Int).toNat=4:=rfl
 have hA0:(!(A==0))=true:=by simp; omega
 simp only [d0,d1,d2,d3,d4,t0,t1,t2,t3,t4,wA,wL,hA0,P29_eq k1 (n:=20) (by omega),F29_eq k1 (n:=20) (by omega),P29_eq k2 (n:=A) (by omega),F29_eq k2 (n:=A) (by omega),P29_eq k3 (n:=A - 1) (by omega),F29_eq k3 (n:=A - 1) (by omega),P29_eq k4 (n:=1000) (by omega),F29_eq k4 (n:=1000) (by omega),P29_eq k4 (n:=6) (by omega),F29_eq k4 (n:=6) (by omega),P29_eq k0 (n:=6) (by omega),F29_eq k0 (n:=6) (by omega),P29_eq k3 (n:=(ps.length:Int)+1) (by omega),F29_eq k3 (n:=(ps.length:Int)+1) (by omega),cond_true,Bool.and_true,min_eq,max_eq]
 rw [wrapI (n:=day+_) (by omega) (by omega)]
 generalize hday:min (day+pickM (v.getD 1 0) 20) 359=day'
 have hday':0≤day'∧day'≤359:=by omega
 generalize hp:((1,(day',(pickM (v.getD 2 0) A,(Int.tmod (IntKind.i64.wrap (IntKind.i64.wrap (pickM (v.getD 2 0) A+1)+pickM (v.getD 3 0) (A - 1))) A,(IntKind.i64.wrap (1+pickM (v.getD 4 0) 1000),(pickM (v.getD 4 0) 6,(-1,()))))))):Po)=p
 have hsub:p.2.2.2.2.2.1≤5:=by rw [← hp]; simp only; omega
 have e10:=G30_eq (A,(ps,(c,()))) p (by simp only; omega)
 have e16:=G31_eq (A,(ps,(c,()))) (pickM (v.getD 3 0) ((ps.length:Int)+1)) day' (pickM (v.getD 4 0) 1000) (by simp only; omega)
 have e18:=G32_eq (A,(ps,(c,()))) c (by simp only; omega)
 simp only [P30_of _ _ e10,F30_of _ _ e10,P31_of _ _ _ _ e16,F31_of _ _ _ _ e16,P32_of _ _ e18,F32_of _ _ e18,cond_true]
 cases h4:(pickM (v.getD 0 0) 6==4)
 ·cases h5:(pickM (v.getD 0 0) 6==5)
  ·simp only [cond_false]
   cases hq:postM (A,(ps,(c,()))) p with
   | none=>exact ⟨day',(A,(ps,(c,()))),by simp [outP],mk_mono hb (by omega),hday'⟩
   | some b'=>exact ⟨day',b',by simp [outP],mk_mono (mk_post hb hsub hq) (by omega),hday'⟩
  ·simp only [cond_false,cond_true]
   cases hq:closeM (A,(ps,(c,()))) c with
   | none=>exact ⟨max (min 0 359) day',(A,(ps,(c,()))),by simp [outD,bk0]; rfl,mk_mono hb (by omega),by omega⟩
   | some b' =>
    obtain ⟨_,rfl,_,hc3,hc4⟩:=closeM_valid hq
    refine ⟨max (min (30 * (c+1)) 359) day',(A,(ps,(c+1,()))),?_,mk_mono (mk_close hb hq) (by omega),by omega⟩
    simp only [outD]; rw [wrapI (n:=30 * (c+1)) (by omega) (by omega)]; rfl
 ·simp only [cond_true]
  cases hq:disputeM (A,(ps,(c,()))) (pickM (v.getD 3 0) ((ps.length:Int)+1)) day' (pickM (v.getD 4 0) 1000) with
  | none=>exact ⟨day',(A,(ps,(c,()))),by simp [outD],mk_mono hb (by omega),hday'⟩
  | some b'=>exact ⟨day',b',by simp [outD],mk_mono (mk_dispute hb hq) (by omega),hday'⟩
theorem loop8 {l:List (List Int)} (hl:Rows5 l) (s3 s5:Int) (s4:List Po):∀ (n i:Nat),n=min l.length 24 - i→i≤24→∀ (day:Int) (b:Bk),Mk (2 * i) b→0≤day→day≤359 →
  ∃ r,L8_4 (l,day,(i:Int),s3,s4,s5,b.1,b.2.1,b.2.2.1)=some r∧Mk 48 (r.2.2.2.2.2.2.1,(r.2.2.2.2.2.2.2.1,(r.2.2.2.2.2.2.2.2,()))):=by
 intro n
 induction n with
 | zero =>
  intro i hn hi day b hb _ _
  have hll:=hl.1
  refine ⟨_,lim_end (x:=(l,day,(i:Int),s3,s4,s5,b.1,b.2.1,b.2.2.1)) ?_,mk_mono hb (by omega)⟩
  simp only [L8_4_r]
  have:(bif decide ((i:Int) < (l.length:Int)) then decide ((i:Int) < 24) else false)=false:=by
   by_cases h1:i < l.length
   ·rw [show decide ((i:Int) < 24)=false by simp; omega]; simp
   ·rw [show decide ((i:Int) < (l.length:Int))=false by simp; omega]; rfl
  simp only [this,cond_false]
 | succ n ih =>
  intro i hn hi day b hb hd1 hd2
  obtain ⟨day',b',hr,hb',h1,h2⟩:=round8 (s3:=s3) (s5:=s5) (s4:=s4) hl (i:=i) (by omega) (by omega) (A:=b.1) (ps:=b.2.1) (c:=b.2.2.1) hb ⟨hd1,hd2⟩
  obtain ⟨r,hr2,hk⟩:=ih (i+1) (by omega) (by omega) day' b' hb' h1 h2
  exact ⟨r,(lim_go hr).trans hr2,hk⟩
theorem G8_eq {a:Int} (ha:I64 a) {l:List (List Int)} (hl:Rows5 l):∃ b,G8 a l=some (b,())∧Mk 48 b:=by
 have b1:=pickM_bound a (n:=11) (by omega)
 have hm:Mk (2 * 0) (2+pickM a 11,([],(0,()))):=by
  refine ⟨?_,by simp,by simp⟩
  exact valid_iff.mpr ⟨rfl,by simp only; omega,by simp⟩
 obtain ⟨r,hr,hk⟩:=loop8 hl 0 0 [] (min l.length 24 - 0) 0 rfl (by omega) 0 _ hm (by omega) (by omega)
 refine ⟨_,?_,hk⟩
 unfold G8
 simp only [P29_eq ha (n:=11) (by omega),F29_eq ha (n:=11) (by omega),cond_true]
 rw [wrapI (by omega) (by omega)]
 have hr':L8_4 (l,0,0,0,[],0,2+pickM a 11,[],0)=some r:=hr
 rw [hr']; rfl
end Go.Ev.T
namespace Go.Ev.T.W
open Go Go.Ev
theorem wrap_u8 (n:Int):IntKind.u8.wrap n=n % 256:=by simp [IntKind.wrap,IntKind.bits,IntKind.signed]
theorem wrap_i64 {n:Int} (h1:-9223372036854775808≤n) (h2:n < 9223372036854775808):IntKind.i64.wrap n=n:=by
 simp only [IntKind.wrap,IntKind.bits,IntKind.signed]
 by_cases h:0≤n
 ·have:n % (2 ^ 64:Int)=n:=by omega
  simp only [this]
  rw [if_neg (by simp; omega)]
 ·have:n % (2 ^ 64:Int)=n+18446744073709551616:=by omega
  simp only [this]
  rw [if_pos (by simp; omega)]
  omega
theorem fdiv_pow (a k:Nat):Int.fdiv (a:Int) (2 ^ k:Int)=((a / 2 ^ k:Nat):Int):=by
 have:(2 ^ k:Int)=((2 ^ k:Nat):Int):=by norm_cast
 rw [this]
 exact (Int.ofNat_fdiv a (2 ^ k)).symm
theorem bits_and_u64 (a b:Nat) (ha:a < 18446744073709551616) (hb:b < 18446744073709551616):bits .and .u64 (a:Int) (b:Int)=((a &&& b:Nat):Int):=bits_and_u64_nat a b ha hb
theorem and127 (a:Nat):a &&& 127=a % 128:=Nat.and_two_pow_sub_one_eq_mod a 7
theorem or128 {a:Nat} (h:a < 128):a ||| 128=a+128:=by
 have:∀ a:Fin 128,a.1 ||| 128=a.1+128:=by decide +kernel
 exact this ⟨a,h⟩
theorem bits_or_u8 (a b:Nat) (ha:a < 256) (hb:b < 256):bits .or .u8 (a:Int) (b:Int)=((a ||| b:Nat):Int):=by
 have hx:a ||| b < 2 ^ 8:=Nat.or_lt_two_pow (by omega) (by omega)
 have h1:(BitVec.ofInt 8 (a:Int)).toNat=a:=by
  rw [BitVec.ofInt_natCast,BitVec.toNat_ofNat]; exact Nat.mod_eq_of_lt (by omega)
 have h2:(BitVec.ofInt 8 (b:Int)).toNat=b:=by
  rw [BitVec.ofInt_natCast,BitVec.toNat_ofNat]; exact Nat.mod_eq_of_lt (by omega)
 show IntKind.u8.wrap ((BitVec.ofInt 8 (a:Int) ||| BitVec.ofInt 8 (b:Int)).toNat:Int)=_
 rw [BitVec.toNat_or,h1,h2,wrap_u8]
 omega
theorem xor_ones {a:Nat} (h:a < 18446744073709551616):a ^^^ 18446744073709551615=18446744073709551615 - a:=by
 have h1:(BitVec.ofNat 64 a ^^^ BitVec.allOnes 64).toNat=a ^^^ 18446744073709551615:=by
  rw [BitVec.toNat_xor,BitVec.toNat_ofNat,Nat.mod_eq_of_lt (by omega),BitVec.toNat_allOnes]
 rw [← h1,BitVec.xor_allOnes,BitVec.toNat_not,BitVec.toNat_ofNat,Nat.mod_eq_of_lt (by omega)]
def groupsF:Nat→Nat→List (Nat×Bool)
 | 0,_=>[]
 | f+1,z=>if z < 128 then [(z,true)] else (z % 128,false)::groupsF f (z / 128)
def encF:Nat→Nat→List UInt8
 | 0,_=>[]
 | f+1,z=>if z < 128 then [UInt8.ofNat z] else UInt8.ofNat (z % 128+128)::encF f (z / 128)
def encN (z:Nat):List UInt8:=encF 10 z
def zz (n:Int):Nat:=if 0≤n then (2 * n).toNat else (-2 * n - 1).toNat
theorem group_round {z:Nat} (hz:z < 18446744073709551616):L61_0_r (z:Int)=if z < 128 then some ([(((z:Nat):Int),true)],.inr (z:Int)) else some ([(((z % 128:Nat):Int),false)],.inl ((z / 128:Nat):Int)):=by
 have e1:bits .and .u64 (z:Int) (127:Int)=((z % 128:Nat):Int):=by
  have:=bits_and_u64 z 127 hz (by omega)
  rw [and127] at this; exact this
 have e2:IntKind.u8.wrap ((z % 128:Nat):Int)=((z % 128:Nat):Int):=by rw [wrap_u8]; omega
 have e3:Int.fdiv (z:Int) (2 ^ min (Int.toNat (7:Int)) (IntKind.u64.bits))=((z / 128:Nat):Int):=fdiv_pow z 7
 unfold L61_0_r
 simp only [e1,e2,e3]
 by_cases h:z < 128
 ·have t:decide ((z:Int) < 128)=true:=by simp; omega
  simp only [t,if_pos h,Bool.not_true,Bool.not_false,cond_true,cond_false,yieldW]
  rw [Nat.mod_eq_of_lt h]
 ·have t:decide ((z:Int) < 128)=false:=by simp; omega
  simp only [t,if_neg h,Bool.not_true,Bool.not_false,cond_true,cond_false,yieldW]
def gI (p:Nat×Bool):Int×Bool:=((p.1:Int),p.2)
theorem groups_loop:∀ (f z:Nat),z < 128 ^ (f+1)→z < 18446744073709551616→∃ x,L61_0 (z:Int)=some ((groupsF (f+1) z).map gI,x):=by
 intro f
 induction f with
 | zero =>
  intro z h hz
  have hc:z < 128:=by simpa using h
  unfold L61_0
  rw [limW_step]
  simp only [group_round hz,if_pos hc,YW.bind]
  exact ⟨(z:Int),by simp [groupsF,hc,gI]⟩
 | succ f ih =>
  intro z h hz
  unfold L61_0
  rw [limW_step]
  simp only [group_round hz]
  by_cases hc:z < 128
  ·simp only [if_pos hc,YW.bind]
   exact ⟨(z:Int),by simp [groupsF,hc,gI]⟩
  ·simp only [if_neg hc,YW.bind]
   obtain ⟨x,hx⟩:=ih (z / 128) (by rw [Nat.pow_succ 128 (f+1)] at h; exact Nat.div_lt_of_lt_mul (by omega)) (by omega)
   unfold L61_0 at hx
   rw [hx]
   refine ⟨x,?_⟩
   rw [show groupsF (f+1+1) z=(z % 128,false)::groupsF (f+1) (z / 128) from by simp [groupsF,hc]]
   rfl
theorem W61_ys {z:Nat} (hz:z < 18446744073709551616):(W61 (z:Int)).ys=some ((groupsF 10 z).map gI):=by
 obtain ⟨x,hx⟩:=groups_loop 9 z (by omega) hz
 unfold W61
 rw [hx]
 simp [YW.bind,YW.ys]
def gB (p:Nat×Bool):Int:=if p.2 then (p.1:Int) else ((p.1+128:Nat):Int)
theorem put_round {out:List Int} {p:Nat×Bool} (hp:p.1 < 128) (hl:out.length≤1000):R25_5_step out (gI p)=some (.inl (out++[gB p])):=by
 obtain ⟨g,last⟩:=p
 unfold R25_5_step R25_5_r gI gB
 have e1:bits .or .u8 (g:Int) (128:Int)=((g+128:Nat):Int):=by
  have:=bits_or_u8 g 128 (by simp at hp; omega) (by omega)
  rw [or128 hp] at this; exact this
 have t:∀ v:Int,decide (List.length out+List.length [v]≤100000000000)=true:=fun v=>by
  simp; omega
 have sv:∀ v:Int,List.set (List.replicate 1 (0:Int)) 0 v=[v]:=fun v=>rfl
 cases last
 ·simp only [Bool.not_false,cond_true,e1,List.take_length,sv,t]; rfl
 ·simp only [Bool.not_true,cond_false,List.take_length,sv,t,cond_true]; rfl
theorem put_fold:∀ (ps:List (Nat×Bool)) (out:List Int),(∀ p∈ps,p.1 < 128)→out.length+ps.length≤1000→foldX R25_5_step (ps.map gI) out=some (.inl (out++ps.map gB))
 | [],out,_,_=>by simp [foldX]
 | p::ps,out,hp,hl=>by
  have h1:=put_round (out:=out) (hp p (by simp)) (by simp at hl; omega)
  simp only [List.map_cons,foldX,h1]
  rw [put_fold ps (out++[gB p]) (fun q hq=>hp q (by simp [hq])) (by simp at hl ⊢; omega)]
  simp
theorem groups_lt:∀ (f z:Nat),∀ p∈groupsF f z,p.1 < 128
 | 0,_,p,hp=>by simp [groupsF] at hp
 | f+1,z,p,hp=>by
  simp only [groupsF] at hp
  split at hp
  ·simp at hp; subst hp; assumption
  ·rcases List.mem_cons.1 hp with rfl | hp
   ·exact Nat.mod_lt _ (by omega)
   ·exact groups_lt f _ p hp
theorem groups_len:∀ (f z:Nat),(groupsF f z).length≤f
 | 0,_=>by simp [groupsF]
 | f+1,z=>by
  simp only [groupsF]
  split
  ·simp
  ·have:=groups_len f (z / 128); simp; omega
theorem groups_enc:∀ (f z:Nat),((groupsF f z).map gB).map (fun n=>UInt8.ofNat n.toNat)=encF f z
 | 0,_=>rfl
 | f+1,z=>by
  simp only [groupsF,encF]
  split
  ·simp [gB]
  ·simp only [List.map_cons,groups_enc f]
   rfl
theorem zz_eq {n:Int} (h1:-4611686018427387903≤n) (h2:n≤4611686018427387903):bits .xor .u64 (IntKind.u64.wrap (IntKind.u64.wrap n * 2 ^ min (Int.toNat (1:Int)) (IntKind.u64.bits))) (IntKind.u64.wrap (Int.fdiv n (2 ^ min (Int.toNat (63:Int)) (IntKind.i64.bits))))=((zz n:Nat):Int):=by
 have e0:(2 ^ min (Int.toNat (1:Int)) (IntKind.u64.bits):Int)=2:=rfl
 have e63:(2 ^ min (Int.toNat (63:Int)) (IntKind.i64.bits):Int)=9223372036854775808:=rfl
 rw [e0,e63,IntKind.wrap_u64,IntKind.wrap_u64,IntKind.wrap_u64]
 unfold zz
 by_cases h:0≤n
 ·have a1:n % 18446744073709551616 * 2 % 18446744073709551616=(((2 * n).toNat:Nat):Int):=by omega
  have a2:Int.fdiv n 9223372036854775808 % 18446744073709551616=((0:Nat):Int):=by
   rw [Int.fdiv_eq_ediv_of_nonneg _ (by omega)]; omega
  rw [a1,a2,bits_xor_u64_nat _ _ (by omega) (by omega),if_pos h,Nat.xor_zero]
 ·have a1:n % 18446744073709551616 * 2 % 18446744073709551616=(((18446744073709551616+2 * n).toNat:Nat):Int):=by omega
  have a2:Int.fdiv n 9223372036854775808 % 18446744073709551616=((18446744073709551615:Nat):Int):=by
   rw [Int.fdiv_eq_ediv_of_nonneg _ (by omega)]; omega
  rw [a1,a2,bits_xor_u64_nat _ _ (by omega) (by omega),if_neg h,xor_ones (by omega)]
  congr 1
  omega
def putInt (n:Int):List UInt8×Int:=if n < -4611686018427387903∨n > 4611686018427387903 then ([],10) else (encN (zz n),0)
theorem G25_eq (n:Int):G25 n=some (putInt n):=by
 unfold G25 putInt
 by_cases h:n < -4611686018427387903∨n > 4611686018427387903
 ·have:(bif decide (n < (-4611686018427387903:Int)) then true else decide (n > (4611686018427387903:Int)))=true:=by
   rcases h with h | h<;>simp [h]
  simp only [this,if_pos h,cond_true]
 ·have h1:-4611686018427387903≤n:=by omega
  have h2:n≤4611686018427387903:=by omega
  have:(bif decide (n < (-4611686018427387903:Int)) then true else decide (n > (4611686018427387903:Int)))=false:=by
   rw [decide_eq_false (by omega),decide_eq_false (by omega)]; rfl
  have hz:zz n < 18446744073709551616:=by unfold zz; split<;>omega
  have h47:G47 ((zz n:Nat):Int)=some ((),((),(((zz n:Nat):Int),()))):=rfl
  simp only [this,if_neg h,cond_false,zz_eq h1 h2,P47_of _ h47,F47_of _ h47,cond_true,W61_ys hz,Option.bind_some]
  rw [put_fold _ _ (groups_lt 10 _) (by have:=groups_len 10 (zz n); simp; omega)]
  simp only [Option.bind_some,List.nil_append,List.take_length,groups_enc]
  rfl
theorem P25_eq (n:Int):P25 n=true:=P25_of n (G25_eq n)
theorem F25_eq (n:Int):F25 n=putInt n:=F25_of n (G25_eq n)
section
variable (a b c:List UInt8)
end
theorem ref_put_round {z:Nat} (hz:z < 18446744073709551616) {out:List Int} (hl:out.length≤1000) :
  L28_5_r (z:Int) out=if z < 128 then some (.inr ((z:Int),out)) else some (.inl (((z / 128:Nat):Int),out++[gB (z % 128,false)])):=by
 have e1:Int.tmod (z:Int) 128=((z % 128:Nat):Int):=by rw [Int.tmod_eq_emod_of_nonneg (by omega)]; omega
 have e2:IntKind.u64.wrap (((z % 128:Nat):Int)+128)=((z % 128+128:Nat):Int):=by rw [IntKind.wrap_u64]; omega
 have e3:IntKind.u8.wrap ((z % 128+128:Nat):Int)=((z % 128+128:Nat):Int):=by rw [wrap_u8]; omega
 have e4:IntKind.u64.wrap (Int.tdiv (z:Int) 128)=((z / 128:Nat):Int):=by rw [Int.tdiv_eq_ediv_of_nonneg (by omega),IntKind.wrap_u64]; omega
 have sv:∀ v:Int,List.set (List.replicate 1 (0:Int)) 0 v=[v]:=fun v=>rfl
 have t:∀ v:Int,decide (List.length out+List.length [v]≤100000000000)=true:=fun v=>by simp; omega
 unfold L28_5_r
 by_cases h:z < 128
 ·have t1:decide ((z:Int)≥128)=false:=by simp; omega
  simp only [t1,cond_false,if_pos h]
 ·have t1:decide ((z:Int)≥128)=true:=by simp; omega
  simp only [t1,cond_true,if_neg h,e1,e2,e3,e4,sv,List.take_length,t]
  rfl
theorem ref_put_loop:∀ (f z:Nat) (out:List Int),z < 128 ^ (f+1)→z < 18446744073709551616→out.length+f≤1000→∃ (pre:List Int) (zl:Nat),L28_5 ((z:Int),out)=some ((zl:Int),out++pre)∧zl < 128∧pre++[(zl:Int)]=(groupsF (f+1) z).map gB:=by
 intro f
 induction f with
 | zero =>
  intro z out h hz hl
  have hc:z < 128:=by simpa using h
  refine ⟨[],z,?_,hc,by simp [groupsF,hc,gB]⟩
  unfold L28_5
  rw [lim_step]
  simp only [ref_put_round hz (by omega:out.length≤1000),if_pos hc,List.append_nil]
 | succ f ih =>
  intro z out h hz hl
  by_cases hc:z < 128
  ·refine ⟨[],z,?_,hc,by simp [groupsF,hc,gB]⟩
   unfold L28_5
   rw [lim_step]
   simp only [ref_put_round hz (by omega:out.length≤1000),if_pos hc,List.append_nil]
  ·obtain ⟨pre,zl,h1,h2,h3⟩:=ih (z / 128) (out++[gB (z % 128,false)]) (by rw [Nat.pow_succ 128 (f+1)] at h; exact Nat.div_lt_of_lt_mul (by omega)) (by omega) (by simp; omega)
   refine ⟨gB (z % 128,false)::pre,zl,?_,h2,?_⟩
   ·unfold L28_5 at h1 ⊢
    rw [lim_step]
    simp only [ref_put_round hz (by omega:out.length≤1000),if_neg hc]
    rw [h1]
    simp
   ·rw [show groupsF (f+1+1) z=(z % 128,false)::groupsF (f+1) (z / 128) from by simp [groupsF,hc],List.map_cons,← h3]
    rfl
theorem G49_eq {n:Int} (h1:-4611686018427387903≤n) (h2:n≤4611686018427387903):G49 n=some ((zz n:Nat):Int):=by
 unfold G49 zz
 by_cases h:0≤n
 ·have t:decide (n < 0)=false:=by simp; omega
  simp only [t,cond_false,if_pos h,IntKind.wrap_u64]
  congr 1; omega
 ·have t:decide (n < 0)=true:=by simp; omega
  simp only [t,cond_true,if_neg h]
  rw [wrap_i64 (by omega) (by omega)]
  simp only [IntKind.wrap_u64]
  congr 1; omega
theorem G28_eq (n:Int):G28 n=some (putInt n):=by
 unfold G28 putInt
 by_cases h:n < -4611686018427387903∨n > 4611686018427387903
 ·have:(bif decide (n < (-4611686018427387903:Int)) then true else decide (n > (4611686018427387903:Int)))=true:=by
   rcases h with h | h<;>simp [h]
  simp only [this,if_pos h,cond_true]
 ·have h1:-4611686018427387903≤n:=by omega
  have h2:n≤4611686018427387903:=by omega
  have:(bif decide (n < (-4611686018427387903:Int)) then true else decide (n > (4611686018427387903:Int)))=false:=by
   rw [decide_eq_false (by omega),decide_eq_false (by omega)]; rfl
  have hz:zz n < 18446744073709551616:=by unfold zz; split<;>omega
  obtain ⟨pre,zl,k1,k2,k3⟩:=ref_put_loop 9 (zz n) [] (by omega) hz (by simp)
  have hg:=G49_eq h1 h2
  have e1:IntKind.u8.wrap (zl:Int)=(zl:Int):=by rw [wrap_u8]; omega
  have sv:∀ v:Int,List.set (List.replicate 1 (0:Int)) 0 v=[v]:=fun v=>rfl
  have hpl:pre.length≤10:=by
   have:=congrArg List.length k3
   have:=groups_len 10 (zz n)
   simp at *; omega
  have t:∀ v:Int,decide (List.length pre+List.length [v]≤100000000000)=true:=fun v=>by simp; omega
  simp only [this,if_neg h,cond_false,P49_of _ hg,F49_of _ hg,cond_true,k1,Option.bind_some,List.nil_append,e1,sv,List.take_length,t,k3,groups_enc]
  rfl
theorem P28_eq (n:Int):P28 n=true:=P28_of n (G28_eq n)
def unzz (z:Nat):Int:=if z % 2=0 then ((z / 2:Nat):Int) else -((z / 2:Nat):Int) - 1
def val:List UInt8→Nat
 | []=>0
 | b::r=>b.toNat % 128+128 * val r
def chained:List UInt8→Bool
 | []=>false
 | [b]=>decide (b.toNat < 128)
 | b::r=>decide (128≤b.toNat) && chained r
def canon (l:List UInt8):Prop:=l.length=1∨l.getLastD 0≠0
theorem unzz_zz {n:Int}:unzz (zz n)=n:=by
 unfold zz unzz
 split<;>split<;>omega
theorem enc_ne (f z:Nat):encF (f+1) z≠[]:=by
 simp only [encF]; split<;>simp
theorem chained_cons {b:UInt8} {r:List UInt8} (hr:r≠[]):chained (b::r)=(decide (128≤b.toNat) && chained r):=by
 cases r with
 | nil=>exact absurd rfl hr
 | cons c r=>rfl
theorem enc_props:∀ (f z:Nat),z < 128 ^ (f+1)→chained (encF (f+1) z)=true∧val (encF (f+1) z)=z∧(z≠0→(encF (f+1) z).getLastD 0≠0)∧(z=0→(encF (f+1) z).length=1):=by
 intro f
 induction f with
 | zero =>
  intro z h
  have hc:z < 128:=by simpa using h
  have hn:(UInt8.ofNat z).toNat=z:=by rw [UInt8.toNat_ofNat']; omega
  simp only [encF,if_pos hc]
  refine ⟨by simp [chained,hn,hc],by simp only [val,hn]; omega,fun hz e=>hz ?_,fun _=>rfl⟩
  have:=congrArg UInt8.toNat e
  simpa [hn] using this
 | succ f ih =>
  intro z h
  by_cases hc:z < 128
  ·have hn:(UInt8.ofNat z).toNat=z:=by rw [UInt8.toNat_ofNat']; omega
   have he:encF (f+1+1) z=[UInt8.ofNat z]:=by simp [encF,hc]
   rw [he]
   refine ⟨by simp [chained,hn,hc],by simp only [val,hn]; omega,fun hz e=>hz ?_,fun _=>rfl⟩
   have:=congrArg UInt8.toNat e
   simpa [hn] using this
  ·obtain ⟨h1,h2,h3,_⟩:=ih (z / 128) (by rw [Nat.pow_succ 128 (f+1)] at h; exact Nat.div_lt_of_lt_mul (by omega))
   have he:encF (f+1+1) z=UInt8.ofNat (z % 128+128)::encF (f+1) (z / 128):=by
    rw [encF]; rw [if_neg hc]
   have hn:(UInt8.ofNat (z % 128+128)).toNat=z % 128+128:=by rw [UInt8.toNat_ofNat']; omega
   rw [he]
   refine ⟨?_,?_,fun hz=>?_,fun hz=>by omega⟩
   ·rw [chained_cons (enc_ne f _),h1,hn]; simp
   ·simp only [val,hn,h2]; omega
   ·have:=h3 (by omega)
    cases hl:encF (f+1) (z / 128) with
    | nil=>exact absurd hl (enc_ne f _)
    | cons c r=>rw [hl] at this; simpa using this
theorem enc_canon {f z:Nat} (h:z < 128 ^ (f+1)):canon (encF (f+1) z):=by
 obtain ⟨_,_,h3,h4⟩:=enc_props f z h
 by_cases hz:z=0
 ·exact .inl (h4 hz)
 ·exact .inr (h3 hz)
def inR (n:Int):Prop:=-4611686018427387903≤n∧n≤4611686018427387903
def enc (n:Int):List UInt8:=encN (zz n)
theorem putInt_in {n:Int} (h:inR n):putInt n=(enc n,0):=by
 unfold putInt inR at *; rw [if_neg (by omega)]; rfl
theorem zz_lt {n:Int} (h:inR n):zz n < 9223372036854775807:=by
 unfold zz inR at *; split<;>omega
theorem enc_chained {n:Int} (h:inR n):chained (enc n)=true∧val (enc n)=zz n∧canon (enc n):=by
 have:=zz_lt h
 have hz:zz n < 128 ^ (9+1):=Nat.lt_trans this (by decide)
 obtain ⟨h1,h2,_⟩:=enc_props 9 (zz n) hz
 exact ⟨h1,h2,enc_canon hz⟩
theorem val_lower:∀ {l:List UInt8},chained l=true→l.getLastD 0≠0→128 ^ (l.length - 1)≤val l
 | [],h,_=>by simp [chained] at h
 | [b],h,hl=>by
  simp only [List.getLastD] at hl
  simp only [chained,decide_eq_true_eq] at h
  have:b.toNat≠0:=fun q=>hl (UInt8.toNat_inj.1 (by simpa using q))
  simp only [val,List.length_cons,List.length_nil]
  simp; omega
 | b::c::r,h,hl=>by
  rw [chained_cons (by simp)] at h
  simp only [Bool.and_eq_true] at h
  have ih:=val_lower (l:=c::r) h.2 (by simpa using hl)
  have e:(b::c::r).length - 1=(c::r).length - 1+1:=by simp
  rw [e,Nat.pow_succ]
  have:val (b::c::r)=b.toNat % 128+128 * val (c::r):=rfl
  omega
theorem enc_short {n:Int} (h:inR n):(enc n).length≤9:=by
 obtain ⟨h1,h2,h3⟩:=enc_chained h
 rcases h3 with h3 | h3
 ·omega
 ·have:=val_lower h1 h3
  rw [h2] at this
  have hz:=zz_lt h
  apply Classical.byContradiction
  intro hc
  have:128 ^ 9≤128 ^ ((enc n).length - 1):=Nat.pow_le_pow_right (by omega) (by omega)
  have e:(128:Nat) ^ 9=9223372036854775808:=by decide
  omega
theorem chained_pre:∀ {l m:List UInt8},chained l=true→chained m=true→l <+: m→l=m
 | [],_,h,_,_=>by simp [chained] at h
 | [b],m,h,hm,hp=>by
  obtain ⟨t,rfl⟩:=hp
  cases t with
  | nil=>rfl
  | cons c t =>
   simp only [List.cons_append,List.nil_append] at hm
   rw [chained_cons (by simp)] at hm
   simp [chained] at h hm
   omega
 | b::c::r,m,h,hm,hp=>by
  obtain ⟨t,rfl⟩:=hp
  rw [chained_cons (by simp)] at h
  simp only [List.cons_append] at hm ⊢
  rw [chained_cons (by simp)] at hm
  simp only [Bool.and_eq_true] at h hm
  have:=chained_pre (l:=c::r) (m:=c::(r++t)) h.2 hm.2 ⟨t,by simp⟩
  rw [this]
theorem pre_total {l a b:List UInt8} (ha:a <+: l) (hb:b <+: l):a <+: b∨b <+: a:=by
 rcases Nat.le_total a.length b.length with h | h
 ·exact .inl (List.prefix_of_prefix_length_le ha hb h)
 ·exact .inr (List.prefix_of_prefix_length_le hb ha h)
theorem enc_inj {l:List UInt8} {m n:Int} (hm:inR m) (hn:inR n) (h1:enc m <+: l) (h2:enc n <+: l):m=n:=by
 obtain ⟨a1,a2,_⟩:=enc_chained hm
 obtain ⟨b1,b2,_⟩:=enc_chained hn
 have:enc m=enc n:=by
  rcases pre_total h1 h2 with h | h
  ·exact chained_pre a1 b1 h
  ·exact (chained_pre b1 a1 h).symm
 have hz:zz m=zz n:=by rw [← a2,← b2,this]
 have:=congrArg unzz hz
 simpa [unzz_zz] using this
end Go.Ev.T.W
namespace Go.Ev.T.D
open Go Go.Ev
def fz {α:Type} (x:Int) (k:Int→α):α:=match x with
 | .ofNat n=>(match n with
  | 0=>k 0
  | m+1=>k (Int.ofNat (m+1)))
 | .negSucc m=>k (.negSucc m)
theorem fz_eq {α:Type} (x:Int) (k:Int→α):fz x k=k x:=by
 unfold fz
 split
 ·split<;>rfl
 ·rfl
abbrev xor32 (a b:Int):Int:=bits .xor .u32 a b
abbrev and32 (a b:Int):Int:=bits .and .u32 a b
abbrev or32 (a b:Int):Int:=bits .or .u32 a b
abbrev w32 (a:Int):Int:=IntKind.u32.wrap a
def rot (x p q:Int):Int:=or32 (w32 (x * q)) (Int.fdiv x p)
def sig0 (x:Int):Int:=xor32 (xor32 (rot x 128 33554432) (rot x 262144 16384)) (Int.fdiv x 8)
def sig1 (x:Int):Int:=xor32 (xor32 (rot x 131072 32768) (rot x 524288 8192)) (Int.fdiv x 1024)
def big1 (e:Int):Int:=xor32 (xor32 (rot e 64 67108864) (rot e 2048 2097152)) (rot e 33554432 128)
def big0 (a:Int):Int:=xor32 (xor32 (rot a 4 1073741824) (rot a 8192 524288)) (rot a 4194304 1024)
def nextW (r:List Int):Int:=w32 (w32 (w32 (r.getD 15 0+sig0 (r.getD 14 0))+r.getD 6 0)+sig1 (r.getD 1 0))
def extW:Nat→List Int→List Int
 | 0,r=>r
 | n+1,r=>fz (nextW r) fun x=>extW n (x::r)
def t1 (e f g h k w:Int):Int:=w32 (w32 (w32 (w32 (h+big1 e)+xor32 (and32 e f) (and32 (xor32 4294967295 e) g))+k)+w)
def t2 (a b c:Int):Int:=w32 (big0 a+xor32 (xor32 (and32 a b) (and32 a c)) (and32 b c))
def comp:List (Int×Int)→Int→Int→Int→Int→Int→Int→Int→Int→List Int
 | [],a,b,c,d,e,f,g,h=>[a,b,c,d,e,f,g,h]
 | (k,w)::l,a,b,c,d,e,f,g,h=>fz (t1 e f g h k w) fun t=>fz (w32 (t+t2 a b c)) fun x=>fz (w32 (d+t)) fun y=>comp l x a b c y e f g
def word (b:List Int) (i:Nat):Int:=or32 (or32 (or32 (w32 (w32 (b.getD (4 * i) 0) * 16777216)) (w32 (w32 (b.getD (4 * i+1) 0) * 65536))) (w32 (w32 (b.getD (4 * i+2) 0) * 256))) (w32 (b.getD (4 * i+3) 0))
def wordsOf (b:List Int):Nat→List Int
 | 0=>[]
 | n+1=>fz (word b n) fun x=>x::wordsOf b n
def sched (b:List Int):List Int:=(extW 48 (wordsOf b 16)).reverse
def addAll:List Int→List Int→List Int
 | x::l,y::m=>fz (w32 (x+y)) fun z=>z::addAll l m
 | _,_=>[]
def block (h:List Int) (b:List Int):List Int :=
 addAll h (comp (roundK.zip (sched b)) (h.getD 0 0) (h.getD 1 0) (h.getD 2 0) (h.getD 3 0) (h.getD 4 0) (h.getD 5 0) (h.getD 6 0) (h.getD 7 0))
def blocks:Nat→List Int→List Int→List Int
 | 0,h,_=>h
 | n+1,h,b=>blocks n (block h (b.take 64)) (b.drop 64)
def lenB (n:Int) (i:Nat):Int:=IntKind.u8.wrap (Int.fdiv (8 * n) (2 ^ (8 * i)))
def padZ (n:Nat):Nat:=(119 - n % 64) % 64
def padded (s:List UInt8):List Int:=s.map (fun b=>(b.toNat:Int))++128::(List.replicate (padZ s.length) 0++[lenB s.length 7,lenB s.length 6,lenB s.length 5,lenB s.length 4,lenB s.length 3,lenB s.length 2,lenB s.length 1,lenB s.length 0])
def h0:List Int:=[1779033703,3144134277,1013904242,2773480762,1359893119,2600822924,528734635,1541459225]
def bytesOf (x:Int):List UInt8:=[UInt8.ofNat (IntKind.u8.wrap (Int.fdiv x 16777216)).toNat,UInt8.ofNat (IntKind.u8.wrap (Int.fdiv x 65536)).toNat,UInt8.ofNat (IntKind.u8.wrap (Int.fdiv x 256)).toNat,UInt8.ofNat (IntKind.u8.wrap x).toNat]
def sha (s:List UInt8):List UInt8:=(blocks ((padded s).length / 64) h0 (padded s)).flatMap bytesOf
theorem wrapI {n:Int} (h1:-9223372036854775808≤n) (h2:n≤9223372036854775807):IntKind.i64.wrap n=n:=by
 simp only [IntKind.wrap,IntKind.bits,IntKind.signed]
 by_cases h:0≤n
 ·have:n % (2 ^ 64:Int)=n:=by omega
  simp only [this]
  rw [if_neg (by simp; omega)]
 ·have:n % (2 ^ 64:Int)=n+18446744073709551616:=by omega
  simp only [this]
  rw [if_pos (by simp; omega)]
  omega
theorem wrap_u32 (n:Int):IntKind.u32.wrap n=n % 4294967296:=by simp [IntKind.wrap,IntKind.bits,IntKind.signed]
theorem w32_range (n:Int):0≤w32 n∧w32 n < 4294967296:=by unfold w32; rw [wrap_u32]; omega
theorem or32_range (a b:Int):0≤or32 a b∧or32 a b < 4294967296:=w32_range _
theorem or32_comm (a b:Int):or32 a b=or32 b a:=by
 show IntKind.u32.wrap ((BitVec.ofInt 32 a ||| BitVec.ofInt 32 b).toNat:Int)=IntKind.u32.wrap ((BitVec.ofInt 32 b ||| BitVec.ofInt 32 a).toNat:Int)
 rw [BitVec.or_comm]
theorem xor32_zero {a:Int} (h:0≤a∧a < 4294967296):xor32 0 a=a:=by
 obtain ⟨n,rfl⟩:=Int.eq_ofNat_of_zero_le h.1
 show IntKind.u32.wrap ((BitVec.ofInt 32 0 ^^^ BitVec.ofInt 32 (n:Int)).toNat:Int)=_
 have:BitVec.ofInt 32 0=0#32:=rfl
 rw [this,BitVec.zero_xor,BitVec.ofInt_natCast,BitVec.toNat_ofNat,wrap_u32]
 omega
theorem rot_range (x p q:Int):0≤rot x p q∧rot x p q < 4294967296:=or32_range _ _
theorem rl7 (x:Int):G79 x (IntKind.i64.wrap (0 - 7))=some (rot x 128 33554432):=by kernel_rfl
theorem rl18 (x:Int):G79 x (IntKind.i64.wrap (0 - 18))=some (rot x 262144 16384):=by kernel_rfl
theorem rl17 (x:Int):G79 x (IntKind.i64.wrap (0 - 17))=some (rot x 131072 32768):=by kernel_rfl
theorem rl19 (x:Int):G79 x (IntKind.i64.wrap (0 - 19))=some (rot x 524288 8192):=by kernel_rfl
theorem rl6 (x:Int):G79 x (IntKind.i64.wrap (0 - 6))=some (rot x 64 67108864):=by kernel_rfl
theorem rl11 (x:Int):G79 x (IntKind.i64.wrap (0 - 11))=some (rot x 2048 2097152):=by kernel_rfl
theorem rl25 (x:Int):G79 x (IntKind.i64.wrap (0 - 25))=some (rot x 33554432 128):=by kernel_rfl
theorem rl2 (x:Int):G79 x (IntKind.i64.wrap (0 - 2))=some (rot x 4 1073741824):=by kernel_rfl
theorem rl13 (x:Int):G79 x (IntKind.i64.wrap (0 - 13))=some (rot x 8192 524288):=by kernel_rfl
theorem rl22 (x:Int):G79 x (IntKind.i64.wrap (0 - 22))=some (rot x 4194304 1024):=by kernel_rfl
theorem mix_go {x acc:Int} {l:List Int} {i:Nat} (hi:i < l.length) (hl:l.length≤1000) {r:Int} (h:G79 x (IntKind.i64.wrap (0 - l.getD i 0))=some r) :
  L78_3_r x acc l (l.length:Int) (i:Int)=some (.inl (x,xor32 acc r,l,(l.length:Int),((i+1:Nat):Int))):=by
 have t1:decide ((i:Int) < (l.length:Int))=true:=by simp; omega
 have t2:decide ((0:Int)≤(i:Int))=true:=by simp
 have t3:IntKind.i64.wrap ((i:Int)+1)=((i+1:Nat):Int):=by rw [wrapI (by omega) (by omega)]; omega
 unfold L78_3_r
 simp only [t1,t2,t3,Bool.and_self,cond_true,Int.toNat_natCast,P79_of _ _ h,F79_of _ _ h]
theorem mix_end {x acc:Int} {l:List Int}:L78_3_r x acc l (l.length:Int) (l.length:Int)=some (.inr (x,acc,l,(l.length:Int),(l.length:Int))):=by
 unfold L78_3_r; simp
theorem G78_two {x a b r s:Int} (h1:G79 x (IntKind.i64.wrap (0 - a))=some r) (h2:G79 x (IntKind.i64.wrap (0 - b))=some s) (hr:0≤r∧r < 4294967296) :
  G78 x [a,b]=some (xor32 r s):=by
 have e:L78_3 (x,0,[a,b],2,0)=some (x,xor32 r s,[a,b],2,2):=by
  unfold L78_3
  rw [lim_go (mix_go (l:=[a,b]) (i:=0) (by simp) (by simp) h1),lim_go (mix_go (l:=[a,b]) (i:=1) (by simp) (by simp) h2),lim_end mix_end,xor32_zero hr]
  rfl
 unfold G78
 show Option.bind (L78_3 (x,0,[a,b],2,0)) _=_
 rw [e]; rfl
theorem G78_three {x a b c r s t:Int} (h1:G79 x (IntKind.i64.wrap (0 - a))=some r) (h2:G79 x (IntKind.i64.wrap (0 - b))=some s) (h3:G79 x (IntKind.i64.wrap (0 - c))=some t) (hr:0≤r∧r < 4294967296) :
  G78 x [a,b,c]=some (xor32 (xor32 r s) t):=by
 have e:L78_3 (x,0,[a,b,c],3,0)=some (x,xor32 (xor32 r s) t,[a,b,c],3,3):=by
  unfold L78_3
  rw [lim_go (mix_go (l:=[a,b,c]) (i:=0) (by simp) (by simp) h1),lim_go (mix_go (l:=[a,b,c]) (i:=1) (by simp) (by simp) h2),lim_go (mix_go (l:=[a,b,c]) (i:=2) (by simp) (by simp) h3),lim_end mix_end,xor32_zero hr]
  rfl
 unfold G78
 show Option.bind (L78_3 (x,0,[a,b,c],3,0)) _=_
 rw [e]; rfl
theorem m7 (x:Int):G78 x [7,18]=some (xor32 (rot x 128 33554432) (rot x 262144 16384)):=G78_two (rl7 x) (rl18 x) (rot_range _ _ _)
theorem m17 (x:Int):G78 x [17,19]=some (xor32 (rot x 131072 32768) (rot x 524288 8192)):=G78_two (rl17 x) (rl19 x) (rot_range _ _ _)
theorem m6 (x:Int):G78 x [6,11,25]=some (big1 x):=G78_three (rl6 x) (rl11 x) (rl25 x) (rot_range _ _ _)
theorem m2 (x:Int):G78 x [2,13,22]=some (big0 x):=G78_three (rl2 x) (rl13 x) (rl22 x) (rot_range _ _ _)
theorem extW_succ:∀ (n:Nat) (r:List Int),extW (n+1) r=nextW (extW n r)::extW n r
 | 0,r=>by simp only [extW,fz_eq]
 | n+1,r=>by
  rw [extW,fz_eq,extW_succ n,extW,fz_eq]
theorem extW_len:∀ (n:Nat) (r:List Int),(extW n r).length=n+r.length
 | 0,r=>by simp [extW]
 | n+1,r=>by rw [extW,fz_eq,extW_len n]; simp; omega
theorem wordsOf_len (b:List Int):∀ n,(wordsOf b n).length=n
 | 0=>rfl
 | n+1=>by rw [wordsOf,fz_eq]; simp [wordsOf_len b n]
theorem set_fill {α:Type} (l:List α) (n:Nat) (z x:α):(l++List.replicate (n+1) z).set l.length x=(l++[x])++List.replicate n z:=by
 rw [List.set_append_right _ _ (Nat.le_refl _),Nat.sub_self,List.replicate_succ,List.set_cons_zero,List.append_assoc]; rfl
theorem getD_rev {α:Type} (r t:List α) (k:Nat) (z:α) (hk:k < r.length):(r.reverse++t).getD (r.length - 1 - k) z=r.getD k z:=by
 rw [List.getD_eq_getElem?_getD,List.getD_eq_getElem?_getD,List.getElem?_append_left (by simp; omega),List.getElem?_reverse (by omega)]
 congr 2; omega
theorem words_go {b:List Int} (hb:b.length=64) {i:Nat} (hi:i < 16) {arr:List Int} (ha:arr.length=64):L77_2_r b (i:Int) arr=some (.inl (b,((i+1:Nat):Int),arr.set i (word b i))):=by
 have t1:decide ((i:Int) < 16)=true:=by simp; omega
 have e0:IntKind.i64.wrap (4 * (i:Int))=((4 * i:Nat):Int):=by rw [wrapI (by omega) (by omega)]; omega
 have e1:IntKind.i64.wrap (((4 * i:Nat):Int)+1)=((4 * i+1:Nat):Int):=by rw [wrapI (by omega) (by omega)]; omega
 have e2:IntKind.i64.wrap (((4 * i:Nat):Int)+2)=((4 * i+2:Nat):Int):=by rw [wrapI (by omega) (by omega)]; omega
 have e3:IntKind.i64.wrap (((4 * i:Nat):Int)+3)=((4 * i+3:Nat):Int):=by rw [wrapI (by omega) (by omega)]; omega
 have t:∀ k:Nat,k < 64→(decide (0≤(k:Int)) && decide ((k:Int) < (b.length:Int)))=true:=fun k hk=>by simp; omega
 have t2:(decide (0≤(i:Int)) && decide ((i:Int) < ((64:Nat):Int)))=true:=by simp; omega
 have t3:decide (i < arr.length)=true:=by simp; omega
 have e4:IntKind.i64.wrap ((i:Int)+1)=((i+1:Nat):Int):=by rw [wrapI (by omega) (by omega)]; omega
 have p1:(2 ^ min (Int.toNat (24:Int)) (IntKind.u32.bits):Int)=16777216:=rfl
 have p2:(2 ^ min (Int.toNat (16:Int)) (IntKind.u32.bits):Int)=65536:=rfl
 have p3:(2 ^ min (Int.toNat (8:Int)) (IntKind.u32.bits):Int)=256:=rfl
 unfold L77_2_r
 simp only [t1,e0,e1,e2,e3,t _ (show 4 * i < 64 by omega),t _ (show 4 * i+1 < 64 by omega),t _ (show 4 * i+2 < 64 by omega),t _ (show 4 * i+3 < 64 by omega),t2,t3,e4,p1,p2,p3,cond_true,Int.toNat_natCast]
 rfl
theorem words_end {b arr:List Int}:L77_2_r b ((16:Nat):Int) arr=some (.inr (b,((16:Nat):Int),arr)):=by unfold L77_2_r; rfl
theorem words_loop {b:List Int} (hb:b.length=64):L77_2 (b,0,List.replicate 64 0)=some (b,16,(wordsOf b 16).reverse++List.replicate 48 0):=by
 unfold L77_2
 have:=lim_inv (r:=fun s:List Int×Int×List Int=>L77_2_r s.1 s.2.1 s.2.2) (fun i=>(b,((i:Nat):Int),(wordsOf b i).reverse++List.replicate (64 - i) 0)) (b,((16:Nat):Int),(wordsOf b 16).reverse++List.replicate 48 0) 16 (fun i hi=>by
  show L77_2_r b (i:Int) _=_
  rw [words_go hb hi (by simp [wordsOf_len]; omega)]
  have h1:=set_fill (wordsOf b i).reverse (63 - i) (0:Int) (word b i)
  rw [List.length_reverse,wordsOf_len] at h1
  rw [show 64 - i=63 - i+1 by omega,h1,show 64 - (i+1)=63 - i by omega,wordsOf,fz_eq,List.reverse_cons]) words_end 0 (by omega)
 exact this
theorem more_go {r:List Int} {i:Nat} (hr:r.length=i) (h1:16≤i) (hi:i < 64) {t:List Int} (ht:t.length=64 - i):L77_7_r (i:Int) (r.reverse++t)=some (.inl (((i+1:Nat):Int),(r.reverse++t).set i (nextW r))):=by
 have t1:decide ((i:Int) < 64)=true:=by simp; omega
 have e:∀ k:Nat,1≤k→k≤16→IntKind.i64.wrap ((i:Int) - (k:Int))=((i - k:Nat):Int):=fun k h2 h3=>by rw [wrapI (by omega) (by omega)]; omega
 have e15:=e 15 (by omega) (by omega)
 have e2:=e 2 (by omega) (by omega)
 have e16:=e 16 (by omega) (by omega)
 have e7:=e 7 (by omega) (by omega)
 have q:∀ k:Nat,1≤k→k≤i→(decide (0≤((i - k:Nat):Int)) && decide (((i - k:Nat):Int) < ((64:Nat):Int)))=true:=fun k h2 h3=>by simp; omega
 have hl:(r.reverse++t).length=64:=by simp; omega
 have q':∀ k:Nat,1≤k→k≤i→decide (i - k < (r.reverse++t).length)=true:=fun k h2 h3=>by rw [hl]; simp; omega
 have d:∀ k:Nat,1≤k→k≤i→(r.reverse++t).getD (i - k) 0=r.getD (k - 1) 0:=fun k h2 h3=>by
  have:=getD_rev r t (k - 1) (0:Int) (by omega)
  rw [← this]; congr 1; omega
 have t2:(decide (0≤(i:Int)) && decide ((i:Int) < ((64:Nat):Int)))=true:=by simp; omega
 have t3:decide (i < (r.reverse++t).length)=true:=by rw [hl]; simp; omega
 have e4:IntKind.i64.wrap ((i:Int)+1)=((i+1:Nat):Int):=by rw [wrapI (by omega) (by omega)]; omega
 have p1:(2 ^ min (Int.toNat (3:Int)) (IntKind.u32.bits):Int)=8:=rfl
 have p2:(2 ^ min (Int.toNat (10:Int)) (IntKind.u32.bits):Int)=1024:=rfl
 have l1:List.set (List.set (List.replicate 2 (0:Int)) 0 (7:Int)) 1 (18:Int)=[7,18]:=rfl
 have l2:List.set (List.set (List.replicate 2 (0:Int)) 0 (17:Int)) 1 (19:Int)=[17,19]:=rfl
 have c15:((15:Nat):Int)=15:=rfl
 have c2:((2:Nat):Int)=2:=rfl
 have c16:((16:Nat):Int)=16:=rfl
 have c7:((7:Nat):Int)=7:=rfl
 rw [c15] at e15; rw [c2] at e2; rw [c16] at e16; rw [c7] at e7
 unfold L77_7_r
 simp only [t1,e15,e2,e16,e7,Int.toNat_natCast,q 15 (by omega) (by omega),q 2 (by omega) (by omega),q 16 (by omega) (by omega),q 7 (by omega) (by omega),q' 15 (by omega) (by omega),q' 2 (by omega) (by omega),q' 16 (by omega) (by omega),q' 7 (by omega) (by omega),
  d 15 (by omega) (by omega),d 2 (by omega) (by omega),d 16 (by omega) (by omega),d 7 (by omega) (by omega),t2,t3,e4,p1,p2,l1,l2,P78_of _ _ (m7 _),F78_of _ _ (m7 _),P78_of _ _ (m17 _),F78_of _ _ (m17 _),cond_true]
 rfl
theorem more_end {arr:List Int}:L77_7_r ((64:Nat):Int) arr=some (.inr (((64:Nat):Int),arr)):=by unfold L77_7_r; rfl
theorem G77_eq {b:List Int} (hb:b.length=64):G77 b=some (sched b,()):=by
 unfold G77
 simp only [words_loop hb,Option.bind_some]
 have:=lim_inv (r:=fun s:Int×List Int=>L77_7_r s.1 s.2) (fun i=>(((16+i:Nat):Int),(extW i (wordsOf b 16)).reverse++List.replicate (48 - i) 0)) (((64:Nat):Int),sched b) 48 (fun i hi=>by
  show L77_7_r ((16+i:Nat):Int) _=_
  have hl:(extW i (wordsOf b 16)).length=16+i:=by rw [extW_len,wordsOf_len]; omega
  rw [more_go hl (by omega) (by omega) (by simp; omega)]
  have h1:=set_fill (extW i (wordsOf b 16)).reverse (47 - i) (0:Int) (nextW (extW i (wordsOf b 16)))
  rw [List.length_reverse,hl] at h1
  rw [show 48 - i=47 - i+1 by omega,h1,show 48 - (i+1)=47 - i by omega,extW_succ,List.reverse_cons]
  rfl) (by
  show L77_7_r ((64:Nat):Int) _=_
  rw [more_end]; simp [sched]) 0 (by omega)
 have h2:L77_7 (16,(wordsOf b 16).reverse++List.replicate 48 0)=some (64,sched b):=this
 rw [h2]; rfl
theorem P77_eq {b:List Int} (hb:b.length=64):P77 b=true:=P77_of _ (G77_eq hb)
theorem F77_eq {b:List Int} (hb:b.length=64):F77 b=(sched b,()):=F77_of _ (G77_eq hb)
theorem sched_len (b:List Int):(sched b).length=64:=by simp [sched,extW_len,wordsOf_len]
def stepC (v:List Int) (p:Int×Int):List Int:=match v with
 | [a,b,c,d,e,f,g,h]=>[w32 (t1 e f g h p.1 p.2+t2 a b c),a,b,c,w32 (d+t1 e f g h p.1 p.2),e,f,g]
 | v=>v
theorem comp_eq:∀ (l:List (Int×Int)) (a b c d e f g h:Int),comp l a b c d e f g h=l.foldl stepC [a,b,c,d,e,f,g,h]
 | [],_,_,_,_,_,_,_,_=>rfl
 | (k,w)::l,a,b,c,d,e,f,g,h=>by
  simp only [comp,fz_eq,comp_eq l,List.foldl_cons,stepC]
theorem eight {v:List Int} (h:v.length=8):∃ a b c d e f g i,v=[a,b,c,d,e,f,g,i]:=by
 match v,h with
 | [a,b,c,d,e,f,g,i],_=>exact ⟨_,_,_,_,_,_,_,_,rfl⟩
theorem stepC_len {v:List Int} (h:v.length=8) (p:Int×Int):(stepC v p).length=8:=by
 obtain ⟨a,b,c,d,e,f,g,i,rfl⟩:=eight h
 rfl
theorem foldC_len:∀ (l:List (Int×Int)) {v:List Int},v.length=8→(l.foldl stepC v).length=8
 | [],_,h=>h
 | p::l,_,h=>foldC_len l (stepC_len h p)
theorem round_go {w v hh:List Int} (hv:v.length=8) (hw:w.length=64) {i:Nat} (hi:i < 64) :
  L74_3_r roundK (i:Int) w v hh=some (.inl (roundK,((i+1:Nat):Int),w,stepC v (roundK.getD i 0,w.getD i 0),hh)):=by
 obtain ⟨a,b,c,d,e,f,g,h,rfl⟩:=eight hv
 have t0:decide ((i:Int) < 64)=true:=by simp; omega
 have t1:(decide (0≤(i:Int)) && decide ((i:Int) < ((64:Nat):Int)))=true:=by simp; omega
 have t2:decide (i < w.length)=true:=by rw [hw]; simp; omega
 have t3:IntKind.i64.wrap ((i:Int)+1)=((i+1:Nat):Int):=by rw [wrapI (by omega) (by omega)]; omega
 have l1:List.set (List.set (List.set (List.replicate 3 (0:Int)) 0 (6:Int)) 1 (11:Int)) 2 (25:Int)=[6,11,25]:=rfl
 have l2:List.set (List.set (List.set (List.replicate 3 (0:Int)) 0 (2:Int)) 1 (13:Int)) 2 (22:Int)=[2,13,22]:=rfl
 unfold L74_3_r
 simp only [t0,t1,Int.toNat_natCast,t2,t3,l1,l2,P78_of _ _ (m6 _),F78_of _ _ (m6 _),P78_of _ _ (m2 _),F78_of _ _ (m2 _),cond_true]
 change _=_
 kernel_rfl
theorem round_end {w v hh:List Int}:L74_3_r roundK ((64:Nat):Int) w v hh=some (.inr (roundK,((64:Nat):Int),w,v,hh)):=by unfold L74_3_r; rfl
theorem zip_take_succ {α β:Type} (a:List α) (b:List β) (i:Nat) (x:α) (y:β) (ha:i < a.length) (hb:i < b.length):(a.zip b).take (i+1)=(a.zip b).take i++[(a.getD i x,b.getD i y)]:=by
 rw [List.take_add_one,List.getElem?_eq_getElem (by simp; omega)]
 simp [List.getD_eq_getElem?_getD,ha,hb]
theorem roundK_len:roundK.length=64:=by decide +kernel
theorem rounds {w v hh:List Int} (hv:v.length=8) (hw:w.length=64) :
  L74_3 (roundK,0,w,v,hh)=some (roundK,64,w,(roundK.zip w).foldl stepC v,hh):=by
 have hz:(roundK.zip w).length=64:=by simp [roundK_len,hw]
 have:=lim_inv (r:=fun s:List Int×Int×List Int×List Int×List Int=>L74_3_r s.1 s.2.1 s.2.2.1 s.2.2.2.1 s.2.2.2.2) (fun i=>(roundK,((i:Nat):Int),w,((roundK.zip w).take i).foldl stepC v,hh)) (roundK,((64:Nat):Int),w,(roundK.zip w).foldl stepC v,hh) 64 (fun i hi=>by
  show L74_3_r roundK (i:Int) w _ hh=_
  rw [round_go (foldC_len _ hv) hw hi,zip_take_succ roundK w i 0 0 (by rw [roundK_len]; exact hi) (by omega),List.foldl_append]
  rfl) (by
  show L74_3_r roundK ((64:Nat):Int) w _ hh=_
  rw [round_end,List.take_of_length_le (by omega)]) 0 (by omega)
 exact this
theorem addAll8 (a b c d e f g h a' b' c' d' e' f' g' h':Int):addAll [a,b,c,d,e,f,g,h] [a',b',c',d',e',f',g',h']=[w32 (a+a'),w32 (b+b'),w32 (c+c'),w32 (d+d'),w32 (e+e'),w32 (f+f'),w32 (g+g'),w32 (h+h')]:=by
 simp only [addAll,fz_eq]
theorem add_loop {hh v:List Int} (h1:hh.length=8) (h2:v.length=8):L74_12 (0,v,hh)=some (8,v,addAll hh v):=by
 obtain ⟨a,b,c,d,e,f,g,h,rfl⟩:=eight h1
 obtain ⟨a',b',c',d',e',f',g',h',rfl⟩:=eight h2
 rw [addAll8]
 unfold L74_12
 have s0:L74_12_r 0 [a',b',c',d',e',f',g',h'] [a,b,c,d,e,f,g,h]=some (.inl (1,[a',b',c',d',e',f',g',h'],[w32 (a+a'),b,c,d,e,f,g,h])):=by kernel_rfl
 have s1:L74_12_r 1 [a',b',c',d',e',f',g',h'] [w32 (a+a'),b,c,d,e,f,g,h]=some (.inl (2,[a',b',c',d',e',f',g',h'],[w32 (a+a'),w32 (b+b'),c,d,e,f,g,h])):=by kernel_rfl
 have s2:L74_12_r 2 [a',b',c',d',e',f',g',h'] [w32 (a+a'),w32 (b+b'),c,d,e,f,g,h]=some (.inl (3,[a',b',c',d',e',f',g',h'],[w32 (a+a'),w32 (b+b'),w32 (c+c'),d,e,f,g,h])):=by kernel_rfl
 have s3:L74_12_r 3 [a',b',c',d',e',f',g',h'] [w32 (a+a'),w32 (b+b'),w32 (c+c'),d,e,f,g,h]=some (.inl (4,[a',b',c',d',e',f',g',h'],[w32 (a+a'),w32 (b+b'),w32 (c+c'),w32 (d+d'),e,f,g,h])):=by kernel_rfl
 have s4:L74_12_r 4 [a',b',c',d',e',f',g',h'] [w32 (a+a'),w32 (b+b'),w32 (c+c'),w32 (d+d'),e,f,g,h]=some (.inl (5,[a',b',c',d',e',f',g',h'],[w32 (a+a'),w32 (b+b'),w32 (c+c'),w32 (d+d'),w32 (e+e'),f,g,h])):=by kernel_rfl
 have s5:L74_12_r 5 [a',b',c',d',e',f',g',h'] [w32 (a+a'),w32 (b+b'),w32 (c+c'),w32 (d+d'),w32 (e+e'),f,g,h]=some (.inl (6,[a',b',c',d',e',f',g',h'],[w32 (a+a'),w32 (b+b'),w32 (c+c'),w32 (d+d'),w32 (e+e'),w32 (f+f'),g,h])):=by kernel_rfl
 have s6:L74_12_r 6 [a',b',c',d',e',f',g',h'] [w32 (a+a'),w32 (b+b'),w32 (c+c'),w32 (d+d'),w32 (e+e'),w32 (f+f'),g,h]=some (.inl (7,[a',b',c',d',e',f',g',h'],[w32 (a+a'),w32 (b+b'),w32 (c+c'),w32 (d+d'),w32 (e+e'),w32 (f+f'),w32 (g+g'),h])):=by kernel_rfl
 have s7:L74_12_r 7 [a',b',c',d',e',f',g',h'] [w32 (a+a'),w32 (b+b'),w32 (c+c'),w32 (d+d'),w32 (e+e'),w32 (f+f'),w32 (g+g'),h]=some (.inl (8,[a',b',c',d',e',f',g',h'],[w32 (a+a'),w32 (b+b'),w32 (c+c'),w32 (d+d'),w32 (e+e'),w32 (f+f'),w32 (g+g'),w32 (h+h')])):=by kernel_rfl
 have s8:∀ x,L74_12_r 8 [a',b',c',d',e',f',g',h'] x=some (.inr (8,[a',b',c',d',e',f',g',h'],x)):=fun x=>by kernel_rfl
 rw [lim_go s0,lim_go s1,lim_go s2,lim_go s3,lim_go s4,lim_go s5,lim_go s6,lim_go s7,lim_end (s8 _)]
theorem block_eq {h:List Int} (hh:h.length=8) (b:List Int):block h b=addAll h ((roundK.zip (sched b)).foldl stepC h):=by
 obtain ⟨a,b',c,d,e,f,g,i,rfl⟩:=eight hh
 unfold block
 rw [comp_eq]; rfl
theorem addAll_len {a b:List Int} (h1:a.length=8) (h2:b.length=8):(addAll a b).length=8:=by
 obtain ⟨a,b,c,d,e,f,g,h,rfl⟩:=eight h1
 obtain ⟨a',b',c',d',e',f',g',h',rfl⟩:=eight h2
 rw [addAll8]; rfl
theorem block_len {h:List Int} (hh:h.length=8) (b:List Int):(block h b).length=8:=by
 rw [block_eq hh]; exact addAll_len hh (foldC_len _ hh)
theorem G74_eq {b h:List Int} (hb:b.length=64) (hh:h.length=8):G74 b h=some ((),(block h b,())):=by
 unfold G74
 simp only [P77_eq hb,F77_eq hb,cond_true,rounds hh (sched_len b),Option.bind_some,add_loop hh (foldC_len _ hh),block_eq hh]
theorem P74_eq {b h:List Int} (hb:b.length=64) (hh:h.length=8):P74 b h=true:=P74_of _ _ (G74_eq hb hh)
theorem F74_eq {b h:List Int} (hb:b.length=64) (hh:h.length=8):F74 b h=((),(block h b,())):=F74_of _ _ (G74_eq hb hh)
def byteI (x:Int) (k:Nat):Int:=IntKind.u8.wrap (Int.fdiv x (2 ^ (24 - 8 * k)))
theorem byte_go {x:Int} {h out:List Int} {i k:Nat} (hi:i < 8) (hk:k < 4) (ho:out.length=32):L75_6_r (i:Int) x h (i:Int) (k:Int) out=some (.inl ((i:Int),x,h,(i:Int),((k+1:Nat):Int),out.set (4 * i+k) (byteI x k))):=by
 have t0:decide ((k:Int) < 4)=true:=by simp; omega
 have e1:IntKind.i64.wrap (4 * (i:Int))=((4 * i:Nat):Int):=by rw [wrapI (by omega) (by omega)]; omega
 have e2:IntKind.i64.wrap (((4 * i:Nat):Int)+(k:Int))=((4 * i+k:Nat):Int):=by rw [wrapI (by omega) (by omega)]; omega
 have e3:IntKind.i64.wrap (8 * (k:Int))=((8 * k:Nat):Int):=by rw [wrapI (by omega) (by omega)]; omega
 have e4:IntKind.i64.wrap (24 - ((8 * k:Nat):Int))=((24 - 8 * k:Nat):Int):=by rw [wrapI (by omega) (by omega)]; omega
 have e5:decide (0≤((24 - 8 * k:Nat):Int))=true:=by simp
 have e6:(decide (0≤((4 * i+k:Nat):Int)) && decide (((4 * i+k:Nat):Int) < ((32:Nat):Int)))=true:=by simp; omega
 have e7:decide (4 * i+k < out.length)=true:=by rw [ho]; simp; omega
 have e8:IntKind.i64.wrap ((k:Int)+1)=((k+1:Nat):Int):=by rw [wrapI (by omega) (by omega)]; omega
 have e9:(2 ^ min (24 - 8 * k) (IntKind.u32.bits):Int)=2 ^ (24 - 8 * k):=by rw [Nat.min_eq_left (by simp [IntKind.bits]; omega)]
 unfold L75_6_r
 simp only [t0,e1,e2,e3,e4,e5,e6,Int.toNat_natCast,e7,e8,e9,cond_true]
 rfl
theorem byte_end {x:Int} {h out:List Int} {i q:Int}:L75_6_r i x h q ((4:Nat):Int) out=some (.inr (i,x,h,q,((4:Nat):Int),out)):=by unfold L75_6_r; rfl
def put4 (out:List Int) (i:Nat) (x:Int):List Int:=(((out.set (4 * i+0) (byteI x 0)).set (4 * i+1) (byteI x 1)).set (4 * i+2) (byteI x 2)).set (4 * i+3) (byteI x 3)
theorem bytes_loop {x:Int} {h out:List Int} {i:Nat} (hi:i < 8) (ho:out.length=32):L75_6 ((i:Int),x,h,(i:Int),0,out)=some ((i:Int),x,h,(i:Int),4,put4 out i x):=by
 unfold L75_6
 rw [lim_go (byte_go (k:=0) hi (by omega) ho),lim_go (byte_go (k:=1) hi (by omega) (by simpa using ho)),lim_go (byte_go (k:=2) hi (by omega) (by simpa using ho)),lim_go (byte_go (k:=3) hi (by omega) (by simpa using ho)),lim_end byte_end]
 rfl
theorem out_go {h out:List Int} {i:Nat} (hi:i < 8) (ho:out.length=32):L75_3_r h (i:Int) out=some (.inl (h,((i+1:Nat):Int),put4 out i (h.getD i 0))):=by
 have t0:decide ((i:Int) < 8)=true:=by simp; omega
 have t1:(decide (0≤(i:Int)) && decide ((i:Int) < ((8:Nat):Int)))=true:=by simp; omega
 have t3:IntKind.i64.wrap ((i:Int)+1)=((i+1:Nat):Int):=by rw [wrapI (by omega) (by omega)]; omega
 unfold L75_3_r
 simp only [t0,t1,cond_true,Int.toNat_natCast,bytes_loop hi ho,Option.bind_some,t3]
theorem out_end {h out:List Int}:L75_3_r h ((8:Nat):Int) out=some (.inr (h,((8:Nat):Int),out)):=by unfold L75_3_r; rfl
theorem put4_len {out:List Int} {i:Nat} {x:Int}:(put4 out i x).length=out.length:=by simp [put4]
theorem G75_eq {h:List Int} (hh:h.length=8):G75 h=some (h.flatMap bytesOf):=by
 have hl:L75_3 (h,0,List.replicate 32 0)=some (h,8,put4 (put4 (put4 (put4 (put4 (put4 (put4 (put4 (List.replicate 32 0) 0 (h.getD 0 0)) 1 (h.getD 1 0)) 2 (h.getD 2 0)) 3 (h.getD 3 0)) 4 (h.getD 4 0)) 5 (h.getD 5 0)) 6 (h.getD 6 0)) 7 (h.getD 7 0)):=by
  unfold L75_3
  rw [lim_go (out_go (i:=0) (by omega) (by simp)),lim_go (out_go (i:=1) (by omega) (by simp [put4_len])),lim_go (out_go (i:=2) (by omega) (by simp [put4_len])),lim_go (out_go (i:=3) (by omega) (by simp [put4_len])),lim_go (out_go (i:=4) (by omega) (by simp [put4_len])),lim_go (out_go (i:=5) (by omega) (by simp [put4_len])),lim_go (out_go (i:=6) (by omega) (by simp [put4_len])),lim_go (out_go (i:=7) (by omega) (by simp [put4_len])),lim_end out_end]
  change _=_
  kernel_rfl
 unfold G75
 simp only [hl,Option.bind_some]
 obtain ⟨a,b,c,d,e,f,g,i,rfl⟩:=eight hh
 have hb:∀ x:Int,bytesOf x=[UInt8.ofNat (byteI x 0).toNat,UInt8.ofNat (byteI x 1).toNat,UInt8.ofNat (byteI x 2).toNat,UInt8.ofNat (byteI x 3).toNat]:=fun x=>by
  have:Int.fdiv x (2 ^ (24 - 8 * 3))=x:=by simp
  unfold bytesOf byteI
  rw [this]; rfl
 simp only [List.flatMap_cons,List.flatMap_nil,hb]
 change _=_
 kernel_rfl
theorem P75_eq {h:List Int} (hh:h.length=8):P75 h=true:=P75_of _ (G75_eq hh)
theorem F75_eq {h:List Int} (hh:h.length=8):F75 h=h.flatMap bytesOf:=F75_of _ (G75_eq hh)
def bytesI (s:List UInt8):List Int:=s.map fun b=>(b.toNat:Int)
theorem pad_go {s:List UInt8} {b w:List Int} (h:b.length % 64≠56) (hb:b.length≤10000000000):L70_3_r s b w=some (.inl (s,b++[0],w)):=by
 have e1:Int.tmod ((b.length:Nat):Int) 64=((b.length % 64:Nat):Int):=rfl
 have e2:(((b.length % 64:Nat):Int) != 56)=true:=by simp; omega
 have e3:List.set (List.replicate 1 (0:Int)) 0 (0:Int)=[0]:=rfl
 have e4:decide (b.length+[(0:Int)].length≤100000000000)=true:=by simp; omega
 unfold L70_3_r
 simp only [e1,e2,e3,List.take_length,e4,cond_true]
theorem pad_end {s:List UInt8} {b w:List Int} (h:b.length % 64=56):L70_3_r s b w=some (.inr (s,b,w)):=by
 have e1:Int.tmod ((b.length:Nat):Int) 64=((b.length % 64:Nat):Int):=rfl
 have e2:(((b.length % 64:Nat):Int) != 56)=false:=by rw [h]; rfl
 unfold L70_3_r
 simp only [e1,e2,cond_false]
theorem pad_loop {s:List UInt8} {b w:List Int} {n:Nat} (hb:b.length=n+1) (hn:n≤1000000000):L70_3 (s,b,w)=some (s,b++List.replicate (padZ n) 0,w):=by
 have hp:padZ n < 64:=by unfold padZ; omega
 have hp2:(n+1+padZ n) % 64=56:=by unfold padZ; omega
 have hp3:∀ k,k < padZ n→(n+1+k) % 64≠56:=fun k hk=>by unfold padZ at hk; omega
 have:=lim_inv (r:=fun t:List UInt8×List Int×List Int=>L70_3_r t.1 t.2.1 t.2.2) (fun i=>(s,b++List.replicate i 0,w)) (s,b++List.replicate (padZ n) 0,w) (padZ n) (fun i hi=>by
  show L70_3_r s (b++List.replicate i 0) w=_
  rw [pad_go (by rw [List.length_append,List.length_replicate,hb]; exact hp3 i hi) (by simp; omega),List.append_assoc,← List.replicate_succ']) (by
  show L70_3_r s (b++List.replicate (padZ n) 0) w=_
  rw [pad_end (by rw [List.length_append,List.length_replicate,hb]; exact hp2)]) 0 (by omega)
 simpa [L70_3] using this
theorem len_go {s:List UInt8} {b w:List Int} {i:Nat} (hi:i < 8) (hs:s.length≤1000000000) (hb:b.length≤10000000000):L70_6_r s b (i:Int) w=some (.inl (s,b++[lenB s.length i],(i:Int) - 1,w)):=by
 have e0:decide ((i:Int)≥0)=true:=by simp
 have e1:IntKind.i64.wrap (8 * ((s.length:Nat):Int))=8 * (s.length:Int):=wrapI (by omega) (by omega)
 have e2:IntKind.i64.wrap (8 * (i:Int))=((8 * i:Nat):Int):=by rw [wrapI (by omega) (by omega)]; omega
 have e3:decide (0≤((8 * i:Nat):Int))=true:=by simp; omega
 have e4:(2 ^ min (8 * i) (IntKind.i64.bits):Int)=2 ^ (8 * i):=by rw [Nat.min_eq_left (by simp [IntKind.bits]; omega)]
 have e5:∀ x:Int,List.set (List.replicate 1 (0:Int)) 0 x=[x]:=fun _=>rfl
 have e6:∀ x:Int,decide (b.length+[x].length≤100000000000)=true:=fun x=>by simp; omega
 have e7:IntKind.i64.wrap ((i:Int) - 1)=(i:Int) - 1:=wrapI (by omega) (by omega)
 unfold L70_6_r
 simp only [e0,e1,e2,e3,Int.toNat_natCast,e4,e5,List.take_length,e6,e7,cond_true]
 rfl
theorem len_end {s:List UInt8} {b w:List Int}:L70_6_r s b (-1) w=some (.inr (s,b,-1,w)):=by unfold L70_6_r; rfl
theorem len_loop {s:List UInt8} {b w:List Int} (hs:s.length≤1000000000) (hb:b.length≤1000001000):L70_6 (s,b,7,w)=some (s,b++[lenB s.length 7,lenB s.length 6,lenB s.length 5,lenB s.length 4,lenB s.length 3,lenB s.length 2,lenB s.length 1,lenB s.length 0],-1,w):=by
 unfold L70_6
 rw [lim_go (len_go (i:=7) (by omega) hs (by simp; omega)),lim_go (len_go (i:=6) (by omega) hs (by simp; omega)),lim_go (len_go (i:=5) (by omega) hs (by simp; omega)),lim_go (len_go (i:=4) (by omega) hs (by simp; omega)),lim_go (len_go (i:=3) (by omega) hs (by simp; omega)),lim_go (len_go (i:=2) (by omega) hs (by simp; omega)),lim_go (len_go (i:=1) (by omega) hs (by simp; omega)),lim_go (len_go (i:=0) (by omega) hs (by simp; omega)),lim_end len_end]
 simp
def chunksOf:Nat→List Int→List (List Int)
 | 0,_=>[]
 | n+1,b=>b.take 64::chunksOf n (b.drop 64)
theorem blocks_eq:∀ (n:Nat) (h b:List Int),blocks n h b=(chunksOf n b).foldl block h
 | 0,_,_=>rfl
 | n+1,h,b=>by rw [blocks,blocks_eq n]; rfl
theorem chunks_len:∀ (n:Nat) (b:List Int),b.length=64 * n→∀ c∈chunksOf n b,c.length=64
 | 0,_,_,c,hc=>by simp [chunksOf] at hc
 | n+1,b,hb,c,hc=>by
  rcases List.mem_cons.1 hc with rfl | hc
  ·simp; omega
  ·exact chunks_len n (b.drop 64) (by simp; omega) c hc
theorem cut_eq {α:Type} (l:List α) (i j:Nat):cut l (i:Int) (j:Int)=(l.take j).drop i:=by simp [cut]
theorem chunk_go {b:List Int} {i m:Nat} (hb:b.length=64 * m) (hi:i < m) (hm:b.length≤100000000000):L76_1_r ((64 * i:Nat):Int) b 64=some ([(b.drop (64 * i)).take 64],.inl (((64 * (i+1):Nat):Int),b,64)):=by
 have e0:decide (((64 * i:Nat):Int) < ((b.length:Nat):Int))=true:=by simp; omega
 have e1:sliceTest ((64 * i:Nat):Int) ((b.length:Nat):Int) ((b.length:Nat):Int)=true:=by simp [sliceTest]; omega
 have e2:¬ (((b.length - 64 * i:Nat):Int) < 64):=by omega
 have e3:((cut b ((64 * i:Nat):Int) ((b.length:Nat):Int)).length)=b.length - 64 * i:=by rw [cut_eq]; simp
 have e4:IntKind.i64.wrap (((64 * i:Nat):Int)+64)=((64 * (i+1):Nat):Int):=by rw [wrapI (by omega) (by omega)]; omega
 have e5:(sliceTest ((64 * i:Nat):Int) ((64 * (i+1):Nat):Int) ((b.length:Nat):Int) && (decide (((64 * (i+1):Nat):Int)≤((64 * (i+1):Nat):Int)) && decide (((64 * (i+1):Nat):Int)≤((b.length:Nat):Int))))=true:=by simp [sliceTest]; omega
 have e6:cut b ((64 * i:Nat):Int) ((64 * (i+1):Nat):Int)=(b.drop (64 * i)).take 64:=by
  rw [cut_eq,List.drop_take]; congr 1; omega
 unfold L76_1_r
 simp only [e0,e1,e3,if_neg e2,e4,e5,e6,cond_true]
 rfl
theorem chunk_end {b:List Int} {m:Nat} (hb:b.length=64 * m):L76_1_r ((64 * m:Nat):Int) b 64=some ([],.inr (.inr (((64 * m:Nat):Int),b,64))):=by
 have e0:decide (((64 * m:Nat):Int) < ((b.length:Nat):Int))=false:=by simp; omega
 unfold L76_1_r
 simp only [e0,cond_false]
theorem chunk_loop {b:List Int} {m:Nat} (hb:b.length=64 * m) (hm:b.length≤100000000000):∀ k i,i+k=m→L76_1 (((64 * i:Nat):Int),b,64)=some (chunksOf k (b.drop (64 * i)),.inr (((64 * m:Nat):Int),b,64))
 | 0,i,hi=>by
  have:i=m:=by omega
  subst this
  unfold L76_1
  rw [limW_end (r:=fun s:Int×List Int×Int=>L76_1_r s.1 s.2.1 s.2.2) (chunk_end hb)]
  rfl
 | k+1,i,hi=>by
  have ih:=chunk_loop hb hm k (i+1) (by omega)
  unfold L76_1 at ih ⊢
  rw [limW_go (r:=fun s:Int×List Int×Int=>L76_1_r s.1 s.2.1 s.2.2) (chunk_go hb (by omega) hm),ih]
  simp only [Option.map_some,chunksOf,List.drop_drop]
  rfl
theorem W76_eq {b:List Int} {m:Nat} (hb:b.length=64 * m) (hm:b.length≤100000000000):(W76 b 64).ys=some (chunksOf m b):=by
 have:=chunk_loop hb hm m 0 (by omega)
 rw [Nat.mul_zero,List.drop_zero] at this
 unfold W76
 rw [show ((0:Nat):Int)=0 from rfl] at this
 rw [this]
 simp [YW.bind,YW.ys]
theorem fold_blocks:∀ (l:List (List Int)) (h:List Int),(∀ c∈l,c.length=64)→h.length=8→foldX R70_10_step l h=some (.inl (l.foldl block h))∧(l.foldl block h).length=8
 | [],h,_,hh=>⟨rfl,hh⟩
 | c::l,h,hc,hh=>by
  have h1:=hc c (by simp)
  obtain ⟨k1,k2⟩:=fold_blocks l (block h c) (fun c hc'=>hc c (by simp [hc'])) (block_len hh c)
  refine ⟨?_,k2⟩
  have e:R70_10_step h c=some (.inl (block h c)):=by
   unfold R70_10_step R70_10_r
   simp only [P74_eq h1 hh,F74_eq h1 hh,cond_true]
  simp only [foldX,e,k1,List.foldl_cons]
theorem padded_len (s:List UInt8):∃ m,(padded s).length=64 * m∧(padded s).length≤s.length+100:=by
 have hl:(padded s).length=s.length+(padZ s.length+8+1):=by simp [padded]
 have hp:(s.length+1+padZ s.length) % 64=56∧padZ s.length < 64:=by unfold padZ; omega
 exact ⟨(padded s).length / 64,by omega,by omega⟩
theorem G73_eq (b:List Int):G73 b 64=some ((),((),(b,((),(64,()))))):=by unfold G73; rfl
theorem G70_eq {s:List UInt8} (hs:s.length≤1000000000):G70 s=some (sha s):=by
 have e1:decide (s.length≤9223372036854775807)=true:=by simp; omega
 have e2:List.set (List.replicate 1 (0:Int)) 0 (128:Int)=[128]:=rfl
 have e3:decide ((List.map (fun (b:UInt8)=>(b.toNat:Int)) s).length+[(128:Int)].length≤100000000000)=true:=by simp; omega
 have hl:=pad_loop (s:=s) (b:=List.map (fun (b:UInt8)=>(b.toNat:Int)) s++[128]) (w:=h0) (n:=s.length) (by simp) hs
 have hp:padZ s.length < 64:=by unfold padZ; omega
 have hl2:=len_loop (s:=s) (b:=List.map (fun (b:UInt8)=>(b.toNat:Int)) s++[128]++List.replicate (padZ s.length) 0) (w:=h0) hs (by simp; omega)
 have hpad:List.map (fun (b:UInt8)=>(b.toNat:Int)) s++[128]++List.replicate (padZ s.length) 0++[lenB s.length 7,lenB s.length 6,lenB s.length 5,lenB s.length 4,lenB s.length 3,lenB s.length 2,lenB s.length 1,lenB s.length 0]=padded s:=by simp [padded]
 rw [hpad] at hl2
 obtain ⟨m,hm,hm2⟩:=padded_len s
 obtain ⟨k1,k2⟩:=fold_blocks (chunksOf m (padded s)) h0 (chunks_len m _ hm) rfl
 have hd:(padded s).length / 64=m:=by omega
 have hh:List.set (List.set (List.set (List.set (List.set (List.set (List.set (List.set (List.replicate 8 (0:Int)) 0 (1779033703:Int)) 1 (3144134277:Int)) 2 (1013904242:Int)) 3 (2773480762:Int)) 4 (1359893119:Int)) 5 (2600822924:Int)) 6 (528734635:Int)) 7 (1541459225:Int)=h0:=rfl
 unfold G70
 simp only [e1,e2,List.take_length,e3,cond_true,hh,hl,Option.bind_some,hl2,P73_of _ _ (G73_eq _),F73_of _ _ (G73_eq _),W76_eq hm (by omega),k1,P75_eq k2,F75_eq k2]
 unfold sha
 rw [hd,blocks_eq]
theorem P70_eq {s:List UInt8} (hs:s.length≤1000000000):P70 s=true:=P70_of _ (G70_eq hs)
theorem F70_eq {s:List UInt8} (hs:s.length≤1000000000):F70 s=sha s:=F70_of _ (G70_eq hs)
theorem sha_len (s:List UInt8):(sha s).length=32:=by
 obtain ⟨m,hm,_⟩:=padded_len s
 have k:=(fold_blocks (chunksOf m (padded s)) h0 (chunks_len m _ hm) rfl).2
 unfold sha
 rw [show (padded s).length / 64=m by omega,blocks_eq]
 obtain ⟨a,b,c,d,e,f,g,i,h⟩:=eight k
 rw [h]; rfl
def chain (h r:List UInt8):List UInt8:=sha (2::(h++r))
theorem G56_eq (m:List UInt8):G56 m=some ((),((),(m,()))):=rfl
theorem P56_eq (m:List UInt8):P56 m=true:=P56_of _ (G56_eq m)
theorem F56_eq (m:List UInt8):F56 m=((),((),(m,()))):=F56_of _ (G56_eq m)
theorem join_nil (l:List (List UInt8)):Lib.join l []=l.flatten:=by
 unfold Lib.join
 simp [List.intercalate]
 induction l with
 | nil=>rfl
 | cons x l ih =>
  cases l with
  | nil=>simp
  | cons y l=>simp [List.intersperse] at ih ⊢; rw [ih]
theorem G69_eq {l:List (List UInt8)} {m:List UInt8} (h1:l.length≤1000) (h2:m.length+l.flatten.length≤1000000):G69 l m=some (sha (m++l.flatten),((),(m,()))):=by
 have p:P71 l []=true:=by unfold P71; rw [join_nil]; simp only [Bool.and_eq_true,decide_eq_true_eq]; omega
 have f:F71 l []=l.flatten:=join_nil l
 have e:decide (m.length+l.flatten.length≤9223372036854775807)=true:=by simp only [decide_eq_true_eq]; omega
 have hl:(m++l.flatten).length≤1000000000:=by rw [List.length_append]; omega
 unfold G69
 simp only [p,f,e,cond_true,P70_eq hl,F70_eq hl]
theorem G35_eq {a b:List UInt8} (h:a.length+b.length≤100000):G35 a b=some (chain a b):=by
 have hv:List.set (List.set (List.replicate 2 ([]:List UInt8)) 0 a) 1 b=[a,b]:=rfl
 have h:=G69_eq (l:=[a,b]) (m:=[2]) (by simp) (by simp; omega)
 unfold G35
 simp only [P56_eq,F56_eq,hv,P69_of _ _ h,F69_of _ _ h,cond_true]
 simp [chain]
theorem P35_eq {a b:List UInt8} (h:a.length+b.length≤100000):P35 a b=true:=P35_of _ _ (G35_eq h)
theorem F35_eq {a b:List UInt8} (h:a.length+b.length≤100000):F35 a b=chain a b:=F35_of _ _ (G35_eq h)
theorem chain_len (a b:List UInt8):(chain a b).length=32:=sha_len _
abbrev Str:=List UInt8
def Small (l:List Str):Prop:=l.length≤1000∧∀ x∈l,x.length≤100000
theorem cut0 {α:Type} (l:List α) (k:Nat):cut l 0 (k:Int)=l.take k:=by simp [cut]
theorem sliceT {a b n:Nat} (h1:a≤b) (h2:b≤n):sliceTest (a:Int) (b:Int) (n:Int)=true:=by simp [sliceTest]; omega
def collideM (a b:List Str):Bool:=(a.zip b).any fun p=>p.1 != p.2 && sha p.1==sha p.2
theorem collide_cons (x y:Str) (a b:List Str):collideM (x::a) (y::b)=((x != y && sha x==sha y) || collideM a b):=rfl
theorem collide_heads {e e':Str} {w w':List Str} (h:sha e=sha e') (hne:e≠e'):collideM (e::w) (e'::w')=true:=by
 rw [collide_cons,h]
 simp [bne,hne]
def zeros:Str:=List.replicate 32 0
def hdM:List Str→Str
 | []=>zeros
 | r::t=>chain (hdM t) r
def preM:List Str→List Str
 | []=>[]
 | r::t=>(2::(hdM t++r))::preM t
theorem hd_len:∀ l,(hdM l).length=32
 | []=>rfl
 | _::_=>chain_len _ _
theorem pre_len:∀ l,(preM l).length=l.length
 | []=>rfl
 | _::t=>by simp [preM,pre_len t]
theorem pre_mem:∀ l,(∀ x∈l,x.length≤100)→∀ x∈preM l,x.length≤1000
 | [],_,x,hx=>by cases hx
 | r::t,h,x,hx=>by
  rcases List.mem_cons.1 hx with rfl | hx
  ·have:=hd_len t
   have:=h r (by simp)
   simp; omega
  ·exact pre_mem t (fun y hy=>h y (List.mem_cons_of_mem _ hy)) x hx
theorem chain_bind:∀ (a b:List Str),hdM a=hdM b→a≠b→a.length≤b.length→collideM (preM a) (preM b)=true∧True∨(a.length < b.length∧sha ((preM b).getD a.length [])=zeros)
 | [],b,h,hne,hl=>by
  cases b with
  | nil=>exact absurd rfl hne
  | cons r t=>exact .inr ⟨by simp,h.symm⟩
 | x::a,[],h,hne,hl=>by simp at hl
 | x::a,y::b,h,hne,hl=>by
  by_cases he:(2::(hdM a++x))=(2::(hdM b++y))
  ·have h3:=List.append_inj (List.cons.inj he).2 (by rw [hd_len,hd_len])
   have hab:a≠b:=fun e=>hne (by rw [e,h3.2])
   rcases chain_bind a b h3.1 hab (by simpa using hl) with ⟨h4,_⟩ | ⟨h4,h5⟩
   ·refine .inl ⟨?_,trivial⟩
    show collideM ((2::(hdM a++x))::preM a) ((2::(hdM b++y))::preM b)=true
    rw [collide_cons,h4,Bool.or_true]
   ·exact .inr ⟨by simpa using h4,h5⟩
  ·exact .inl ⟨collide_heads h he,trivial⟩
theorem collide_comm:∀ (a b:List Str),collideM a b=collideM b a
 | [],b=>by unfold collideM; simp
 | x::a,[]=>by unfold collideM; simp
 | x::a,y::b=>by
  rw [collide_cons,collide_cons,collide_comm a b]
  congr 1
  rw [bne_comm,Bool.beq_comm]
theorem rr (x p q:Int):or32 (Int.fdiv x p) (w32 (x * q))=rot x p q:=or32_comm _ _
theorem x7 (x:Int):G58 x 7=some (rot x 128 33554432):=(show G58 x 7=some (or32 (Int.fdiv x 128) (w32 (x * 33554432))) by kernel_rfl).trans (congrArg some (rr _ _ _))
theorem x18 (x:Int):G58 x 18=some (rot x 262144 16384):=(show G58 x 18=some (or32 (Int.fdiv x 262144) (w32 (x * 16384))) by kernel_rfl).trans (congrArg some (rr _ _ _))
theorem x17 (x:Int):G58 x 17=some (rot x 131072 32768):=(show G58 x 17=some (or32 (Int.fdiv x 131072) (w32 (x * 32768))) by kernel_rfl).trans (congrArg some (rr _ _ _))
theorem x19 (x:Int):G58 x 19=some (rot x 524288 8192):=(show G58 x 19=some (or32 (Int.fdiv x 524288) (w32 (x * 8192))) by kernel_rfl).trans (congrArg some (rr _ _ _))
theorem x6 (x:Int):G58 x 6=some (rot x 64 67108864):=(show G58 x 6=some (or32 (Int.fdiv x 64) (w32 (x * 67108864))) by kernel_rfl).trans (congrArg some (rr _ _ _))
theorem x11 (x:Int):G58 x 11=some (rot x 2048 2097152):=(show G58 x 11=some (or32 (Int.fdiv x 2048) (w32 (x * 2097152))) by kernel_rfl).trans (congrArg some (rr _ _ _))
theorem x25 (x:Int):G58 x 25=some (rot x 33554432 128):=(show G58 x 25=some (or32 (Int.fdiv x 33554432) (w32 (x * 128))) by kernel_rfl).trans (congrArg some (rr _ _ _))
theorem x2 (x:Int):G58 x 2=some (rot x 4 1073741824):=(show G58 x 2=some (or32 (Int.fdiv x 4) (w32 (x * 1073741824))) by kernel_rfl).trans (congrArg some (rr _ _ _))
theorem x13 (x:Int):G58 x 13=some (rot x 8192 524288):=(show G58 x 13=some (or32 (Int.fdiv x 8192) (w32 (x * 524288))) by kernel_rfl).trans (congrArg some (rr _ _ _))
theorem x22 (x:Int):G58 x 22=some (rot x 4194304 1024):=(show G58 x 22=some (or32 (Int.fdiv x 4194304) (w32 (x * 1024))) by kernel_rfl).trans (congrArg some (rr _ _ _))
theorem G59_eq:G59=some roundK:=by kernel_rfl
theorem P59_eq:P59=true:=P59_of G59_eq
theorem F59_eq:F59=roundK:=F59_of G59_eq
theorem rw_go {h b out:List Int} (hb:b.length=64) {i:Nat} (hi:i < 16) (ho:out.length≤1000):L39_3_r h b out (i:Int)=some (.inl (h,b,out++[word b i],((i+1:Nat):Int))):=by
 have t1:decide ((i:Int) < 16)=true:=by simp; omega
 have e0:IntKind.i64.wrap (4 * (i:Int))=((4 * i:Nat):Int):=by rw [wrapI (by omega) (by omega)]; omega
 have e1:IntKind.i64.wrap (((4 * i:Nat):Int)+1)=((4 * i+1:Nat):Int):=by rw [wrapI (by omega) (by omega)]; omega
 have e2:IntKind.i64.wrap (((4 * i:Nat):Int)+2)=((4 * i+2:Nat):Int):=by rw [wrapI (by omega) (by omega)]; omega
 have e3:IntKind.i64.wrap (((4 * i:Nat):Int)+3)=((4 * i+3:Nat):Int):=by rw [wrapI (by omega) (by omega)]; omega
 have t:∀ k:Nat,k < 64→(decide (0≤(k:Int)) && decide ((k:Int) < (b.length:Int)))=true:=fun k hk=>by simp; omega
 have e4:IntKind.i64.wrap ((i:Int)+1)=((i+1:Nat):Int):=by rw [wrapI (by omega) (by omega)]; omega
 have p1:(2 ^ min (Int.toNat (24:Int)) (IntKind.u32.bits):Int)=16777216:=rfl
 have p2:(2 ^ min (Int.toNat (16:Int)) (IntKind.u32.bits):Int)=65536:=rfl
 have p3:(2 ^ min (Int.toNat (8:Int)) (IntKind.u32.bits):Int)=256:=rfl
 have s1:∀ x:Int,List.set (List.replicate 1 (0:Int)) 0 x=[x]:=fun _=>rfl
 have f1:∀ x:Int,decide (out.length+[x].length≤100000000000)=true:=fun x=>by simp; omega
 unfold L39_3_r
 simp only [t1,e0,e1,e2,e3,t _ (show 4 * i < 64 by omega),t _ (show 4 * i+1 < 64 by omega),t _ (show 4 * i+2 < 64 by omega),t _ (show 4 * i+3 < 64 by omega),e4,p1,p2,p3,cond_true,Int.toNat_natCast,s1,f1,List.take_length]
 rfl
theorem rw_end {h b out:List Int}:L39_3_r h b out ((16:Nat):Int)=some (.inr (h,b,out,((16:Nat):Int))):=by unfold L39_3_r; rfl
theorem rw_loop {h b:List Int} (hb:b.length=64):L39_3 (h,b,[],0)=some (h,b,(wordsOf b 16).reverse,16):=by
 unfold L39_3
 have:=lim_inv (r:=fun s:List Int×List Int×List Int×Int=>L39_3_r s.1 s.2.1 s.2.2.1 s.2.2.2) (fun i=>(h,b,(wordsOf b i).reverse,((i:Nat):Int))) (h,b,(wordsOf b 16).reverse,((16:Nat):Int)) 16 (fun i hi=>by
  show L39_3_r h b _ (i:Int)=_
  rw [rw_go hb hi (by simp [wordsOf_len]; omega),wordsOf,fz_eq,List.reverse_cons]) rw_end 0 (by omega)
 exact this
theorem rm_go {h r:List Int} {i:Nat} (hr:r.length=i) (h1:16≤i) (hi:i < 64):L39_7_r h r.reverse (i:Int)=some (.inl (h,(nextW r::r).reverse,((i+1:Nat):Int))):=by
 have t1:decide ((i:Int) < 64)=true:=by simp; omega
 have e:∀ k:Nat,1≤k→k≤16→IntKind.i64.wrap ((i:Int) - (k:Int))=((i - k:Nat):Int):=fun k h2 h3=>by rw [wrapI (by omega) (by omega)]; omega
 have e15:=e 15 (by omega) (by omega)
 have e2:=e 2 (by omega) (by omega)
 have e16:=e 16 (by omega) (by omega)
 have e7:=e 7 (by omega) (by omega)
 have hl:r.reverse.length=i:=by simp; omega
 have q:∀ k:Nat,1≤k→k≤i→(decide (0≤((i - k:Nat):Int)) && decide (((i - k:Nat):Int) < ((r.reverse.length:Nat):Int)))=true:=fun k h2 h3=>by rw [hl]; simp; omega
 have q':∀ k:Nat,1≤k→k≤i→decide (i - k < r.reverse.length)=true:=fun k h2 h3=>by rw [hl]; simp; omega
 have d:∀ k:Nat,1≤k→k≤i→r.reverse.getD (i - k) 0=r.getD (k - 1) 0:=fun k h2 h3=>by
  have:=getD_rev r [] (k - 1) (0:Int) (by omega)
  rw [List.append_nil] at this
  rw [← this]; congr 1; omega
 have e4:IntKind.i64.wrap ((i:Int)+1)=((i+1:Nat):Int):=by rw [wrapI (by omega) (by omega)]; omega
 have p1:(2 ^ min (Int.toNat (3:Int)) (IntKind.u32.bits):Int)=8:=rfl
 have p2:(2 ^ min (Int.toNat (10:Int)) (IntKind.u32.bits):Int)=1024:=rfl
 have c15:((15:Nat):Int)=15:=rfl
 have c2:((2:Nat):Int)=2:=rfl
 have c16:((16:Nat):Int)=16:=rfl
 have c7:((7:Nat):Int)=7:=rfl
 rw [c15] at e15; rw [c2] at e2; rw [c16] at e16; rw [c7] at e7
 have s1:∀ x:Int,List.set (List.replicate 1 (0:Int)) 0 x=[x]:=fun _=>rfl
 have f1:∀ x:Int,decide (r.reverse.length+[x].length≤100000000000)=true:=fun x=>by rw [hl]; simp; omega
 rw [List.reverse_cons]
 unfold L39_7_r
 simp only [t1,e15,e2,e16,e7,Int.toNat_natCast,q 15 (by omega) (by omega),q 2 (by omega) (by omega),q 16 (by omega) (by omega),q 7 (by omega) (by omega),q' 15 (by omega) (by omega),q' 2 (by omega) (by omega),q' 16 (by omega) (by omega),q' 7 (by omega) (by omega),
  d 15 (by omega) (by omega),d 2 (by omega) (by omega),d 16 (by omega) (by omega),d 7 (by omega) (by omega),e4,p1,p2,P58_of _ _ (x7 _),F58_of _ _ (x7 _),P58_of _ _ (x18 _),F58_of _ _ (x18 _),P58_of _ _ (x17 _),F58_of _ _ (x17 _),P58_of _ _ (x19 _),F58_of _ _ (x19 _),cond_true,s1,f1,List.take_length]
 have hx:nextW r=w32 (w32 (w32 (r.getD 15 0+sig0 (r.getD 14 0))+r.getD 6 0)+sig1 (r.getD 1 0)):=rfl
 rw [hx]
 rfl
theorem rm_end {h r:List Int}:L39_7_r h r ((64:Nat):Int)=some (.inr (h,r,((64:Nat):Int))):=by unfold L39_7_r; rfl
theorem rm_loop {h b:List Int}:L39_7 (h,(wordsOf b 16).reverse,16)=some (h,sched b,64):=by
 unfold L39_7
 have:=lim_inv (r:=fun s:List Int×List Int×Int=>L39_7_r s.1 s.2.1 s.2.2) (fun i=>(h,(extW i (wordsOf b 16)).reverse,((16+i:Nat):Int))) (h,sched b,((64:Nat):Int)) 48 (fun i hi=>by
  show L39_7_r h _ ((16+i:Nat):Int)=_
  have hl:(extW i (wordsOf b 16)).length=16+i:=by rw [extW_len,wordsOf_len]; omega
  rw [rm_go hl (by omega) (by omega),extW_succ]
  rfl) (by
  show L39_7_r h _ ((64:Nat):Int)=_
  rw [rm_end]; rfl) 0 (by omega)
 exact this
theorem rround_go {h0 w v:List Int} (hv:v.length=8) (hw:w.length=64) {i:Nat} (hi:i < 64) :
  L39_16_r h0 w roundK v (i:Int)=some (.inl (h0,w,roundK,stepC v (roundK.getD i 0,w.getD i 0),((i+1:Nat):Int))):=by
 obtain ⟨a,b,c,d,e,f,g,h,rfl⟩:=eight hv
 have t0:decide ((i:Int) < 64)=true:=by simp; omega
 have tk:(decide (0≤(i:Int)) && decide ((i:Int) < ((roundK.length:Nat):Int)))=true:=by rw [roundK_len]; simp; omega
 have tw:(decide (0≤(i:Int)) && decide ((i:Int) < ((w.length:Nat):Int)))=true:=by rw [hw]; simp; omega
 have t2:decide (i < w.length)=true:=by rw [hw]; simp; omega
 have t3:IntKind.i64.wrap ((i:Int)+1)=((i+1:Nat):Int):=by rw [wrapI (by omega) (by omega)]; omega
 unfold L39_16_r
 simp only [t0,tk,tw,Int.toNat_natCast,t2,t3,cond_true,P58_of _ _ (x6 _),F58_of _ _ (x6 _),P58_of _ _ (x11 _),F58_of _ _ (x11 _),P58_of _ _ (x25 _),F58_of _ _ (x25 _),P58_of _ _ (x2 _),F58_of _ _ (x2 _),P58_of _ _ (x13 _),F58_of _ _ (x13 _),P58_of _ _ (x22 _),F58_of _ _ (x22 _)]
 generalize roundK.getD i 0=k
 generalize w.getD i 0=q
 generalize ((i+1:Nat):Int)=j
 change _=_
 kernel_rfl
theorem rround_end {h0 w v:List Int}:L39_16_r h0 w roundK v ((64:Nat):Int)=some (.inr (h0,w,roundK,v,((64:Nat):Int))):=by unfold L39_16_r; rfl
theorem rrounds {h0 w v:List Int} (hv:v.length=8) (hw:w.length=64):L39_16 (h0,w,roundK,v,0)=some (h0,w,roundK,(roundK.zip w).foldl stepC v,64):=by
 have hz:(roundK.zip w).length=64:=by simp [roundK_len,hw]
 have:=lim_inv (r:=fun s:List Int×List Int×List Int×List Int×Int=>L39_16_r s.1 s.2.1 s.2.2.1 s.2.2.2.1 s.2.2.2.2) (fun i=>(h0,w,roundK,((roundK.zip w).take i).foldl stepC v,((i:Nat):Int))) (h0,w,roundK,(roundK.zip w).foldl stepC v,((64:Nat):Int)) 64 (fun i hi=>by
  show L39_16_r h0 w roundK _ (i:Int)=_
  rw [rround_go (foldC_len _ hv) hw hi,zip_take_succ roundK w i 0 0 (by rw [roundK_len]; exact hi) (by omega),List.foldl_append]
  rfl) (by
  show L39_16_r h0 w roundK _ ((64:Nat):Int)=_
  rw [rround_end,List.take_of_length_le (by omega)]) 0 (by omega)
 exact this
theorem radd_loop {hh v:List Int} (h1:hh.length=8) (h2:v.length=8):L39_25 (hh,v,[],0)=some (hh,v,addAll hh v,8):=by
 obtain ⟨a,b,c,d,e,f,g,h,rfl⟩:=eight h1
 obtain ⟨a',b',c',d',e',f',g',h',rfl⟩:=eight h2
 rw [addAll8]
 unfold L39_25
 have s8:∀ x,L39_25_r [a,b,c,d,e,f,g,h] [a',b',c',d',e',f',g',h'] x 8=some (.inr ([a,b,c,d,e,f,g,h],[a',b',c',d',e',f',g',h'],x,8)):=fun x=>by kernel_rfl
 have s0:L39_25_r [a,b,c,d,e,f,g,h] [a',b',c',d',e',f',g',h'] [] 0=some (.inl ([a,b,c,d,e,f,g,h],[a',b',c',d',e',f',g',h'],[w32 (a+a')],1)):=by kernel_rfl
 have s1:∀ x,L39_25_r [a,b,c,d,e,f,g,h] [a',b',c',d',e',f',g',h'] [x] 1=some (.inl ([a,b,c,d,e,f,g,h],[a',b',c',d',e',f',g',h'],[x,w32 (b+b')],2)):=fun x=>by kernel_rfl
 have s2:∀ x y,L39_25_r [a,b,c,d,e,f,g,h] [a',b',c',d',e',f',g',h'] [x,y] 2=some (.inl ([a,b,c,d,e,f,g,h],[a',b',c',d',e',f',g',h'],[x,y,w32 (c+c')],3)):=fun x y=>by kernel_rfl
 have s3:∀ x y z,L39_25_r [a,b,c,d,e,f,g,h] [a',b',c',d',e',f',g',h'] [x,y,z] 3=some (.inl ([a,b,c,d,e,f,g,h],[a',b',c',d',e',f',g',h'],[x,y,z,w32 (d+d')],4)):=fun x y z=>by kernel_rfl
 have s4:∀ x y z u,L39_25_r [a,b,c,d,e,f,g,h] [a',b',c',d',e',f',g',h'] [x,y,z,u] 4=some (.inl ([a,b,c,d,e,f,g,h],[a',b',c',d',e',f',g',h'],[x,y,z,u,w32 (e+e')],5)):=fun x y z u=>by kernel_rfl
 have s5:∀ x y z u t,L39_25_r [a,b,c,d,e,f,g,h] [a',b',c',d',e',f',g',h'] [x,y,z,u,t] 5=some (.inl ([a,b,c,d,e,f,g,h],[a',b',c',d',e',f',g',h'],[x,y,z,u,t,w32 (f+f')],6)):=fun x y z u t=>by kernel_rfl
 have s6:∀ x y z u t s,L39_25_r [a,b,c,d,e,f,g,h] [a',b',c',d',e',f',g',h'] [x,y,z,u,t,s] 6=some (.inl ([a,b,c,d,e,f,g,h],[a',b',c',d',e',f',g',h'],[x,y,z,u,t,s,w32 (g+g')],7)):=fun x y z u t s=>by kernel_rfl
 have s7:∀ x y z u t s r,L39_25_r [a,b,c,d,e,f,g,h] [a',b',c',d',e',f',g',h'] [x,y,z,u,t,s,r] 7=some (.inl ([a,b,c,d,e,f,g,h],[a',b',c',d',e',f',g',h'],[x,y,z,u,t,s,r,w32 (h+h')],8)):=fun x y z u t s r=>by kernel_rfl
 rw [lim_go s0,lim_go (s1 _),lim_go (s2 _ _),lim_go (s3 _ _ _),lim_go (s4 _ _ _ _),lim_go (s5 _ _ _ _ _),lim_go (s6 _ _ _ _ _ _),lim_go (s7 _ _ _ _ _ _ _),lim_end (s8 _)]
theorem G39_eq {b h:List Int} (hb:b.length=64) (hh:h.length=8):G39 h b=some (block h b):=by
 have z2:(List.take ([]:List Int).length ([]:List Int))=[]:=rfl
 have f0:decide (([]:List Int).length+h.length≤100000000000)=true:=by simp; omega
 unfold G39
 simp only [rw_loop hb,Option.bind_some,rm_loop,P59_eq,F59_eq,cond_true,z2,f0,List.nil_append,rrounds hh (sched_len b),radd_loop hh (foldC_len _ hh),List.take_length,block_eq hh]
theorem P39_eq {b h:List Int} (hb:b.length=64) (hh:h.length=8):P39 h b=true:=P39_of _ _ (G39_eq hb hh)
theorem F39_eq {b h:List Int} (hb:b.length=64) (hh:h.length=8):F39 h b=block h b:=F39_of _ _ (G39_eq hb hh)
theorem rc_go {s:Str} {i:Nat} (hi:i < s.length) (hs:s.length≤1000000000):L38_3_r s (bytesI (s.take i)) (i:Int)=some (.inl (s,bytesI (s.take (i+1)),((i+1:Nat):Int))):=by
 have e1:decide ((i:Int) < (s.length:Int))=true:=by simp; omega
 have e3:decide ((0:Int)≤(i:Int))=true:=by simp
 have e4:IntKind.i64.wrap ((i:Int)+1)=((i+1:Nat):Int):=by rw [wrapI (by omega) (by omega)]; omega
 have g1:s.getD i 0=s[i]:=by simp [List.getD_eq_getElem?_getD,hi]
 have s1:∀ x:Int,List.set (List.replicate 1 (0:Int)) 0 x=[x]:=fun _=>rfl
 have f1:∀ x:Int,decide ((bytesI (s.take i)).length+[x].length≤100000000000)=true:=fun x=>by simp [bytesI]; omega
 have e7:bytesI (s.take i)++[(s[i].toNat:Int)]=bytesI (s.take (i+1)):=by
  unfold bytesI; rw [List.take_add_one (l:=s) (i:=i),List.getElem?_eq_getElem hi,List.map_append]; rfl
 unfold L38_3_r
 simp only [e1,e3,e4,g1,Bool.and_self,cond_true,Int.toNat_natCast,s1,f1,List.take_length,e7]
theorem rc_end {s:Str} {b:List Int}:L38_3_r s b (s.length:Int)=some (.inr (s,b,(s.length:Int))):=by
 have e:decide ((s.length:Int) < (s.length:Int))=false:=by simp
 unfold L38_3_r
 simp only [e,cond_false]
theorem rc_loop {s:Str} (hs:s.length≤1000000000):L38_3 (s,[],0)=some (s,bytesI s,(s.length:Int)):=by
 unfold L38_3
 have:=lim_inv (r:=fun s:Str×List Int×Int=>L38_3_r s.1 s.2.1 s.2.2) (fun i=>(s,bytesI (s.take i),((i:Nat):Int))) (s,bytesI s,(s.length:Int)) s.length (fun i hi=>rc_go hi hs) (by
  show L38_3_r s (bytesI (s.take s.length)) (s.length:Int)=_
  rw [rc_end,List.take_length]) 0 (by omega)
 exact this
theorem rp_go {s:List UInt8} {b:List Int} (h:b.length % 64≠56) (hb:b.length≤10000000000):L38_7_r s b=some (.inl (s,b++[0])):=by
 have e1:Int.tmod ((b.length:Nat):Int) 64=((b.length % 64:Nat):Int):=rfl
 have e2:(((b.length % 64:Nat):Int) != 56)=true:=by simp; omega
 have e3:List.set (List.replicate 1 (0:Int)) 0 (0:Int)=[0]:=rfl
 have e4:decide (b.length+[(0:Int)].length≤100000000000)=true:=by simp; omega
 unfold L38_7_r
 simp only [e1,e2,e3,List.take_length,e4,cond_true]
theorem rp_end {s:List UInt8} {b:List Int} (h:b.length % 64=56):L38_7_r s b=some (.inr (s,b)):=by
 have e1:Int.tmod ((b.length:Nat):Int) 64=((b.length % 64:Nat):Int):=rfl
 have e2:(((b.length % 64:Nat):Int) != 56)=false:=by rw [h]; rfl
 unfold L38_7_r
 simp only [e1,e2,cond_false]
theorem rp_loop {s:List UInt8} {b:List Int} {n:Nat} (hb:b.length=n+1) (hn:n≤1000000000):L38_7 (s,b)=some (s,b++List.replicate (padZ n) 0):=by
 have hp:padZ n < 64:=by unfold padZ; omega
 have hp2:(n+1+padZ n) % 64=56:=by unfold padZ; omega
 have hp3:∀ k,k < padZ n→(n+1+k) % 64≠56:=fun k hk=>by unfold padZ at hk; omega
 have:=lim_inv (r:=fun t:List UInt8×List Int=>L38_7_r t.1 t.2) (fun i=>(s,b++List.replicate i 0)) (s,b++List.replicate (padZ n) 0) (padZ n) (fun i hi=>by
  show L38_7_r s (b++List.replicate i 0)=_
  rw [rp_go (by rw [List.length_append,List.length_replicate,hb]; exact hp3 i hi) (by simp; omega),List.append_assoc,← List.replicate_succ']) (by
  show L38_7_r s (b++List.replicate (padZ n) 0)=_
  rw [rp_end (by rw [List.length_append,List.length_replicate,hb]; exact hp2)]) 0 (by omega)
 simpa [L38_7] using this
theorem rl_go {s:List UInt8} {b:List Int} {i:Nat} (hi:i < 8) (hs:s.length≤1000000000) (hb:b.length≤10000000000):L38_10_r s b (i:Int)=some (.inl (s,b++[lenB s.length i],(i:Int) - 1)):=by
 have e0:decide ((i:Int)≥0)=true:=by simp
 have e1:IntKind.i64.wrap (8 * ((s.length:Nat):Int))=8 * (s.length:Int):=wrapI (by omega) (by omega)
 have e2:IntKind.i64.wrap (8 * (i:Int))=((8 * i:Nat):Int):=by rw [wrapI (by omega) (by omega)]; omega
 have e3:decide (0≤((8 * i:Nat):Int))=true:=by simp; omega
 have e4:(2 ^ min (8 * i) (IntKind.i64.bits):Int)=2 ^ (8 * i):=by rw [Nat.min_eq_left (by simp [IntKind.bits]; omega)]
 have e5:∀ x:Int,List.set (List.replicate 1 (0:Int)) 0 x=[x]:=fun _=>rfl
 have e6:∀ x:Int,decide (b.length+[x].length≤100000000000)=true:=fun x=>by simp; omega
 have e7:IntKind.i64.wrap ((i:Int) - 1)=(i:Int) - 1:=wrapI (by omega) (by omega)
 unfold L38_10_r
 simp only [e0,e1,e2,e3,Int.toNat_natCast,e4,e5,List.take_length,e6,e7,cond_true]
 rfl
theorem rl_end {s:List UInt8} {b:List Int}:L38_10_r s b (-1)=some (.inr (s,b,-1)):=by unfold L38_10_r; rfl
theorem rl_loop {s:List UInt8} {b:List Int} (hs:s.length≤1000000000) (hb:b.length≤1000001000):L38_10 (s,b,7)=some (s,b++[lenB s.length 7,lenB s.length 6,lenB s.length 5,lenB s.length 4,lenB s.length 3,lenB s.length 2,lenB s.length 1,lenB s.length 0],-1):=by
 unfold L38_10
 rw [lim_go (rl_go (i:=7) (by omega) hs (by simp; omega)),lim_go (rl_go (i:=6) (by omega) hs (by simp; omega)),lim_go (rl_go (i:=5) (by omega) hs (by simp; omega)),lim_go (rl_go (i:=4) (by omega) hs (by simp; omega)),lim_go (rl_go (i:=3) (by omega) hs (by simp; omega)),lim_go (rl_go (i:=2) (by omega) hs (by simp; omega)),lim_go (rl_go (i:=1) (by omega) hs (by simp; omega)),lim_go (rl_go (i:=0) (by omega) hs (by simp; omega)),lim_end rl_end]
 simp
theorem G38_eq {s:Str} (hs:s.length≤1000000000):G38 s=some (padded s):=by
 have e2:List.set (List.replicate 1 (0:Int)) 0 (128:Int)=[128]:=rfl
 have e3:decide ((bytesI s).length+[(128:Int)].length≤100000000000)=true:=by simp [bytesI]; omega
 have hl:=rp_loop (s:=s) (b:=bytesI s++[128]) (n:=s.length) (by simp [bytesI]) hs
 have hp:padZ s.length < 64:=by unfold padZ; omega
 have hl2:=rl_loop (s:=s) (b:=bytesI s++[128]++List.replicate (padZ s.length) 0) hs (by simp [bytesI]; omega)
 have hpad:bytesI s++[128]++List.replicate (padZ s.length) 0++[lenB s.length 7,lenB s.length 6,lenB s.length 5,lenB s.length 4,lenB s.length 3,lenB s.length 2,lenB s.length 1,lenB s.length 0]=padded s:=by simp [padded,bytesI]
 rw [hpad] at hl2
 unfold G38
 simp only [rc_loop hs,Option.bind_some,e2,List.take_length,e3,cond_true,hl,hl2]
theorem P38_eq {s:Str} (hs:s.length≤1000000000):P38 s=true:=P38_of _ (G38_eq hs)
theorem F38_eq {s:Str} (hs:s.length≤1000000000):F38 s=padded s:=F38_of _ (G38_eq hs)
theorem blocks_len:∀ (n:Nat) (h b:List Int),b.length=64 * n→h.length=8→(blocks n h b).length=8
 | 0,h,b,_,hh=>hh
 | n+1,h,b,hb,hh=>by
  rw [blocks]
  exact blocks_len n _ _ (by simp; omega) (block_len hh _)
theorem rs_loop:∀ (n:Nat) (h b:List Int) (i:Nat),b.length=64 * (i+n)→b.length≤10000000000→h.length=8→L13_4 (h,b,((64 * i:Nat):Int))=some (blocks n h (b.drop (64 * i)),b,(b.length:Int))
 | 0,h,b,i,hb,hm,hh=>by
  have e:decide (((64 * i:Nat):Int) < (b.length:Int))=false:=by simp only [decide_eq_false_iff_not]; omega
  have hi:((64 * i:Nat):Int)=(b.length:Int):=by omega
  unfold L13_4
  rw [lim_end (r:=fun s:List Int×List Int×Int=>L13_4_r s.1 s.2.1 s.2.2) (s:=(h,b,((64 * i:Nat):Int))) (x:=(h,b,((64 * i:Nat):Int))) (by
   show L13_4_r h b ((64 * i:Nat):Int)=_
   unfold L13_4_r
   simp only [e,cond_false]),hi]
  rfl
 | n+1,h,b,i,hb,hm,hh=>by
  have e1:decide (((64 * i:Nat):Int) < (b.length:Int))=true:=by simp only [decide_eq_true_eq]; omega
  have e2:IntKind.i64.wrap (((64 * i:Nat):Int)+64)=((64 * (i+1):Nat):Int):=by rw [wrapI (by omega) (by omega)]; omega
  have e3:sliceTest ((64 * i:Nat):Int) ((64 * (i+1):Nat):Int) (b.length:Int)=true:=sliceT (by omega) (by omega)
  have hc:cut b ((64 * i:Nat):Int) ((64 * (i+1):Nat):Int)=(b.drop (64 * i)).take 64:=by
   rw [cut_eq,List.drop_take]
   congr 1; omega
  have hcl:((b.drop (64 * i)).take 64).length=64:=by simp; omega
  have step:L13_4_r h b ((64 * i:Nat):Int)=some (.inl (block h ((b.drop (64 * i)).take 64),b,((64 * (i+1):Nat):Int))):=by
   unfold L13_4_r
   simp only [e1,e2,e3,cond_true,hc,P39_eq hcl hh,F39_eq hcl hh]
  have ih:=rs_loop n (block h ((b.drop (64 * i)).take 64)) b (i+1) (by omega) hm (block_len hh _)
  unfold L13_4 at ih ⊢
  rw [lim_go (r:=fun s:List Int×List Int×Int=>L13_4_r s.1 s.2.1 s.2.2) (s:=(h,b,((64 * i:Nat):Int))) step,ih,blocks,List.drop_drop]
  rfl
theorem ro_loop (a b c d e f g h:Int):L13_9 ([a,b,c,d,e,f,g,h],[],0)=some ([a,b,c,d,e,f,g,h],[a,b,c,d,e,f,g,h].flatMap (fun x=>[byteI x 0,byteI x 1,byteI x 2,byteI x 3]),8):=by
 have st:∀ (i:Nat) (o:List Int),i < 8→o.length≤100→L13_9_r [a,b,c,d,e,f,g,h] o (i:Int)=some (.inl ([a,b,c,d,e,f,g,h],o++[byteI ([a,b,c,d,e,f,g,h].getD i 0) 0,byteI ([a,b,c,d,e,f,g,h].getD i 0) 1,byteI ([a,b,c,d,e,f,g,h].getD i 0) 2,byteI ([a,b,c,d,e,f,g,h].getD i 0) 3],((i+1:Nat):Int))):=fun i o hi ho=>by
  have t0:decide ((i:Int) < 8)=true:=by simp; omega
  have hl8:[a,b,c,d,e,f,g,h].length=8:=rfl
  have t1:(decide (0≤(i:Int)) && decide ((i:Int) < (([a,b,c,d,e,f,g,h].length:Nat):Int)))=true:=by rw [hl8]; simp; omega
  have t3:IntKind.i64.wrap ((i:Int)+1)=((i+1:Nat):Int):=by rw [wrapI (by omega) (by omega)]; omega
  have s4:∀ x y z u:Int,List.set (List.set (List.set (List.set (List.replicate 4 (0:Int)) 0 x) 1 y) 2 z) 3 u=[x,y,z,u]:=fun _ _ _ _=>rfl
  have f1:∀ x y z u:Int,decide (o.length+[x,y,z,u].length≤100000000000)=true:=fun x y z u=>by simp; omega
  have p1:(2 ^ min (Int.toNat (24:Int)) (IntKind.u32.bits):Int)=2 ^ (24 - 8 * 0):=rfl
  have p2:(2 ^ min (Int.toNat (16:Int)) (IntKind.u32.bits):Int)=2 ^ (24 - 8 * 1):=rfl
  have p3:(2 ^ min (Int.toNat (8:Int)) (IntKind.u32.bits):Int)=2 ^ (24 - 8 * 2):=rfl
  have h3:∀ x:Int,byteI x 3=IntKind.u8.wrap x:=fun x=>by
   unfold byteI
   rw [show Int.fdiv x (2 ^ (24 - 8 * 3))=x by simp]
  unfold L13_9_r
  simp only [t0,t1,t3,s4,f1,p1,p2,p3,cond_true,Int.toNat_natCast,List.take_length,h3]
  rfl
 have en:∀ o,L13_9_r [a,b,c,d,e,f,g,h] o ((8:Nat):Int)=some (.inr ([a,b,c,d,e,f,g,h],o,((8:Nat):Int))):=fun o=>by unfold L13_9_r; rfl
 unfold L13_9
 rw [lim_go (st 0 [] (by omega) (by simp)),lim_go (st 1 _ (by omega) (by simp)),lim_go (st 2 _ (by omega) (by simp)),lim_go (st 3 _ (by omega) (by simp)),lim_go (st 4 _ (by omega) (by simp)),lim_go (st 5 _ (by omega) (by simp)),lim_go (st 6 _ (by omega) (by simp)),lim_go (st 7 _ (by omega) (by simp)),lim_end (en _)]
 rfl
theorem G13_eq {s:Str} (hs:s.length≤1000000000):G13 s=some (sha s):=by
 obtain ⟨m,hm,hm2⟩:=padded_len s
 have hd:(padded s).length / 64=m:=by omega
 have hh:List.set (List.set (List.set (List.set (List.set (List.set (List.set (List.set (List.replicate 8 (0:Int)) 0 (1779033703:Int)) 1 (3144134277:Int)) 2 (1013904242:Int)) 3 (2773480762:Int)) 4 (1359893119:Int)) 5 (2600822924:Int)) 6 (528734635:Int)) 7 (1541459225:Int)=h0:=rfl
 have hl:=rs_loop m h0 (padded s) 0 (by omega) (by omega) rfl
 have hl':L13_4 (h0,padded s,0)=some (blocks m h0 (padded s),padded s,((padded s).length:Int)):=hl
 obtain ⟨a,b,c,d,e,f,g,i,hb⟩:=eight (blocks_len m h0 (padded s) hm rfl)
 unfold G13
 simp only [hh,P38_eq hs,F38_eq hs,cond_true,hl',Option.bind_some,hb,ro_loop,List.take_length]
 unfold sha
 rw [hd,hb,List.map_flatMap]
 have hbo:∀ x:Int,bytesOf x=[UInt8.ofNat (byteI x 0).toNat,UInt8.ofNat (byteI x 1).toNat,UInt8.ofNat (byteI x 2).toNat,UInt8.ofNat (byteI x 3).toNat]:=fun x=>by
  have:Int.fdiv x (2 ^ (24 - 8 * 3))=x:=by simp
  unfold bytesOf byteI
  rw [this]; rfl
 congr 1
 congr 1
 funext x
 exact (hbo x).symm
theorem P13_eq {s:Str} (hs:s.length≤1000000000):P13 s=true:=P13_of _ (G13_eq hs)
theorem F13_eq {s:Str} (hs:s.length≤1000000000):F13 s=sha s:=F13_of _ (G13_eq hs)
theorem G16_eq {a b:Str} (h:a.length+b.length≤100000):G16 a b=some (chain a b):=by
 have e1:decide (([2]:List UInt8).length+a.length≤9223372036854775807)=true:=by simp; omega
 have e2:decide ((([2]:List UInt8)++a).length+b.length≤9223372036854775807)=true:=by simp; omega
 have hl:(([2]:List UInt8)++a++b).length≤1000000000:=by simp; omega
 unfold G16
 simp only [e1,e2,cond_true,P13_eq hl,F13_eq hl]
 rfl
theorem P16_eq {a b:Str} (h:a.length+b.length≤100000):P16 a b=true:=P16_of _ _ (G16_eq h)
theorem F16_eq {a b:Str} (h:a.length+b.length≤100000):F16 a b=chain a b:=F16_of _ _ (G16_eq h)
end Go.Ev.T.D
namespace Go.Ev.T
open Go Go.Ev
abbrev Str:=List UInt8
def bI (s:Str):List Int:=s.map fun c=>(c.toNat:Int)
def encL:List Int→Option Str
 | []=>some []
 | n::l=>if n < -4611686018427387903∨n > 4611686018427387903 then none else (encL l).map (W.enc n++·)
def outE:Option Str→Str×Int
 | some s=>(s,0)
 | none=>([],310)
def pl (p:Po):List Int:=[p.1,p.2.1,p.2.2.1,p.2.2.2.1,p.2.2.2.2.1,p.2.2.2.2.2.1,p.2.2.2.2.2.2.1]
def encP (p:Po):Option Str:=encL (pl p)
theorem putOut {n:Int} (h:n < -4611686018427387903∨n > 4611686018427387903):W.putInt n=([],10):=by unfold W.putInt; rw [if_pos h]
theorem putIn {n:Int} (h:¬ (n < -4611686018427387903∨n > 4611686018427387903)):W.putInt n=(W.enc n,0)∧(W.enc n).length≤9:=by
 have hr:W.inR n:=by unfold W.inR; omega
 exact ⟨W.putInt_in hr,W.enc_short hr⟩
theorem bI_app (s t:Str):bI s++List.map (fun c=>(c.toNat:Int)) t=bI (s++t):=by simp [bI]
theorem bI_len (s:Str):(bI s).length=s.length:=by simp [bI]
abbrev S6':=List Int×Int×Int×Bool×List Int
theorem l6_go {s s':S6'} (h:L6_3_r s.1 s.2.1 s.2.2.1 s.2.2.2.1 s.2.2.2.2=some (.inl s')):L6_3 s=L6_3 s' :=
 lim_go (r:=fun s:S6'=>L6_3_r s.1 s.2.1 s.2.2.1 s.2.2.2.1 s.2.2.2.2) (s:=s) h
theorem l6_end {s:S6'} {x:(Str×Int)⊕S6'} (h:L6_3_r s.1 s.2.1 s.2.2.1 s.2.2.2.1 s.2.2.2.2=some (.inr x)):L6_3 s=some x :=
 lim_end (r:=fun s:S6'=>L6_3_r s.1 s.2.1 s.2.2.1 s.2.2.2.1 s.2.2.2.2) (s:=s) h
theorem enc_loop (l:List Int) (h7:l.length=7):∀ k i (f:Bool) (acc:Str),i+k=7→acc.length≤9 * i →
  match encL (l.drop i) with
  | none=>L6_3 (l,7,(i:Int),f,bI acc)=some (.inl ([],310))
  | some s=>∃ x,L6_3 (l,7,(i:Int),f,bI acc)=some (.inr x)∧x.2.2.2.2=bI (acc++s)
 | 0,i,f,acc,hi,ha=>by
  have:i=7:=by omega
  subst this
  rw [List.drop_of_length_le (by omega),encL]
  show ∃ x,L6_3 (l,7,((7:Nat):Int),f,bI acc)=some (.inr x)∧x.2.2.2.2=bI (acc++[])
  refine ⟨(l,7,((7:Nat):Int),f,bI acc),l6_end (s:=(l,7,((7:Nat):Int),f,bI acc)) ?_,by rw [List.append_nil]⟩
  unfold L6_3_r
  rfl
 | k+1,i,f,acc,hi,ha=>by
  have hlt:i < l.length:=by omega
  have e1:decide ((i:Int) < 7)=true:=by simp; omega
  have e2:(decide (0≤(i:Int)) && decide ((i:Int) < ((l.length:Nat):Int)))=true:=by simp; omega
  have e3:decide (i < l.length)=true:=by simp; omega
  have e4:IntKind.i64.wrap ((i:Int)+1)=((i+1:Nat):Int):=by rw [wrapI (by omega) (by omega)]; omega
  have hd:l.drop i=l.getD i 0::l.drop (i+1):=by
   rw [List.drop_eq_getElem_cons hlt]; simp [List.getD_eq_getElem?_getD,hlt]
  rw [hd,encL]
  by_cases hn:l.getD i 0 < -4611686018427387903∨l.getD i 0 > 4611686018427387903
  ·rw [if_pos hn]
   refine l6_end (s:=(l,7,(i:Int),f,bI acc)) ?_
   have e5:((10:Int) != 0)=true:=rfl
   unfold L6_3_r
   simp only [e1,e2,Int.toNat_natCast,e3,cond_true,W.P25_eq,W.F25_eq,putOut hn,e5]
  ·obtain ⟨q1,q2⟩:=putIn hn
   rw [if_neg hn]
   have e5:((0:Int) != 0)=false:=rfl
   have e6:decide ((bI acc).length+(W.enc (l.getD i 0)).length≤140737488355328)=true:=by rw [bI_len]; simp only [decide_eq_true_eq]; omega
   have step:L6_3_r l 7 (i:Int) f (bI acc)=some (.inl (l,7,((i+1:Nat):Int),true,bI (acc++W.enc (l.getD i 0)))):=by
    unfold L6_3_r
    simp only [e1,e2,Int.toNat_natCast,e3,e4,cond_true,W.P25_eq,W.F25_eq,q1,e5,e6,cond_false,bI_app]
   have ih:=enc_loop l h7 k (i+1) true (acc++W.enc (l.getD i 0)) (by omega) (by rw [List.length_append]; omega)
   rw [l6_go (s:=(l,7,(i:Int),f,bI acc)) step]
   cases hE:encL (l.drop (i+1)) with
   | none=>rw [hE] at ih; exact ih
   | some s =>
    rw [hE] at ih
    obtain ⟨x,k1,k2⟩:=ih
    exact ⟨x,k1,by rw [k2,List.append_assoc]⟩
theorem set7 (p:Po):List.set (List.set (List.set (List.set (List.set (List.set (List.set (List.replicate 7 (0:Int)) 0 p.1) 1 p.2.1) 2 p.2.2.1) 3 p.2.2.2.1) 4 p.2.2.2.2.1) 5 p.2.2.2.2.2.1) 6 p.2.2.2.2.2.2.1=pl p:=rfl
theorem bytes_back (s:Str):List.all (bI s) (fun n=>decide (0≤n) && decide (n < 256))=true∧List.map (fun (n:Int)=>UInt8.ofNat n.toNat) (bI s)=s:=by
 constructor
 ·simp only [bI,List.all_map,List.all_eq_true]
  intro c _
  have:c.toNat < 256:=UInt8.toNat_lt c
  simp only [Function.comp,Bool.and_eq_true,decide_eq_true_eq]; omega
 ·simp only [bI,List.map_map]
  rw [List.map_congr_left (g:=id)]
  ·simp
  ·intro c _; simp
theorem G6_eq (p:Po):G6 p=some (outE (encP p)):=by
 have h:=enc_loop (pl p) rfl 7 0 false [] rfl (by simp)
 rw [List.drop_zero] at h
 unfold G6 encP
 cases hE:encL (pl p) with
 | none =>
  rw [hE] at h
  have h':L6_3 (pl p,7,0,false,[])=some (.inl ([],310)):=h
  simp only [set7,h',Option.bind_some]; rfl
 | some s =>
  rw [hE] at h
  obtain ⟨x,k1,k2⟩:=h
  have h':L6_3 (pl p,7,0,false,[])=some (.inr x):=k1
  rw [List.nil_append] at k2
  simp only [set7,h',Option.bind_some,k2,(bytes_back s).1,(bytes_back s).2,cond_true]; rfl
theorem P6_eq (p:Po):P6 p=true:=P6_of _ (G6_eq p)
theorem F6_eq (p:Po):F6 p=outE (encP p):=F6_of _ (G6_eq p)
abbrev S7':=Str×List Int×Int
theorem l7_go {s s':S7'} (h:L7_4_r s.1 s.2.1 s.2.2=some (.inl s')):L7_4 s=L7_4 s' :=
 lim_go (r:=fun s:S7'=>L7_4_r s.1 s.2.1 s.2.2) (s:=s) h
theorem l7_end {s:S7'} {x:(Str×Int)⊕S7'} (h:L7_4_r s.1 s.2.1 s.2.2=some (.inr x)):L7_4 s=some x :=
 lim_end (r:=fun s:S7'=>L7_4_r s.1 s.2.1 s.2.2) (s:=s) h
theorem renc_loop (l:List Int) (h7:l.length=7):∀ k i (acc:Str),i+k=7→acc.length≤9 * i →
  match encL (l.drop i) with
  | none=>L7_4 (acc,l,(i:Int))=some (.inl ([],310))
  | some s=>∃ x,L7_4 (acc,l,(i:Int))=some (.inr x)∧x.1=acc++s
 | 0,i,acc,hi,ha=>by
  have:i=7:=by omega
  subst this
  rw [List.drop_of_length_le (by omega),encL]
  show ∃ x,L7_4 (acc,l,((7:Nat):Int))=some (.inr x)∧x.1=acc++[]
  refine ⟨(acc,l,((7:Nat):Int)),l7_end (s:=(acc,l,((7:Nat):Int))) ?_,by rw [List.append_nil]⟩
  have e:decide (((7:Nat):Int) < ((l.length:Nat):Int))=false:=by rw [h7]; rfl
  unfold L7_4_r
  simp only [e,cond_false]
 | k+1,i,acc,hi,ha=>by
  have hlt:i < l.length:=by omega
  have e1:decide ((i:Int) < ((l.length:Nat):Int))=true:=by simp; omega
  have e0:decide ((0:Int)≤(i:Int))=true:=by simp
  have e3:decide (i < l.length)=true:=by simp; omega
  have e4:IntKind.i64.wrap ((i:Int)+1)=((i+1:Nat):Int):=by rw [wrapI (by omega) (by omega)]; omega
  have hd:l.drop i=l.getD i 0::l.drop (i+1):=by
   rw [List.drop_eq_getElem_cons hlt]; simp [List.getD_eq_getElem?_getD,hlt]
  rw [hd,encL]
  by_cases hn:l.getD i 0 < -4611686018427387903∨l.getD i 0 > 4611686018427387903
  ·rw [if_pos hn]
   refine l7_end (s:=(acc,l,(i:Int))) ?_
   have e5:((10:Int) != 0)=true:=rfl
   unfold L7_4_r
   simp only [e1,e0,Bool.and_self,Int.toNat_natCast,e3,cond_true,W.P28_eq,F28_of _ (W.G28_eq _),putOut hn,e5]
  ·obtain ⟨q1,q2⟩:=putIn hn
   rw [if_neg hn]
   have e5:((0:Int) != 0)=false:=rfl
   have e6:decide (acc.length+(W.enc (l.getD i 0)).length≤9223372036854775807)=true:=by simp only [decide_eq_true_eq]; omega
   have step:L7_4_r acc l (i:Int)=some (.inl (acc++W.enc (l.getD i 0),l,((i+1:Nat):Int))):=by
    unfold L7_4_r
    simp only [e1,e0,Bool.and_self,Int.toNat_natCast,e3,e4,cond_true,W.P28_eq,F28_of _ (W.G28_eq _),q1,e5,e6,cond_false]
   have ih:=renc_loop l h7 k (i+1) (acc++W.enc (l.getD i 0)) (by omega) (by rw [List.length_append]; omega)
   rw [l7_go (s:=(acc,l,(i:Int))) step]
   cases hE:encL (l.drop (i+1)) with
   | none=>rw [hE] at ih; exact ih
   | some s =>
    rw [hE] at ih
    obtain ⟨x,k1,k2⟩:=ih
    exact ⟨x,k1,by rw [k2,List.append_assoc]⟩
theorem G7_eq (p:Po):G7 p=some (outE (encP p)):=by
 have h:=renc_loop (pl p) rfl 7 0 [] rfl (by simp)
 rw [List.drop_zero] at h
 unfold G7 encP
 cases hE:encL (pl p) with
 | none =>
  rw [hE] at h
  have h':L7_4 ([],pl p,0)=some (.inl ([],310)):=h
  simp only [set7,h',Option.bind_some]; rfl
 | some s =>
  rw [hE] at h
  obtain ⟨x,k1,k2⟩:=h
  have h':L7_4 ([],pl p,0)=some (.inr x):=k1
  simp only [set7,h',Option.bind_some,k2]; rfl
theorem P7_eq (p:Po):P7 p=true:=P7_of _ (G7_eq p)
theorem F7_eq (p:Po):F7 p=outE (encP p):=F7_of _ (G7_eq p)
theorem encL_len:∀ (l:List Int) (s:Str),encL l=some s→s.length≤9 * l.length
 | [],s,h=>by cases h; simp
 | n::l,s,h=>by
  rw [encL] at h
  by_cases hn:n < -4611686018427387903∨n > 4611686018427387903
  ·rw [if_pos hn] at h; cases h
  ·rw [if_neg hn] at h
   obtain ⟨t,h1,rfl⟩:=Option.map_eq_some_iff.1 h
   have:=encL_len l t h1
   have:=(putIn hn).2
   simp; omega
theorem encP_len {p:Po} {s:Str} (h:encP p=some s):s.length≤100:=by
 have:=encL_len _ _ h
 simp [pl] at this; omega
theorem encL_inj:∀ (l m:List Int) (s:Str),l.length=m.length→encL l=some s→encL m=some s→l=m
 | [],[],_,_,_,_=>rfl
 | [],_::_,_,h,_,_=>by cases h
 | _::_,[],_,h,_,_=>by cases h
 | a::l,b::m,s,h,h1,h2=>by
  rw [encL] at h1 h2
  by_cases ha:a < -4611686018427387903∨a > 4611686018427387903
  ·rw [if_pos ha] at h1; cases h1
  by_cases hb:b < -4611686018427387903∨b > 4611686018427387903
  ·rw [if_pos hb] at h2; cases h2
  rw [if_neg ha] at h1; rw [if_neg hb] at h2
  obtain ⟨t,h3,h4⟩:=Option.map_eq_some_iff.1 h1
  obtain ⟨u,h5,h6⟩:=Option.map_eq_some_iff.1 h2
  have hab:a=b:=W.enc_inj (l:=s) (by unfold W.inR; omega) (by unfold W.inR; omega) ⟨t,h4⟩ ⟨u,h6⟩
  subst hab
  have htu:t=u:=List.append_cancel_left (h4.trans h6.symm)
  subst htu
  rw [encL_inj l m t (by simpa using h) h3 h5]
theorem encP_inj {p q:Po} {s:Str} (h1:encP p=some s) (h2:encP q=some s):p=q:=by
 have h:=encL_inj (pl p) (pl q) s rfl h1 h2
 obtain ⟨a1,a2,a3,a4,a5,a6,a7,u⟩:=p
 obtain ⟨b1,b2,b3,b4,b5,b6,b7,v⟩:=q
 simp only [pl,List.cons.injEq] at h
 obtain ⟨rfl,rfl,rfl,rfl,rfl,rfl,rfl,_⟩:=h
 rfl
end Go.Ev.T
namespace Go.Ev.T
open Go Go.Ev
def encs:List Po→Option (List Str)
 | []=>some []
 | p::l=>match encP p with
  | none=>none
  | some s=>(encs l).map (s::·)
theorem encs_len:∀ (l:List Po) (t:List Str),encs l=some t→t.length=l.length∧∀ s∈t,s.length≤100
 | [],t,h=>by cases h; simp
 | p::l,t,h=>by
  rw [encs] at h
  cases hp:encP p with
  | none=>rw [hp] at h; cases h
  | some s =>
   rw [hp] at h
   obtain ⟨u,h1,rfl⟩:=Option.map_eq_some_iff.1 h
   obtain ⟨k1,k2⟩:=encs_len l u h1
   refine ⟨by simp [k1],fun x hx=>?_⟩
   rcases List.mem_cons.1 hx with rfl | hx
   ·exact encP_len hp
   ·exact k2 x hx
theorem encs_inj:∀ (l m:List Po) (t:List Str),encs l=some t→encs m=some t→l=m
 | [],[],_,_,_=>rfl
 | [],q::m,t,h1,h2=>by
  cases h1
  rw [encs] at h2
  cases hq:encP q with
  | none=>rw [hq] at h2; cases h2
  | some s=>rw [hq] at h2; obtain ⟨u,_,h3⟩:=Option.map_eq_some_iff.1 h2; cases h3
 | p::l,[],t,h1,h2=>by
  cases h2
  rw [encs] at h1
  cases hq:encP p with
  | none=>rw [hq] at h1; cases h1
  | some s=>rw [hq] at h1; obtain ⟨u,_,h3⟩:=Option.map_eq_some_iff.1 h1; cases h3
 | p::l,q::m,t,h1,h2=>by
  rw [encs] at h1 h2
  cases hp:encP p with
  | none=>rw [hp] at h1; cases h1
  | some s =>
   cases hq:encP q with
   | none=>rw [hq] at h2; cases h2
   | some s' =>
    rw [hp] at h1; rw [hq] at h2
    obtain ⟨u,k1,rfl⟩:=Option.map_eq_some_iff.1 h1
    obtain ⟨u',k2,k3⟩:=Option.map_eq_some_iff.1 h2
    simp only [List.cons.injEq] at k3
    obtain ⟨rfl,rfl⟩:=k3
    rw [encP_inj hp hq,encs_inj l m u' k1 k2]
def hd (h:Str) (t:List Str):Str:=t.foldl (fun h s=>D.chain h s) h
theorem hd_app (h:Str) (t:List Str) (s:Str):hd h (t++[s])=D.chain (hd h t) s:=by simp [hd]
theorem hd_len:∀ (t:List Str) (h:Str),h.length=32→(hd h t).length=32
 | [],_,hh=>hh
 | s::t,h,_=>hd_len t (D.chain h s) (D.chain_len _ _)
abbrev S36:=List Po×List Str×Int
theorem l36_go {s s':S36} (h:L36_3_r s.1 s.2.1 s.2.2=some (.inl s')):L36_3 s=L36_3 s' :=
 lim_go (r:=fun s:S36=>L36_3_r s.1 s.2.1 s.2.2) (s:=s) h
theorem l36_end {s:S36} {x:(List Str×Bool)⊕S36} (h:L36_3_r s.1 s.2.1 s.2.2=some (.inr x)):L36_3 s=some x :=
 lim_end (r:=fun s:S36=>L36_3_r s.1 s.2.1 s.2.2) (s:=s) h
theorem encs_loop (l:List Po) (hl:l.length≤1000):∀ k i (acc:List Str),i+k=l.length→acc.length=i →
  match encs (l.drop i) with
  | none=>L36_3 (l,acc,(i:Int))=some (.inl ([],false))
  | some t=>∃ x,L36_3 (l,acc,(i:Int))=some (.inr x)∧x.2.1=acc++t
 | 0,i,acc,hi,ha=>by
  have:i=l.length:=by omega
  subst this
  rw [List.drop_length,encs]
  show ∃ x,L36_3 (l,acc,(l.length:Int))=some (.inr x)∧x.2.1=acc++[]
  refine ⟨(l,acc,(l.length:Int)),l36_end (s:=(l,acc,(l.length:Int))) ?_,by rw [List.append_nil]⟩
  have e:decide ((l.length:Int) < (l.length:Int))=false:=by simp
  unfold L36_3_r
  simp only [e,cond_false]
 | k+1,i,acc,hi,ha=>by
  have hlt:i < l.length:=by omega
  have e1:decide ((i:Int) < (l.length:Int))=true:=by simp; omega
  have e2:decide ((0:Int)≤(i:Int))=true:=by simp
  have e4:IntKind.i64.wrap ((i:Int)+1)=((i+1:Nat):Int):=by rw [wrapI (by omega) (by omega)]; omega
  have hd:l.drop i=l.getD i z26::l.drop (i+1):=getD_drop hlt
  have s1:∀ x:Str,List.set (List.replicate 1 ([]:List UInt8)) 0 x=[x]:=fun _=>rfl
  have f1:∀ x:Str,decide (acc.length+[x].length≤100000000000)=true:=fun x=>by simp; omega
  rw [hd,encs]
  cases hp:encP (l.getD i z26) with
  | none =>
   refine l36_end (s:=(l,acc,(i:Int))) ?_
   have e5:((310:Int) != 0)=true:=rfl
   unfold L36_3_r
   simp only [e1,e2,Bool.and_self,Int.toNat_natCast,cond_true,P7_eq,F7_eq,hp,outE,e5]
  | some s =>
   have e5:((0:Int) != 0)=false:=rfl
   have step:L36_3_r l acc (i:Int)=some (.inl (l,acc++[s],((i+1:Nat):Int))):=by
    unfold L36_3_r
    simp only [e1,e2,e4,Bool.and_self,Int.toNat_natCast,cond_true,P7_eq,F7_eq,hp,outE,e5,cond_false,s1,f1,List.take_length]
   have ih:=encs_loop l hl k (i+1) (acc++[s]) (by omega) (by simp [ha])
   show match (encs (l.drop (i+1))).map (s::·) with
    | none=>L36_3 (l,acc,(i:Int))=some (.inl ([],false))
    | some t=>∃ x,L36_3 (l,acc,(i:Int))=some (.inr x)∧x.2.1=acc++t
   rw [l36_go (s:=(l,acc,(i:Int))) step]
   cases hE:encs (l.drop (i+1)) with
   | none=>rw [hE] at ih; exact ih
   | some t =>
    rw [hE] at ih
    obtain ⟨x,k1,k2⟩:=ih
    exact ⟨x,k1,by rw [k2,List.append_assoc]; rfl⟩
def encd (l:List Po):List Str×Bool:=match encs l with
 | some t=>(t,true)
 | none=>([],false)
theorem G36_eq {l:List Po} (hl:l.length≤1000):G36 l=some (encd l):=by
 have h:=encs_loop l hl l.length 0 [] (by omega) rfl
 rw [List.drop_zero] at h
 unfold G36 encd
 cases hE:encs l with
 | none =>
  rw [hE] at h
  have h':L36_3 (l,[],0)=some (.inl ([],false)):=h
  simp only [h',Option.bind_some]
 | some t =>
  rw [hE] at h
  obtain ⟨x,k1,k2⟩:=h
  have h':L36_3 (l,[],0)=some (.inr x):=k1
  rw [List.nil_append] at k2
  simp only [h',Option.bind_some,k2,List.take_length]
theorem P36_eq {l:List Po} (hl:l.length≤1000):P36 l=true:=P36_of _ (G36_eq hl)
theorem F36_eq {l:List Po} (hl:l.length≤1000):F36 l=encd l:=F36_of _ (G36_eq hl)
abbrev S12:=List Str×Str×Int
theorem l12_go {s s':S12} (h:L12_3_r s.1 s.2.1 s.2.2=some (.inl s')):L12_3 s=L12_3 s' :=
 lim_go (r:=fun s:S12=>L12_3_r s.1 s.2.1 s.2.2) (s:=s) h
theorem l12_end {s:S12} {x:S12} (h:L12_3_r s.1 s.2.1 s.2.2=some (.inr x)):L12_3 s=some x :=
 lim_end (r:=fun s:S12=>L12_3_r s.1 s.2.1 s.2.2) (s:=s) h
theorem rhead_loop (t:List Str) (hl:t.length≤1000) (hx:∀ s∈t,s.length≤100):∀ k i (h:Str),i+k=t.length→h.length=32→L12_3 (t,h,(i:Int))=some (t,hd h (t.drop i),(t.length:Int))
 | 0,i,h,hi,hh=>by
  have:i=t.length:=by omega
  subst this
  rw [List.drop_length]
  refine l12_end (s:=(t,h,(t.length:Int))) ?_
  have e:decide ((t.length:Int) < (t.length:Int))=false:=by simp
  unfold L12_3_r
  simp only [e,cond_false]; rfl
 | k+1,i,h,hi,hh=>by
  have hlt:i < t.length:=by omega
  have e1:decide ((i:Int) < (t.length:Int))=true:=by simp; omega
  have e2:decide ((0:Int)≤(i:Int))=true:=by simp
  have e4:IntKind.i64.wrap ((i:Int)+1)=((i+1:Nat):Int):=by rw [wrapI (by omega) (by omega)]; omega
  have g:t.getD i []=t[i]:=by simp [List.getD_eq_getElem?_getD,hlt]
  have hm:=hx _ (List.getElem_mem hlt)
  have hdd:t.drop i=t[i]::t.drop (i+1):=List.drop_eq_getElem_cons hlt
  have step:L12_3_r t h (i:Int)=some (.inl (t,D.chain h t[i],((i+1:Nat):Int))):=by
   unfold L12_3_r
   simp only [e1,e2,e4,Bool.and_self,Int.toNat_natCast,cond_true,g,D.P16_eq (a:=h) (b:=t[i]) (by omega),D.F16_eq (a:=h) (b:=t[i]) (by omega)]
  rw [l12_go (s:=(t,h,(i:Int))) step,rhead_loop t hl hx k (i+1) _ (by omega) (D.chain_len _ _),hdd]
  rfl
theorem G12_eq {t:List Str} (hl:t.length≤1000) (hx:∀ s∈t,s.length≤100):G12 t=some (hd D.zeros t):=by
 have h:=rhead_loop t hl hx t.length 0 D.zeros (by omega) rfl
 have h':L12_3 (t,List.map (fun (n:Int)=>UInt8.ofNat n.toNat) (List.replicate (Int.toNat (32:Int)) (0:Int)),0)=some (t,hd D.zeros (t.drop 0),(t.length:Int)):=h
 have e:(decide (0≤(32:Int)) && decide ((32:Int)≤(32:Int)) && decide ((32:Int)≤100000000000))=true:=rfl
 unfold G12
 simp only [e,cond_true,h',Option.bind_some,List.drop_zero]
theorem P12_eq {t:List Str} (hl:t.length≤1000) (hx:∀ s∈t,s.length≤100):P12 t=true:=P12_of _ (G12_eq hl hx)
theorem F12_eq {t:List Str} (hl:t.length≤1000) (hx:∀ s∈t,s.length≤100):F12 t=hd D.zeros t:=F12_of _ (G12_eq hl hx)
def headM (x:Bk):Str×Int:=if valid x then (match encs x.2.1 with
 | some t=>(hd D.zeros t,0)
 | none=>([],310)) else ([],310)
abbrev S9:=Str×List Po×Int×Int
theorem l9_go {s s':S9} (h:L9_6_r s.1 s.2.1 s.2.2.1 s.2.2.2=some (.inl s')):L9_6 s=L9_6 s' :=
 lim_go (r:=fun s:S9=>L9_6_r s.1 s.2.1 s.2.2.1 s.2.2.2) (s:=s) h
theorem l9_end {s:S9} {x:(Str×Int)⊕S9} (h:L9_6_r s.1 s.2.1 s.2.2.1 s.2.2.2=some (.inr x)):L9_6 s=some x :=
 lim_end (r:=fun s:S9=>L9_6_r s.1 s.2.1 s.2.2.1 s.2.2.2) (s:=s) h
theorem head_loop (l:List Po) (hl:l.length≤1000):∀ k i (h:Str),i+k=l.length→h.length=32 →
  match encs (l.drop i) with
  | none=>L9_6 (h,l,(l.length:Int),(i:Int))=some (.inl ([],310))
  | some t=>∃ x,L9_6 (h,l,(l.length:Int),(i:Int))=some (.inr x)∧x.1=hd h t
 | 0,i,h,hi,hh=>by
  have:i=l.length:=by omega
  subst this
  rw [List.drop_length,encs]
  show ∃ x,L9_6 (h,l,(l.length:Int),(l.length:Int))=some (.inr x)∧x.1=hd h []
  refine ⟨(h,l,(l.length:Int),(l.length:Int)),l9_end (s:=(h,l,(l.length:Int),(l.length:Int))) ?_,rfl⟩
  have e:decide ((l.length:Int) < (l.length:Int))=false:=by simp
  unfold L9_6_r
  simp only [e,cond_false]
 | k+1,i,h,hi,hh=>by
  have hlt:i < l.length:=by omega
  have e1:decide ((i:Int) < (l.length:Int))=true:=by simp; omega
  have e2:decide ((0:Int)≤(i:Int))=true:=by simp
  have e4:IntKind.i64.wrap ((i:Int)+1)=((i+1:Nat):Int):=by rw [wrapI (by omega) (by omega)]; omega
  have hdd:l.drop i=l.getD i z26::l.drop (i+1):=getD_drop hlt
  rw [hdd,encs]
  cases hp:encP (l.getD i z26) with
  | none =>
   refine l9_end (s:=(h,l,(l.length:Int),(i:Int))) ?_
   have e5:((310:Int) != 0)=true:=rfl
   unfold L9_6_r
   simp only [e1,e2,Bool.and_self,Int.toNat_natCast,cond_true,P6_eq,F6_eq,hp,outE,e5]
  | some s =>
   have hs:=encP_len hp
   have e5:((0:Int) != 0)=false:=rfl
   have step:L9_6_r h l (l.length:Int) (i:Int)=some (.inl (D.chain h s,l,(l.length:Int),((i+1:Nat):Int))):=by
    unfold L9_6_r
    simp only [e1,e2,e4,Bool.and_self,Int.toNat_natCast,cond_true,P6_eq,F6_eq,hp,outE,e5,cond_false,D.P35_eq (a:=h) (b:=s) (by omega),D.F35_eq (a:=h) (b:=s) (by omega)]
   have ih:=head_loop l hl k (i+1) (D.chain h s) (by omega) (D.chain_len _ _)
   show match (encs (l.drop (i+1))).map (s::·) with
    | none=>L9_6 (h,l,(l.length:Int),(i:Int))=some (.inl ([],310))
    | some t=>∃ x,L9_6 (h,l,(l.length:Int),(i:Int))=some (.inr x)∧x.1=hd h t
   rw [l9_go (s:=(h,l,(l.length:Int),(i:Int))) step]
   cases hE:encs (l.drop (i+1)) with
   | none=>rw [hE] at ih; exact ih
   | some t =>
    rw [hE] at ih
    obtain ⟨x,k1,k2⟩:=ih
    exact ⟨x,k1,k2⟩
theorem rep_zeros:P34 [0] 32=true∧F34 [0] 32=D.zeros:=by decide +kernel
theorem G9_eq {x:Bk} (hl:x.2.1.length≤1000):G9 x=some (headM x):=by
 obtain ⟨t,h1,h2,h3⟩:=G33_eq x (by omega)
 unfold G9 headM
 simp only [P33_of _ h1,F33_of _ h1,cond_true,h2]
 cases hv:valid x with
 | false=>rfl
 | true =>
  obtain ⟨b',rfl,_⟩:=h3 hv
  simp only [Bool.not_true,cond_false,rep_zeros.1,rep_zeros.2,cond_true,List.take_length,if_true]
  have h:=head_loop x.2.1 hl x.2.1.length 0 D.zeros (by omega) rfl
  rw [List.drop_zero] at h
  cases hE:encs x.2.1 with
  | none =>
   rw [hE] at h
   have h':L9_6 (D.zeros,x.2.1,(x.2.1.length:Int),0)=some (.inl ([],310)):=h
   simp only [h',Option.bind_some]
  | some t =>
   rw [hE] at h
   obtain ⟨y,k1,k2⟩:=h
   have h':L9_6 (D.zeros,x.2.1,(x.2.1.length:Int),0)=some (.inr y):=k1
   simp only [h',Option.bind_some,k2]
theorem P9_eq {x:Bk} (hl:x.2.1.length≤1000):P9 x=true:=P9_of _ (G9_eq hl)
theorem F9_eq {x:Bk} (hl:x.2.1.length≤1000):F9 x=headM x:=F9_of _ (G9_eq hl)
end Go.Ev.T
namespace Go.Ev.T
open Go Go.Ev
theorem rows5_of {l:List (List Int)} (h:Good (.list (.arr 5 (.int .i64))) l):Rows5 l:=by
 obtain ⟨h1,h2⟩:=h
 refine ⟨?_,fun i k=>?_⟩
 ·have:l.length * 40≤140737488351232:=h1
  omega
 ·have z:I64 0:=by unfold I64; omega
  rw [List.getD_eq_getElem?_getD]
  cases hk:(l.getD i (List.replicate 5 0))[k]? with
  | none=>exact z
  | some n =>
   have hm:n∈l.getD i (List.replicate 5 0):=List.mem_of_getElem? hk
   rw [List.getD_eq_getElem?_getD] at hm
   cases hi:l[i]? with
   | none=>rw [hi] at hm; have:=List.eq_of_mem_replicate hm; subst this; exact z
   | some v =>
    rw [hi] at hm
    exact good_int ((h2 v (List.mem_of_getElem? hi)).2 n hm)
end Go.Ev.T
namespace Go.Ev.T
open Go Go.Ev
theorem okAll_pre {a:Int} {l:List Po} (h:okAll a [] l=true):∀ i,i≤l.length→okAll a [] (l.take i)=true:=by
 have:∀ (n i:Nat),n=l.length - i→i≤l.length→okAll a [] (l.take i)=true:=by
  intro n; induction n with
  | zero=>intro i hn hi; rw [List.take_of_length_le (by omega)]; exact h
  | succ n ih =>
   intro i hn hi
   have h1:=ih (i+1) (by omega) (by omega)
   rw [← take_getD (by omega),okAll_app,Bool.and_eq_true] at h1
   exact h1.1
 intro i hi; exact this _ i rfl hi
theorem eqv_po (x y:Po):eqv t26 x y=true↔x=y:=by
 obtain ⟨a1,a2,a3,a4,a5,a6,a7,u⟩:=x
 obtain ⟨b1,b2,b3,b4,b5,b6,b7,v⟩:=y
 simp only [eqv,Bool.and_eq_true,beq_iff_eq,Prod.mk.injEq,and_true]
theorem l14_go {a b:List Po} {i i':Int} (h:L14_4_r a b i=some (.inl (a,b,i'))):L14_4 (a,b,i)=L14_4 (a,b,i') :=
 lim_go (r:=fun s:List Po×List Po×Int=>L14_4_r s.1 s.2.1 s.2.2) (s:=(a,b,i)) h
theorem l14_end {a b:List Po} {i:Int} {x:Bool⊕(List Po×List Po×Int)} (h:L14_4_r a b i=some (.inr x)):L14_4 (a,b,i)=some x :=
 lim_end (r:=fun s:List Po×List Po×Int=>L14_4_r s.1 s.2.1 s.2.2) (s:=(a,b,i)) h
theorem same_loop {a b:List Po} (hl:a.length=b.length) (hb:a.length≤1000000):∀ k i,i+k=a.length→(L14_4 (a,b,(i:Int))=some (.inl false)∧a.drop i≠b.drop i)∨(L14_4 (a,b,(i:Int))=some (.inr (a,b,(a.length:Int)))∧a.drop i=b.drop i)
 | 0,i,hi=>by
  have hi':i=a.length:=by omega
  subst hi'
  refine .inr ⟨l14_end ?_,by rw [List.drop_length,hl,List.drop_length]⟩
  have e:decide ((a.length:Int) < (a.length:Int))=false:=by simp
  unfold L14_4_r
  simp only [e,cond_false]
 | k+1,i,hi=>by
  have h1:i < a.length:=by omega
  have h2:i < b.length:=by omega
  have e1:decide ((i:Int) < (a.length:Int))=true:=by simp; omega
  have e2:decide ((i:Int) < (b.length:Int))=true:=by simp; omega
  have e3:decide ((0:Int)≤(i:Int))=true:=by simp
  have e4:IntKind.i64.wrap ((i:Int)+1)=((i+1:Nat):Int):=by rw [wrapI (by omega) (by omega)]; omega
  have d1:=getD_drop h1
  have d2:=getD_drop h2
  cases hc:eqv t26 (a.getD i z26) (b.getD i z26) with
  | false =>
   refine .inl ⟨l14_end ?_,?_⟩
   ·unfold L14_4_r
    simp only [e1,e2,e3,Bool.and_self,cond_true,Int.toNat_natCast,hc,Bool.not_false]
   ·rw [d1,d2]; intro h
    rw [(eqv_po _ _).2 (List.cons.inj h).1] at hc; cases hc
  | true =>
   have step:L14_4_r a b (i:Int)=some (.inl (a,b,((i+1:Nat):Int))):=by
    unfold L14_4_r
    simp only [e1,e2,e3,e4,Bool.and_self,cond_true,Int.toNat_natCast,hc,Bool.not_true,cond_false]
   have he:=(eqv_po _ _).1 hc
   rw [l14_go step]
   rcases same_loop hl hb k (i+1) (by omega) with ⟨h3,h4⟩ | ⟨h3,h4⟩
   ·refine .inl ⟨h3,?_⟩
    rw [d1,d2]; intro h; exact h4 (List.cons.inj h).2
   ·refine .inr ⟨h3,?_⟩
    rw [d1,d2,he,h4]
theorem G14_eq {a b:List Po} (hb:a.length≤1000000):∃ r,G14 a b=some r∧(r=true↔a=b):=by
 unfold G14
 by_cases h:a.length=b.length
 ·have e:(((a.length:Nat):Int) != ((b.length:Nat):Int))=false:=by simp; omega
  have hs:=same_loop h hb a.length 0 (by omega)
  rw [List.drop_zero,List.drop_zero] at hs
  rcases hs with ⟨h3,h4⟩ | ⟨h3,h4⟩
  ·have h3':L14_4 (a,b,0)=some (.inl false):=h3
   exact ⟨false,by simp only [e,cond_false,h3',Option.bind_some],by simp [h4]⟩
  ·have h3':L14_4 (a,b,0)=some (.inr (a,b,(a.length:Int))):=h3
   exact ⟨true,by simp only [e,cond_false,h3',Option.bind_some],by simp [h4]⟩
 ·have e:(((a.length:Nat):Int) != ((b.length:Nat):Int))=true:=by simp; omega
  exact ⟨false,by simp only [e,cond_true],by simp; intro h'; exact h (by rw [h'])⟩
theorem hdM_rev (t:List Str):D.hdM t.reverse=hd D.zeros t:=by
 have:∀ r:List Str,D.hdM r=hd D.zeros r.reverse:=by
  intro r
  induction r with
  | nil=>rfl
  | cons s r ih=>rw [D.hdM,ih,List.reverse_cons,hd_app]
 rw [this,List.reverse_reverse]
abbrev S11:=List Str×Bool×List Str×Int
theorem l11_go {s s':S11} (h:L11_4_r s.1 s.2.1 s.2.2.1 s.2.2.2=some (.inl s')):L11_4 s=L11_4 s' :=
 lim_go (r:=fun s:S11=>L11_4_r s.1 s.2.1 s.2.2.1 s.2.2.2) (s:=s) h
theorem l11_end {s x:S11} (h:L11_4_r s.1 s.2.1 s.2.2.1 s.2.2.2=some (.inr x)):L11_4 s=some x :=
 lim_end (r:=fun s:S11=>L11_4_r s.1 s.2.1 s.2.2.1 s.2.2.2) (s:=s) h
def texts (t:List Str):List Str:=(D.preM t.reverse).reverse
theorem texts_len (t:List Str):(texts t).length=t.length:=by rw [texts,List.length_reverse,D.pre_len,List.length_reverse]
theorem texts_mem {t:List Str} (ht:∀ s∈t,s.length≤100):∀ x∈texts t,x.length≤1000:=fun x hx=>D.pre_mem t.reverse (fun y hy=>ht y (by simpa using hy)) x (by simpa [texts] using hx)
theorem texts_loop (t:List Str) (hl:t.length≤1000) (hx:∀ s∈t,s.length≤100):∀ k i,i+k=t.length→L11_4 (t,true,texts (t.take i),(i:Int))=some (t,true,texts t,(t.length:Int))
 | 0,i,hi=>by
  have:i=t.length:=by omega
  subst this
  rw [List.take_length]
  refine l11_end (s:=(t,true,texts t,(t.length:Int))) ?_
  have e:decide ((t.length:Int) < (t.length:Int))=false:=by simp
  unfold L11_4_r
  simp only [e,cond_false]
 | k+1,i,hi=>by
  have hlt:i < t.length:=by omega
  have e1:decide ((i:Int) < (t.length:Int))=true:=by simp; omega
  have e2:decide ((0:Int)≤(i:Int))=true:=by simp
  have e4:IntKind.i64.wrap ((i:Int)+1)=((i+1:Nat):Int):=by rw [wrapI (by omega) (by omega)]; omega
  have e5:sliceTest (0:Int) (i:Int) (t.length:Int)=true:=D.sliceT (a:=0) (by omega) (by omega)
  have g:t.getD i []=t[i]:=by simp [List.getD_eq_getElem?_getD,hlt]
  have hm:=hx _ (List.getElem_mem hlt)
  have htk:(t.take i).length≤1000:=by simp; omega
  have htx:∀ s∈t.take i,s.length≤100:=fun s hs=>hx s (List.mem_of_mem_take hs)
  have hh:=hd_len (t.take i) D.zeros rfl
  have s1:∀ x:Str,List.set (List.replicate 1 ([]:List UInt8)) 0 x=[x]:=fun _=>rfl
  have f1:∀ x:Str,decide ((texts (t.take i)).length+[x].length≤100000000000)=true:=fun x=>by rw [texts_len]; simp; omega
  have c1:decide (([2]:List UInt8).length+(hd D.zeros (t.take i)).length≤9223372036854775807)=true:=by rw [hh]; rfl
  have c2:decide ((([2]:List UInt8)++hd D.zeros (t.take i)).length+t[i].length≤9223372036854775807)=true:=by simp; omega
  have hn:texts (t.take i)++[[2]++hd D.zeros (t.take i)++t[i]]=texts (t.take (i+1)):=by
   have ht:t.take (i+1)=t.take i++[t[i]]:=by rw [List.take_add_one (l:=t) (i:=i),List.getElem?_eq_getElem hlt]; rfl
   unfold texts
   rw [ht,List.reverse_append,List.reverse_singleton,List.singleton_append]
   show _=((2::(D.hdM (t.take i).reverse++t[i]))::D.preM (t.take i).reverse).reverse
   rw [List.reverse_cons,hdM_rev]
   rfl
  have step:L11_4_r t true (texts (t.take i)) (i:Int)=some (.inl (t,true,texts (t.take (i+1)),((i+1:Nat):Int))):=by
   unfold L11_4_r
   simp only [e1,e2,e4,e5,Bool.and_self,cond_true,Int.toNat_natCast,D.cut0,P12_eq htk htx,F12_eq htk htx,g,c1,c2,s1,f1,List.take_length,hn]
  rw [l11_go (s:=(t,true,texts (t.take i),(i:Int))) step]
  exact texts_loop t hl hx k (i+1) (by omega)
theorem G11_eq {l:List Po} {t:List Str} (hl:l.length≤1000) (ht:encs l=some t):G11 l=some (texts t):=by
 obtain ⟨k1,k2⟩:=encs_len _ _ ht
 have h:=texts_loop t (by omega) k2 t.length 0 (by omega)
 have h':L11_4 (t,true,[],0)=some (t,true,texts t,(t.length:Int)):=h
 unfold G11
 simp only [P36_eq hl,F36_eq hl,encd,ht,cond_true,h',Option.bind_some,List.take_length]
def colP (x y:Str):Bool:=!(x==y) && D.sha x==D.sha y
def coll (a b:List Str):Bool:=a.any fun x=>b.any fun y=>colP x y
abbrev S153:=List Str×List Str×List Str×Int
theorem l153_go {s s':S153} (h:L15_3_r s.1 s.2.1 s.2.2.1 s.2.2.2=some (.inl s')):L15_3 s=L15_3 s' :=
 lim_go (r:=fun s:S153=>L15_3_r s.1 s.2.1 s.2.2.1 s.2.2.2) (s:=s) h
theorem l153_end {s x:S153} (h:L15_3_r s.1 s.2.1 s.2.2.1 s.2.2.2=some (.inr x)):L15_3 s=some x :=
 lim_end (r:=fun s:S153=>L15_3_r s.1 s.2.1 s.2.2.1 s.2.2.2) (s:=s) h
theorem sums_loop (a b:List Str) (hl:b.length≤1000) (hx:∀ s∈b,s.length≤1000):∀ k i,i+k=b.length→L15_3 (a,b,(b.take i).map D.sha,(i:Int))=some (a,b,b.map D.sha,(b.length:Int))
 | 0,i,hi=>by
  have:i=b.length:=by omega
  subst this
  rw [List.take_length]
  refine l153_end (s:=(a,b,b.map D.sha,(b.length:Int))) ?_
  have e:decide ((b.length:Int) < (b.length:Int))=false:=by simp
  unfold L15_3_r
  simp only [e,cond_false]
 | k+1,i,hi=>by
  have hlt:i < b.length:=by omega
  have e1:decide ((i:Int) < (b.length:Int))=true:=by simp; omega
  have e2:decide ((0:Int)≤(i:Int))=true:=by simp
  have e4:IntKind.i64.wrap ((i:Int)+1)=((i+1:Nat):Int):=by rw [wrapI (by omega) (by omega)]; omega
  have g:b.getD i []=b[i]:=by simp [List.getD_eq_getElem?_getD,hlt]
  have hm:=hx _ (List.getElem_mem hlt)
  have s1:∀ x:Str,List.set (List.replicate 1 ([]:List UInt8)) 0 x=[x]:=fun _=>rfl
  have f1:∀ x:Str,decide (((b.take i).map D.sha).length+[x].length≤100000000000)=true:=fun x=>by simp; omega
  have hn:(b.take i).map D.sha++[D.sha b[i]]=(b.take (i+1)).map D.sha:=by
   rw [List.take_add_one (l:=b) (i:=i),List.getElem?_eq_getElem hlt,List.map_append]; rfl
  have step:L15_3_r a b ((b.take i).map D.sha) (i:Int)=some (.inl (a,b,(b.take (i+1)).map D.sha,((i+1:Nat):Int))):=by
   unfold L15_3_r
   simp only [e1,e2,e4,Bool.and_self,cond_true,Int.toNat_natCast,g,D.P13_eq (s:=b[i]) (by omega),D.F13_eq (s:=b[i]) (by omega),s1,f1,List.take_length,hn]
  rw [l153_go (s:=(a,b,(b.take i).map D.sha,(i:Int))) step]
  exact sums_loop a b hl hx k (i+1) (by omega)
abbrev S1511:=List Str×List Str×List Str×Int×Str×Int
theorem l1511_go {s s':S1511} (h:L15_11_r s.1 s.2.1 s.2.2.1 s.2.2.2.1 s.2.2.2.2.1 s.2.2.2.2.2=some (.inl s')):L15_11 s=L15_11 s' :=
 lim_go (r:=fun s:S1511=>L15_11_r s.1 s.2.1 s.2.2.1 s.2.2.2.1 s.2.2.2.2.1 s.2.2.2.2.2) (s:=s) h
theorem l1511_end {s:S1511} {x:Bool⊕S1511} (h:L15_11_r s.1 s.2.1 s.2.2.1 s.2.2.2.1 s.2.2.2.2.1 s.2.2.2.2.2=some (.inr x)):L15_11 s=some x :=
 lim_end (r:=fun s:S1511=>L15_11_r s.1 s.2.1 s.2.2.1 s.2.2.2.1 s.2.2.2.2.1 s.2.2.2.2.2) (s:=s) h
theorem inner_loop (a b:List Str) (hb:b.length≤1000) {j:Nat} (hj:j < a.length):∀ k i,i+k=b.length →
  (L15_11 (a,b,b.map D.sha,(j:Int),D.sha (a.getD j []),(i:Int))=some (.inl true)∧(b.drop i).any (fun y=>colP (a.getD j []) y)=true) ∨
  (L15_11 (a,b,b.map D.sha,(j:Int),D.sha (a.getD j []),(i:Int))=some (.inr (a,b,b.map D.sha,(j:Int),D.sha (a.getD j []),(b.length:Int)))∧(b.drop i).any (fun y=>colP (a.getD j []) y)=false)
 | 0,i,hi=>by
  have:i=b.length:=by omega
  subst this
  refine .inr ⟨l1511_end (s:=(a,b,b.map D.sha,(j:Int),D.sha (a.getD j []),(b.length:Int))) ?_,by rw [List.drop_length]; rfl⟩
  have e:decide ((b.length:Int) < (b.length:Int))=false:=by simp
  unfold L15_11_r
  simp only [e,cond_false]
 | k+1,i,hi=>by
  have hlt:i < b.length:=by omega
  have e1:decide ((i:Int) < (b.length:Int))=true:=by simp; omega
  have e2:decide ((0:Int)≤(i:Int))=true:=by simp
  have e3:decide ((0:Int)≤(j:Int))=true:=by simp
  have e4:IntKind.i64.wrap ((i:Int)+1)=((i+1:Nat):Int):=by rw [wrapI (by omega) (by omega)]; omega
  have e5:decide ((j:Int) < (a.length:Int))=true:=by simp; omega
  have e6:decide ((i:Int) < (((b.map D.sha).length:Nat):Int))=true:=by simp; omega
  have e7:decide (i < (b.map D.sha).length)=true:=by simp; omega
  have g:b.getD i []=b[i]:=by simp [List.getD_eq_getElem?_getD,hlt]
  have g2:(b.map D.sha).getD i []=D.sha b[i]:=by simp [List.getD_eq_getElem?_getD,hlt]
  have hd:b.drop i=b[i]::b.drop (i+1):=List.drop_eq_getElem_cons hlt
  have hq:(bif !(a.getD j []==b[i]) then D.sha (a.getD j [])==D.sha b[i] else false)=colP (a.getD j []) b[i]:=by
   unfold colP
   cases (a.getD j []==b[i])<;>simp
  cases hc:colP (a.getD j []) b[i] with
  | true =>
   rw [hc] at hq
   refine .inl ⟨l1511_end (s:=(a,b,b.map D.sha,(j:Int),D.sha (a.getD j []),(i:Int))) ?_,by rw [hd,List.any_cons,hc]; rfl⟩
   unfold L15_11_r
   simp only [e1,e2,e3,e5,e6,e7,Bool.and_self,cond_true,Int.toNat_natCast,g,g2,Bool.true_or,hq]
  | false =>
   rw [hc] at hq
   have step:L15_11_r a b (b.map D.sha) (j:Int) (D.sha (a.getD j [])) (i:Int)=some (.inl (a,b,b.map D.sha,(j:Int),D.sha (a.getD j []),((i+1:Nat):Int))):=by
    unfold L15_11_r
    simp only [e1,e2,e3,e4,e5,e6,e7,Bool.and_self,cond_true,cond_false,Int.toNat_natCast,g,g2,Bool.true_or,hq]
   rw [l1511_go (s:=(a,b,b.map D.sha,(j:Int),D.sha (a.getD j []),(i:Int))) step,hd,List.any_cons,hc,Bool.false_or]
   exact inner_loop a b hb hj k (i+1) (by omega)
theorem l157_go {s s':S153} (h:L15_7_r s.1 s.2.1 s.2.2.1 s.2.2.2=some (.inl s')):L15_7 s=L15_7 s' :=
 lim_go (r:=fun s:S153=>L15_7_r s.1 s.2.1 s.2.2.1 s.2.2.2) (s:=s) h
theorem l157_end {s:S153} {x:Bool⊕S153} (h:L15_7_r s.1 s.2.1 s.2.2.1 s.2.2.2=some (.inr x)):L15_7 s=some x :=
 lim_end (r:=fun s:S153=>L15_7_r s.1 s.2.1 s.2.2.1 s.2.2.2) (s:=s) h
theorem outer_loop (a b:List Str) (ha:a.length≤1000) (hb:b.length≤1000) (hx:∀ s∈a,s.length≤1000):∀ k j,j+k=a.length →
  (L15_7 (a,b,b.map D.sha,(j:Int))=some (.inl true)∧coll (a.drop j) b=true)∨(∃ s,L15_7 (a,b,b.map D.sha,(j:Int))=some (.inr s)∧coll (a.drop j) b=false)
 | 0,j,hj=>by
  have:j=a.length:=by omega
  subst this
  refine .inr ⟨(a,b,b.map D.sha,(a.length:Int)),l157_end (s:=(a,b,b.map D.sha,(a.length:Int))) ?_,by rw [List.drop_length]; rfl⟩
  have e:decide ((a.length:Int) < (a.length:Int))=false:=by simp
  unfold L15_7_r
  simp only [e,cond_false]
 | k+1,j,hj=>by
  have hlt:j < a.length:=by omega
  have e1:decide ((j:Int) < (a.length:Int))=true:=by simp; omega
  have e2:decide ((0:Int)≤(j:Int))=true:=by simp
  have e4:IntKind.i64.wrap ((j:Int)+1)=((j+1:Nat):Int):=by rw [wrapI (by omega) (by omega)]; omega
  have g:a.getD j []=a[j]:=by simp [List.getD_eq_getElem?_getD,hlt]
  have hm:(a.getD j []).length≤1000000000:=by
   rw [g]; have:=hx _ (List.getElem_mem hlt); omega
  have hd:a.drop j=a.getD j []::a.drop (j+1):=by rw [g]; exact List.drop_eq_getElem_cons hlt
  have hc:coll (a.drop j) b=(b.any (fun y=>colP (a.getD j []) y) || coll (a.drop (j+1)) b):=by rw [hd]; rfl
  have hi:=inner_loop a b hb hlt b.length 0 (by omega)
  rw [List.drop_zero] at hi
  rcases hi with ⟨h1,h2⟩ | ⟨h1,h2⟩
  ·have h1':L15_11 (a,b,b.map D.sha,(j:Int),D.sha (a.getD j []),0)=some (.inl true):=h1
   refine .inl ⟨l157_end (s:=(a,b,b.map D.sha,(j:Int))) ?_,by rw [hc,h2]; rfl⟩
   unfold L15_7_r
   simp only [e1,e2,Bool.and_self,cond_true,Int.toNat_natCast,D.P13_eq hm,D.F13_eq hm,h1',Option.bind_some]
  ·have h1':L15_11 (a,b,b.map D.sha,(j:Int),D.sha (a.getD j []),0)=some (.inr (a,b,b.map D.sha,(j:Int),D.sha (a.getD j []),(b.length:Int))):=h1
   have step:L15_7_r a b (b.map D.sha) (j:Int)=some (.inl (a,b,b.map D.sha,((j+1:Nat):Int))):=by
    unfold L15_7_r
    simp only [e1,e2,e4,Bool.and_self,cond_true,Int.toNat_natCast,D.P13_eq hm,D.F13_eq hm,h1',Option.bind_some]
   rw [l157_go (s:=(a,b,b.map D.sha,(j:Int))) step,hc,h2,Bool.false_or]
   exact outer_loop a b ha hb hx k (j+1) (by omega)
theorem G15_eq {a b:List Str} (ha:a.length≤1000) (hb:b.length≤1000) (hx:∀ s∈a,s.length≤1000) (hy:∀ s∈b,s.length≤1000):G15 a b=some (coll a b):=by
 have h:=sums_loop a b hb hy b.length 0 (by omega)
 have h':L15_3 (a,b,[],0)=some (a,b,b.map D.sha,(b.length:Int)):=h
 have ho:=outer_loop a b ha hb hx a.length 0 (by omega)
 rw [List.drop_zero] at ho
 unfold G15
 rcases ho with ⟨h1,h2⟩ | ⟨s,h1,h2⟩
 ·have h1':L15_7 (a,b,b.map D.sha,0)=some (.inl true):=h1
  simp only [h',Option.bind_some,h1',h2]
 ·have h1':L15_7 (a,b,b.map D.sha,0)=some (.inr s):=h1
  simp only [h',Option.bind_some,h1',h2]
theorem coll_of {a b:List Str} (h:D.collideM a b=true) {c d:List Str} (h1:∀ x∈a,x∈c) (h2:∀ x∈b,x∈d):coll c d=true:=by
 obtain ⟨⟨x,y⟩,hm,hp⟩:=List.any_eq_true.1 h
 simp only [bne,Bool.and_eq_true] at hp
 exact List.any_eq_true.2 ⟨x,h1 x (List.of_mem_zip hm).1,List.any_eq_true.2 ⟨y,h2 y (List.of_mem_zip hm).2,by unfold colP; simp only [Bool.and_eq_true]; exact hp⟩⟩
end Go.Ev.T
namespace Go.Ev.T
open Go Go.Ev
theorem encL_some:∀ l:List Int,(∀ n∈l,-4611686018427387903≤n∧n≤4611686018427387903)→∃ s,encL l=some s
 | [],_=>⟨[],rfl⟩
 | n::l,h=>by
  obtain ⟨s,hs⟩:=encL_some l (fun m hm=>h m (List.mem_cons_of_mem _ hm))
  have:=h n (by simp)
  exact ⟨W.enc n++s,by rw [encL,if_neg (by omega),hs]; rfl⟩
theorem encP_formed {p:Po} {a:Int} (h:formed p a=true) (h1:2≤a) (h2:a≤12):∃ s,encP p=some s:=by
 have hf:=formed_iff.1 h
 have hw:IntKind.i64.wrap (a - 1)=a - 1:=wrapI (by omega) (by omega)
 rw [hw] at hf
 refine encL_some _ fun n hn=>?_
 simp only [pl,List.mem_cons,List.not_mem_nil,or_false] at hn
 rcases hn with rfl | rfl | rfl | rfl | rfl | rfl | rfl<;>omega
theorem encs_some {a:Int} (h1:2≤a) (h2:a≤12):∀ l:List Po,(∀ p∈l,formed p a=true)→∃ t,encs l=some t
 | [],_=>⟨[],rfl⟩
 | p::l,h=>by
  obtain ⟨s,hs⟩:=encP_formed (h p (by simp)) h1 h2
  obtain ⟨t,ht⟩:=encs_some h1 h2 l (fun q hq=>h q (List.mem_cons_of_mem _ hq))
  exact ⟨s::t,by rw [encs,hs]; simp only [ht,Option.map_some]⟩
theorem encs_valid {x:Bk} (h:valid x=true):∃ t,encs x.2.1=some t:=by
 obtain ⟨h1,h2,_⟩:=valid_iff.1 h
 exact encs_some h2.1 h2.2 _ (okAll_formed h1)
theorem encs_app:∀ (l:List Po) (p:Po) (t:List Str),encs (l++[p])=some t→∃ t' s,t=t'++[s]∧encs l=some t'∧encP p=some s
 | [],p,t,h=>by
  rw [List.nil_append,encs] at h
  cases hp:encP p with
  | none=>rw [hp] at h; cases h
  | some s=>rw [hp] at h; cases h; exact ⟨[],s,rfl,rfl,rfl⟩
 | q::l,p,t,h=>by
  rw [List.cons_append,encs] at h
  cases hq:encP q with
  | none=>rw [hq] at h; cases h
  | some s0 =>
   rw [hq] at h
   obtain ⟨u,h1,rfl⟩:=Option.map_eq_some_iff.1 h
   obtain ⟨t',s,rfl,k1,k2⟩:=encs_app l p u h1
   exact ⟨s0::t',s,rfl,by rw [encs,hq]; simp only [k1,Option.map_some],k2⟩
abbrev S4:=Bool×Str×Str×List Str×List Str×Str×Bool×List Str×Int×Int×Int×List Po×Int×Int×List Po×Int
theorem l413_go {s s':S4} (h:L4_13_r s.1 s.2.1 s.2.2.1 s.2.2.2.1 s.2.2.2.2.1 s.2.2.2.2.2.1 s.2.2.2.2.2.2.1 s.2.2.2.2.2.2.2.1 s.2.2.2.2.2.2.2.2.1 s.2.2.2.2.2.2.2.2.2.1 s.2.2.2.2.2.2.2.2.2.2.1 s.2.2.2.2.2.2.2.2.2.2.2.1 s.2.2.2.2.2.2.2.2.2.2.2.2.1 s.2.2.2.2.2.2.2.2.2.2.2.2.2.1 s.2.2.2.2.2.2.2.2.2.2.2.2.2.2.1 s.2.2.2.2.2.2.2.2.2.2.2.2.2.2.2=some (.inl s')):L4_13 s=L4_13 s':=by
 unfold L4_13
 exact lim_go h
theorem l413_end {s x:S4} (h:L4_13_r s.1 s.2.1 s.2.2.1 s.2.2.2.1 s.2.2.2.2.1 s.2.2.2.2.2.1 s.2.2.2.2.2.2.1 s.2.2.2.2.2.2.2.1 s.2.2.2.2.2.2.2.2.1 s.2.2.2.2.2.2.2.2.2.1 s.2.2.2.2.2.2.2.2.2.2.1 s.2.2.2.2.2.2.2.2.2.2.2.1 s.2.2.2.2.2.2.2.2.2.2.2.2.1 s.2.2.2.2.2.2.2.2.2.2.2.2.2.1 s.2.2.2.2.2.2.2.2.2.2.2.2.2.2.1 s.2.2.2.2.2.2.2.2.2.2.2.2.2.2.2=some (.inr x)):L4_13 s=some x:=by
 unfold L4_13
 exact lim_end h
theorem nought_loop (up:Bool) (x y:Str) (one two:List Str) (z:Str) (V:List Str) (hV:V.length≤10000) (hx:∀ s∈V,s.length≤1000) (a c a' c':Int) (p p':List Po):∀ k i (f:Bool),i+k=V.length →
  L4_13 (up,x,y,one,two,z,f,V,(V.length:Int),(i:Int),a,p,c,a',p',c')=some (up,x,y,one,two,z,f || (V.drop i).any (fun s=>D.sha s==z),V,(V.length:Int),(V.length:Int),a,p,c,a',p',c')
 | 0,i,f,hi=>by
  have:i=V.length:=by omega
  subst this
  rw [List.drop_length,List.any_nil,Bool.or_false]
  refine l413_end (s:=(up,x,y,one,two,z,f,V,(V.length:Int),(V.length:Int),a,p,c,a',p',c')) ?_
  have e:decide ((V.length:Int) < (V.length:Int))=false:=by simp
  unfold L4_13_r
  simp only [e,cond_false]
 | k+1,i,f,hi=>by
  have hlt:i < V.length:=by omega
  have e1:decide ((i:Int) < (V.length:Int))=true:=by simp; omega
  have e2:decide ((0:Int)≤(i:Int))=true:=by simp
  have e3:decide (i < V.length)=true:=by simp; omega
  have e4:IntKind.i64.wrap ((i:Int)+1)=((i+1:Nat):Int):=by rw [wrapI (by omega) (by omega)]; omega
  have g:V.getD i []=V[i]:=by simp [List.getD_eq_getElem?_getD,hlt]
  have hm:V[i].length≤1000000000:=by have:=hx _ (List.getElem_mem hlt); omega
  have hd:V.drop i=V[i]::V.drop (i+1):=List.drop_eq_getElem_cons hlt
  have hb:(bif f then true else D.sha V[i]==z)=(f || D.sha V[i]==z):=by cases f<;>rfl
  have step:L4_13_r up x y one two z f V (V.length:Int) (i:Int) a p c a' p' c'=some (.inl (up,x,y,one,two,z,f || D.sha V[i]==z,V,(V.length:Int),((i+1:Nat):Int),a,p,c,a',p',c')):=by
   unfold L4_13_r
   simp only [e1,e2,e3,e4,Bool.and_self,cond_true,Int.toNat_natCast,g,D.P13_eq hm,D.F13_eq hm,Bool.true_or,hb]
  rw [l413_go (s:=(up,x,y,one,two,z,f,V,(V.length:Int),(i:Int),a,p,c,a',p',c')) step,hd,List.any_cons,← Bool.or_assoc]
  exact nought_loop up x y one two z V hV hx a c a' c' p p' k (i+1) _ (by omega)
theorem head_of {x:Bk} (hv:valid x=true) {t:List Str} (ht:encs x.2.1=some t):headM x=(hd D.zeros t,0):=by
 unfold headM; rw [if_pos hv,ht]
theorem heads_bind {t u:List Str} (h:hd D.zeros t=hd D.zeros u) (hne:t≠u):coll (texts t) (texts u)=true∨(texts t++texts u).any (fun s=>D.sha s==D.zeros)=true:=by
 have hr:t.reverse≠u.reverse:=fun e=>hne (List.reverse_inj.1 e)
 have hm:∀ v:List Str,∀ x∈D.preM v.reverse,x∈texts v:=fun v x hx=>by unfold texts; simpa using hx
 have hz:∀ v:List Str,∀ k,k < v.length→D.sha ((D.preM v.reverse).getD k [])=D.zeros→∃ x∈texts v,D.sha x=D.zeros:=fun v k hk hs=>by
  have hl:k < (D.preM v.reverse).length:=by rw [D.pre_len,List.length_reverse]; exact hk
  refine ⟨(D.preM v.reverse).getD k [],hm v _ ?_,hs⟩
  simp only [List.getD_eq_getElem?_getD,List.getElem?_eq_getElem hl,Option.getD_some]
  exact List.getElem_mem hl
 have fin:(∃ x∈texts t,D.sha x=D.zeros)∨(∃ x∈texts u,D.sha x=D.zeros)→(texts t++texts u).any (fun s=>D.sha s==D.zeros)=true:=fun h=>by
  rw [List.any_eq_true]
  rcases h with ⟨x,h1,h2⟩ | ⟨x,h1,h2⟩
  ·exact ⟨x,List.mem_append_left _ h1,by rw [h2]; simp⟩
  ·exact ⟨x,List.mem_append_right _ h1,by rw [h2]; simp⟩
 by_cases hl:t.length≤u.length
 ·rcases D.chain_bind t.reverse u.reverse (by rw [hdM_rev,hdM_rev]; exact h) hr (by simpa using hl) with ⟨h1,_⟩ | ⟨h1,h2⟩
  ·exact .inl (coll_of h1 (hm t) (hm u))
  ·exact .inr (fin (.inr (hz u _ (by simpa using h1) h2)))
 ·rcases D.chain_bind u.reverse t.reverse (by rw [hdM_rev,hdM_rev]; exact h.symm) (fun e=>hr e.symm) (by simp; omega) with ⟨h1,_⟩ | ⟨h1,h2⟩
  ·rw [D.collide_comm] at h1
   exact .inl (coll_of h1 (hm t) (hm u))
  ·exact .inr (fin (.inl (hz t _ (by simpa using h1) h2)))
theorem BookHeads_pure (x0:Int) (x1 x2:List (List Int)) (g0:Good (.int .i64) x0) (g1:Good (.list (.arr 5 (.int .i64))) x1) (g2:Good (.list (.arr 5 (.int .i64))) x2):G4 x0 x1 x2=some true:=by
 obtain ⟨a,ha,hma⟩:=G8_eq (good_int g0) (rows5_of g1)
 obtain ⟨b,hb,hmb⟩:=G8_eq (good_int g0) (rows5_of g2)
 have la:=hma.2.1
 have lb:=hmb.2.1
 obtain ⟨t,ht⟩:=encs_valid hma.1
 obtain ⟨u,hu⟩:=encs_valid hmb.1
 obtain ⟨t1,t2⟩:=encs_len _ _ ht
 obtain ⟨u1,u2⟩:=encs_len _ _ hu
 have h9a:a.2.1.length≤1000:=by omega
 have h9b:b.2.1.length≤1000:=by omega
 have ha9:=head_of hma.1 ht
 have hb9:=head_of hmb.1 hu
 have e32:((((hd D.zeros t).length:Nat):Int) != 32)=false:=by rw [hd_len t _ rfl]; rfl
 have g11a:=G11_eq h9a ht
 have g11b:=G11_eq h9b hu
 have g12:G12 []=some D.zeros:=G12_eq (t:=[]) (by simp) (by simp)
 have lt:=texts_len t
 have lu:=texts_len u
 have mt:=texts_mem t2
 have mu:=texts_mem u2
 have z:(List.replicate 0 ([]:List UInt8))=[]:=rfl
 have f0:decide (([]:List Str).length+(texts t).length≤100000000000)=true:=by rw [lt]; simp; omega
 have f1:decide ((texts t).length+(texts u).length≤100000000000)=true:=by rw [lt,lu]; simp; omega
 have ztk:List.take ([]:List Str).length ([]:List Str)=[]:=rfl
 obtain ⟨V,hV⟩:∃ V,V=texts t++texts u:=⟨_,rfl⟩
 have lV:V.length≤10000:=by rw [hV,List.length_append,lt,lu]; omega
 have mV:∀ s∈V,s.length≤1000:=fun s hs=>by
  rw [hV] at hs
  rcases List.mem_append.1 hs with hs | hs
  ·exact mt s hs
  ·exact mu s hs
 have hloop:=nought_loop true (hd D.zeros t) (hd D.zeros u) (texts t) (texts u) D.zeros V lV mV a.1 a.2.2.1 b.1 b.2.2.1 a.2.1 b.2.1 V.length 0 false (by omega)
 rw [List.drop_zero,Bool.false_or] at hloop
 have hloop':L4_13 (true,hd D.zeros t,hd D.zeros u,texts t,texts u,D.zeros,false,V,(V.length:Int),0,a.1,a.2.1,a.2.2.1,b.1,b.2.1,b.2.2.1)=some (true,hd D.zeros t,hd D.zeros u,texts t,texts u,D.zeros,V.any (fun s=>D.sha s==D.zeros),V,(V.length:Int),(V.length:Int),a.1,a.2.1,a.2.2.1,b.1,b.2.1,b.2.2.1):=hloop
 obtain ⟨r,hr14,hr⟩:=G14_eq (a:=a.2.1) (b:=b.2.1) (by omega)
 have g15:=G15_eq (a:=texts t) (b:=texts u) (by omega) (by omega) mt mu
 have hmain:(bif (bif !(eqv .bool (hd D.zeros t==hd D.zeros u) r) then !coll (texts t) (texts u) else false) then !(V.any fun s=>D.sha s==D.zeros) else false)=false:=by
  cases hrr:r with
  | true =>
   have hpe:=hr.1 hrr
   rw [hpe,hu] at ht
   cases ht
   simp [eqv]
  | false =>
   cases hh:(hd D.zeros t==hd D.zeros u) with
   | false=>rfl
   | true =>
    have heq:hd D.zeros t=hd D.zeros u:=by simpa using hh
    have hne:t≠u:=fun e=>by
     subst e
     have:=hr.2 (encs_inj _ _ _ ht hu)
     rw [hrr] at this; cases this
    rcases heads_bind heq hne with h1 | h1
    ·rw [h1]; rfl
    ·rw [hV,h1]; cases (bif !eqv .bool true false then !coll (texts t) (texts u) else false)<;>rfl
 unfold G4
 simp only [P5_eq,F5_eq,cond_true,P8_of _ _ ha,F8_of _ _ ha,P8_of _ _ hb,F8_of _ _ hb,P9_eq h9a,F9_eq h9a,P9_eq h9b,F9_eq h9b,ha9,hb9,bne_self_eq_false,cond_false,e32,P11_of _ g11a,F11_of _ g11a,P11_of _ g11b,F11_of _ g11b,P12_of _ g12,F12_of _ g12,z,ztk,List.nil_append,List.take_length,f0,f1,← hV,hloop',Option.bind_some,P14_of _ _ hr14,F14_of _ _ hr14,P15_of _ _ g15,F15_of _ _ g15,Bool.true_or,hmain]
 rcases List.eq_nil_or_concat a.2.1 with hn | ⟨l,p,hp⟩
 ·rw [hn] at ht
  cases ht
  have e0:((((a.2.1).length:Nat):Int)==0)=true:=by rw [hn]; rfl
  simp only [e0,cond_true]
  rfl
 ·rw [List.concat_eq_append] at hp
  have hlen:a.2.1.length=l.length+1:=by rw [hp]; simp
  have e0:((((a.2.1).length:Nat):Int)==0)=false:=by rw [hlen]; simp; omega
  have e1:IntKind.i64.wrap (((a.2.1.length:Nat):Int) - 1)=(l.length:Int):=by rw [hlen,wrapI (by omega) (by omega)]; omega
  have e2:sliceTest (0:Int) (l.length:Int) ((a.2.1.length:Nat):Int)=true:=D.sliceT (a:=0) (by omega) (by omega)
  have hcut:cut a.2.1 0 (l.length:Int)=l:=by rw [D.cut0,hp]; exact List.take_left' rfl
  have hget:a.2.1.getD l.length z26=p:=by rw [hp]; simp [List.getD_eq_getElem?_getD]
  have e3:(decide (0≤(l.length:Int)) && decide ((l.length:Int) < ((a.2.1.length:Nat):Int)))=true:=by simp; omega
  rw [hp] at ht
  obtain ⟨t',s,rfl,k1,k2⟩:=encs_app l p t ht
  have hva:=valid_iff.1 hma.1
  have hok:okAll a.1 [] l=true:=by
   have:=okAll_pre hva.1 l.length (by omega)
   rw [hp,List.take_left' rfl] at this
   exact this
  have hvl:valid (a.1,(l,((0:Int),())))=true:=valid_iff.2 ⟨hok,hva.2.1,by simp⟩
  have h9l:((a.1,(l,((0:Int),()))):Bk).2.1.length≤1000:=by show l.length≤1000; omega
  have h9:=head_of hvl k1
  have hs:=encP_len k2
  have hh:=hd_len t' D.zeros rfl
  simp only [e0,cond_false,e1,e2,cond_true,hcut,P9_eq h9l,F9_eq h9l,h9,e3,Int.toNat_natCast,hget,P6_eq,F6_eq,k2,outE,D.P16_eq (a:=hd D.zeros t') (b:=s) (by omega),D.F16_eq (a:=hd D.zeros t') (b:=s) (by omega),Bool.true_or,hd_app,beq_self_eq_true]
end Go.Ev.T
namespace Go.Ev.T
open Go Go.Proofs Go.Ev
theorem globs_of_laid {W : World} (h : laidMetH Tryd.prog [("newswire/digest.round", Go.Proofs.YtohcmlejdglimaaDoor.Rows.laid_newswire_digest_round)] W) : GlobR glob (fun b => b < W.heap.size) W := by
 rw [MakeChecks.laidMetH_plain _ _ _ (by kernel_rfl)] at h
 obtain ⟨ps,⟨g,t,cs,fuel,p,q,hg,ht,hv,hd,_,_⟩,_,_⟩:=h
 obtain rfl := Option.some.inj ((show Tryd.prog.globalNamed "newswire/digest.round" = some 1 by kernel_rfl).symm.trans hg)
 obtain rfl:=Option.some.inj ((show (Tryd.prog.globals[1]?).map (·.type)=some 127 by kernel_rfl).symm.trans ht)
 obtain ⟨xs,m,_,ex,_,hl,hel⟩:=DataW.trod_array Tryd.underlying127 hd
 have c5:Tryd.prog.cellsOf 77=1:=by kernel_rfl
 have hcell:∀ r,r < 64→W.cell? ⟨1,r,none⟩=some (.int .u32 (roundK.getD r 0)):=fun r hr=>by
  have hE:=hel r hr
  rw [c5,Nat.mul_one,List.getElem?_eq_getElem (by omega)] at hE
  obtain ⟨z,e1,e2,_⟩:=DataW.trod_int Tryd.underlying77 hE
  have e3:(xs.map (·.1))=roundK.map fun n=>.lit (.int .u32 n):=(DataW.agg.inj (Prod.mk.inj ex).1).symm
  have e4:(xs.map (·.1))[r]?=(roundK.map fun n=>(DataW.lit (.int .u32 n):DataW Unit))[r]?:=by rw [e3]
  have hlen:roundK.length=64:=rfl
  rw [List.getElem?_map,List.getElem?_map,List.getElem?_eq_getElem (by omega:r < xs.length),List.getElem?_eq_getElem (by omega:r < roundK.length),e2] at e4
  have hz:z=roundK.getD r 0:=by
   simp only [Option.map_some,oIj,DataW.lit.injEq,Lit.int.injEq,true_and] at e4
   rw [e4,List.getD,List.getElem?_eq_getElem (by omega:r < roundK.length)]; rfl
  rw [World.var?_cell hg hv r,← hz]
  have:cs.toList[r]?=some (.int .u32 z):=by
   have h0:((cs.toList.drop r).take 1)[0]?=some (.int .u32 z):=by rw [e1]; rfl
   simpa using h0
  simpa using this
 intro k d hk
 match k,hk with
 | 1,hk =>
  cases hk
  refine ⟨roundK.map fun n=>Value.int .u32 n,⟨rfl,rows_ints _⟩,fun _=>?_,fun j hj=>?_⟩
  ·have:=hcell 0 (by omega)
   cases hb:W.heap[1]? with
   | none=>simp [World.cell?,hb] at this
   | some o=>exact (Array.getElem?_eq_some_iff.1 hb).1
  ·have hj':j < 64:=by rw [List.length_map] at hj; exact hj
   rw [Nat.zero_add,hcell j hj']
   have hlen:roundK.length=64:=rfl
   simp [List.getD_eq_getElem?_getD,List.getElem?_eq_getElem (by omega:j < roundK.length)]
 | 0,hk=>simp [glob] at hk
 | _+2,hk=>simp [glob] at hk
end Go.Ev.T
