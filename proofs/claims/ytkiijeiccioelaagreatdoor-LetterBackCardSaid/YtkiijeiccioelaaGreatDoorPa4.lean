import Derived.Test.YtkiijeiccioelaaGreatDoorPa3
import Derived.Test.YtkiijeiccioelaaGreatDoorPa2
import Derived.Laws.IdiomStrings
import Derived.Test.YtkiijeiccioelaaGreatDoorProg
import Derived.Laws.DeepStrings4
import Derived.Laws.Strings
import Derived.Laws.Concat
import Derived.RangeFuncSeq
import Derived.RangeFuncIn
import Derived.KernelRfl
import Init.Data.Nat
import Derived.Test.YtkiijeiccioelaaGreatDoorPa1
import Derived.Test.YtkiijeiccioelaaGreatDoorPa0
import Derived.WalkKit
import Derived.Shelf.Pu.ErrVarParseUint
import Derived.Ground.MpProg
import Derived.Lib.SmallJoins
section
namespace Go.Sp
def IsL (x:Tree) (l:Letter):Prop:=zS l=0∧∃a b:Bool,(l.kind=4→l.fake=(a || b))∧x=zJ l a b
theorem uQ {k f c:Int} {x:ByteArray} {g:Bool} (h:zS ⟨k,f,c,x,g⟩=0):(k=1∨k=2∨k=3∨k=4∨k=5∨k=6∨k=7)∧(f=0∨f=1)∧(isSigned k=false→f=0)∧(isTexted k=false→x=⟨#[]⟩)∧(g=true→k=1∨k=4)∧x.size≤64:=by
 unfold zS at h;simp only at h;split at h
 ·cases h
 rename_i hh;split at h
 ·cases h
 simp only [not_or,not_and,Classical.not_not] at hh;obtain ⟨h1,h2,h3,h4,h5,h6⟩:=hh;refine ⟨by omega,?_,h4,h5,?_,by omega⟩
 ·by_cases h0:f=0
  ·exact .inl h0
  ·exact .inr (h3 h0)
 ·intro hg;by_cases h1:k=1
  ·exact .inl h1
  ·exact .inr (h6 hg h1)
theorem yN {k f c:Int} {x:ByteArray} {g:Bool} (hk:1≤k∧k≤7) (hf:f=0∨f=1) (h1:isSigned k=false→f=0) (h2:isTexted k=false→x=⟨#[]⟩) (h3:g=true→k=1∨k=4) (hx:x.size≤64):zS ⟨k,f,c,x,g⟩=0:=by
 unfold zS;simp only;rw [if_neg,if_neg (by omega)];simp only [not_or,not_and,Classical.not_not];refine ⟨by omega,by omega,fun h0=>hf.resolve_left h0,h1,h2,fun hg h1=>(h3 hg).resolve_left h1⟩
section
variable {L:Pool} (hW:Wf L) {t:Int}
include hW
theorem jFY {who:Int} (h:(zQ L who t).2=false):∃c x a b,(zQ L who t).1=⟨4,who,c,x,a || b⟩∧x.size≤64∧jE L t=vP (yK 0 (qN c x) a) (yK 1 (qN c x) b):=by
 unfold zQ at h ⊢;simp only [Bool.or_eq_false_iff,Bool.not_eq_false',decide_eq_true_eq,bne_eq_false_iff_eq] at h;obtain ⟨⟨⟨⟨⟨⟨h1,h2⟩,h3⟩,h4⟩,h5⟩,h6⟩,h7⟩:=h;obtain ⟨ht,hk,e⟩:=yI h1;simp only;rw [e] at h2 h3 h4 h5 h6 h7 ⊢;simp only at h2 h3 h4 h5 h6 h7 ⊢;obtain ⟨ha,hb,hT⟩:=nd4 hW ht hk;obtain ⟨_,_,ea,hx⟩:=xS hW ha h2;obtain ⟨_,_,eb,_⟩:=xS hW hb h3;refine ⟨_,_,_,_,rfl,hx,?_⟩;rw [hT,ea,eb,h4,h5,h6,h7]
theorem jFZ (ht:inP L t=true) {who c:Int} {x:ByteArray} {a b:Bool} (h:jE L t=vP (yK 0 (qN c x) a) (yK 1 (qN c x) b)):zQ L who t=(⟨4,who,c,x,a || b⟩,false):=by
 have hk:=(yL hW ht (h.trans rfl)).1;obtain ⟨h1,h2,h3⟩:=nd4 hW ht hk;rw [h] at h3;have q1:=(List.cons.inj (Tree.mk.inj h3).2.2.2.2.2).1;have q2:=(List.cons.inj (List.cons.inj (Tree.mk.inj h3).2.2.2.2.2).2).1;unfold zQ;simp only;rw [yJ ht hk];simp only;rw [xU hW h1 (.inl rfl) q1.symm,xU hW h2 (.inr rfl) q2.symm];simp
theorem jIC {who:Int} (hw:0≤who) (h:(zY L who t).2=false):IsL (xB who (jE L t)) (zY L who t).1:=by
 unfold zY at h ⊢;simp only at h ⊢;by_cases c1:(jV L t).1.1=yY∧who=0
 ·rw [if_pos c1] at h ⊢;simp only [Bool.or_eq_false_iff] at h;obtain ⟨ht,hn,e⟩:=qM hW h.1;show IsL _ ⟨3,0,_,⟨#[]⟩,false⟩;refine ⟨yN (by omega) (.inl rfl) (fun _=>rfl) (fun _=>rfl) (fun h=>nomatch h) (Nat.zero_le _),false,false,by simp,?_⟩;rw [e,c1.1,c1.2,(jEN hW h.2).2];rfl
 rw [if_neg c1] at h ⊢;by_cases c2:(jV L t).1.1=vF∧who=2
 ·rw [if_pos c2] at h ⊢;simp only [Bool.or_eq_false_iff] at h;obtain ⟨ht,hn,e⟩:=qM hW h.1;show IsL _ ⟨5,0,_,⟨#[]⟩,false⟩;refine ⟨yN (by omega) (.inl rfl) (fun _=>rfl) (fun _=>rfl) (fun h=>nomatch h) (Nat.zero_le _),false,false,by simp,?_⟩;rw [e,c2.1,c2.2,(jEN hW h.2).2];rfl
 rw [if_neg c2] at h ⊢;by_cases c3:(jV L t).1.1=vN∧who=2
 ·rw [if_pos c3] at h ⊢;simp only [Bool.or_eq_false_iff] at h;obtain ⟨ht,hn,e⟩:=qM hW h.1;obtain ⟨_,e2,hx⟩:=jCD hW h.2;refine ⟨yN (by omega) (.inl rfl) (fun _=>rfl) (by simp [isTexted]) (by simp) hx,false,false,by simp,?_⟩;rw [e,c3.1,c3.2,e2];rfl
 rw [if_neg c3] at h ⊢;by_cases c4:(jV L t).1.1=oO∧who≤1
 ·rw [if_pos c4] at h ⊢;simp only [Bool.or_eq_false_iff] at h;obtain ⟨_,e2,hx⟩:=jCD hW h.2;refine ⟨yN (by omega) (by omega) (by simp [isSigned]) (by simp [isTexted,isSigned]) (by simp) hx,false,false,by simp,?_⟩;rw [e2];rfl
 rw [if_neg c4] at h ⊢;by_cases c5:(jV L t).1.1=vZ∧who≤1
 ·rw [if_pos c5] at h ⊢;simp only [Bool.or_eq_false_iff] at h;obtain ⟨ht,hn,e⟩:=qM hW h.1;obtain ⟨c,x,a,b,e2,hx,e3⟩:=jFY hW h.2;rw [e2];refine ⟨yN (by omega) (by omega) (by simp [isSigned]) (by simp [isTexted,isSigned]) (by simp) hx,a,b,by simp,?_⟩;rw [e,c5.1,e3];cases a <;> cases b <;> rfl
 rw [if_neg c5] at h;cases h
theorem jQH (ht:inP L t=true) (h:(uN L t).2=false):IsL (jE L t) (uN L t).1:=by
 unfold uN at h ⊢;simp only at h ⊢;by_cases c1:(nodeOf L t).kind=7
 ·rw [if_pos c1] at h ⊢;obtain ⟨h1,h2,h3⟩:=nd7 hW ht c1;rw [h3];exact jIC hW h2 h
 rw [if_neg c1] at h ⊢;by_cases c2:(nodeOf L t).kind=8∨(nodeOf L t).kind=9
 ·rw [if_pos c2] at h ⊢;obtain ⟨h1,h2,h3,h4⟩:=xS hW ht h;generalize jO L t=r at *;obtain ⟨⟨k,f,c,x,g⟩,b⟩:=r;simp only at h1 h2 h3 h4 ⊢;subst h1;exact ⟨yN (by omega) h2 (by simp [isSigned]) (by simp [isTexted,isSigned]) (by simp) h4,false,false,by simp,h3⟩
 rw [if_neg c2] at h ⊢;split at h
 ·cases h
 rename_i c3;rw [if_neg c3];simp only [Bool.or_eq_true,Bool.not_eq_true',decide_eq_false_iff_not,not_or,Classical.not_not,Bool.not_eq_true] at c3;obtain ⟨_,hn,e⟩:=qM hW c3.1;show IsL _ ⟨7,0,_,⟨#[]⟩,false⟩;refine ⟨yN (by omega) (.inl rfl) (fun _=>rfl) (fun _=>rfl) (fun h=>nomatch h) (Nat.zero_le _),false,false,by simp,?_⟩;rw [e,c3.2,(jEN hW h).2];rfl
theorem jBE (ht:inP L t=true) {l:Letter} (h:IsL (jE L t) l):uN L t=(l,false):=by
 obtain ⟨k,f,c,x,g⟩:=l;obtain ⟨h1,a,b,h4,hT⟩:=h;obtain ⟨hk,hf,hs,hx,hg,_⟩:=uQ h1;have tagged:∀{who:Int} {gg:ByteArray} {y:Tree},jE L t=xB who (vP (vV gg) y)→(nodeOf L t).kind=7∧(nodeOf L t).frm=who∧inP L (nodeOf L t).a=true∧jE L (nodeOf L t).a=vP (vV gg) y∧∃n,jV L (nodeOf L t).a=((gg,n),false)∧inP L n=true∧jE L n=y:=by
  intro who gg y e;have k:=yL hW ht (e.trans rfl);obtain ⟨q1,_,q3⟩:=nd7 hW ht k.1;rw [e] at q3;have q:=(List.cons.inj (Tree.mk.inj q3).2.2.2.2.2).1;exact ⟨k.1,k.2.1,q1,q.symm,oC hW q1 q.symm⟩
 rcases hk with rfl | rfl | rfl | rfl | rfl | rfl | rfl
 ·have e:jE L t=yK f (qN c x) g:=hT;have k:=yL hW ht (e.trans rfl);unfold uN;simp only;rw [if_neg (by rw [k.1];cases g <;> decide),if_pos (by rw [k.1];cases g <;> decide),xU hW ht hf e]
 ·have e:jE L t=xB f (qN c x):=hT;have:g=false:=by cases g with
   | false=>rfl
   | true=>exact absurd (hg rfl) (by omega)
  subst this;obtain ⟨k,kf,h1,h2,n,e1,hn,e2⟩:=tagged e;unfold uN zY;simp only;rw [if_pos k,e1,kf];simp only;rw [if_neg (fun q=>absurd q.1 (by decide)),if_neg (fun q=>absurd q.1 (by decide)),if_neg (fun q=>absurd q.1 (by decide)),if_pos ⟨trivial,by omega⟩,jCE hW h1 h2];rfl
 ·obtain rfl:f=0:=hs rfl;obtain rfl:x=⟨#[]⟩:=hx rfl;have:g=false:=by cases g with
   | false=>rfl
   | true=>exact absurd (hg rfl) (by omega)
  subst this;have e:jE L t=xB 0 (vP (vV yY) (jDE c)):=hT;obtain ⟨k,kf,h1,h2,n,e1,hn,e2⟩:=tagged e;obtain ⟨u1,u2⟩:=jEO hW hn e2;unfold uN zY;simp only;rw [if_pos k,e1,kf];simp only;rw [if_pos ⟨trivial,trivial⟩,u1,u2];rfl
 ·have e:jE L t=xB f (vP (vV vZ) (vP (yK 0 (qN c x) (g && a)) (yK 1 (qN c x) (g && b)))):=hT;obtain ⟨k,kf,h1,h2,n,e1,hn,e2⟩:=tagged e;have hgg:((g && a) || (g && b))=g:=by
   have:=h4 rfl;simp only at this;subst this;cases a <;> cases b <;> rfl
  unfold uN zY;simp only;rw [if_pos k,e1,kf];simp only;rw [if_neg (fun q=>absurd q.1 (by decide)),if_neg (fun q=>absurd q.1 (by decide)),if_neg (fun q=>absurd q.1 (by decide)),if_neg (fun q=>absurd q.1 (by decide)),if_pos ⟨trivial,by omega⟩,jFZ hW hn e2,hgg];rfl
 ·obtain rfl:f=0:=hs rfl;obtain rfl:x=⟨#[]⟩:=hx rfl;have:g=false:=by cases g with
   | false=>rfl
   | true=>exact absurd (hg rfl) (by omega)
  subst this;have e:jE L t=xB 2 (vP (vV vF) (jDE c)):=hT;obtain ⟨k,kf,h1,h2,n,e1,hn,e2⟩:=tagged e;obtain ⟨u1,u2⟩:=jEO hW hn e2;unfold uN zY;simp only;rw [if_pos k,e1,kf];simp only;rw [if_neg (fun q=>absurd q.1 (by decide)),if_pos ⟨trivial,trivial⟩,u1,u2];rfl
 ·obtain rfl:f=0:=hs rfl;have:g=false:=by cases g with
   | false=>rfl
   | true=>exact absurd (hg rfl) (by omega)
  subst this;have e:jE L t=xB 2 (vP (vV vN) (qN c x)):=hT;obtain ⟨k,kf,h1,h2,n,e1,hn,e2⟩:=tagged e;unfold uN zY;simp only;rw [if_pos k,e1,kf];simp only;rw [if_neg (fun q=>absurd q.1 (by decide)),if_neg (fun q=>absurd q.1 (by decide)),if_pos ⟨trivial,trivial⟩,jCE hW hn e2];rfl
 ·obtain rfl:f=0:=hs rfl;obtain rfl:x=⟨#[]⟩:=hx rfl;have:g=false:=by cases g with
   | false=>rfl
   | true=>exact absurd (hg rfl) (by omega)
  subst this;have e:jE L t=vP (vV jHT) (jDE c):=hT;have k:=yL hW ht (e.trans rfl);obtain ⟨n,e1,hn,e2⟩:=oC hW ht e;obtain ⟨u1,u2⟩:=jEO hW hn e2;unfold uN;simp only;rw [if_neg (by rw [k.1];decide),if_neg (by rw [k.1];decide),e1];simp only;rw [if_neg (by simp),u1,u2]
end
end Go.Sp
end
section
open Go Go.SE
namespace Go.Sp
open Go.Proofs
def zP (B:List UInt8) (set:List Nat) (i:Nat):Option (UInt8×Nat):=match B[i]? with | none=>none | some c=>if c.toNat∈set then some (c,i+1) else none
def vG (B:List UInt8) (i:Nat):Option (Nat×Nat) :=
 if zG B i=[]∨xJ (zG B i)=true then none
 else match B[i+(zG B i).length]? with | none=>some (decV (zG B i),i+(zG B i).length) | some c=>if c.toNat=32 then some (decV (zG B i),i+(zG B i).length) else none
def jUH (c:Nat):Option Nat:=if 48≤c∧c≤57 then some (c - 48) else if 97≤c∧c≤102 then some (c - 87) else none
def jAW (B:List UInt8) (i:Nat):Option Nat:=match B[i]? with | none=>none | some c=>jUH c.toNat
def vT (B:List UInt8) (f:Nat):Option (UInt8×Nat):=match B[f+1]? with
 | none=>none
 | some c=>if c.toNat=34∨c.toNat=92 then some (c,f+2) else if c.toNat=110 then some (10,f+2) else if c.toNat≠120 then none
  else match jAW B (f+2),jAW B (f+3) with
   | some h,some l=>if escB (UInt8.ofNat (16*h+l))=(B.drop f).take 4 then some (UInt8.ofNat (16*h+l),f+4) else none
   | _,_=>none
def vI (B:List UInt8):Nat→Nat→List UInt8→Option (List UInt8×Nat)
 | 0,_,_=>none
 | f+1,i,acc=>match B[i]? with
  | none=>none
  | some c=>if c.toNat=34 then (if 64<acc.length then none else some (acc,i+1))
   else if c.toNat=92 then (match vT B i with | none=>none | some d=>vI B f d.2 (acc++[d.1]))
   else if c.toNat<32∨126<c.toNat then none else vI B f (i+1) (acc++[c])
def yM (B:List UInt8):List Int→Option (Int×Bool×Nat)
 | []=>none
 | k :: ks=>if (zU k++[32]).isPrefixOf B=true then some (k,false,(zU k).length+1)
  else if (k=1∨k=4)∧(zU k++[33,32]).isPrefixOf B=true then some (k,true,(zU k).length+2) else yM B ks
def qA (B:List UInt8):Option (Int×Bool×Nat):=yM B [1,2,3,4,5,6,7]
def xW (B:List UInt8) (k:Int) (i:Nat):Option (Int×Nat) :=
 if isSigned k=true then (match zP B [48,49] i with | none=>none | some c=>match zP B [32] c.2 with | none=>none | some d=>some ((c.1.toNat:Int) - 48,d.2)) else some (0,i)
def tG (B:List UInt8) (k:Int) (i:Nat):Option (List UInt8×Nat) :=
 if isTexted k=true then (match zP B [32] i with | none=>none | some c=>match zP B [34] c.2 with | none=>none | some d=>vI B (B.length+1) d.2 []) else some ([],i)
def uG (B:List UInt8):Option Letter:=match qA B with
 | none=>none
 | some w=>match xW B w.1 w.2.2 with
  | none=>none
  | some f=>match vG B f.2 with
   | none=>none
   | some n=>match tG B w.1 n.2 with
    | none=>none
    | some x=>if x.2<B.length then none else some ⟨w.1,f.1,n.1,⟨x.1.toArray⟩,w.2.1⟩
section
variable {B:List UInt8}
theorem tL {i:Nat} {c:UInt8} (h:B[i]?=some c):B.drop i=c :: B.drop (i+1):=by
 obtain ⟨hi,rfl⟩:=List.getElem?_eq_some_iff.1 h;exact List.drop_eq_getElem_cons hi
theorem xQ {set:List Nat} {i:Nat} {d:UInt8×Nat} (h:zP B set i=some d):B.drop i=d.1 :: B.drop d.2∧d.2=i+1∧d.1.toNat∈set:=by
 unfold zP at h;split at h
 ·cases h
 ·rename_i c hc;split at h
  ·rename_i hm;cases h;exact ⟨tL hc,rfl,hm⟩
  ·cases h
theorem jBB {set:List Nat} {i:Nat} {c:UInt8} {post:List UInt8} (h:B.drop i=c :: post) (hm:c.toNat∈set):zP B set i=some (c,i+1):=by
 unfold zP;rw [uH h];simp only;rw [if_pos hm]
theorem jJA:∀(m:Nat) (D:List UInt8),D.length=m→(∀c∈D,isDig c=true)→D≠[]→(D.head?≠some 48→1≤decV D)∧((1<D.length→D.head?≠some 48)→Lib.decDigits (decV D)=D):=by
 intro m;induction m with
 | zero=>intro D hm _ hne;exact absurd (List.length_eq_zero_iff.1 hm) hne
 | succ m ih =>
  intro D hm hd hne
  obtain ⟨D',c,rfl⟩:∃D' c,D=D'++[c]:=⟨D.dropLast,D.getLast hne,(List.dropLast_concat_getLast hne).symm⟩
  have hc:isDig c=true:=hd c (by simp)
  unfold isDig at hc
  rw [Bool.and_eq_true,decide_eq_true_eq,decide_eq_true_eq] at hc
  rw [jHA]
  have hcc:∀d,d=c.toNat - 48→UInt8.ofNat (48+d)=c:=fun d e=>by
   rw [show 48+d=c.toNat by omega,UInt8.ofNat_toNat]
  by_cases h0:D'=[]
  ·subst h0
   refine ⟨fun h=>?_,fun _=>?_⟩
   ·have:c≠48:=fun e=>h (by rw [e];rfl)
    have:c.toNat≠48:=fun e=>this (by apply UInt8.toNat_inj.1;exact e)
    show 1≤10*0+(c.toNat - 48)
    omega
   ·show Lib.decDigits (10*0+(c.toNat - 48))=[c]
    rw [Lib.decDigits,dif_pos (by omega),hcc _ (by omega)]
  ·have hh : (D' ++ [c]).head? = D'.head? := by
    cases D' with
    | nil=>exact absurd rfl h0
    | cons a l=>rfl
   have hlen:1<(D'++[c]).length:=by
    have:=List.length_pos_iff.2 h0;simp;omega
   obtain ⟨i1,i2⟩:=ih D' (by simp at hm;exact hm) (fun x hx=>hd x (by simp [hx])) h0
   rw [hh]
   refine ⟨fun h=>by have:=i1 h;omega,fun h=>?_⟩
   have h1:=i1 (h hlen)
   rw [Lib.decDigits,dif_neg (by omega),show (10*decV D'+(c.toNat - 48)) / 10=decV D' by omega,i2 (fun _=>h hlen),hcc _ (by omega)]
theorem jKA {i:Nat} {n:Nat×Nat} (h:vG B i=some n):n.1<18446744073709551616∧B.drop i=Lib.decDigits n.1++B.drop n.2∧(n.2<B.length→B[n.2]?=some 32):=by
 unfold vG at h;split at h
 ·cases h
 ·rename_i hb;rw [not_or] at hb;obtain ⟨h0,hbad⟩:=hb;have hbad:xJ (zG B i)=false:=by simpa using hbad
  unfold xJ at hbad;rw [Bool.or_eq_false_iff,decide_eq_false_iff_not,Bool.and_eq_false_iff] at hbad;have hdig:=(jJA _ (zG B i) rfl (jDN B i) h0).2 (fun hl e=>by
   rcases hbad.2 with h | h
   ·rw [decide_eq_false_iff_not] at h;omega
   ·rw [e] at h;simp at h)
  have hdrop:B.drop i=zG B i++B.drop (i+(zG B i).length):=by
   conv=>lhs;rw [← List.take_append_drop (zG B i).length (B.drop i),jBY,List.drop_drop]
  split at h
  ·rename_i hn;cases h;refine ⟨by omega,by rw [hdig];exact hdrop,fun hl=>?_⟩;rw [List.getElem?_eq_getElem hl] at hn;cases hn
  ·rename_i c hc;split at h
   ·rename_i h32;cases h;refine ⟨by omega,by rw [hdig];exact hdrop,fun _=>?_⟩;rw [hc];congr 1;apply UInt8.toNat_inj.1;exact h32
   ·cases h
theorem jTS {i n:Nat} {post:List UInt8} (hn:n<18446744073709551616) (h:B.drop i=Lib.decDigits n++post) (hp:post=[]∨∃l,post=32 :: l):vG B i=some (n,i+(Lib.decDigits n).length):=by
 obtain ⟨h1,h2,c,l,h3,_⟩:=jKI n;have hpd:post.takeWhile isDig=[]:=by
  rcases hp with rfl | ⟨l,rfl⟩
  ·rfl
  ·rw [List.takeWhile_cons_of_neg (by decide)]
 have hd:zG B i=Lib.decDigits n:=by
  unfold zG;rw [h,List.takeWhile_append_of_pos h2,hpd,List.append_nil]
 have hdrop:=xZ h;unfold vG;rw [hd,if_neg (by rw [jMB hn,h3];simp),h1];rcases hp with rfl | ⟨l,rfl⟩
 ·have : B[i + (Lib.decDigits n).length]? = none := by
   rw [List.getElem?_eq_none_iff];exact List.drop_eq_nil_iff.1 hdrop
  rw [this]
 ·rw [uH hdrop];rfl
theorem jKG {f:Nat} {d:UInt8×Nat} (h92:B[f]?=some 92) (h:vT B f=some d):B.drop f=escB d.1++B.drop d.2∧f+2≤d.2:=by
 unfold vT at h;have h0:=tL h92;split at h
 ·cases h
 ·rename_i c hc;have h1:=tL hc;split at h
  ·rename_i hq;cases h;refine ⟨?_,Nat.le_refl _⟩;unfold escB;rw [if_pos hq,h0,h1];rfl
  ·split at h
   ·rename_i h110;cases h;have:c=110:=by apply UInt8.toNat_inj.1;exact h110
    subst this;refine ⟨?_,Nat.le_refl _⟩;rw [h0,h1];rfl
   ·split at h
    ·cases h
    ·split at h
     ·split at h
      ·rename_i he;cases h;refine ⟨?_,by omega⟩
       conv=>lhs;rw [← List.take_append_drop 4 (B.drop f),List.drop_drop]
       rw [he]
      ·cases h
     ·cases h
theorem jOL:∀v,v<16→jUH (jMI v).toNat=some v:=by decide
theorem jUK {f:Nat} {c:UInt8} {post:List UInt8} (h:B.drop f=escB c++post) (h92:∃l,escB c=92 :: l):vT B f=some (c,f+(escB c).length):=by
 unfold escB at h h92 ⊢;unfold vT;have hclt:=c.toNat_lt;by_cases h1:c.toNat=34∨c.toNat=92
 ·rw [if_pos h1] at h ⊢;have h:B.drop f=92 :: c :: post:=h;rw [uH (qQ h)];simp only;rw [if_pos h1];rfl
 ·rw [if_neg h1] at h h92 ⊢;by_cases h2:c.toNat=10
  ·rw [if_pos h2] at h ⊢;have h:B.drop f=92 :: 110 :: post:=h;rw [uH (qQ h)];have:c=10:=by apply UInt8.toNat_inj.1;exact h2
   rw [this];rfl
  ·rw [if_neg h2] at h h92 ⊢;by_cases h3:32≤c.toNat∧c.toNat≤126
   ·rw [if_pos h3] at h92;obtain ⟨l,hl⟩:=h92;have:c=92:=by injection hl
    subst this;exact absurd (.inr rfl) h1
   ·rw [if_neg h3] at h ⊢;have h:B.drop f=92 :: 120 :: jMI (c.toNat / 16) :: jMI (c.toNat % 16) :: post:=h;have k1:=qQ h;have k2:=qQ k1;have k3:=qQ k2;have hx1:jAW B (f+2)=some (c.toNat / 16):=by
     unfold jAW;rw [uH k2];exact jOL _ (by omega)
    have hx2:jAW B (f+3)=some (c.toNat % 16):=by
     unfold jAW;rw [uH k3];exact jOL _ (by omega)
    rw [uH k1];simp only;rw [hx1,hx2];simp only;rw [show 16*(c.toNat / 16)+c.toNat % 16=c.toNat by omega,UInt8.ofNat_toNat];have he:escB c=(B.drop f).take 4:=by
     rw [h];unfold escB;rw [if_neg h1,if_neg h2,if_neg h3];rfl
    rw [if_neg (by decide),if_neg (by decide),if_neg (by decide),if_pos he];rfl
theorem jBV:∀(f i:Nat) (acc:List UInt8) (x:List UInt8×Nat),vI B f i acc=some x→∃y,x.1=acc++y∧B.drop i=y.flatMap escB++34 :: B.drop x.2∧x.1.length≤64
 | 0,_,_,_,h=>by cases h
 | f+1,i,acc,x,h=>by
  unfold vI at h;split at h
  ·cases h
  ·rename_i c hc;have h0:=tL hc;split at h
   ·rename_i h34;split at h
    ·cases h
    ·cases h;have:c=34:=by apply UInt8.toNat_inj.1;exact h34
     subst this;exact ⟨[],by simp,h0,by show acc.length≤64;omega⟩
   ·split at h
    ·rename_i h92;have:c=92:=by apply UInt8.toNat_inj.1;exact h92
     subst this;split at h
     ·cases h
     ·rename_i d hd;obtain ⟨e1,_⟩:=jKG hc hd;obtain ⟨y,h1,h2,h3⟩:=jBV f _ _ _ h;exact ⟨d.1 :: y,by rw [h1];simp,by rw [e1,h2];simp,h3⟩
    ·rename_i n34 n92;split at h
     ·cases h
     ·rename_i hr;obtain ⟨y,h1,h2,h3⟩:=jBV f _ _ _ h;refine ⟨c :: y,by rw [h1];simp,?_,h3⟩;rw [h0,h2,List.flatMap_cons];have:escB c=[c]:=by unfold escB;rw [if_neg (by omega),if_neg (by omega),if_pos (by omega)]
      rw [this];rfl
theorem jJL:∀(y:List UInt8) (f i:Nat) (acc post:List UInt8),B.drop i=y.flatMap escB++34 :: post→acc.length+y.length≤64→y.length<f→vI B f i acc=some (acc++y,i+(y.flatMap escB).length+1)
 | [],f+1,i,acc,post,h,hl,_=>by
  unfold vI;rw [uH (show B.drop i=34 :: post from h)];simp only;rw [if_pos (by decide),if_neg (by simp at hl;omega)];simp
 | c :: y,f+1,i,acc,post,h,hl,hf=>by
  have ih:=fun (j:Nat) (h:B.drop j=y.flatMap escB++34 :: post)=>jJL y f j (acc++[c]) post h (by simp at hl ⊢;omega) (by simp at hf;omega);rw [List.flatMap_cons,List.append_assoc] at h;rw [List.flatMap_cons,List.length_append];have hmore:=xZ h;by_cases h92:∃l,escB c=92 :: l
  ·have he:=jUK h h92;obtain ⟨l,hl'⟩:=h92;unfold vI;have hc:B[i]?=some 92:=uH (by rw [h,hl'];rfl);rw [hc];simp only;rw [if_neg (by decide),if_pos (by decide),he];simp only;rw [ih _ hmore];simp;omega
  ·have hc : escB c = [c] ∧ c.toNat ≠ 34 ∧ c.toNat ≠ 92 ∧ 32 ≤ c.toNat ∧ c.toNat ≤ 126 := by
    unfold escB at h92 ⊢;split
    ·rename_i h1;exact absurd ⟨_,by rw [if_pos h1]⟩ h92
    ·rename_i h1;rw [if_neg h1] at h92;split
     ·rename_i h2;exact absurd ⟨_,by rw [if_pos h2]⟩ h92
     ·rename_i h2;rw [if_neg h2] at h92;split
      ·rename_i h3;exact ⟨rfl,by omega,by omega,h3.1,h3.2⟩
      ·rename_i h3;exact absurd ⟨_,by rw [if_neg h3]⟩ h92
   obtain ⟨he,q1,q2,q3,q4⟩:=hc;rw [he] at h hmore ⊢;unfold vI;rw [uH (show B.drop i=c :: (y.flatMap escB++34 :: post) from h)];simp only;rw [if_neg q1,if_neg q2,if_neg (by omega),ih (i+1) hmore];simp;omega
end
theorem jPW {k:Int} {g:Bool} {rest:List UInt8} (hk:k=1∨k=2∨k=3∨k=4∨k=5∨k=6∨k=7) (hg:g=true→k=1∨k=4) :
  qA (zU k++(if g=true then [33] else [])++32 :: rest)=some (k,g,(zU k).length+(if g=true then 2 else 1)):=by
 rcases hk with rfl | rfl | rfl | rfl | rfl | rfl | rfl <;> cases g <;> first | (exfalso;have:=hg rfl;omega) | (unfold qA;simp [yM,zU,List.isPrefixOf])
theorem lE {B:List UInt8}:∀(ks:List Int) (w:Int×Bool×Nat),yM B ks=some w→w.1∈ks∧(w.2.1=true→w.1=1∨w.1=4)∧B=zU w.1++(if w.2.1=true then [33] else [])++32 :: B.drop w.2.2
 | [],_,h=>by cases h
 | k :: ks,w,h=>by
  unfold yM at h;split at h
  ·rename_i hp;cases h;rw [List.isPrefixOf_iff_prefix] at hp;obtain ⟨t,rfl⟩:=hp;refine ⟨by simp,fun h=>(by cases h),?_⟩;have:(zU k++[32]++t).drop ((zU k).length+1)=t:=List.drop_left' (by simp);simp only [this];simp
  ·split at h
   ·rename_i hp;cases h;obtain ⟨h14,hp⟩:=hp;rw [List.isPrefixOf_iff_prefix] at hp;obtain ⟨t,rfl⟩:=hp;refine ⟨by simp,fun _=>h14,?_⟩;have:(zU k++[33,32]++t).drop ((zU k).length+2)=t:=List.drop_left' (by simp);simp only [this];simp
   ·obtain ⟨h1,h2,h3⟩:=lE ks w h;exact ⟨List.mem_cons_of_mem _ h1,h2,h3⟩
theorem dec01 {f:Int} (h:f=0∨f=1):∃c:UInt8,Lib.decDigits f.toNat=[c]∧c.toNat∈[48,49]∧(c.toNat:Int) - 48=f:=by
 rcases h with rfl | rfl
 ·exact ⟨48,by kernel_rfl,by decide,by decide⟩
 ·exact ⟨49,by kernel_rfl,by decide,by decide⟩
theorem jNM {l:Letter} (h:zS l=0) (hc:vU l.c):uG (xL l)=some l:=by
 obtain ⟨k,f,c,x,g⟩:=l;obtain ⟨hk,hf,hs,ht,hg,hx⟩:=uQ h;have hc:0≤c∧c<18446744073709551616:=hc;obtain ⟨n,rfl⟩:∃n:Nat,c=n:=⟨c.toNat,by omega⟩;have hB:xL ⟨k,f,n,x,g⟩=zU k++(if g=true then [33] else [])++32 :: ((if isSigned k=true then Lib.decDigits f.toNat++[32] else [])++(Lib.decDigits n++(if isTexted k=true then 32 :: yU x else []))):=by
  unfold xL;rw [if_neg (by omega)];cases isSigned k <;> simp
 rw [hB];have hw:=jPW (k:=k) (g:=g) (rest:=(if isSigned k=true then Lib.decDigits f.toNat++[32] else [])++(Lib.decDigits n++(if isTexted k=true then 32 :: yU x else []))) hk (by simpa using hg);have hd:(zU k++(if g=true then [33] else [])++32 :: ((if isSigned k=true then Lib.decDigits f.toNat++[32] else [])++(Lib.decDigits n++(if isTexted k=true then 32 :: yU x else [])))).drop ((zU k).length+(if g=true then 2 else 1))=(if isSigned k=true then Lib.decDigits f.toNat++[32] else [])++(Lib.decDigits n++(if isTexted k=true then 32 :: yU x else [])):=by
  cases g
  ·rw [show zU k++(if false=true then [33] else [])++32 :: ((if isSigned k=true then Lib.decDigits f.toNat++[32] else [])++(Lib.decDigits n++(if isTexted k=true then 32 :: yU x else [])))=(zU k++[32])++((if isSigned k=true then Lib.decDigits f.toNat++[32] else [])++(Lib.decDigits n++(if isTexted k=true then 32 :: yU x else []))) by simp];exact List.drop_left' (by simp)
  ·rw [show zU k++(if true=true then [33] else [])++32 :: ((if isSigned k=true then Lib.decDigits f.toNat++[32] else [])++(Lib.decDigits n++(if isTexted k=true then 32 :: yU x else [])))=(zU k++[33,32])++((if isSigned k=true then Lib.decDigits f.toNat++[32] else [])++(Lib.decDigits n++(if isTexted k=true then 32 :: yU x else []))) by simp];exact List.drop_left' (by simp)
 generalize zU k++(if g=true then [33] else [])++32 :: ((if isSigned k=true then Lib.decDigits f.toNat++[32] else [])++(Lib.decDigits n++(if isTexted k=true then 32 :: yU x else [])))=B at *;generalize (zU k).length+(if g=true then 2 else 1)=i0 at *;unfold uG;rw [hw];simp only;obtain ⟨i2,hfr,hd2⟩:∃i2,xW B k i0=some (f,i2)∧B.drop i2=Lib.decDigits n++(if isTexted k=true then 32 :: yU x else []):=by
  unfold xW;cases hsk:isSigned k with
  | true =>
   obtain ⟨c,e1,e2,e3⟩:=dec01 hf
   rw [hsk,if_pos rfl,e1] at hd
   have hd:B.drop i0=c :: 32 :: (Lib.decDigits n++(if isTexted k=true then 32 :: yU x else [])):=hd
   have hd':=qQ hd
   refine ⟨i0+1+1,?_,qQ hd'⟩
   rw [if_pos rfl,jBB hd e2]
   simp only
   rw [jBB hd' (by decide)]
   simp only
   rw [e3]
  | false =>
   rw [hsk] at hd
   exact ⟨i0,by rw [if_neg (by decide),hs hsk],by simpa using hd⟩
 rw [hfr];simp only;have hd3:=xZ hd2;rw [jTS (by omega) hd2 (by cases isTexted k <;> simp)];simp only;generalize i2+(Lib.decDigits n).length=i3 at *;unfold tG;cases htk:isTexted k with
 | true =>
  rw [htk,if_pos rfl] at hd3
  have hd3:B.drop i3=32 :: 34 :: (x.data.toList.flatMap escB++[34]):=hd3
  have hd4:=qQ hd3
  have hd5:=qQ hd4
  have hx64:x.data.toList.length≤64:=by rw [Array.length_toList];exact hx
  have hlen:x.data.toList.length<B.length+1:=by
   have h1:=congrArg List.length hd5;have:∀l:List UInt8,l.length≤(l.flatMap escB).length:=fun l=>by
    induction l with
    | nil=>simp
    | cons a l ih =>
     have:1≤(escB a).length:=by
      unfold escB
      repeat' split
      all_goals simp
     rw [List.flatMap_cons,List.length_append,List.length_cons];omega
   have:=this x.data.toList;rw [List.length_append,List.length_drop] at h1;omega
  rw [if_pos rfl,jBB hd3 (by decide)]
  simp only
  rw [jBB hd4 (by decide)]
  simp only
  rw [jJL x.data.toList _ _ [] [] hd5 (by simpa using hx64) hlen]
  simp only
  have hend:=xZ hd5
  have hend:B.drop (i3+1+1+(x.data.toList.flatMap escB).length+1)=[]:=qQ hend
  have:=List.drop_eq_nil_iff.1 hend
  rw [if_neg (by omega)]
  simp
 | false =>
  rw [htk] at hd3
  have hd3:B.drop i3=[]:=by simpa using hd3
  have:=List.drop_eq_nil_iff.1 hd3
  rw [if_neg (by decide)]
  simp only
  rw [if_neg (by omega),ht htk]
theorem jLF {B:List UInt8} {l:Letter} (h:uG B=some l):zS l=0∧vU l.c∧xL l=B:=by
 unfold uG at h;split at h
 ·cases h
 ·rename_i w hw;obtain ⟨w1,w2,w3⟩:=lE _ w hw;split at h
  ·cases h
  ·rename_i f hf;split at h
   ·cases h
   ·rename_i n hn;obtain ⟨n1,n2,n3⟩:=jKA hn;split at h
    ·cases h
    ·rename_i x hx;split at h
     ·cases h
     ·rename_i hend;cases h;have hnil:B.drop x.2=[]:=List.drop_eq_nil_iff.2 (by omega);have hk:w.1=1∨w.1=2∨w.1=3∨w.1=4∨w.1=5∨w.1=6∨w.1=7:=by simpa using w1
      have hfr:(f.1=0∨f.1=1)∧(isSigned w.1=false→f.1=0)∧B.drop w.2.2=(if isSigned w.1=true then Lib.decDigits f.1.toNat++[32] else [])++B.drop f.2:=by
       unfold xW at hf;split at hf
       ·rename_i hs;split at hf
        ·cases hf
        ·rename_i c1 h1;split at hf
         ·cases hf
         ·rename_i c2 h2;cases hf;obtain ⟨a1,a2,a3⟩:=xQ h1;obtain ⟨b1,b2,b3⟩:=xQ h2;have e2:c2.1=32:=by apply UInt8.toNat_inj.1;simpa using b3
          rw [hs,if_pos rfl,a1,b1,e2];have a3:c1.1.toNat=48∨c1.1.toNat=49:=by simpa using a3
          rcases a3 with a3 | a3
          ·have:c1.1=48:=by apply UInt8.toNat_inj.1;exact a3
           simp only [this];exact ⟨.inl rfl,fun h=>(by cases h),by kernel_rfl⟩
          ·have:c1.1=49:=by apply UInt8.toNat_inj.1;exact a3
           simp only [this];exact ⟨.inr rfl,fun h=>(by cases h),by kernel_rfl⟩
       ·rename_i hs;cases hf;exact ⟨.inl rfl,fun _=>rfl,by rw [if_neg hs];rfl⟩
      have hdt:x.1.length≤64∧(isTexted w.1=false→x.1=[])∧B.drop n.2=if isTexted w.1=true then 32 :: 34 :: (x.1.flatMap escB++[34]) else []:=by
       unfold tG at hx;split at hx
       ·rename_i hs;split at hx
        ·cases hx
        ·rename_i c1 h1;split at hx
         ·cases hx
         ·rename_i c2 h2;obtain ⟨a1,a2,a3⟩:=xQ h1;obtain ⟨b1,b2,b3⟩:=xQ h2;have e1:c1.1=32:=by apply UInt8.toNat_inj.1;simpa using a3
          have e2:c2.1=34:=by apply UInt8.toNat_inj.1;simpa using b3
          obtain ⟨y,y1,y2,y3⟩:=jBV _ _ _ _ hx;have y1:x.1=y:=by simpa using y1
          rw [hnil] at y2;exact ⟨y3,fun h=>(by rw [hs] at h;cases h),by rw [if_pos hs,a1,b1,e1,e2,y2,y1]⟩
       ·rename_i hs;cases hx;exact ⟨by simp,fun _=>rfl,by rw [if_neg hs,hnil]⟩
      obtain ⟨q1,q2,q3⟩:=hfr;obtain ⟨r1,r2,r3⟩:=hdt;have hle:zS ⟨w.1,f.1,n.1,⟨x.1.toArray⟩,w.2.1⟩=0:=by
       unfold zS;simp only;have hsz:(ByteArray.mk x.1.toArray).size=x.1.length:=by simp [ByteArray.size]
       have htx:isTexted w.1=false→(⟨x.1.toArray⟩:ByteArray)=⟨#[]⟩:=fun h=>by rw [r2 h]
       rw [if_neg,if_neg]
       ·rw [hsz];omega
       ·rintro (h | h | ⟨h1,h2⟩ | ⟨h1,h2⟩ | ⟨h1,h2⟩ | ⟨h1,h2,h3⟩)
        ·omega
        ·omega
        ·omega
        ·exact h2 (q2 h1)
        ·exact h2 (htx h1)
        ·have:=w2 h1;omega
      refine ⟨hle,⟨by show (0:Int)≤n.1;omega,by show ((n.1:Nat):Int)<_;omega⟩,?_⟩;unfold xL;rw [if_neg (by omega)];show zU w.1++(if w.2.1=true then [33] else [])++(if isSigned w.1=true then 32 :: Lib.decDigits f.1.toNat else [])++(32 :: Lib.decDigits n.1)++(if isTexted w.1=true then 32 :: yU ⟨x.1.toArray⟩ else [])=B;have hq:yU ⟨x.1.toArray⟩=34 :: (x.1.flatMap escB++[34]):=by unfold yU;simp
      rw [hq]
      conv=>rhs;rw [w3,q3,n2,r3]
      cases isSigned w.1 <;> simp
end Go.Sp
end
section
open Go Go.SE
namespace Go.SE
section
variable {P:Program} {t e:TypeId} {sz bytes:Nat}
theorem jCB (T:SlType P t e sz bytes) (w:World) (ty:TypeId) (s x:Sl) (hc:s.len≤s.cap) (hx:x.len=0):(Builtin.append_ #[t,t] ty #[s.v,x.v]).run P w=.ok s.v w:=by
 obtain ⟨a,n,c⟩:=s;obtain ⟨b,m,d⟩:=x;simp only at hc hx;subst hx;cases b <;> cases a <;> simp [Builtin.append_,Sl.v,run_underlying T.ht,T.sizeOf,Builtin.lenOf,Builtin.firstCells,loadCells,loadCellsFrom,storeCells,hc]
end
theorem jJR {w:World} {sz:Nat}:∀{rs:List (List Value)} {p:Addr},(∀r∈rs,r.length=sz)→(∀i (h:i<rs.length),Row w (p.add (i*sz)) rs[i])→Row w p rs.flatten
 | [],p,_,_=>fun i h=>by simp at h
 | r :: rs,p,hl,h=>by
  have hr:Row w p r:=by have:=h 0 (by simp);simpa [Addr.add] using this
  have hsz:=hl r (by simp);have ih:=jJR (rs:=rs) (p:=p.add sz) (fun q hq=>hl q (List.mem_cons_of_mem _ hq)) (fun i hi=>by
   have:=h (i+1) (by simpa using hi);rw [yS,show sz+i*sz=(i+1)*sz by rw [Nat.succ_mul];omega];simpa using this)
  intro i hi;rw [List.flatten_cons] at hi ⊢;by_cases hlt:i<r.length
  ·rw [hr i hlt,List.getElem?_append_left hlt]
  ·have:=ih (i - r.length) (by rw [List.length_append] at hi;omega);rw [yS,show sz+(i - r.length)=i by omega] at this;rw [this,List.getElem?_append_right (by omega)]
section
variable {P:Program} {t e:TypeId} {sz bytes:Nat}
theorem Rws.empty {w w':World} {p:Addr} (hn:New w (.cells #[] e) p w'):Rws w' e sz ⟨some p,0,0⟩ []:=by
 obtain ⟨hp,hw⟩:=hn;refine ⟨by simp,rfl,.inr ⟨w.heap.size,#[],by rw [hp],?_,by simp,by simp,by simp,by simp⟩⟩;rw [hw];exact heap_alloc_new w (.cells #[] e)
theorem Rws.appendL (T:SlType P t e sz bytes) {w:World} {ty:TypeId} {s x:Sl} {rs qs:List (List Value)} (h:Rws w e sz s rs) {S:NP} (hx:Lst S w sz x qs) (hl:∀q∈qs,q.length=sz) (h1:∀q∈qs,q.all kD=true) (hb:(rs.length+qs.length)*bytes≤140737488355328) (hm:rs.length+qs.length≤maxLen) :
  ∃s' w',(Builtin.append_ #[t,t] ty #[s.v,x.v]).run P w=.ok s'.v w'∧Rws w' e sz s' (rs++qs)∧Ext s.blk w w'∧(∀b,s'.blk b→s.blk b∨w.heap.size≤b):=by
 cases hq:qs with
 | nil =>
  subst hq
  have hc:s.len≤s.cap:=by
   rcases h.own with ⟨rfl,_⟩ | ⟨g,cur,_,_,hc,_⟩
   ·exact Nat.le_refl _
   ·rw [h.len];exact hc
  exact ⟨s,w,jCB T w ty s x hc hx.len,by simpa using h,Ext.refl w,fun b hb=>.inl hb⟩
 | cons q0 rest =>
  rw [← hq]
  have hne:qs≠[]:=by rw [hq];simp
  have hpos:=List.length_pos_iff.2 hne
  obtain ⟨_,⟨_,_,p,hp,_⟩,_,_⟩:=hx.at_ 0 hpos
  have hrow:Row w p qs.flatten:=jJR hl (fun i hi=>by
   obtain ⟨a,⟨_,_,b,hb',rfl⟩,_,hr⟩:=hx.at_ i hi;rw [hp] at hb';cases hb';simpa using hr)
  have hxv:x.v=(Sl.mk (some p) qs.length x.cap).v:=by unfold Sl.v;rw [hp,hx.len]
  rw [hxv]
  exact h.appends T hrow hl h1 hne hb hm
end
def byr (bs:List UInt8):List (List Value):=bs.map fun b=>[.int .u8 (b.toNat:Int)]
theorem zN (bs:List UInt8):(byr bs).length=bs.length:=by simp [byr]
theorem jPM (bs:List UInt8):∀q∈byr bs,q.all kD=true:=by intro q hq;obtain ⟨t,_,rfl⟩:=List.mem_map.1 hq;rfl
theorem jCY (bs:List UInt8):∀q∈byr bs,q.length=1:=by intro q hq;obtain ⟨t,_,rfl⟩:=List.mem_map.1 hq;rfl
theorem jFC (bs:List UInt8):(byr bs).flatten=bs.map fun b=>Value.int .u8 (b.toNat:Int):=by
 induction bs with
 | nil=>rfl
 | cons b bs ih=>simp only [byr,List.map_cons,List.flatten_cons] at ih ⊢;rw [ih];rfl
theorem jJJ (a b:List UInt8):byr (a++b)=byr a++byr b:=by simp [byr]
theorem jPN {S:NP} {w:World} {s:Sl} {bs:List UInt8} (h:Lst S w 1 s (byr bs)) {j:Nat} (hj:j<bs.length):∃a,At s j 1 a∧S a.block∧w.cell? a=some (.int .u8 (bs[j].toNat:Int)):=by
 obtain ⟨a,h1,h2,h3⟩:=h.at_ j (by simpa [byr] using hj);exact ⟨a,h1,h2,jJS (by simpa [byr] using h3)⟩
theorem lZ (n:Nat):IntKind.u8.wrap (n:Int)=((UInt8.ofNat n).toNat:Int):=by
 rw [UInt8.toNat_ofNat'];simp [IntKind.wrap,IntKind.bits,IntKind.signed]
theorem jEJ {P:Program} {src dst e:TypeId} (hs:P.underlying src=some (.slice e)) (he:P.underlying e=some (.int .u8)) (hd:P.underlying dst=some .string) {S:NP} {w:World} {s:Sl} {bs:List UInt8} (h:Lst S w 1 s (byr bs)) :
  (convert src dst s.v).run P w=.ok (.string ⟨bs.toArray⟩) w:=by
 have hl:s.len=bs.length:=by rw [h.len,zN]
 cases ha:s.a with
 | none =>
  have hb:bs=[]:=by
   cases bs with
   | nil=>rfl
   | cons b bs=>obtain ⟨_,⟨_,_,p,hp,_⟩,_⟩:=jPN h (j:=0) (by simp);rw [ha] at hp;cases hp
  subst hb
  have:s.v=.slice none 0 s.cap:=by unfold Sl.v;rw [ha,hl];rfl
  rw [this,run_convert_bytes_string w src dst e none 0 s.cap hs he hd];rfl
 | some p =>
  have:s.v=.slice (some p) bs.length s.cap:=by unfold Sl.v;rw [ha,hl]
  rw [this]
  refine run_convert_bytes_back w src dst e p s.cap bs hs he hd fun j hj=>?_
  obtain ⟨a,⟨_,_,b,hb,rfl⟩,_,hc⟩:=jPN h hj
  rw [ha] at hb;cases hb
  simpa using hc
section
variable {P:Program} {t u e ty:TypeId} {w:World}
theorem lX (b:ByteArray):(Builtin.firstCells 1 b.size (.string b)).run P w=.ok (b.data.map fun x=>Value.int .u8 (x.toNat:Int)) w:=by
 have hx:(Array.map (fun b:UInt8=>Value.int IntKind.u8 (b.toNat:Int)) b.data).extract 0 b.size=Array.map (fun b:UInt8=>Value.int IntKind.u8 (b.toNat:Int)) b.data:=by
  have hs:b.size=(Array.map (fun b:UInt8=>Value.int IntKind.u8 (b.toNat:Int)) b.data).size:=by rw [Array.size_map];rfl
  rw [hs,Array.extract_size]
 simp [Builtin.firstCells,hx]
theorem oB (T:SlType P t e 1 1) (hu:P.underlying u=some .string) (s:Sl) (hc:s.len≤s.cap) (b:ByteArray) (hb:b.size=0):(Builtin.append_ #[t,u] ty #[s.v,.string b]).run P w=.ok s.v w:=by
 obtain ⟨a,n,c⟩:=s;simp only at hc;have hbd:b=⟨#[]⟩:=by cases b;simp only [ByteArray.size] at hb;congr;exact Array.eq_empty_of_size_eq_zero hb
 subst hbd;cases a <;> simp [Builtin.append_,Sl.v,run_underlying T.ht,run_underlying hu,T.sizeOf,Builtin.lenOf,Builtin.firstCells,storeCells,hc,ByteArray.size]
theorem Rws.appendStr (T:SlType P t e 1 1) (hu:P.underlying u=some .string) {s:Sl} {rs:List (List Value)} (h:Rws w e 1 s rs) (b:ByteArray) (hb:rs.length+b.size≤140737488355328) (hm:rs.length+b.size≤maxLen) :
  ∃s' w',(Builtin.append_ #[t,u] ty #[s.v,.string b]).run P w=.ok s'.v w'∧Rws w' e 1 s' (rs++byr b.data.toList)∧Ext s.blk w w'∧(∀b,s'.blk b→s.blk b∨w.heap.size≤b):=by
 obtain ⟨i,z,hi,hz,hsz,hby,hzs⟩:=T.hi
 have hbl:b.data.toList.length=b.size:=by rw [Array.length_toList];rfl
 by_cases h0:b.size=0
 ·have hc : s.len ≤ s.cap := by
   rcases h.own with ⟨rfl,_⟩ | ⟨g,cur,_,_,hc,_⟩
   ·exact Nat.le_refl _
   ·rw [h.len];exact hc
  have:b.data.toList=[]:=List.length_eq_zero_iff.1 (by omega)
  rw [this]
  exact ⟨s,w,oB T hu s hc b h0,by simpa [byr] using h,Ext.refl w,fun b hb=>.inl hb⟩
 have hml:rs.length+b.size≤9223372036854775807:=by simp only [maxLen] at hm;omega
 have hfl:=zK h.each
 have hql:(byr b.data.toList).length=b.size:=by rw [zN,hbl]
 have heach:∀q∈rs++byr b.data.toList,q.length=1:=fun q hq=>(List.mem_append.1 hq).elim (h.each q) (jCY _ q)
 have hfq:(b.data.map (fun x=>Value.int .u8 (x.toNat:Int))).toList=(byr b.data.toList).flatten:=by rw [jFC];simp
 have hsv:(b.data.map (fun x=>Value.int .u8 (x.toNat:Int))).size=b.size:=by rw [Array.size_map];rfl
 rcases h.own with ⟨rfl,rfl⟩ | ⟨g,cur,ha,hg,hcap,hcm,hcs,htake⟩
 ·simp only [List.length_nil,Nat.zero_add] at hb hml hm
  have hrun:=run_append_nil_string (P:=P) w t u ty e i z T.ht hu hi hz b (by omega) (by omega) (by rw [hby];omega)
  have hgr:=Rws.grown (w:=w) (e:=e) (sz:=1) (rs:=byr b.data.toList) (jCY _) (cur:=b.data.map (fun x=>Value.int .u8 (x.toNat:Int))) (by rw [hzs]) hfq (cap:=grownCap w b.size 0 e) (by rw [hql];exact grownCap_ge w _ 0 e) (grownCap_le_maxLen w _ 0 e hm)
  rw [hql] at hgr
  exact ⟨⟨some ⟨w.heap.size,0,none⟩,b.size,grownCap w b.size 0 e⟩,_,hrun,by simpa using hgr,⟨rfl,rfl,rfl,(by first | exact Nat.le_refl _ | exact Nat.le_succ _),by simp,fun b hb _=>uT w.drew _ b hb⟩,fun b hb=>by obtain ⟨a,ha,rfl⟩:=hb;cases ha;right;exact Nat.le_refl _⟩
 ·have hs':s.v=.slice (some ⟨g,0,none⟩) rs.length s.cap:=by unfold Sl.v;rw [ha,h.len]
  by_cases hroom:rs.length+b.size≤s.cap
  ·have hfit:rs.length+(byr b.data.toList).flatten.length≤cur.size:=by rw [zK (jCY _),hql,hcs];omega
   have h1':∀u∈(byr b.data.toList).flatten,u.oneCell'=true:=fun u hu=>by
    rw [jFC] at hu;obtain ⟨x,_,rfl⟩:=List.mem_map.1 hu;rfl
   have hst:=run_storeCells_at P g rs.length e (byr b.data.toList).flatten 0 cur w hg (by simpa using hfit) h1'
   have hrun:(Builtin.append_ #[t,u] ty #[s.v,.string b]).run P w=.ok (.slice (some ⟨g,0,none⟩) (rs.length+b.size) s.cap) (w.setRow g (cur.toList.take rs.length++(byr b.data.toList).flatten++cur.toList.drop (rs.length+(byr b.data.toList).flatten.length)).toArray):=by
    rw [hs'];simp only [Nat.add_zero] at hst;have hf:=lX (P:=P) (w:=w) b;rw [jFC] at hst ⊢;simp [Builtin.append_,run_underlying T.ht,run_underlying hu,T.sizeOf,Builtin.lenOf,hroom,hf,Addr.add_lit,hst]
   refine ⟨⟨some ⟨g,0,none⟩,rs.length+b.size,s.cap⟩,_,hrun,⟨heach,by simp [hql],.inr ⟨g,_,rfl,setRow_heap w g cur _ e _ hg,by simpa [hql] using hroom,hcm,?_,?_⟩⟩,⟨rfl,rfl,rfl,(by first | exact Nat.le_refl _ | exact Nat.le_succ _),by simp,fun b hb hf=>setRow_other w g b _ (fun e=>hf ⟨_,ha,e.symm⟩)⟩,fun b hb=>by obtain ⟨a,ha',rfl⟩:=hb;cases ha';exact .inl ⟨_,ha,rfl⟩⟩
   ·simp only [List.size_toArray,List.length_append,List.length_take,List.length_drop,Array.length_toList]
    omega
   ·simp only [Nat.mul_one] at htake hfl ⊢
    rw [htake,List.flatten_append,List.length_append,hql]
    rw [zK (jCY _),hql,← hfl]
    simp only [Nat.mul_one]
    rw [show rs.flatten.length+b.size=(rs.flatten++(byr b.data.toList).flatten).length by rw [List.length_append,zK (jCY _),hql];omega]
    exact List.take_left
  ·have holds : ∀ j u, rs.flatten[j]? = some u → w.cell? ((⟨g, 0, none⟩ : Addr).add j) = some u := fun j u hu => by
    have hadd:(⟨g,0,none⟩:Addr).add j=⟨g,j,none⟩:=by unfold Addr.add;split <;> simp_all
    rw [hadd,cell_of_row w g j cur e (0,0) hg];rw [← htake,List.getElem?_take] at hu;split at hu
    ·simpa using hu
    ·cases hu
   have hfit:=growslice_fits (need:=rs.length+b.size) (old:=s.cap) (bytes:=1) (by omega) (by omega)
   have hgr:=Rws.grown (w:=w) (e:=e) (sz:=1) (rs:=rs++byr b.data.toList) heach (cur:=rs.flatten.toArray++b.data.map (fun x=>Value.int .u8 (x.toNat:Int))) (by rw [hzs]) (by simp [← hfq]) (cap:=grownCap w (rs.length+b.size) s.cap e) (by rw [List.length_append,hql];exact grownCap_ge w _ s.cap e) (grownCap_le_maxLen w _ _ e hm)
   have hrun:(Builtin.append_ #[t,u] ty #[s.v,.string b]).run P w=.ok (.slice (some ⟨w.heap.size,0,none⟩) (rs.length+b.size) (grownCap w (rs.length+b.size) s.cap e)) (w.drew.alloc (.cells (rs.flatten.toArray++b.data.map (fun x=>Value.int .u8 (x.toNat:Int))++Builtin.zeroCells z.cells (grownCap w (rs.length+b.size) s.cap e - (rs.length+b.size))) e)):=by
    rw [hs'];have hn:¬ (rs.length+b.size≤s.cap):=by omega
    have h63':¬ (9223372036854775807<((rs.length:Int)+(b.size:Int))):=by omega
    have h48':¬ (281474976710656<Builtin.nextslicecap (rs.length+b.size) s.cap*i.bytes):=by rw [hby];omega
    have hfo:=run_firstCells_some (P:=P) w.drew i.size rs.length ⟨g,0,none⟩ rs.length s.cap rs.flatten (by rw [hsz];exact hfl) (by simpa using holds);have hf:=lX (P:=P) (w:=w.drew) b;rw [hsz] at hfo;simp [Builtin.append_,run_underlying T.ht,run_underlying hu,sizeOf,typeInfo,zeroValue,hi,hz,Builtin.lenOf,hn,h63',h48',Question.forced,hf,hfo,newRow,grownCap,hsz]
    try (congr 2;apply Array.ext';simp [List.append_assoc])
   rw [List.length_append,hql] at hgr
   exact ⟨⟨some ⟨w.heap.size,0,none⟩,rs.length+b.size,grownCap w (rs.length+b.size) s.cap e⟩,_,hrun,hgr,⟨rfl,rfl,rfl,(by first | exact Nat.le_refl _ | exact Nat.le_succ _),by simp,fun b hb _=>uT w.drew _ b hb⟩,fun b hb=>by obtain ⟨a,ha,rfl⟩:=hb;cases ha;right;exact Nat.le_refl _⟩
end
section
variable {P:Program} {w:World} {t:TypeId}
set_option maxRecDepth 4000 in
theorem or128:∀m:Fin 256,m.val ||| 128=m.val % 128+128:=by decide
theorem jNA (n:Nat):(Go.binOp .or t (.int .u8 (IntKind.u8.wrap (n:Int))) (.int .u8 128)).run P w=.ok (.int .u8 ((UInt8.ofNat (n % 128+128)).toNat:Int)) w:=by
 have h:IntKind.u8.wrap ((BitVec.ofInt IntKind.u8.bits (IntKind.u8.wrap (n:Int)) ||| BitVec.ofInt IntKind.u8.bits 128).toNat:Int)=((UInt8.ofNat (n % 128+128)).toNat:Int):=by
  have e1:(BitVec.ofInt IntKind.u8.bits (IntKind.u8.wrap (n:Int))).toNat=n % 256:=by
   rw [lZ,UInt8.toNat_ofNat',BitVec.toNat_ofInt];simp [IntKind.bits];omega
  have e2:(BitVec.ofInt IntKind.u8.bits 128).toNat=128:=by decide
  rw [BitVec.toNat_or,e1,e2,or128 ⟨n % 256,Nat.mod_lt _ (by omega)⟩,lZ];simp only [UInt8.toNat_ofNat'];omega
 show ((pure (Value.int .u8 _):Sem Value)).run P w=_;rw [h];rfl
theorem jQD (n:Nat):(Go.binOp .shr t (.int .u64 (n:Int)) (.int .u64 7)).run P w=.ok (.int .u64 ((n / 128:Nat):Int)) w:=by
 simp [Go.binOp,go_sem,IntKind.bits]
theorem jKW (c:Nat) (h:c<256):(Go.binOp .and t (.int .u8 (c:Int)) (.int .u8 127)).run P w=.ok (.int .u8 ((c % 128:Nat):Int)) w:=by
 have hr:IntKind.u8.wrap ((BitVec.ofInt IntKind.u8.bits (c:Int) &&& BitVec.ofInt IntKind.u8.bits 127).toNat:Int)=((c % 128:Nat):Int):=by
  have e1:(BitVec.ofInt IntKind.u8.bits (c:Int)).toNat=c:=by
   rw [BitVec.toNat_ofInt];simp [IntKind.bits];omega
  have e2:(BitVec.ofInt IntKind.u8.bits 127).toNat=2 ^ 7 - 1:=by decide
  rw [BitVec.toNat_and,e1,e2,Nat.and_two_pow_sub_one_eq_mod,lZ];simp only [UInt8.toNat_ofNat'];omega
 show ((pure (Value.int .u8 _):Sem Value)).run P w=_;rw [hr];rfl
theorem vL {n:Nat} (h:n<18446744073709551616):IntKind.u64.wrap (n:Int)=(n:Int):=by
 simp [IntKind.wrap,IntKind.bits,IntKind.signed];omega
theorem jTG (x k:Nat) (hk:k<64) (h:x*2 ^ k<18446744073709551616):(Go.binOp .shl t (.int .u64 (x:Int)) (.int .i64 (k:Int))).run P w=.ok (.int .u64 ((x*2 ^ k:Nat):Int)) w:=by
 have hr:IntKind.u64.wrap ((x:Int)*2 ^ min (k:Int).toNat IntKind.u64.bits)=((x*2 ^ k:Nat):Int):=by
  have:min (k:Int).toNat IntKind.u64.bits=k:=by simp [IntKind.bits];omega
  rw [this,← vL h];simp
 have h0:¬ ((k:Int)<0):=by omega
 show (Op.shift .shl .u64 (x:Int) .i64 (k:Int)).run P w=_;unfold Op.shift;rw [if_neg h0];show ((pure (Value.int .u64 (IntKind.u64.wrap ((x:Int)*2 ^ min (k:Int).toNat IntKind.u64.bits))):Sem Value)).run P w=_;rw [hr];rfl
theorem jQG (x y:Nat) (hx:x<18446744073709551616) (hy:y<18446744073709551616):(Go.binOp .or t (.int .u64 (x:Int)) (.int .u64 (y:Int))).run P w=.ok (.int .u64 ((x ||| y:Nat):Int)) w:=by
 have hr:IntKind.u64.wrap ((BitVec.ofInt IntKind.u64.bits (x:Int) ||| BitVec.ofInt IntKind.u64.bits (y:Int)).toNat:Int)=((x ||| y:Nat):Int):=by
  have e (z:Nat) (hz:z<18446744073709551616):(BitVec.ofInt IntKind.u64.bits (z:Int)).toNat=z:=by
   rw [BitVec.toNat_ofInt];simp [IntKind.bits];omega
  rw [BitVec.toNat_or,e x hx,e y hy,vL (Nat.or_lt_two_pow (n:=64) hx hy)]
 show ((pure (Value.int .u64 _):Sem Value)).run P w=_;rw [hr];rfl
theorem or_add {x y k:Nat} (h:x<2 ^ k):x ||| (y*2 ^ k)=x+y*2 ^ k:=by
 have:=Nat.shiftLeft_add_eq_or_of_lt h y;rw [Nat.shiftLeft_eq] at this;rw [Nat.or_comm,← this,Nat.add_comm]
end
theorem Lst.sub {P:Program} {t e:TypeId} {sz bytes:Nat} {S:NP} (T:SlType P t e sz bytes) {w:World} {s:Sl} {rs:List (List Value)} (h:Lst S w sz s rs) (hcap:s.len≤s.cap) {k:IntKind} {lo n:Nat} (hn:lo+n≤rs.length) :
  ∃s':Sl,(Instr.sliceAt t s.v (some (.int k (lo:Int))) (some (.int k ((lo+n:Nat):Int))) none).run P w=.ok s'.v w∧Lst S w sz s' ((rs.drop lo).take n):=by
 have h1:((lo+n:Nat):Int)≤(s.cap:Int):=by rw [h.len] at hcap;omega
 have h2:(lo:Int)≤((lo+n:Nat):Int):=by omega
 refine ⟨⟨if s.cap=lo then s.a else s.a.map (·.add (lo*sz)),n,s.cap - lo⟩,?_,⟨by simp;omega,fun i hi=>?_⟩⟩
 ·simp [Instr.sliceAt,Instr.slice,Sl.v,run_underlying T.ht,Instr.sliceBounds,Instr.sliceBound,asIntOf,T.sizeOf]
  rw [if_pos (by omega),if_pos (by omega),show ((lo:Int)+(n:Int)).toNat - lo=n by omega]
 ·have hi':lo+i<rs.length:=by simp at hi;omega
  obtain ⟨a,⟨_,hlt,p,hp,rfl⟩,hS,hr⟩:=h.at_ (lo+i) hi'
  refine ⟨_,⟨by omega,by simp at hi ⊢;omega,p.add (lo*sz),?_,rfl⟩,?_,?_⟩
  ·rw [if_neg (by rw [h.len] at hcap;omega),hp];rfl
  ·simpa [zA] using hS
  ·have : (p.add (lo * sz)).add ((i : Int).toNat * sz) = p.add (((lo + i : Nat) : Int).toNat * sz) := by
    rw [yS,Int.toNat_natCast,Int.toNat_natCast,Nat.add_mul]
   rw [this,List.getElem_take,List.getElem_drop];exact hr
end Go.SE
end
section
open Go Go.SE
namespace Go.Proofs
open Tryz
theorem jJO {P:Program} {t:TypeId} (n:Nat) (w:World):(Go.binOp .shr t (.int .u8 (n:Int)) (.int .u64 4)).run P w=.ok (.int .u8 ((n / 16:Nat):Int)) w:=by
 simp [Go.binOp,go_sem,IntKind.bits]
theorem jFT {P:Program} {t:TypeId} (c:Nat) (h:c<256) (w:World):(Go.binOp .and t (.int .u8 (c:Int)) (.int .u8 15)).run P w=.ok (.int .u8 ((c % 16:Nat):Int)) w:=by
 have hr:IntKind.u8.wrap ((BitVec.ofInt IntKind.u8.bits (c:Int) &&& BitVec.ofInt IntKind.u8.bits 15).toNat:Int)=((c % 16:Nat):Int):=by
  have e1:(BitVec.ofInt IntKind.u8.bits (c:Int)).toNat=c:=by
   rw [BitVec.toNat_ofInt];simp [IntKind.bits];omega
  have e2:(BitVec.ofInt IntKind.u8.bits 15).toNat=2 ^ 4 - 1:=by decide
  rw [BitVec.toNat_and,e1,e2,Nat.and_two_pow_sub_one_eq_mod,lZ];simp only [UInt8.toNat_ofNat'];omega
 show ((pure (Value.int .u8 _):Sem Value)).run P w=_;rw [hr];rfl
theorem jOK (x:ByteArray) (n:Nat) (h:n<x.data.toList.length) (w:World):(Instr.index 9 (.string x) (.int .i64 (n:Int))).run prog w=.ok (.int .u8 ((x.data.toList[n]).toNat:Int)) w:=by
 have hs:x.size=x.data.toList.length:=by rw [Array.length_toList];rfl
 have hn:n<x.size:=by omega
 rw [run_index_string w _ _ _ _ underlying9,dif_pos ⟨by omega,by omega⟩];rfl
theorem xC {P:Program} {t:TypeId} (w:World) (x y:List UInt8) (hx:x.length≤100000) (hy:y.length≤100000) :
  (Go.binOp .add t (.string ⟨x.toArray⟩) (.string ⟨y.toArray⟩)).run P w=.ok (.string ⟨(x++y).toArray⟩) w:=by
 rw [binOp_string_add]
 exact run_string_add_lists w x y (by omega) (by omega)
end Go.Proofs
end
section
open Go Go.SE
namespace Go.SE
theorem jCT {B:Nat} {w w':World} (h:RowKit.Below B w w'):Ext (fun b=>B≤b) w w':=⟨h.os,h.tape,h.output,(by first | exact Nat.le_refl _),h.size,fun b _ hf=>h.block b (by omega)⟩
def look {α:Type}:List (Int×α)→Int→Option α
 | [],_=>none
 | p :: M,k=>if p.1=k then some p.2 else look M k
theorem uP {α:Type} {M:List (Int×α)} {k:Int}:look M k=none↔k ∉ M.map Prod.fst:=by
 induction M with
 | nil=>simp [look]
 | cons p M ih =>
  rw [look]
  split
  ·rename_i h;simp [h]
  ·rename_i h;rw [ih,List.map_cons,List.mem_cons];exact ⟨fun h1 h2=>h2.elim (fun e=>h e.symm) h1,fun h1 h2=>h1 (.inr h2)⟩
theorem tF {α:Type} {M:List (Int×α)} {k:Int} {v:α} (h:look M k=some v):(k,v)∈M:=by
 induction M with
 | nil=>cases h
 | cons p M ih =>
  rw [look] at h
  split at h
  ·rename_i e;cases h;subst e;simp
  ·exact List.mem_cons_of_mem _ (ih h)
theorem jNZ {α:Type} {M:List (Int×α)} (hn:(M.map Prod.fst).Nodup) {i:Nat} {k:Int} {v:α} (h:M[i]?=some (k,v)):look M k=some v:=by
 induction M generalizing i with
 | nil=>simp at h
 | cons p M ih =>
  rw [List.map_cons,List.nodup_cons] at hn
  rw [look]
  cases i with
  | zero=>simp at h;subst h;simp
  | succ i =>
   have h':M[i]?=some (k,v):=by simpa using h
   have hne:p.1≠k:=fun e=>hn.1 (by rw [e];exact List.mem_map.2 ⟨_,List.mem_of_getElem? h',rfl⟩)
   rw [if_neg hne]
   exact ih hn.2 h'
theorem jIJ {α:Type} {M:List (Int×α)} (hn:(M.map Prod.fst).Nodup) {k:Int} {v:α} (h:(k,v)∈M):look M k=some v:=by
 obtain ⟨i,hi,e⟩:=List.getElem_of_mem h;exact jNZ hn (by rw [List.getElem?_eq_getElem hi,e])
theorem jNY {α:Type} {M:List (Int×α)} {k x:Int} {v:α} (h:k ∉ M.map Prod.fst):look (M++[(k,v)]) x=if k=x then some v else look M x:=by
 induction M with
 | nil=>simp [look]
 | cons p M ih =>
  simp only [List.map_cons,List.mem_cons,not_or] at h
  rw [List.cons_append,look,look,ih h.2]
  by_cases e:p.1=x
  ·rw [if_pos e,if_pos e,if_neg (fun e'=>h.1 (e'.trans e.symm))]
  ·rw [if_neg e,if_neg e]
def jLX (k:Int):Value:=.int .i64 k
structure IMap {α:Type} (f:α→Value) (w:World) (m:Nat) (M:List (Int×α)):Prop where
 map:CMap w m (M.map fun p=>(jLX p.1,f p.2))
 nd:(M.map Prod.fst).Nodup
section
variable {α:Type} {f:α→Value} {w w':World} {m:Nat} {M:List (Int×α)} {P:Program} {T K E:TypeId}
theorem IMap.ext {F:NP} (h:IMap f w m M) (hE:Ext F w w') (hf:¬ F m):IMap f w' m M:=⟨h.map.ext hE hf,h.nd⟩
theorem IMap.pure (h:IMap f w m M) (hE:Pure w w'):IMap f w' m M:=h.ext hE id
theorem IMap.lt (h:IMap f w m M):m<w.heap.size:=h.map.lt
theorem IMap.of_new {p:Addr} (h:New w (.map #[] 0) p w'):IMap f w' p.block []:=⟨CMap.of_new h,List.nodup_nil⟩
theorem IMap.keys (M:List (Int×α)):∀p∈M.map (fun p=>(jLX p.1,f p.2)),∃n,p.1=.int .i64 n:=by
 intro p hp;obtain ⟨q,_,rfl⟩:=List.mem_map.1 hp;exact ⟨_,rfl⟩
theorem IMap.get (h:IMap f w m M) (hT:P.underlying T=some (.map K E)) (hK:P.underlying K=some (.int .i64)) {z:Value} (hz:(zeroValue E).run P w=.ok z w) (k:Int) (ok:Bool) :
  (look M k=none∧(Instr.lookup T (.map (some m)) (.int .i64 k) ok).run P w=.ok (if ok then .tuple #[z,.bool false] else z) w)∨∃v,look M k=some v∧(Instr.lookup T (.map (some m)) (.int .i64 k) ok).run P w=.ok (if ok then .tuple #[f v,.bool true] else f v) w:=by
 rcases h.map.lookup hT (KeyOK.of_int hK) (IMap.keys M) (k:=jLX k) ⟨k,rfl⟩ hz ok with ⟨h1,h2⟩ | ⟨i,v,h1,h2⟩
 ·refine .inl ⟨uP.2 fun hm=>?_,h2⟩
  obtain ⟨q,hq,rfl⟩:=List.mem_map.1 hm
  exact h1 _ (List.mem_map.2 ⟨q,hq,rfl⟩) rfl
 ·rw [List.getElem?_map] at h1
  cases hi:M[i]? with
  | none=>rw [hi] at h1;cases h1
  | some q =>
   rw [hi] at h1
   obtain ⟨a,b⟩:=q
   simp [jLX] at h1
   obtain ⟨rfl,rfl⟩:=h1
   exact .inr ⟨b,jNZ h.nd hi,h2⟩
theorem IMap.put (h:IMap f w m M) (hT:P.underlying T=some (.map K E)) (hK:P.underlying K=some (.int .i64)) {k:Int} (hn:look M k=none) (v:α) :
  ∃w',(Instr.mapUpdate T (.map (some m)) (.int .i64 k) (f v)).run P w=.ok () w'∧IMap f w' m (M++[(k,v)])∧Ext (·=m) w w':=by
 have hn':=uP.1 hn
 obtain ⟨w',h1,h2,h3⟩:=h.map.insert hT (KeyOK.of_int hK) (IMap.keys M) (k:=jLX k) (v:=f v) ⟨k,rfl⟩ (fun p hp e=>by
  obtain ⟨q,hq,rfl⟩:=List.mem_map.1 hp;simp only [jLX,Value.int.injEq,true_and] at e;exact hn' (List.mem_map.2 ⟨q,hq,e⟩))
 refine ⟨w',h1,⟨by simpa using h2,?_⟩,h3⟩
 rw [List.map_append,List.nodup_append]
 exact ⟨h.nd,by simp,fun x hx y hy e=>by simp at hy;subst hy;exact hn' (e▸hx)⟩
theorem IMap.again (h:IMap f w m M) (hT:P.underlying T=some (.map K E)) (hK:P.underlying K=some (.int .i64)) {k:Int} {v:α} (hv:look M k=some v) :
  ∃w',(Instr.mapUpdate T (.map (some m)) (.int .i64 k) (f v)).run P w=.ok () w'∧IMap f w' m M∧Ext (·=m) w w':=by
 obtain ⟨i,hi,e⟩:=List.getElem_of_mem (tF hv)
 have hes:(M.map fun p=>(jLX p.1,f p.2))[i]?=some (jLX k,f v):=by simp [hi,e]
 obtain ⟨w',h1,h2,h3⟩:=h.map.update hT (KeyOK.of_int hK) (IMap.keys M) (k:=jLX k) (v:=f v) (v':=f v) ⟨k,rfl⟩ hes (fun j u hj=>by
  rw [List.getElem?_map] at hj;cases hq:M[j]? with
  | none=>rw [hq] at hj;cases hj
  | some q =>
   rw [hq] at hj
   simp [jLX] at hj
   obtain ⟨hj',hje⟩:=List.getElem?_eq_some_iff.1 hq
   have h4:(M.map Prod.fst)[j]'(by simpa using hj')=(M.map Prod.fst)[i]'(by simpa using hi):=by simp [hje,e,hj.1]
   exact (List.getElem_inj h.nd).1 h4)
 have hset:(M.map fun p=>(jLX p.1,f p.2)).set i (jLX k,f v)=M.map fun p=>(jLX p.1,f p.2):=by
  apply List.ext_getElem?;intro n;rw [List.getElem?_set];by_cases hn:i=n
  ·subst hn;rw [if_pos rfl];simp [hi,e]
  ·rw [if_neg hn]
 rw [hset] at h2
 exact ⟨w',h1,⟨h2,h.nd⟩,h3⟩
end
end Go.SE
end
section
open Go Go.SE
namespace Go.SE
theorem Ext.putObj (w:World) (r:Nat) (o:Obj):Ext (·=r) w (w.putObj r o):=⟨rfl,rfl,rfl,(by first | exact Nat.le_refl _ | exact Nat.le_succ _),by simp,fun b _ hne=>World.putObj_heap_other hne⟩
abbrev Yld (P:Program) (l:Nat) (args:Array Value) (w:World) (R:Ending→WP):Prop:=YieldAt Fence.wide 0 P l args w R
def jPR (P:Program) (gf:FuncId) (lb:Array Value) {α:Type} (encs:α→Array Value) (xs:List α) (Rd:WP) (w:World):Prop :=
 ∀(l:Nat) (J Jx:List α→NP→WP) (W:World),Pure w W →
  (∀pre X A,J pre X A→Rd A) →
  (∀pre X A X' A',J pre X A→Hst W X A X' A'→J pre X' A') →
  (∀pre X A X' A',Jx pre X A→Hst W X A X' A'→Jx pre X' A') →
  (∀pre y X A,J pre X A→Hst W X A X A→(∃post,xs=pre++y :: post)→Yld P l (encs y) A (fun e A'=>(e=.returned (.bool true)∧Kept X A A'∧J (pre++[y]) X A')∨(e=.returned (.bool false)∧Kept X A A'∧Jx (pre++[y]) X A'))) →
  J [] None W →
  Calls P gf (#[.func (.yield l) #[] #[]]++lb) W (fun e A=>(∃v,e=.returned v)∧∃X,Hst W X A X A∧(J xs X A∨∃pre,Jx pre X A))
def jQB:List Nat→List Value→Env→Env
 | p :: ps,v :: vs,ρ=>jQB ps vs (upd ρ p v)
 | _,_,ρ=>ρ
theorem jFW {n:Nat}:∀(ps:List Nat) (vs:List Value) (ρ:Env) (t:Array Value),(∀p∈ps,p<n)→Rep [] n ρ { tmps:=t,defers:=[] } →
  Rep [] n (jQB ps vs ρ) { tmps:=(ps.zip vs).foldl (fun t (x:Nat×Value)=>t.setIfInBounds x.1 x.2) t,defers:=[] }
 | [],vs,ρ,t,_,h=>by cases vs <;> exact h
 | p :: ps,[],ρ,t,_,h=>h
 | p :: ps,v :: vs,ρ,t,hp,h=>by
  rw [List.zip_cons_cons,List.foldl_cons];exact jFW ps vs _ _ (fun q hq=>hp q (by simp [hq])) (h.put (d:=some p) (fun k hk=>by cases hk;exact hp p (by simp)) v)
def jJT (id:Nat) (Y:NP) (A:World) (I Ix Ir:NP→WP):Exit→Env→WP
 | .normal,_,A'=>Kept Y A A'∧I Y A'
 | .exit id',_,A'=>id'=id∧Kept Y A A'∧Ix Y A'
 | .ret,_,A'=>Kept Y A A'∧Ir Y A'
 | _,_,_=>False
def jST (D:Nat) (Q:Exit→Env→WP):Exit→Env→WP
 | .ret,ρ,w=>w.heap[D]?=some (.deferred (some []))∧Q .ret ρ (w.putObj D (.deferred none))
 | _,_,_=>False
theorem Kept.trans {H:NP} {a b c:World} (h:Kept H a b) (k:Kept H b c):Kept H a c:=⟨Nat.le_trans h.size k.size,fun i hi hH=>(k.keep i (Nat.lt_of_lt_of_le hi h.size) hH).trans (h.keep i hi hH)⟩
theorem Kept.mono {H H':NP} {a b:World} (h:Kept H a b) (hs:∀b,H' b→H b):Kept H' a b:=⟨h.size,fun i hi hH=>h.keep i hi (hs i hH)⟩
structure RngI {α:Type} (w0:World) (Rd:WP) (I Ix Ir:List α→NP→WP):Prop where
 rd:∀pre Y A,I pre Y A→Rd A
 i:∀pre Y A Y' A',I pre Y A→Hst w0 Y A Y' A'→I pre Y' A'
 x:∀pre Y A Y' A',Ix pre Y A→Hst w0 Y A Y' A'→Ix pre Y' A'
 r:∀pre Y A Y' A',Ir pre Y A→Hst w0 Y A Y' A'→Ir pre Y' A'
def wpB (P:Program) (n:Nat) (c y:Code) (Q:Exit→Env→WP) (ρ:Env) (w:World):Prop:=∀a,Rep [] n ρ a→c.wpIn (fen none) 0 P (Exit.then (fun a w=>y.wpIn (fen none) 0 P (jLO ⟨none,[]⟩ n Q) a w) (jLO ⟨none,[]⟩ n Q)) a w
theorem jED {P:Program} {n:Nat} {Q:Exit→Env→WP} {ρ:Env} {w:World} {a c y:Code} (h:wpE (x:=⟨none,[]⟩) P n a (oR (fun ρ w=>wpB P n c y Q ρ w) Q) ρ w):wpE (x:=⟨none,[]⟩) P n (.seq (.seq a c) y) Q ρ w:=fun a ha =>
 wpIn_seq (wpIn_seq (wpIn_mono (h a ha) (fun e a w hl=>by
  cases e with
  | normal=>obtain ⟨ρ',hr,hq⟩:=jCM hl;exact hq a hr
  | _=>exact hl)))
theorem af_r {D:Nat} {Q:Exit→Env→WP} {ρ:Env} {w:World} (h1:w.heap[D]?=some (.deferred (some []))) (h:∀w1,w1=w.putObj D (.deferred none)→Q .ret ρ w1):jST D Q .ret ρ w:=⟨h1,h _ rfl⟩
theorem rd_n {id:Nat} {Y:NP} {A A':World} {I Ix Ir:NP→WP} {ρ:Env} (h:Kept Y A A'∧I Y A'):jJT id Y A I Ix Ir .normal ρ A':=h
theorem rd_x {id:Nat} {Y:NP} {A A':World} {I Ix Ir:NP→WP} {ρ:Env} (h:Kept Y A A'∧Ix Y A'):jJT id Y A I Ix Ir (.exit id) ρ A':=⟨rfl,h⟩
theorem rd_r {id:Nat} {Y:NP} {A A':World} {I Ix Ir:NP→WP} {ρ:Env} (h:Kept Y A A'∧Ir Y A'):jJT id Y A I Ix Ir .ret ρ A':=h
theorem HBZ.behind {H Y:NP} {w A:World} {l:List HBx} {D:Nat} (hb:HB H w l) (hk:Kept H w A) (hH:∀b,H b→Y b) (hD:Y D) (hDe:A.heap[D]?=some (.deferred (some []))):HBZ [(D,.deferred (some []))] Y A l :=
 ⟨(hb.kept hk).box,fun x hx=>hH _ (hb.hid x hx),hb.ne,fun x hx=>by
  cases List.mem_singleton.1 hx;exact ⟨hD,hDe,rfl⟩⟩
theorem HBZ.leave {w0 wv:World} {Hv H:NP} {w:World} {l:List HBx} {D:Nat} (hb:HBZ [(D,.deferred (some []))] H w l) (hs:Hst w0 Hv wv H w) {w1:World} (h1:w1=w.putObj D (.deferred none)):Hst w0 Hv wv H w1∧HB H w1 l:=by
 have hz:=hb.fz _ (List.mem_singleton.2 rfl);have E:Ext (·=D) w w1:=by rw [h1];exact Ext.putObj w D _
 refine ⟨⟨h1▸hs.ext.trans' (Ext.putObj w D _) (fun b _ e=>by subst e;exact hz.1),hs.sub,hs.new,hs.old,fun b hb=>Nat.lt_of_lt_of_le (hs.lt b hb) E.size,Nat.le_trans hs.base E.size⟩,?_⟩;refine ⟨fun x hx=>(hb.box x hx).ext E (fun e=>?_),hb.hid,hb.ne,fun x hx=>by cases hx⟩;have h2:=(hb.box x hx).blk;rw [e,hz.2.1] at h2;cases h2
theorem HBZ.dead {H:NP} {w:World} {l:List HBx} {D:Nat} (hb:HBZ [(D,.deferred (some []))] H w l):w.heap[D]?=some (.deferred (some [])):=(hb.fz _ (List.mem_singleton.2 rfl)).2.1
theorem jSV {P:Program} {ε:Operand→Value} {w w':World} {d:Option Tmp} {ty:TypeId} {pos:String} {aft:Array Edge} {g:Option (Nat×Bool)} {l:Nat} {x:Operand} {v:Value} {c:List Operand} {ts:Array TypeId} {args:Array Value} {r:Next} (hx:ε x=v) (hv:v=.func (.yield l) #[] #[]) (ha:(c.map ε).toArray=args) (hr:(Instr.yield l args).run P w=.ok r w') :
  (execOp ε ⟨d,.call ⟨.value x,c.toArray,ts⟩,ty,pos,aft,g⟩).run P w=.ok r w':=by
 subst hv;subst ha
 simp [execOp,resolve,hx,Deferred.ofValue,invoke,hr]
theorem jQA {P:Program} {ops:Array Oper} {Q:Env→WP} {ρ:Env} {w:World} {rest:List Oper} {d:Option Tmp} {ty:TypeId} {pos:String} {aft:Array Edge} {g:Option (Nat×Bool)} {l:Nat} {x:Operand} {v:Value} {c:List Operand} {ts:Array TypeId} {args:Array Value}
  (hw:Region.wanted ⟨d,.call ⟨.value x,c.toArray,ts⟩,ty,pos,aft,g⟩ (jL ops ρ)=true) (hx:evE ρ x=v) (hv:v=.func (.yield l) #[] #[]) (ha:(c.map (evE ρ)).toArray=args)
  (h:Yld P l args w (fun e w''=>∃v,e=.returned v∧wpL P ops Q rest (put ρ d v) w'')):wpL P ops Q (⟨d,.call ⟨.value x,c.toArray,ts⟩,ty,pos,aft,g⟩ :: rest) ρ w:=by
 obtain ⟨fn,tmps,assign,body,hr,hR⟩:=h
 unfold wpL
 rw [if_pos hw]
 unfold yld
 rw [jSV hx hv ha hr]
 exact hR
theorem Yld.mono {P:Program} {l:Nat} {args:Array Value} {w:World} {R R':Ending→WP} (h:Yld P l args w R) (hr:∀e w,R e w→R' e w):Yld P l args w R':=by
 obtain ⟨fn,tmps,assign,body,h1,h2⟩:=h;exact ⟨fn,tmps,assign,body,h1,RoundIn.mono h2 hr⟩
section
variable {P:Program} {n:Nat} {Q:Exit→Env→WP} {ρ:Env} {w w0:World} {H Hv:NP} {wv:World}
theorem jBR {id:Nat} {g:Operand} {ps:Array Tmp} {assign body y:Code} {gf:FuncId} {lb:Array Value} {α:Type} {encs:α→Array Value} {xs:List α} {Rd:WP}
  (hg:evE ρ g=.func (.func gf) #[] lb) (eg:∀args w,(callFunc gf args).run P w=.ok (.enter gf args) w) (hit:jPR P gf lb encs xs Rd w) (hps:∀z,(encs z).size=ps.size) (hpn:∀p∈ps.toList,p<n)
  (hs:Hst w0 Hv wv H w) (I Ix Ir:List α→NP→WP) (hRI:RngI w0 Rd I Ix Ir)
  (h0:I [] H w)
  (hround:∀l z A,wpE (x:=⟨some l,[]⟩) P n assign (oR (fun ρ' A'=>A'=A∧∀pre Y A,I pre Y A→Hst w0 Y A Y A→(∃post,xs=pre++z :: post)→wpE (x:=⟨some l,[]⟩) P n body (jJT id Y A (I (pre++[z])) (Ix (pre++[z])) (Ir (pre++[z]))) ρ' A) (fun _ _ _=>False)) (jQB ps.toList (encs z).toList ρ) A)
  (hrest:∀D Y A,Hst w0 Y A Y A→Y D→A.heap[D]?=some (.deferred (some []))→(∀b,H b→Y b)→Kept H w A→(I xs Y A∨∃pre,Ix pre Y A)→wpE (x:=⟨none,[mark D]⟩) P n y (jST D Q) ρ A)
  (hret:∀D pre Y A,Hst w0 Y A Y A→Y D→A.heap[D]?=some (.deferred (some []))→Ir pre Y A→Q .ret ρ (A.putObj D (.deferred none))) :
  wpB P n (.block id (.rangeFunc g ps assign body)) y Q ρ w:=by
 obtain ⟨hRd,hI,hIx,hIr⟩:=hRI
 intro a ha
 refine wpIn_block (wpIn_rangeFunc ?_)
 intro fn _
 obtain ⟨rec,hrec⟩:∃rec:LoopState→Option Code→Loop,rec=fun st pe=>{ state:=st,pending:=pe,fn,tmps:=a.tmps,params:=ps,assign,body,defers:=w.heap.size }:=⟨_,rfl⟩
 obtain ⟨W1,hW1⟩:∃W1,(w.alloc (.deferred (some []))).alloc (.loop (rec .ready none))=W1:=⟨_,rfl⟩
 have hL1:W1.heap[w.heap.size+1]?=some (.loop (rec .ready none)):=by
  rw [← hW1];have:=World.alloc_heap_new (w.alloc (.deferred (some []))) (.loop (rec .ready none));rwa [World.size_alloc] at this
 have hK1:W1.heap[w.heap.size]?=some (.deferred (some [])):=by
  rw [← hW1];exact (RowKit.Below.heap_alloc _ _ _ (by simp)).trans (World.alloc_heap_new w _)
 have hsz:W1.heap.size=w.heap.size+2:=by rw [← hW1];simp
 have E1:Pure w W1:=by
  rw [← hW1];exact ⟨rfl,rfl,rfl,(by first | exact Nat.le_refl _ | exact Nat.le_succ _),by simp;omega,fun b hb _=>(RowKit.Below.heap_alloc _ _ _ (by simp;omega)).trans (RowKit.Below.heap_alloc _ _ _ hb)⟩
 let Yo:NP→NP:=fun X b=>H b∨b=w.heap.size∨b=w.heap.size+1∨X b
 have hHlt:∀b,H b→b<w.heap.size:=hs.lt
 have here:∀{X:NP} {A:World},Hst W1 X A X A→Hst w0 (Yo X) A (Yo X) A:=fun {X A} h =>
  ⟨Ext.refl _,fun _ h=>h,fun _ h=>.inl h,fun b hb=>by
   rcases hb with hb | rfl | rfl | hb
   ·exact hs.old b hb
   ·exact hs.base
   ·have:=hs.base;omega
   ·have:=h.old b hb;have:=hs.base;omega,fun b hb=>by
   have z:=h.base;rcases hb with hb | rfl | rfl | hb
   ·have:=hHlt b hb;omega
   ·omega
   ·omega
   ·exact h.lt b hb,by have:=h.base;have:=hs.base;omega⟩
 have up:∀{X X':NP} {A A':World},Hst W1 X A X A→Hst W1 X A X' A'→Hst w0 (Yo X) A (Yo X') A':=fun {X X' A A'} h k =>
  ⟨k.ext.mono (fun b _ hb=>.inr (.inr (.inr hb))),fun b hb=>by
   rcases hb with hb | hb | hb | hb
   ·exact .inl hb
   ·exact .inr (.inl hb)
   ·exact .inr (.inr (.inl hb))
   ·exact .inr (.inr (.inr (k.sub b hb))),fun b hb=>by
   rcases hb with hb | hb | hb | hb
   ·exact .inl (.inl hb)
   ·exact .inl (.inr (.inl hb))
   ·exact .inl (.inr (.inr (.inl hb)))
   ·exact (k.new b hb).imp_left (fun h=>.inr (.inr (.inr h))),(here k.here).old,(here k.here).lt,(here k.here).base⟩
 have nX:∀{X:NP} {A:World},Hst W1 X A X A→∀b,b<w.heap.size+2→¬ X b:=fun h b hb hx=>by have:=h.old b hx;omega
 have keepH:∀{X X':NP} {A A':World},Kept H w A→Hst W1 X A X' A'→Kept H w A':=fun {X X' A A'} hk k =>
  hk.trans (k.ext.kept (fun b hb hx=>nX k.here b (by have:=hHlt b hb;omega) hx))
 have turn:∀{X:NP} {A:World} (o:Obj),Hst W1 X A X A→Hst w0 (Yo X) A (Yo X) (A.putObj (w.heap.size+1) o):=fun {X A} o h =>
  ⟨(Ext.putObj A _ o).mono (fun b _ e=>by subst e;exact .inr (.inr (.inl rfl))),fun _ h=>h,fun _ h=>.inl h,(here h).old,fun b hb=>by have:=(here h).lt b hb;simpa using this,by simpa using (here h).base⟩
 have hstW:∀{X:NP} {A:World} (o:Obj),Hst W1 X A X A→Hst W1 X (A.putObj (w.heap.size+1) o) X (A.putObj (w.heap.size+1) o):=fun o h =>
  ⟨Ext.refl _,fun _ h=>h,fun _ h=>.inl h,h.old,fun b hb=>by have:=h.lt b hb;simpa using this,by simpa using h.base⟩
 have keepT:∀{A:World} (o:Obj),Kept H w A→Kept H w (A.putObj (w.heap.size+1) o):=fun {A} o hk=>hk.trans ((Ext.putObj A _ o).kept (fun b hb e=>by have:=hHlt b hb;omega))
 let Jc:Code→List α→NP→WP:=fun c pre Y A=>match c with
  | .ret=>Ir pre Y A
  | .exit id'=>id'=id∧Ix pre Y A
  | _=>False
 have hJc:∀c pre Y A Y' A',Jc c pre Y A→Hst w0 Y A Y' A'→Jc c pre Y' A':=by
  intro c pre Y A Y' A' h k;cases c <;> first | exact hIr _ _ _ _ _ h k | exact ⟨h.1,hIx _ _ _ _ _ h.2 k⟩ | exact h
 refine ⟨w.heap.size+1,[mark w.heap.size],W1,{ target:=.fn (.func gf) lb,args:=#[.func (.yield (w.heap.size+1)) #[] #[]] },W1,gf,
  #[.func (.yield (w.heap.size+1)) #[] #[]]++lb,W1,?_,?_,fun _ _=>trivial,?_,(fun h=>by cases h),callsIn_wide.2 ?_⟩
 ·rw [← hW1,hrec];exact run_enterLoop_outer _ _ _ _ _
 ·have hev:a.eval g=.func (.func gf) #[] lb:=by rw [ha.eval];exact hg
  simp only [resolve,hev]
  simp [go_sem]
 ·simp [invoke,go_sem,eg]
 have hst1:Hst W1 None W1 None W1:=Hst.start W1
 refine (hit (w.heap.size+1)
  (fun pre X A=>Hst W1 X A X A∧I pre (Yo X) A∧A.heap[w.heap.size+1]?=some (.loop (rec .ready none))∧A.heap[w.heap.size]?=some (.deferred (some []))∧Kept H w A)
  (fun pre X A=>Hst W1 X A X A∧∃c,Jc c pre (Yo X) A∧A.heap[w.heap.size+1]?=some (.loop (rec .done (some c)))∧A.heap[w.heap.size]?=some (.deferred (some []))∧Kept H w A)
  W1 E1 (fun pre X A h=>hRd _ _ _ h.2.1)
  (fun pre X A X' A' h k=>⟨k.here,hI _ _ _ _ _ h.2.1 (up h.1 k),k.ext.heap h.2.2.1 (nX k.here _ (by omega)),k.ext.heap h.2.2.2.1 (nX k.here _ (by omega)),keepH h.2.2.2.2 k⟩)
  (fun pre X A X' A' h k=>by
   obtain ⟨h1,c,h2,h3,h4,h5⟩:=h;exact ⟨k.here,c,hJc _ _ _ _ _ _ h2 (up h1 k),k.ext.heap h3 (nX k.here _ (by omega)),k.ext.heap h4 (nX k.here _ (by omega)),keepH h5 k⟩)
  ?_ ⟨hst1,hI _ _ _ _ _ h0 ⟨E1.pure,fun b hb=>.inl hb,fun b hb=>?_,(here hst1).old,(here hst1).lt,(here hst1).base⟩,hL1,hK1,E1.keptP⟩).mono ?_
 ·-- one round
  rintro pre z X A ⟨hX,hi,hl,hk,hkH⟩ _ hpost
  have hlt:w.heap.size+1<A.heap.size:=(Array.getElem?_eq_some_iff.1 hl).1
  have hy:=run_yield (P:=P) (args:=encs z) hl (by rw [hrec];exact hps z)
  rw [hrec] at hy
  refine ⟨fn,_,assign,body,hy,roundIn_of_wpIn (F:=Fence.wide) trivial ?_⟩
  have hrep:Rep [] n (jQB ps.toList (encs z).toList ρ) { tmps:=(ps.zip (encs z)).foldl (fun t (x:Nat×Value)=>t.setIfInBounds x.1 x.2) a.tmps,defers:=[] }:=by
   have:=jFW ps.toList (encs z).toList ρ a.tmps hpn ⟨rfl,ha.size,ha.get⟩;rw [← Array.foldl_toList,Array.toList_zip];exact this
  refine wpIn_mono (hround (w.heap.size+1) z A _ hrep) ?_
  rintro e a1 A1 ⟨ρ',hor⟩
  have hor:=hor.resolve_right (fun h=>by cases h.2.1)
  obtain ⟨hr1,hq⟩:=hor
  cases e <;> first | exact hq.elim | skip
  obtain ⟨rfl,hbody⟩:=hq
  refine ⟨_,run_beginRound hl (by rw [hrec]),?_⟩
  have T1:=turn (.loop { rec .ready none with state:=.busy }) hX
  have hX1:=hstW (.loop { rec .ready none with state:=.busy }) hX
  have hl2:(A1.putObj (w.heap.size+1) (.loop { rec .ready none with state:=.busy })).heap[w.heap.size+1]?=some (.loop { rec .ready none with state:=.busy }):=World.putObj_heap_same hlt
  have hk2:(A1.putObj (w.heap.size+1) (.loop { rec .ready none with state:=.busy })).heap[w.heap.size]?=some (.deferred (some [])):=(World.putObj_heap_other (by omega)).trans hk
  have hkH2:=keepT (.loop { rec .ready none with state:=.busy }) hkH
  have hi2:=hI _ _ _ _ _ hi T1
  refine wpIn_mono (hbody pre (Yo X) _ hi2 T1.here hpost a1 hr1) ?_
  have fin : ∀ (jump : Option Code) (A3 : World), Kept (Yo X) (A1.putObj (w.heap.size + 1) (.loop { rec .ready none with state := .busy })) A3 →
    (Instr.endRound (w.heap.size+1) jump).run P A3=.ok (.bool jump.isNone) (A3.putObj (w.heap.size+1) (.loop (rec (if jump.isNone then .ready else .done) jump))) ∧
    Hst W1 X (A3.putObj (w.heap.size+1) (.loop (rec (if jump.isNone then .ready else .done) jump))) X (A3.putObj (w.heap.size+1) (.loop (rec (if jump.isNone then .ready else .done) jump))) ∧
    Hst w0 (Yo X) A3 (Yo X) (A3.putObj (w.heap.size+1) (.loop (rec (if jump.isNone then .ready else .done) jump))) ∧
    (A3.putObj (w.heap.size+1) (.loop (rec (if jump.isNone then .ready else .done) jump))).heap[w.heap.size+1]?=some (.loop (rec (if jump.isNone then .ready else .done) jump)) ∧
    (A3.putObj (w.heap.size+1) (.loop (rec (if jump.isNone then .ready else .done) jump))).heap[w.heap.size]?=some (.deferred (some [])) ∧
    Kept H w (A3.putObj (w.heap.size+1) (.loop (rec (if jump.isNone then .ready else .done) jump))) ∧
    Kept X A1 (A3.putObj (w.heap.size+1) (.loop (rec (if jump.isNone then .ready else .done) jump))):=fun jump A3 hk3=>by
   have hl3:A3.heap[w.heap.size+1]?=some (.loop { rec .ready none with state:=.busy }):=by
    rw [hk3.keep _ (by simpa using hlt) (.inr (.inr (.inl rfl)))];exact hl2
   have hD3:A3.heap[w.heap.size]?=some (.deferred (some [])):=by
    rw [hk3.keep _ (by simp;omega) (.inr (.inl rfl))];exact hk2
   have hX3:Hst W1 X A3 X A3:=hX1.again (hk3.mono (fun b hb=>.inr (.inr (.inr hb))))
   have hrun:=run_endRound (P:=P) jump hl3
   rw [hrec] at hrun
   refine ⟨by rw [hrec];exact hrun,hstW _ hX3,turn _ hX3,World.putObj_heap_same (Array.getElem?_eq_some_iff.1 hl3).1,(World.putObj_heap_other (by omega)).trans hD3,keepT _ (hkH2.trans (hk3.mono (fun b hb=>.inl hb))),?_⟩
   have k1:Kept X A1 (A1.putObj (w.heap.size+1) (.loop { rec .ready none with state:=.busy })):=(Ext.putObj A1 _ _).kept (fun b hb e=>by have:=hX.old b hb;omega)
   exact (k1.trans (hk3.mono (fun b hb=>.inr (.inr (.inr hb))))).trans ((Ext.putObj A3 _ _).kept (fun b hb e=>by have:=hX.old b hb;omega))
  rintro e a3 A3 ⟨ρ3,hor⟩
  have hor:=hor.resolve_right (fun h=>by cases h.2.1)
  obtain ⟨hr3,hq⟩:=hor
  cases e with
  | normal =>
   obtain ⟨hk3,hi3⟩:=hq
   obtain ⟨f1,f2,f3,f4,f5,f6,f7⟩:=fin none A3 hk3
   exact ⟨_,_,f1,.inl ⟨rfl,f7,f2,hI _ _ _ _ _ hi3 f3,f4,f5,f6⟩⟩
  | ret =>
   obtain ⟨hk3,hi3⟩:=hq
   obtain ⟨f1,f2,f3,f4,f5,f6,f7⟩:=fin (some .ret) A3 hk3
   exact ⟨_,_,f1,.inr ⟨rfl,f7,f2,.ret,hIr _ _ _ _ _ hi3 f3,f4,f5,f6⟩⟩
  | exit id' =>
   obtain ⟨rfl,hk3,hi3⟩:=hq
   obtain ⟨f1,f2,f3,f4,f5,f6,f7⟩:=fin (some (.exit id')) A3 hk3
   exact ⟨_,_,f1,.inr ⟨rfl,f7,f2,.exit id',⟨rfl,hIx _ _ _ _ _ hi3 f3⟩,f4,f5,f6⟩⟩
  | goto t=>exact hq.elim
  | panic ch=>exact hq.elim
  | outgrown=>exact hq.elim
 ·rcases hb with hb | rfl | rfl | hb
  ·exact .inl hb
  ·exact .inr (Nat.le_refl _)
  ·exact .inr (by omega)
  ·exact hb.elim
 ·-- behind the iterator
  have hrepM:Rep [mark w.heap.size] n ρ { a with defers:=[mark w.heap.size]++a.defers }:=⟨by rw [show a.defers=[] from ha.defers];rfl,ha.size,ha.get⟩
  have go:∀(A:World),Hst w0 (Yo fun b=>H b∨b=w.heap.size∨b=w.heap.size+1) A (Yo fun b=>H b∨b=w.heap.size∨b=w.heap.size+1) A→True:=fun _ _=>trivial
  have rest : ∀ (X : NP) (A : World), Hst w0 (Yo X) A (Yo X) A → A.heap[w.heap.size]? = some (.deferred (some [])) → Kept H w A → (I xs (Yo X) A ∨ ∃ pre, Ix pre (Yo X) A) →
    y.wpIn (fen none) 0 P (jLO ⟨none,[]⟩ n Q) { a with defers:=[mark w.heap.size]++a.defers } A:=by
   intro X A hA hD hkA hIA
   refine wpIn_mono (hrest w.heap.size (Yo X) A hA (.inr (.inl rfl)) hD (fun b hb=>.inl hb) hkA hIA _ hrepM) ?_
   rintro e a2 A2 ⟨ρ2,⟨hr2,hq⟩ | ⟨_,_,h,_⟩⟩
   ·cases e <;> first | exact hq.elim | skip
    exact ⟨ρ2,.inr ⟨rfl,rfl,rfl,w.heap.size,hr2,hq.1,hq.2⟩⟩
   ·cases h
  rintro e A ⟨⟨v,rfl⟩,X,_,⟨hX,hi,hl,hk,hkH⟩ | ⟨pre,hX,c,hc,hl,hk,hkH⟩⟩
  ·obtain ⟨o, hrun⟩ : ∃ o, (Instr.endLoop (w.heap.size + 1)).run P A = .ok none (A.putObj (w.heap.size + 1) o) := by
    have:=run_endLoop (P:=P) hl (by rw [hrec];simp);rw [hrec] at this;exact ⟨_,this⟩
   have T:=turn o hX
   exact ⟨none,_,hrun,rest X _ T.here ((World.putObj_heap_other (by omega)).trans hk) (keepT _ hkH) (.inl (hI _ _ _ _ _ hi T))⟩
  ·obtain ⟨o, hrun⟩ : ∃ o, (Instr.endLoop (w.heap.size + 1)).run P A = .ok (some c) (A.putObj (w.heap.size + 1) o) := by
    have:=run_endLoop (P:=P) hl (by rw [hrec];simp);rw [hrec] at this;exact ⟨_,this⟩
   have T:=turn o hX
   refine ⟨some c,_,hrun,?_⟩
   have hc':=hJc _ _ _ _ _ _ hc T
   have hD:=(World.putObj_heap_other (w:=A) (r:=w.heap.size+1) (o:=o) (k:=w.heap.size) (by omega)).trans hk
   cases c <;> first | exact hc.elim | skip
   case exit id' =>
    obtain ⟨rfl,hx⟩:=hc'
    refine wpIn_exit ?_
    simp only [Exit.inBlock,if_true]
    exact rest X _ T.here hD (keepT _ hkH) (.inr ⟨pre,hx⟩)
   case ret =>
    refine wpIn_ret ?_
    exact ⟨ρ,.inr ⟨rfl,rfl,rfl,w.heap.size,hrepM,hD,hret w.heap.size pre (Yo X) _ T.here (.inr (.inl rfl)) hD hc'⟩⟩
end
end Go.SE
namespace Go.SE
theorem Hst.putD {w0 w:World} {H:NP} {D:Nat} {o:Obj} (hs:Hst w0 H w H w) (hD:H D):Hst w0 H w H (w.putObj D o) :=
 ⟨(Ext.putObj w D o).mono (fun b _ e=>by subst e;exact hD),fun _ h=>h,fun _ h=>.inl h,hs.old,fun b hb=>by have:=hs.lt b hb;simpa using this,by simpa using hs.base⟩
end Go.SE
end
section
namespace Go.SE
section
variable {P:Program} {ε:Operand→Value} {w w':World} {d:Option Tmp} {ty:TypeId} {pos:String} {aft:Array Edge} {g:Option (Nat×Bool)}
end
end Go.SE
end
section
open Go Go.SE
namespace Go.Proofs
open Tryz
set_option maxRecDepth 100000
set_option maxHeartbeats 4000000
attribute [local irreducible] wpL wpX opE wpE Calls
def m_J2 (b1:Option Addr) (s1:ByteArray) (w0:World) (K:Int→Value→WP):Prop :=Calls prog 57 #[(vp b1)] w0 (fun e w1=>e=.returned (.tuple #[])∧∃a1,b1=some a1∧∃v1:Sl,w1.cell? (a1.add 1)=some v1.v∧∃s2:Sl,∃w2:World,(Builtin.append_ #[25,9] 25 #[v1.v,(vs s1)]).run prog w1=.ok s2.v w2∧∃a2,b1=some a2∧jT w2 (a2.add 1)∧∀w3,w3=w2.setCell (a2.add 1) s2.v→K (s1.size:Int) (.nilIface:Value) w3)
theorem w_J2 (b1 s1 w0 K) (h:m_J2 b1 s1 w0 K):
  Calls prog 31 #[(vp b1),(vs s1)] w0 (fun e w'=>∃r1,∃r2:Value,e=.returned (.tuple #[(vi r1),r2])∧K r1 r2 w'):=by
 refine cw (args:=[(vp b1),(vs s1)]) func31 ntmps31 (eg (q0 (vi 0) (q0 (.nilIface:Value) (ln (eg (q0 (vp b1) ?_))))))
 refine sc call57 (h.mono fun e w1 ⟨k,h⟩=>⟨_,k,?_⟩)
 refine ln (eg (qb (qm h fun a1 h=>q (ql (isAgg25 _) h fun v1 h=>q ?_))))
 obtain ⟨s2,w2,hv1,h⟩:=h
 refine st (v:=s2.v) (jK rfl) (kB (args:=#[v1.v,(vs s1)]) (by kernel_rfl) (fun _=>rfl) hv1) (qm h fun a2 h=>q (st1 (sizeOf25 _) h fun w3 h=>ln (eg (qd (ln (er (oX (.inl rfl) results31 (v:=(vi (s1.size:Int))) (by kernel_rfl) (v':=(.nilIface:Value)) (by kernel_rfl) ⟨(s1.size:Int),(.nilIface:Value),rfl,h⟩)))))))
def m_K2 (b1:Option Addr) (c1:Int) (w0:World) (K:Value→WP):Prop :=Calls prog 57 #[(vp b1)] w0 (fun e w1=>e=.returned (.tuple #[])∧∃a1,b1=some a1∧∃v1:Sl,w1.cell? (a1.add 1)=some v1.v∧∀p1 w2,New w1 (.cells #[(.int .u8 c1)] 5) p1 w2→∃s1:Sl,∃w3:World,(Builtin.append_ #[25,25] 25 #[v1.v,(Sl.mk (some p1) 1 1).v]).run prog w2=.ok s1.v w3∧∃a2,b1=some a2∧jT w3 (a2.add 1)∧∀w4,w4=w3.setCell (a2.add 1) s1.v→K (.nilIface:Value) w4)
theorem w_K2 (b1 c1 w0 K) (h:m_K2 b1 c1 w0 K):
  Calls prog 32 #[(vp b1),(.int .u8 c1)] w0 (fun e w'=>∃r1:Value,e=.returned r1∧K r1 w'):=by
 refine cw (args:=[(vp b1),(.int .u8 c1)]) func32 ntmps32 (eg (q0 (.nilIface:Value) (ln (eg (q0 (vp b1) ?_)))))
 refine sc call57 (h.mono fun e w1 ⟨k,h⟩=>⟨_,k,?_⟩)
 refine ln (eg (qb (qm h fun a1 h=>q (ql (isAgg25 _) h fun v1 h=>q (uL (O:=(.cells #[(.int .u8 c1)] 5)) (fun p=>(Sl.mk (some p) 1 1).v) (jK rfl) (kZ (vs:=#[(0,(.int .u8 c1))]) (by kernel_rfl) (by kernel_rfl)) ?_)))))
 intro p1 w2 hn2
 have h:=h p1 w2 hn2
 obtain ⟨s1,w3,hv1,h⟩:=h
 refine st (v:=s1.v) (jK rfl) (kB (args:=#[v1.v,(Sl.mk (some p1) 1 1).v]) (by kernel_rfl) (fun _=>rfl) hv1) (qm h fun a2 h=>q (st1 (sizeOf25 _) h fun w4 h=>ln (eg (q (ln (er (rs1 results32 ⟨(.nilIface:Value),rfl,h⟩)))))))
end Go.Proofs
end
section
open Go Go.SE
namespace Go.Proofs
open Tryz
set_option maxRecDepth 100000
set_option maxHeartbeats 4000000
attribute [local irreducible] wpL wpX opE wpE Calls
def m_L2 (s1:Sl) (w0:World) (K:Sl→WP):Prop :=∃b1,(Go.binOp .eql 25 s1.v Sl.nil.v).run prog w0=.ok (vb b1) w0∧Br b1 (K Sl.nil w0) (∀p1 w1,New w0 (.cells #[] 5) p1 w1→∃s2:Sl,∃w2:World,(Builtin.append_ #[25,25] 25 #[(Sl.mk (some p1) 0 0).v,s1.v]).run prog w1=.ok s2.v w2∧K s2 w2)
theorem w_L2 (s1 w0 K) (h:m_L2 s1 w0 K):
  Calls prog 101 #[s1.v] w0 (fun e w'=>∃r1:Sl,e=.returned r1.v∧K r1 w'):=by
 refine cw (args:=[s1.v]) func101 ntmps101 (eg (q0 Sl.nil.v (ln (jA (eg (q0 s1.v ?_))))))
 obtain ⟨b1,hv2,h⟩:=h
 refine q2 (vb b1) (uJ (by kernel_rfl) (by kernel_rfl) (by kernel_rfl) hv2) (ln (cbr h ?_ ?_))<;>intro h
 refine eg (q (ln (er (zM (rs1 results101 ⟨Sl.nil,rfl,h⟩)))))
 refine jB (jN (eg (nw4 (fun p=>(Sl.mk (some p) 0 0).v) h fun p1 w1 h=>q ?_)))
 obtain ⟨s2,w2,hv1,h⟩:=h
 refine st (v:=s2.v) (jK rfl) (kB (args:=#[(Sl.mk (some p1) 0 0).v,s1.v]) (by kernel_rfl) (fun _=>rfl) hv1) (q0 s2.v (ln (er (rs1 results101 ⟨s2,rfl,h⟩))))
end Go.Proofs
end
section
namespace Go.SE
variable {P:Program}
def yldP (P:Program) (o:Oper) (ε:Operand→Value) (w:World) (R:Value→World→Prop) (X:List PanicEntry→World→Prop):Prop :=
 (∀c,o.op≠.defer c)∧match (execOp ε o).run P w with
 | .ok (.value v) w'=>R v w'
 | .ok .skip w'=>R undef w'
 | .ok (.enter f args) w'=>Calls P f args w' (fun e w''=>(∃v,e=.returned v∧R v w'')∨∃ch,e=.panicked ch∧X ch w'')
 | .ok (.row row args) w'=>Rows P row args w' R
 | .ok (.round l f tmps assign body) w'=>RoundIn Fence.wide 0 P l f tmps assign body w' (fun e w''=>∃v,e=.returned v∧R v w'')
 | .halt (.panic v) w'=>X [{ v,recovered:=false }] w'
 | _=>False
theorem jFG {o:Oper} {ε:Operand→Value} {w:World} {R R':Value→World→Prop} {X X':List PanicEntry→World→Prop} (h:yldP P o ε w R X) (hr:∀v w',R v w'→R' v w') (hx:∀ch w',X ch w'→X' ch w'):yldP P o ε w R' X':=by
 unfold yldP at *;refine ⟨h.1,?_⟩;have h:=h.2;generalize (execOp ε o).run P w=r at *;cases r with
 | ok n w' =>
  cases n <;> simp only at h ⊢ <;> first
   | exact hr _ _ h
   | exact RoundIn.mono h fun e w'' ⟨v,he,hR⟩=>⟨v,he,hr _ _ hR⟩
   | exact Calls.mono h fun e w'' hh=>hh.elim (fun ⟨v,he,hR⟩=>.inl ⟨v,he,hr _ _ hR⟩) (fun ⟨ch,he,hX⟩=>.inr ⟨ch,he,hx _ _ hX⟩)
   | exact h.mono hr
 | halt x w'=>cases x <;> simp only at h ⊢ <;> exact hx _ _ h
theorem jFF {o:Oper} {ε:Operand→Value} {w:World} {R:Value→World→Prop} {X:List PanicEntry→World→Prop} (h:yld P o ε w R):yldP P o ε w R X:=by
 refine ⟨jFE h,?_⟩;unfold yld at h;generalize (execOp ε o).run P w=r at *;cases r with
 | ok n w' =>
  cases n <;> simp only at h ⊢ <;> first
   | exact h
   | exact Calls.mono h fun e w'' ⟨v,he,hR⟩=>.inl ⟨v,he,hR⟩
 | halt x w'=>exact h.elim
theorem jAJ {ro:Option Nat} {m:Nat} {o:Oper} {a:Act} {w:World} {K:Act→World→Prop} {Q:Exit→Act→World→Prop} (h:yldP P o a.eval w (fun v w'=>K (a.put o.dst v) w') (fun ch w'=>Q (.panic ch) a w')):o.wpIn (fen ro) m P a w K Q:=by
 obtain ⟨h0,h⟩:=h;refine ⟨fun f _=>jGX ro f,?_⟩;rw [jGW,Oper.semAt_eq _ _ _ h0];have hd:(fen ro).depth.isSome=true→1≤m:=fun h=>by rw [jGY] at h;cases h
 generalize (execOp a.eval o).run P w=r at *;cases r with
 | ok n w' =>
  cases n <;> simp only at h <;> simp only [Oper.uponIn]
  case value=>exact h
  case skip=>exact h
  case enter =>
   refine ⟨hd,(Calls.fen h).mono ?_⟩
   rintro e w'' (⟨v,rfl,hR⟩ | ⟨ch,rfl,hX⟩)
   ·exact hR
   ·exact hX
  case row=>exact ⟨hd,Rows.fen h⟩
  case round=>exact ⟨hd,(RoundIn.fen h).mono fun e w'' ⟨v,he,hR⟩=>by subst he;exact hR⟩
 | halt x w'=>cases x <;> simp only at h <;> simp only [Oper.uponIn];exact h
def jHS (P:Program) (ops:Array Oper) (Q:Env→World→Prop) (X:List PanicEntry→World→Prop):List Oper→Env→World→Prop
 | [],ρ,w=>Q ρ w
 | o :: rest,ρ,w =>
  if Region.wanted o (jL ops ρ) then yldP P o (evE ρ) w (fun v w'=>jHS P ops Q X rest (put ρ o.dst v) w') X
  else jHS P ops Q X rest (put ρ o.dst undef) w
section
variable {x:Cx} {n:Nat} {Q:Exit→Env→World→Prop} {ρ:Env} {w:World}
theorem uF {ops:Array Oper} {Q':Env→World→Prop} {X:List PanicEntry→World→Prop} (hQ:∀ρ a w,Rep x.ds n ρ a→Q' ρ w→jLO x n Q .normal a w) (hX:∀ρ a ch w,Rep x.ds n ρ a→X ch w→jLO x n Q (.panic ch) a w) :
  ∀(l:List Oper) (ρ:Env) (a:Act) (w:World),yQ n l=true→Rep x.ds n ρ a→jHS P ops Q' X l ρ w→wpListIn (fen x.ro) 0 P ops (jLO x n Q) l a w
 | [],ρ,a,w,_,hr,h=>hQ _ _ _ hr h
 | o :: l,ρ,a,w,hd,hr,h=>by
  obtain ⟨hk,hd'⟩:=jCU hd;unfold jHS at h;unfold wpListIn;rw [hr.yielded];split
  ·rename_i hw;rw [if_pos hw] at h;apply jAJ;rw [hr.eval];exact jFG h (fun v w' hh=>uF hQ hX l _ _ _ hd' (hr.put hk v) hh) (fun ch w' hh=>hX ρ a ch w' hr hh)
  ·rename_i hw;rw [if_neg hw] at h;exact ⟨fun f _=>jGX x.ro f,uF hQ hX l _ _ _ hd' (hr.put hk undef) h⟩
theorem kJ {id:Nat} {l:List Oper} (hd:yQ n l=true) (h:jHS P l.toArray (fun ρ w=>Q .normal ρ w) (fun ch w=>∀ρ,Q (.panic ch) ρ w) l ρ w):wpE (x:=x) P n (.region id l.toArray false) Q ρ w:=fun a ha =>
 wpIn_region_lit (uF (fun ρ' _ _ hr hq=>⟨ρ',.inl ⟨hr,hq⟩⟩) (fun ρ' _ _ _ hr hq=>⟨ρ',.inl ⟨hr,hq ρ'⟩⟩) l ρ a w hd ha h)
end
def jSS (P:Program) (fn:Func) (n:Nat) (R:Ending→World→Prop):Exit→Env→World→Prop
 | .normal,ρ,w | .ret,ρ,w=>∃v,(∀ds a,Rep ds n ρ a→(results fn a.tmps).run P w=.ok v w)∧R (.returned v) w
 | .panic ch,_,w=>R (.panicked ch) w
 | _,_,_=>False
theorem qB {n:Nat} {w:World} {f:FuncId} {fn:Func} {c:Code} {args:List Value} {R:Ending→World→Prop} (hf:P.funcs[f]?=some fn) (hb:fn.body=some c) (hn:fn.ntmps=n) (hl:args.length≤n)
  (h:wpE (x:=⟨none,[]⟩) P n c (jSS P fn n R) (jFD args) w):Calls P f args.toArray w R:=by
 subst hn
 refine callsIn_wide.1 (callsIn_of_wp_marks (n:=0) hf hb trivial ?_)
 refine wpIn_mono (h _ (jBD args hl)) ?_
 rintro e a w' ⟨ρ',⟨hr,hq⟩ | ⟨rfl,_,_,D,hr,hD,hq⟩⟩
 ·have hd:a.defers=[]:=hr.defers
  cases e with
  | normal=>obtain ⟨v,hv,hR⟩:=hq;simp only [bodyPostM,hd];exact yC (hv _ a hr) hR
  | ret=>obtain ⟨v,hv,hR⟩:=hq;simp only [bodyPostM,hd];exact yC (hv _ a hr) hR
  | exit _=>exact hq.elim
  | goto _=>exact hq.elim
  | panic ch=>simp only [bodyPostM,hd];exact hq
  | outgrown=>exact hq.elim
 ·obtain ⟨v,hv,hR⟩:=hq
  have hd:a.defers=[mark D]:=hr.defers
  simp only [bodyPostM,hd]
  exact ⟨by simp,.inl ⟨D,_,rfl,run_takeDeferred hD,yC (hv _ a hr) hR⟩⟩
theorem ep {n:Nat} {fn:Func} {R:Ending→World→Prop} {e:Exit} {ρ:Env} {w:World} (h:jDA P fn n R e ρ w):jSS P fn n R e ρ w:=by
 cases e <;> first | exact h | exact h.elim
theorem kC {ops:Array Oper} {Q:Env→World→Prop} {X:List PanicEntry→World→Prop}:∀(k:Nat) {l:List Oper} {ρ:Env} {w:World},wpL P ops (fun ρ w=>jHS P ops Q X (l.drop k) ρ w) (l.take k) ρ w→jHS P ops Q X l ρ w
 | 0,l,ρ,w,h=>by simpa [wpL] using h
 | k+1,[],ρ,w,h=>by simpa [wpL] using h
 | k+1,o :: l,ρ,w,h=>by
  simp only [List.take_succ_cons,List.drop_succ_cons] at h;unfold wpL at h;unfold jHS;split
  ·rename_i hw;rw [if_pos hw] at h;exact jFG (jFF (X:=X) h) (fun v w' hh=>kC k hh) (fun _ _ h=>h)
  ·rename_i hw;rw [if_neg hw] at h;exact kC k h
theorem oM {ops:Array Oper} {Q:Env→World→Prop} {X:List PanicEntry→World→Prop} {l:List Oper} {ρ:Env} {w:World} (h:wpL P ops Q l ρ w):jHS P ops Q X l ρ w :=
 kC l.length (by rw [List.take_length,List.drop_length];exact jAZ (fun ρ w hq=>hq) h)
section
variable {ε:Operand→Value} {w:World} {d:Option Tmp} {ty:TypeId} {pos:String} {aft:Array Edge} {g:Option (Nat×Bool)}
theorem jBM {x:Operand} {t:TypeId} {v:Value} (hx:ε x=.iface t v):(execOp ε ⟨d,.panic x,ty,pos,aft,g⟩).run P w=.halt (.panic (.iface t v)) w:=by
 simp [execOp,hx];rfl
end
section
variable {ops:Array Oper} {Q:Env→World→Prop} {X:List PanicEntry→World→Prop} {ρ:Env} {w w':World} {rest:List Oper} {o:Oper} {v:Value}
theorem jPV (h:Q ρ w):jHS P ops Q X [] ρ w:=h
theorem jBX {f:FuncId} {args:Array Value} (hw:Region.wanted o (jL ops ρ)=true) (hd:∀c,o.op≠.defer c) (hr:(execOp (evE ρ) o).run P w=.ok (.enter f args) w') (h:Calls P f args w' fun e w''=>(∃v,e=.returned v∧jHS P ops Q X rest (put ρ o.dst v) w'')∨∃ch,e=.panicked ch∧X ch w''):jHS P ops Q X (o :: rest) ρ w:=by
 unfold jHS;rw [if_pos hw];exact ⟨hd,by rw [hr];exact h⟩
theorem oU {pv:Value} (hw:Region.wanted o (jL ops ρ)=true) (hd:∀c,o.op≠.defer c) (hr:(execOp (evE ρ) o).run P w=.halt (.panic pv) w') (h:X [{ v:=pv,recovered:=false }] w'):jHS P ops Q X (o :: rest) ρ w:=by
 unfold jHS;rw [if_pos hw];exact ⟨hd,by rw [hr];exact h⟩
end
section
variable {ε:Operand→Value} {w:World} {d:Option Tmp} {ty:TypeId} {pos:String} {aft:Array Edge} {g:Option (Nat×Bool)}
theorem x_bini {op:BinOp} {T T':TypeId} {a:Operand} {x v:Value} (hx:ε a=x) (hy:ε (.const .nilIface)=.nilIface) (hr:(Go.binOp op T x .nilIface).run P w=.ok v w) :
  (execOp ε ⟨d,.binOp op T a (.const .nilIface) T',ty,pos,aft,g⟩).run P w=.ok (.value v) w:=by
 have hg:(eqGuard op T a (.const .nilIface) x .nilIface).run P w=.ok () w:=by
  cases op <;> cases x <;> simp [eqGuard]
 simp [execOp,hx,hy,hg,hr]
end
end Go.SE
end
section
open Go Go.SE
namespace Go.Proofs
attribute [local irreducible] wpL wpX opE wpE Calls
end Go.Proofs
end
section
open Go Go.SE
open Go.IntKind renaming i64 → q6
namespace Go.Proofs
open Tryz
set_option maxRecDepth 100000
set_option maxHeartbeats 4000000
attribute [local irreducible] wpL wpX opE wpE Calls
def m_M2  (w0:World) (K:(Option Nat)→WP):Prop :=∀p1 w1,New w0 (.cells #[(.nilFunc:Value),(.nilFunc:Value)] 140) p1 w1→(∀j,j<2→jT w1 (p1.add j))∧∀w2,w2=storeRow w1 p1 [(.func (.func 83) #[] #[]),(.func (.func 85) #[] #[])]→∀p2 w3,New w2 (.cells #[(.nilFunc:Value),(.nilFunc:Value)] 140) p2 w3→(∀j,j<2→jT w3 (p2.add j))∧∀w4,w4=storeRow w3 p2 [(.func (.func 87) #[] #[]),(.func (.func 88) #[] #[])]→∀p3 w5,New w4 (.cells #[(.nilFunc:Value),(.nilFunc:Value)] 140) p3 w5→(∀j,j<2→jT w5 (p3.add j))∧∀w6,w6=storeRow w5 p3 [(.func (.func 89) #[] #[]),(.func (.func 90) #[] #[])]→∀p4 w7,New w6 (.cells #[(.nilFunc:Value),(.nilFunc:Value)] 140) p4 w7→(∀j,j<2→jT w7 (p4.add j))∧∀w8,w8=storeRow w7 p4 [(.func (.func 91) #[] #[]),(.func (.func 93) #[] #[])]→∀p5 w9,New w8 (.cells #[(.nilFunc:Value),(.nilFunc:Value)] 140) p5 w9→(∀j,j<2→jT w9 (p5.add j))∧∀w10,w10=storeRow w9 p5 [(.func (.func 95) #[] #[]),(.func (.func 96) #[] #[])]→∀p6 w11,New w10 (.cells #[(.nilFunc:Value),(.nilFunc:Value)] 140) p6 w11→(∀j,j<2→jT w11 (p6.add j))∧∀w12,w12=storeRow w11 p6 [(.func (.func 97) #[] #[]),(.func (.func 98) #[] #[])]→∀p7 w13,New w12 (.map #[] 0) p7 w13→∃vput1:Value,∃vget1:Value,Row w13 p1 [vput1,vget1]∧∀p8 w14,New w13 (.cells #[vput1,vget1] 140) p8 w14→∃w15:World,(Instr.mapUpdate 130 (.map (some p7.block)) (vi 1) (Sl.mk (some p8) 1 1).v).run prog w14=.ok () w15∧∃vput2:Value,∃vget2:Value,Row w15 p3 [vput2,vget2]∧∀p9 w16,New w15 (.cells #[vput2,vget2] 140) p9 w16→∃w17:World,(Instr.mapUpdate 130 (.map (some p7.block)) (vi 2) (Sl.mk (some p9) 1 1).v).run prog w16=.ok () w17∧∃vput3:Value,∃vget3:Value,Row w17 p4 [vput3,vget3]∧∀p10 w18,New w17 (.cells #[vput3,vget3] 140) p10 w18→∃w19:World,(Instr.mapUpdate 130 (.map (some p7.block)) (vi 3) (Sl.mk (some p10) 1 1).v).run prog w18=.ok () w19∧∃vput4:Value,∃vget4:Value,Row w19 p5 [vput4,vget4]∧∃vput5:Value,∃vget5:Value,Row w19 p6 [vput5,vget5]∧∀p11 w20,New w19 (.cells #[vput4,vget4,vput5,vget5] 140) p11 w20→∃w21:World,(Instr.mapUpdate 130 (.map (some p7.block)) (vi 4) (Sl.mk (some p11) 2 2).v).run prog w20=.ok () w21∧∃vput6:Value,∃vget6:Value,Row w21 p5 [vput6,vget6]∧∀p12 w22,New w21 (.cells #[vput6,vget6] 140) p12 w22→∃w23:World,(Instr.mapUpdate 130 (.map (some p7.block)) (vi 5) (Sl.mk (some p12) 1 1).v).run prog w22=.ok () w23∧∃vput7:Value,∃vget7:Value,Row w23 p1 [vput7,vget7]∧∀p13 w24,New w23 (.cells #[vput7,vget7] 140) p13 w24→∃w25:World,(Instr.mapUpdate 130 (.map (some p7.block)) (vi 6) (Sl.mk (some p13) 1 1).v).run prog w24=.ok () w25∧∃vput8:Value,∃vget8:Value,Row w25 p1 [vput8,vget8]∧∃vput9:Value,∃vget9:Value,Row w25 p5 [vput9,vget9]∧∀p14 w26,New w25 (.cells #[vput8,vget8,vput9,vget9] 140) p14 w26→∃w27:World,(Instr.mapUpdate 130 (.map (some p7.block)) (vi 7) (Sl.mk (some p14) 2 2).v).run prog w26=.ok () w27∧∃vput10:Value,∃vget10:Value,Row w27 p1 [vput10,vget10]∧∃vput11:Value,∃vget11:Value,Row w27 p2 [vput11,vget11]∧∃vput12:Value,∃vget12:Value,Row w27 p5 [vput12,vget12]∧∀p15 w28,New w27 (.cells #[vput10,vget10,vput11,vget11,vput12,vget12] 140) p15 w28→∃w29:World,(Instr.mapUpdate 130 (.map (some p7.block)) (vi 8) (Sl.mk (some p15) 3 3).v).run prog w28=.ok () w29∧∃vput13:Value,∃vget13:Value,Row w29 p1 [vput13,vget13]∧∃vput14:Value,∃vget14:Value,Row w29 p2 [vput14,vget14]∧∃vput15:Value,∃vget15:Value,Row w29 p5 [vput15,vget15]∧∀p16 w30,New w29 (.cells #[vput13,vget13,vput14,vget14,vput15,vget15] 140) p16 w30→∃w31:World,(Instr.mapUpdate 130 (.map (some p7.block)) (vi 9) (Sl.mk (some p16) 3 3).v).run prog w30=.ok () w31∧K (some p7.block) w31
theorem w_M2  (w0:World) (K:(Option Nat)→WP) (h:m_M2  w0 K) :
  Calls prog 64 #[] w0 (fun e w'=>∃r1:Option Nat,e=.returned (.map r1)∧K r1 w'):=by
 refine cw (args:=[]) func64 ntmps64 (eg (q0 (.map none) (ln (eg (q0 (.agg #[(.func (.func 83) #[] #[]),(.func (.func 85) #[] #[])]) (sn (O:=(.cells #[(.nilFunc:Value),(.nilFunc:Value)] 140)) (jG (zeroValue140 _) rfl) ?_))))))
 intro p1 w1 hn22
 have h:=h p1 w1 hn22
 refine sro (sizeOf140 _) h fun w2 h=>ln (eg (q (nw1 h (jG (zeroValue140 _) rfl) fun p2 w3 h=>sro (sizeOf140 _) h fun w4 h=>ln (eg (q (nw1 h (jG (zeroValue140 _) rfl) fun p3 w5 h=>sro (sizeOf140 _) h fun w6 h=>ln (eg (q (nw1 h (jG (zeroValue140 _) rfl) fun p4 w7 h=>sro (sizeOf140 _) h fun w8 h=>ln (eg (q (nw1 h (jG (zeroValue140 _) rfl) fun p5 w9 h=>sro (sizeOf140 _) h fun w10 h=>ln (eg (q (nw1 h (jG (zeroValue140 _) rfl) fun p6 w11 h=>sro (sizeOf140 _) h fun w12 h=>ln (eg (nw4 (fun p=>.map (some p.block)) h fun p7 w13 h=>?_)))))))))))))))))
 obtain ⟨vput1,vget1,hv24,h⟩:=h
 refine qa (isAgg140 _) (sizeOf140 _) hv24 (nw4 (fun p=>(Sl.mk (some p) 1 1).v) h fun p8 w14 h=>?_)
 obtain ⟨w15,hv23,h⟩:=h
 refine vC (jK rfl) (qY (by kernel_rfl) (by kernel_rfl) (by kernel_rfl) hv23) ?_
 obtain ⟨vput2,vget2,hv22,h⟩:=h
 refine qa (isAgg140 _) (sizeOf140 _) hv22 (nw4 (fun p=>(Sl.mk (some p) 1 1).v) h fun p9 w16 h=>?_)
 obtain ⟨w17,hv21,h⟩:=h
 refine vC (jK rfl) (qY (by kernel_rfl) (by kernel_rfl) (by kernel_rfl) hv21) ?_
 obtain ⟨vput3,vget3,hv20,h⟩:=h
 refine qa (isAgg140 _) (sizeOf140 _) hv20 (nw4 (fun p=>(Sl.mk (some p) 1 1).v) h fun p10 w18 h=>?_)
 obtain ⟨w19,hv19,h⟩:=h
 refine vC (jK rfl) (qY (by kernel_rfl) (by kernel_rfl) (by kernel_rfl) hv19) ?_
 obtain ⟨vput4,vget4,hv18,h⟩:=h
 refine qa (isAgg140 _) (sizeOf140 _) hv18 ?_
 obtain ⟨vput5,vget5,hv17,h⟩:=h
 refine qa (isAgg140 _) (sizeOf140 _) hv17 (nw4 (fun p=>(Sl.mk (some p) 2 2).v) h fun p11 w20 h=>?_)
 obtain ⟨w21,hv16,h⟩:=h
 refine vC (jK rfl) (qY (by kernel_rfl) (by kernel_rfl) (by kernel_rfl) hv16) ?_
 obtain ⟨vput6,vget6,hv15,h⟩:=h
 refine qa (isAgg140 _) (sizeOf140 _) hv15 (nw4 (fun p=>(Sl.mk (some p) 1 1).v) h fun p12 w22 h=>?_)
 obtain ⟨w23,hv14,h⟩:=h
 refine vC (jK rfl) (qY (by kernel_rfl) (by kernel_rfl) (by kernel_rfl) hv14) ?_
 obtain ⟨vput7,vget7,hv13,h⟩:=h
 refine qa (isAgg140 _) (sizeOf140 _) hv13 (nw4 (fun p=>(Sl.mk (some p) 1 1).v) h fun p13 w24 h=>?_)
 obtain ⟨w25,hv12,h⟩:=h
 refine vC (jK rfl) (qY (by kernel_rfl) (by kernel_rfl) (by kernel_rfl) hv12) ?_
 obtain ⟨vput8,vget8,hv11,h⟩:=h
 refine qa (isAgg140 _) (sizeOf140 _) hv11 ?_
 obtain ⟨vput9,vget9,hv10,h⟩:=h
 refine qa (isAgg140 _) (sizeOf140 _) hv10 (nw4 (fun p=>(Sl.mk (some p) 2 2).v) h fun p14 w26 h=>?_)
 obtain ⟨w27,hv9,h⟩:=h
 refine vC (jK rfl) (qY (by kernel_rfl) (by kernel_rfl) (by kernel_rfl) hv9) ?_
 obtain ⟨vput10,vget10,hv8,h⟩:=h
 refine qa (isAgg140 _) (sizeOf140 _) hv8 ?_
 obtain ⟨vput11,vget11,hv7,h⟩:=h
 refine qa (isAgg140 _) (sizeOf140 _) hv7 ?_
 obtain ⟨vput12,vget12,hv6,h⟩:=h
 refine qa (isAgg140 _) (sizeOf140 _) hv6 (nw4 (fun p=>(Sl.mk (some p) 3 3).v) h fun p15 w28 h=>?_)
 obtain ⟨w29,hv5,h⟩:=h
 refine vC (jK rfl) (qY (by kernel_rfl) (by kernel_rfl) (by kernel_rfl) hv5) ?_
 obtain ⟨vput13,vget13,hv4,h⟩:=h
 refine qa (isAgg140 _) (sizeOf140 _) hv4 ?_
 obtain ⟨vput14,vget14,hv3,h⟩:=h
 refine qa (isAgg140 _) (sizeOf140 _) hv3 ?_
 obtain ⟨vput15,vget15,hv2,h⟩:=h
 refine qa (isAgg140 _) (sizeOf140 _) hv2 (nw4 (fun p=>(Sl.mk (some p) 3 3).v) h fun p16 w30 h=>?_)
 obtain ⟨w31,hv1,h⟩:=h
 refine vC (jK rfl) (qY (by kernel_rfl) (by kernel_rfl) (by kernel_rfl) hv1) (q0 (.map (some p7.block)) (q0 (.map (some p7.block)) (ln (er (rs1 results64 ⟨(some p7.block),rfl,h⟩)))))
def m_F1_l1 (p3 p6:Addr) (I1:List (Int)→NP→WP) (pre1:List (Int)) (z2:Int) (Y1:NP) (A1:World) (aI aJ:Int) (aK aL:Int) (aM:ByteArray) (aN aO:Int) (v5:Sl) (x1:Int) (Hl1:NP) (wl1:World) (Kc1:Int→NP→WP) (_K:Sl→WP):Prop :=Br (decide (x1<(v5.len:Int))) (∃a1:Addr,At v5 x1 2 a1∧∃vput1:Value,∃vget1:Value,Row wl1 a1 [vput1,vget1]∧∀p9 w17,New wl1 (.cells #[(.nilFunc:Value),(.nilFunc:Value)] 140) p9 w17→([vput1,vget1].all kD=true∧∀j,j<2→jT w17 (p9.add j))∧¬ Hl1 p9.block∧∀w18,w18=storeRow w17 p9 [vput1,vget1]→∃v6:Value,w18.cell? p9=some v6∧∃v7:Sl,w18.cell? p3=some v7.v∧∃v8:Option Nat,w18.cell? p6=some (.map v8)∧∃(f2:FuncId) (fs1 cs2:Array Value),v6=.func (.func f2) fs1 cs2∧(∀args w,(callFunc f2 args).run prog w=.ok (.enter f2 args) w)∧Calls prog f2 (fs1++#[v7.v,(.agg #[(vi aI),(vi aJ),(vi aK),(vu aL),(vs aM),(vi aN),(vi aO)]),(.map v8)]++cs2) w18 (fun e w19=>∃r4:Sl,e=.returned r4.v∧Kept Hl1 w18 w19∧jT w19 p3∧¬ Hl1 p3.block∧∀w20,w20=w19.setCell p3 r4.v→Kc1 (q6.wrap (x1+1)) Hl1 w20)) (∃v9:Option Nat,wl1.cell? p6=some (.map v9)∧∃v10:Option Nat,wl1.cell? p6=some (.map v10)∧∃z3,(Builtin.len_ #[132] 3 #[(.map v10)]).run prog wl1=.ok (vi z3) wl1∧∃w21:World,(Instr.mapUpdate 132 (.map v9) (vi z2) (vi z3)).run prog wl1=.ok () w21∧Kept Hl1 wl1 w21∧Kept Y1 A1 w21∧I1 (pre1++[z2]) Y1 w21)
def m_F1 (p1:Option Addr) (t1:Int) (w0:World) (K:Sl→WP):Prop :=∀p2 w1,New w0 (.cells #[(vp p1)] 27) p2 w1→∀p3 w2,New w1 (.cells #[Sl.nil.v] 25) p3 w2→Calls prog 64 #[] w2 (fun e w3=>∃r1:Option Nat,e=.returned (.map r1)∧Kept None w2 w3∧∀p4 w4,New w3 (.cells #[(.map none)] 130) p4 w4→jT w4 p4∧¬ None p4.block∧∀w5,w5=w4.setCell p4 (.map r1)→∀p5 w6,New w5 (.map #[] 0) p5 w6→∀p6 w7,New w6 (.cells #[(.map none)] 132) p6 w7→jT w7 p6∧¬ None p6.block∧∀w8,w8=w7.setCell p6 (.map (some p5.block))→∃v1,w8.cell? p2=some (vp v1)∧Calls prog 65 #[(vp v1),(vi t1)] w8 (fun e w9=>∃r2:Value,e=.returned r2∧Kept None w8 w9∧∃(f1:FuncId) (cs1:Array Value),r2=.func (.func f1) #[] cs1∧(∀args w,(callFunc f1 args).run prog w=.ok (.enter f1 args) w)∧∃(xs1:List (Int)) (Rd1:WP),jPR prog f1 cs1 (fun (z2:Int)=>#[(vi z2)]) xs1 Rd1 w9∧∃(I1:List (Int)→NP→WP),RngI w0 Rd1 I1 (fun _ _ _=>False) (fun _ _ _=>False)∧I1 [] None w9∧(∀(pre1:List (Int)) (z2:Int) (Y1:NP) (A1:World),I1 pre1 Y1 A1→Hst w0 Y1 A1 Y1 A1→(∃post,xs1=pre1++z2 :: post)→∃v2,A1.cell? p2=some (vp v2)∧Calls prog 18 #[(vp v2),(vi z2)] A1 (fun e w11=>∃aI aJ aK aL aM aN aO r3,e=.returned (.tuple #[(Ae aI aJ aK aL aM aN aO),(vb r3)])∧Kept None A1 w11∧∀H1 w13,Hst A1 None w11 H1 w13→∃v3:Sl,w13.cell? p3=some v3.v∧∀p8 w14,New w13 (.cells #[(.int .u8 (IntKind.u8.wrap aI))] 5) p8 w14→∃s1:Sl,∃w15:World,(Builtin.append_ #[25,25] 25 #[v3.v,(Sl.mk (some p8) 1 1).v]).run prog w14=.ok s1.v w15∧Kept H1 w14 w15∧jT w15 p3∧¬ H1 p3.block∧∀w16,w16=w15.setCell p3 s1.v→∃v4:Option Nat,w16.cell? p4=some (.map v4)∧∃v5:Sl,(Instr.lookup 130 (.map v4) (vi aI) false).run prog w16=.ok v5.v w16∧∃(I2:Int→NP→WP) (mu1:Int→World→Nat),I2 0 H1 w16∧∀(x1:Int) (Hl1:NP) (wl1:World),Hst A1 Hl1 wl1 Hl1 wl1→I2 x1 Hl1 wl1→m_F1_l1 p3 p6 I1 pre1 z2 Y1 A1 aI aJ aK aL aM aN aO v5 x1 Hl1 wl1 (fun y'0 H' w'=>I2 y'0 H' w'∧mu1 y'0 w'<mu1 x1 wl1) K))∧∀H2 w22,Hst w0 H2 w22 H2 w22→(∀b,None b→H2 b)→Kept None w9 w22→I1 xs1 H2 w22→∃v11:Sl,w22.cell? p3=some v11.v∧∀w23,Hst w0 H2 w22 H2 w23→K v11 w23))
theorem w_F1 (p1 t1 w0 K) (h:m_F1 p1 t1 w0 K):
  Calls prog 48 #[(vp p1),(vi t1)] w0 (fun e w'=>∃r5:Sl,e=.returned r5.v∧K r5 w'):=by
 refine cw (args:=[(vp p1),(vi t1)]) func48 ntmps48 ?_
 obtain ⟨hs,hb⟩:=st0 w0
 refine eg (nw2 hs hb h xb fun p2 w1 hs hb h=>q (ln (eg (nw2 hs hb h (jG (zeroValue25 _) rfl) fun p3 w2 hs hb h=>ln (eg (sc call64 (h.mono fun e w3 ⟨r1,k,hk,h⟩=>have ⟨hs,hb⟩:=hk.hh hs hb;⟨_,k,?_⟩)))))))
 refine nw2 hs hb h (jG (zeroValue130 _) rfl) fun p4 w4 hs hb h=>st2 (sizeOf130 _) hs hb h fun w5 hs hb h=>ln (eg (nw5 (fun p=>.map (some p.block)) hs hb h fun p5 w6 hs hb h=>nw2 hs hb h (jG (zeroValue132 _) rfl) fun p6 w7 hs hb h=>st2 (sizeOf132 _) hs hb h fun w8 hs hb h=>ln (jED (rg (ql (isAgg27 _) h fun v1 h=>q (sc call65 (h.mono fun e w9 ⟨r2,k,hk,h⟩=>have ⟨hs,hb⟩:=hk.hh hs hb;⟨_,k,?_⟩)))))))
 refine ln ?_
 obtain ⟨f1,cs1,hv1,hf1,h⟩:=h
 obtain ⟨xs1,Rd1,hit,I1,hRI,h0,hbody,h⟩:=h
 refine jBR (encs:=(fun (z2:Int)=>#[(vi z2)])) (Eq.trans (b:=r2) (by kernel_rfl) hv1) hf1 hit (fun _=>rfl) (by decide) hs I1 (fun _ _ _=>False) (fun _ _ _=>False) hRI h0 ?ha ?hr ?ht
 case ha =>
  intro l z2 w24
  refine rg (q (ln ⟨rfl,?_⟩))
  intro pre1 Y1 A1 hi hY hpost
  have h:=hbody pre1 z2 Y1 A1 hi hY hpost
  obtain ⟨hs,hb⟩:=st0 A1
  refine jM (eg (ql (isAgg27 _) h fun v2 h=>q (sc call18 (h.mono fun e w11 ⟨aI,aJ,aK,aL,aM,aN,aO,r3,k,hk,h⟩=>have ⟨hs,hb⟩:=hk.hh hs hb;⟨_,k,?_⟩))))
  refine qc (nw3 [(vi 0),(vi 0),(vi 0),(vu 0),ve,(vi 0),(vi 0)] 59 hs hb (jG (zeroValue59 _) rfl) fun p7 w12 H1 hs hb=>sbx 0 (Ad aI aJ aK aL aM aN aO) (sizeOf59 _) hs hb gZ fun w13 hs hb=>q (ln (eg ?_)))
  have ⟨h,hs⟩:=hs.hr (h H1 w13)
  refine ql (isAgg25 _) h fun v3 h=>q (q3 (xl (isAgg3 _) (hb.d0 0 gZ)) (q (uL (O:=(.cells #[(.int .u8 (IntKind.u8.wrap aI))] 5)) (fun p=>(Sl.mk (some p) 1 1).v) (jK rfl) (kZ (vs:=#[(0,(.int .u8 (IntKind.u8.wrap aI)))]) (by kernel_rfl) (by kernel_rfl)) ?_)))
  intro p8 w14 hn9
  have h:=h p8 w14 hn9
  obtain ⟨hs,hb⟩:=hs.nw hb hn9
  obtain ⟨s1,w15,hv13,hk,h⟩:=h
  refine st (v:=s1.v) (jK rfl) (kB (args:=#[v3.v,(Sl.mk (some p8) 1 1).v]) (by kernel_rfl) (fun _=>rfl) hv13) ?_
  obtain ⟨hs,hb⟩:=hk.hh hs hb
  refine st2 (sizeOf25 _) hs hb h fun w16 hs hb h=>ln (jA (eg (ql (isAgg130 _) h fun v4 h=>q (q3 (xl (isAgg3 _) (hb.d0 0 gZ)) ?_))))
  obtain ⟨v5,hv11,h⟩:=h
  refine q2 v5.v (vW (by kernel_rfl) (by kernel_rfl) hv11) (qb (ln (jM ?_)))
  obtain ⟨I2,mu1,h0,hr⟩:=h
  refine kL (σ:=Int×NP×World) (fun s ρ w=>w=s.2.2∧Has ρ [(5,(vp (some p3))),(7,(vp (some p6))),(8,(vi z2)),(9,(vp (some p7))),(34,v5.v),(35,(vi (v5.len:Int))),(36,(vi s.1))]∧Hst A1 s.2.1 w s.2.1 w∧HB s.2.1 w [(p7,(Ad aI aJ aK aL aM aN aO),59)]∧I2 s.1 s.2.1 s.2.2) (fun s=>mu1 s.1 s.2.2) (0,H1,w16) ⟨rfl,hm,hs,hb,h0⟩ ?_
  rintro ⟨x1,Hl1,wl1⟩ ρ w ⟨hw,hH,hs,hb,hI⟩
  dsimp only at hw hH hs hb;subst w
  have h:=hr x1 Hl1 wl1 hs hI
  refine jQ hH (eg (q (ln (jA (cbr h ?_ ?_)))))<;>intro h
  refine jB (jN (jA (jM (eg (qi (runUnderlying136 _) (sizeOf140 _) h fun a1 h=>?_)))))
  obtain ⟨vput1,vget1,hv5,h⟩:=h
  refine qa (isAgg140 _) (sizeOf140 _) hv5 (nw2 hs hb h (jG (zeroValue140 _) rfl) fun p9 w17 hs hb h=>?_)
  obtain ⟨hp4,hnh,h⟩:=h
  refine ss (lC (a:=p9) (vs:=[vput1,vget1]) (by kernel_rfl) (by kernel_rfl) hp4.1 (sizeOf140 _) rfl hp4.2) ?_
  intro w18 hn6
  have h:=h w18 hn6
  have hk:Kept Hl1 w17 w18:=by rw [hn6];exact Kept.storeRow hnh
  obtain ⟨hs,hb⟩:=hk.hh hs hb
  refine ln (rg (q (ql (isAgg137 _) h fun v6 h=>ql (isAgg25 _) h fun v7 h=>q2 (Ae aI aJ aK aL aM aN aO) (xa p7 (Ad aI aJ aK aL aM aN aO) (isAgg59 _) (sizeOf59 _) (hb.r0 0 7 gZ)) (ql (isAgg132 _) h fun v8 h=>?_))))
  obtain ⟨f2,fs1,cs2,hp5,h⟩:=h
  obtain ⟨hf2,h⟩:=h
  refine vK (jK rfl) (jAY (fs:=fs1) (caps:=cs2) (args:=#[v7.v,(Ae aI aJ aK aL aM aN aO),(.map v8)]) (by kernel_rfl) hp5 hf2 (by kernel_rfl) rfl) (h.mono ?_)
  rintro e w19 ⟨r4,rfl,hk,h⟩
  refine ⟨_,rfl,?_⟩
  obtain ⟨hs,hb⟩:=hk.hh hs hb
  refine st2 (sizeOf25 _) hs hb h fun w20 hs hb h=>jC (uS (jN (rg (qb (ln ⟨((q6.wrap (x1+1)),Hl1,w20),⟨rfl,hm,hs,hb,h.1⟩,h.2⟩)))))
  refine zV (xG (xG (xE (jN (rg (ql (isAgg132 _) h fun v9 h=>q (ql (isAgg132 _) h fun v10 h=>?_)))))))
  obtain ⟨z3,hv8,h⟩:=h
  refine q2 (vi z3) (kB (args:=#[(.map v10)]) (by kernel_rfl) (fun _=>rfl) hv8) ?_
  obtain ⟨w21,hv7,hk,h⟩:=h
  refine vC (jK rfl) (uW (by kernel_rfl) (by kernel_rfl) (by kernel_rfl) hv7) ?_
  obtain ⟨hs,hb⟩:=hk.hh hs hb
  refine jC (uS ?_)
  exact rd_n h
 case hr =>
  intro D1 H2 w22 hs' hD hDe aW hk1 hio1
  have hb':=hb.behind hk1 aW hD hDe
  have hs:=hs'
  have hb:=hb'
  have h:=h H2 w22 hs aW hk1 (hio1.elim id (fun h=>h.elim (fun _ h=>h.elim)))
  refine eg (ql (isAgg25 _) h fun v11 h=>q (ln (er (af_r hb.dead ?_))))
  intro w23 hw'
  have hl:=hb.leave hs hw'
  obtain ⟨hs,hb⟩:=hl
  -- behind the loop
  have ⟨h,hs⟩:=hs.hr (h w23)
  refine rs1 results48 ⟨v11,rfl,h⟩
 case ht =>
  intro _ _ _ _ _ _ _ h
  exact h.elim
def m_N2 (p1:Option Addr) (t1:Int) (w0:World) (K:Sl→Int→WP):Prop :=Calls prog 18 #[(vp p1),(vi t1)] w0 (fun e w1=>∃aI aJ aK aL aM aN aO r1,e=.returned (.tuple #[(Ae aI aJ aK aL aM aN aO),(vb r1)])∧Kept None w0 w1∧Br (!r1) (∀H1 w3,Hst w0 None w1 H1 w3→K Sl.nil 51 w3) (∀H1 w3,Hst w0 None w1 H1 w3→Calls prog 48 #[(vp p1),(vi t1)] w3 (fun e w4=>∃r2:Sl,e=.returned r2.v∧Kept H1 w3 w4∧Br (decide ((r2.len:Int)>4096)) (K Sl.nil 1 w4) (K r2 0 w4))))
theorem w_N2 (p1 t1 w0 K) (h:m_N2 p1 t1 w0 K):
  Calls prog 23 #[(vp p1),(vi t1)] w0 (fun e w'=>∃r3:Sl,∃r4,e=.returned (.tuple #[r3.v,(vi r4)])∧K r3 r4 w'):=by
 refine cw (args:=[(vp p1),(vi t1)]) func23 ntmps23 ?_
 obtain ⟨hs,hb⟩:=st0 w0
 refine eg (qb (ln (jA (eg (qb (sc call18 (h.mono fun e w1 ⟨aI,aJ,aK,aL,aM,aN,aO,r1,k,hk,h⟩=>have ⟨hs,hb⟩:=hk.hh hs hb;⟨_,k,?_⟩)))))))
 refine qc (nw3 [(vi 0),(vi 0),(vi 0),(vu 0),ve,(vi 0),(vi 0)] 59 hs hb (jG (zeroValue59 _) rfl) fun p2 w2 H1 hs hb=>sbx 0 (Ad aI aJ aK aL aM aN aO) (sizeOf59 _) hs hb gZ fun w3 hs hb=>q (ln (eg (qb (ln (cbr h ?_ ?_))))))<;>intro h
 refine eg (qb (ln (er (zM ?_))))
 have ⟨h,hs⟩:=hs.hr (h H1 w3)
 refine oX (.inl rfl) results23 (v:=Sl.nil.v) (by kernel_rfl) (v':=(vi 51)) (by kernel_rfl) ⟨Sl.nil,51,rfl,h⟩
 refine jB (jN (eg (qb ?_)))
 have ⟨h,hs⟩:=hs.hr (h H1 w3)
 refine sc call48 (h.mono fun e w4 ⟨r2,k,hk,h⟩=>have ⟨hs,hb⟩:=hk.hh hs hb;⟨_,k,?_⟩)
 refine q (ln (jA (eg (qc (ln (cbr h ?_ ?_))))))<;>intro h
 refine eg (qb (ln (er (zM (oX (.inl rfl) results23 (v:=Sl.nil.v) (by kernel_rfl) (v':=(vi 1)) (by kernel_rfl) ⟨Sl.nil,1,rfl,h⟩)))))
 refine jB (jN (eg (qc (ln (er (oX (.inl rfl) results23 (v:=r2.v) (by kernel_rfl) (v':=(vi 0)) (by kernel_rfl) ⟨r2,0,rfl,h⟩))))))
def m_O2 (p1:Sl) (w0:World) (K:(Option Addr)→WP):Prop :=Calls prog 101 #[p1.v] w0 (fun e w1=>∃r1:Sl,e=.returned r1.v∧∀p2 w2,New w1 (.cells #[r1.v,(vi 0),(vi 0),(vi 0)] 170) p2 w2→K (some p2) w2)
theorem w_O2 (p1 w0 K) (h:m_O2 p1 w0 K):
  Calls prog 66 #[p1.v] w0 (fun e w'=>∃r2,e=.returned (vp r2)∧K r2 w'):=by
 refine cw (args:=[p1.v]) func66 ntmps66 (eg (q0 (vp none) (ln (eg (q0 p1.v ?_)))))
 refine sc call101 (h.mono fun e w1 ⟨r1,k,h⟩=>⟨_,k,?_⟩)
 refine q (nw1 h xb fun p2 w2 h=>q (ln (er (rs1 results66 ⟨(some p2),rfl,h⟩))))
def m_P2 (r1:Option Addr) (w0:World) (K:Int→WP):Prop :=Br (Option.isNone r1) (K 0 w0) (∃a1,r1=some a1∧∀w1,Hst w0 None w0 None w1→∃v1:Sl,w1.cell? a1=some v1.v∧∃a2,r1=some a2∧∃v2,w1.cell? (a2.add 1)=some (vi v2)∧K (q6.wrap ((v1.len:Int) - v2)) w1)
theorem w_P2 (r1 w0 K) (h:m_P2 r1 w0 K):
  Calls prog 67 #[(vp r1)] w0 (fun e w'=>∃r2,e=.returned (vi r2)∧K r2 w'):=by
 refine cw (args:=[(vp r1)]) func67 ntmps67 ?_
 obtain ⟨hs,hb⟩:=st0 w0
 refine eg (q (ln (jA (eg (q (q2 (vb (Option.isNone r1)) (qK (by kernel_rfl) rfl underlying141) (ln (cbr h ?_ ?_))))))))<;>intro h
 refine eg (q (ln (er (zM (rs1 results67 ⟨0,rfl,h⟩)))))
 refine jB (jN (jA (zW (by kernel_rfl) (by kernel_rfl) (by kernel_rfl) (by kernel_rfl) ?_)))
 intro w1 hw1
 have hs:Hst w0 None w0 None w1:=by rw [hw1];exact hs.drew
 have hb:HB None w1 []:=by rw [hw1];exact hb.drew
 refine qq 0 (vp r1) Kp0 (qg 1 ?_)
 obtain ⟨a1,hp1,h⟩:=h
 refine sxQ Kp1 (jK rfl) rfl (xn hp1) (qq 2 (vp (some a1)) Kp2 (qg 3 ?_))
 have ⟨h,hs⟩:=hs.hr (h w1)
 obtain ⟨v1,hv2,h⟩:=h
 refine sxQ Kp3 (jK rfl) rfl (xl (isAgg25 _) hv2) (qq 4 (vi (v1.len:Int)) Kp4 (qq 5 (vp r1) Kp5 (qg 6 ?_)))
 obtain ⟨a2,hp2,h⟩:=h
 refine sxQ Kp6 (jK rfl) rfl (xn hp2) (qq 7 (vp (some (a2.add 1))) Kp7 (qg 8 ?_))
 obtain ⟨v2,hv1,h⟩:=h
 refine sxQ Kp8 (jK rfl) rfl (xl (isAgg3 _) hv1) (qq 9 (vi (q6.wrap ((v1.len:Int) - v2))) Kp9 (qq 10 (vi (q6.wrap ((v1.len:Int) - v2))) (jJ (S8 (jD (jD jI)))) (wn (jN (er (rs1 results67 ⟨(q6.wrap ((v1.len:Int) - v2)),rfl,h⟩))))))
def m_Q2 (r1:Option Addr) (w0:World) (K:Int→WP):Prop :=Br (Option.isNone r1) (K 0 w0) (∃a1,r1=some a1∧∃v1,w0.cell? (a1.add 1)=some (vi v1)∧K v1 w0)
theorem w_Q2 (r1 w0 K) (h:m_Q2 r1 w0 K):
  Calls prog 68 #[(vp r1)] w0 (fun e w'=>∃r2,e=.returned (vi r2)∧K r2 w'):=by
 refine cw (args:=[(vp r1)]) func68 ntmps68 (eg (q0 (vi 0) (ln (jA (eg (q0 (vp r1) (q2 (vb (Option.isNone r1)) (qK (by kernel_rfl) rfl underlying141) (jC ?_))))))))
 refine jN (cbr h ?_ ?_)<;>intro h
 refine eg (q (ln (er (zM (rs1 results68 ⟨0,rfl,h⟩)))))
 refine jB (jN (eg (q (qm h fun a1 h=>q (ql (isAgg3 _) h fun v1 h=>q (ln (er (rs1 results68 ⟨v1,rfl,h⟩))))))))
def m_R2 (r1:Option Addr) (w0:World) (K:Int→WP):Prop :=∀p1 w1,New w0 (.cells #[(vp r1)] 141) p1 w1→∀p2 w2,New w1 (.cells #[(.int .u8 0)] 5) p2 w2→∃v1,w2.cell? p1=some (vp v1)∧Calls prog 121 #[(vp v1),(.func (.func 127) #[] #[(vp (some p1)),(vp (some p2))])] w2 (fun e w3=>e=.returned (.tuple #[])∧∃v2:Int,w3.cell? p2=some (.int .u8 v2)∧jT w3 p2∧∀w4,w4=w3.setCell p2 (.int .u8 v2)→∃aD:Int,w4.cell? p2=some (.int .u8 aD)∧K aD w4)
theorem w_R2 (r1 w0 K) (h:m_R2 r1 w0 K):
  Calls prog 102 #[(vp r1)] w0 (fun e w'=>∃r2:Int,e=.returned (.int .u8 r2)∧K r2 w'):=by
 refine cw (args:=[(vp r1)]) func102 ntmps102 (eg (sn (O:=(.cells #[(vp r1)] 141)) xb ?_))
 intro p1 w1 hn3
 have h:=h p1 w1 hn3
 refine nw1 h (jG (zeroValue5 _) rfl) fun p2 w2 h=>ln (eg (ql (isAgg141 _) h fun v1 h=>q (sc call121 (h.mono fun e w3 ⟨k,h⟩=>⟨_,k,?_⟩))))
 refine ln (eg (ql (isAgg5 _) h fun v2 h=>st1 (sizeOf5 _) h fun w4 h=>ln (er ?_)))
 obtain ⟨aD,hv1,h⟩:=h
 refine gg1 results102 (RV.cell1 (A:=p2) (by kernel_rfl) (isAgg5 _) hv1) ⟨aD,rfl,h⟩
def m_S2 (r1:Option Addr) (w0:World) (K:Int→Int→WP):Prop :=Br (Option.isNone r1) (K 0 0 w0) (∃a1,r1=some a1∧∀w1,Hst w0 None w0 None w1→∃v1,w1.cell? (a1.add 2)=some (vi v1)∧∃a2,r1=some a2∧∃v2,w1.cell? (a2.add 3)=some (vi v2)∧K v1 v2 w1)
theorem w_S2 (r1 w0 K) (h:m_S2 r1 w0 K):
  Calls prog 103 #[(vp r1)] w0 (fun e w'=>∃r2 r3,e=.returned (.tuple #[(vi r2),(vi r3)])∧K r2 r3 w'):=by
 refine cw (args:=[(vp r1)]) func103 ntmps103 ?_
 obtain ⟨hs,hb⟩:=st0 w0
 refine eg (qb (ln (jA (eg (q (q2 (vb (Option.isNone r1)) (qK (by kernel_rfl) rfl underlying141) (jC (jN (cbr h ?_ ?_)))))))))<;>intro h
 refine eg (qb (ln (er (zM (oX (.inl rfl) results103 (v:=(vi 0)) (by kernel_rfl) (v':=(vi 0)) (by kernel_rfl) ⟨0,0,rfl,h⟩)))))
 refine jB (jN (jA (zW (by kernel_rfl) (by kernel_rfl) (by kernel_rfl) (by kernel_rfl) ?_)))
 intro w1 hw1
 have hs:Hst w0 None w0 None w1:=by rw [hw1];exact hs.drew
 have hb:HB None w1 []:=by rw [hw1];exact hb.drew
 refine qq 0 (vp r1) Kp0 (qg 1 ?_)
 obtain ⟨a1,hp1,h⟩:=h
 refine sxQ Kp1 (jK rfl) rfl (xn hp1) (qq 2 (vp (some (a1.add 2))) Kp2 (qg 3 ?_))
 have ⟨h,hs⟩:=hs.hr (h w1)
 obtain ⟨v1,hv2,h⟩:=h
 refine sxQ Kp3 (jK rfl) rfl (xl (isAgg30 _) hv2) (qq 4 (vp r1) Kp4 (qg 5 ?_))
 obtain ⟨a2,hp2,h⟩:=h
 refine sxQ Kp5 (jK rfl) rfl (xn hp2) (qq 6 (vp (some (a2.add 3))) Kp6 (qg 7 ?_))
 obtain ⟨v2,hv1,h⟩:=h
 refine sxQ Kp7 (jK rfl) rfl (xl (isAgg3 _) hv1) (qq 8 (vi v1) Kp8 (qq 9 (vi v2) Kp9 (wn (jN (er (oX (.inl rfl) results103 (v:=(vi v1)) (by kernel_rfl) (v':=(vi v2)) (by kernel_rfl) ⟨v1,v2,rfl,h⟩))))))
def s_M (n1:Int):Int :=(cond (decide (n1>2147483647)) (-1) (q6.wrap n1))
theorem pw_M (n1:Int) (w0:World) :
  Calls prog 104 #[(vu n1)] w0 (fun e w'=>∃b'0:Bool,((decide (n1>2147483647))=b'0)∧(e=.returned (vi (cond b'0 (-1) (q6.wrap n1))))∧Pure w0 w'):=by
 refine cw (args:=[(vu n1)]) func104 ntmps104 (eg (q0 (vi 0) (ln (jA (eg (q0 (vu n1) (q0 (vb (decide (n1>2147483647))) (jC ?_))))))))
 refine jN (vM (t:=(decide (n1>2147483647))) (by kernel_rfl) (fun hc1=>?_) (fun hc1=>?_))
 refine eg (q (ln (er (zM (rs1 results104 (v:=(vi (-1))) ⟨true,hc1,by kernel_rfl,Ext.refl _⟩)))))
 refine jB (jN (eg (qc (ln (er (rs1 results104 (v:=(vi (q6.wrap n1))) ⟨false,hc1,by kernel_rfl,Ext.refl _⟩))))))
theorem p_M (n1:Int) (w0:World):Calls prog 104 #[(.int .u64 n1)] w0 (fun e w'=>e=.returned (.int .i64 (s_M n1))∧Pure w0 w'):=by
 refine (pw_M n1 w0).mono ?_;rintro e w' ⟨b'0,e0,h,E⟩;subst e0;exact ⟨h,E⟩
def s_P (aB aA:Int) (aC aE:Int) (aF:ByteArray) (aG aH:Int):Int :=(cond (((((decide (aA<0)) || (decide (aA≥16))) || (decide (aC<0))) || (decide (aC≥16))) || (((aB == 8) || (aB == 9)) && (aA == aC))) 50 0)
theorem pw_P (aB aA:Int) (aC aE:Int) (aF:ByteArray) (aG aH:Int) (w0:World) :
  Calls prog 105 #[(.agg #[(vi aB),(vi aA),(vi aC),(vu aE),(vs aF),(vi aG),(vi aH)])] w0 (fun e w'=>∃b'0:Bool,((((((decide (aA<0)) || (decide (aA≥16))) || (decide (aC<0))) || (decide (aC≥16))) || (((aB == 8) || (aB == 9)) && (aA == aC)))=b'0)∧(e=.returned (vi (cond b'0 50 0)))∧Pure w0 w'):=by
 refine cw (args:=[(Ae aB aA aC aE aF aG aH)]) func105 ntmps105 ?_
 obtain ⟨hs,hb⟩:=st0 w0
 refine eg (nw3 (Ad aB aA aC aE aF aG aH) 59 hs hb xb fun p1 w1 H1 hs hb=>q (ln (jA (vJ (fun ρ wJ=>∃HJ:NP,Hst w0 None w0 HJ wJ∧HB HJ wJ [(p1,(Ad aB aA aC aE aF aG aH),59)]∧Has ρ [(1,(vp (some p1))),(3,(vb ((aB == 8) || (aB == 9))))]) ?_ ?_))))
 refine rg (q (q3 (xl (isAgg3 _) (hb.d0 0 gZ)) (qb (jU 4 (fun ρ wJ=>∃b3'0:Bool,∃HJ:NP,((aB == 8)=b3'0)∧Hst w0 None w0 HJ wJ∧HB HJ wJ [(p1,(Ad aB aA aC aE aF aG aH),59)]∧Has ρ [(1,(vp (some p1))),(11,(vb (b3'0 || (aB == 9))))]) ?_ ?_))))
 rintro ρ w4 ⟨b3'0,H4,he0,hs,hb,hH⟩
 subst he0
 refine zB hH (q (ln ⟨_,hs,hb,hm⟩))
 rcases bte (aB == 8) with hg4 | hg4
 refine sj3 7 hg4 (q2 (vb true) (xT hg4) (jC ⟨true,_,hg4,hs,hb,hm⟩))
 refine qk 7 hg4 (q4 7 hg4 (xl (isAgg3 _) (hb.d0 0 gZ)) (qk 7 hg4 (q2 (vb (aB == 9)) (xF hg4) (jC ⟨false,_,hg4,hs,hb,hm⟩))))
 rintro ρ w3 ⟨H3,hs,hb,hH⟩
 refine kM hH (jN (jA (jA (vJ (fun ρ wJ=>∃b8'0:Bool,∃HJ:NP,(((((decide (aA<0)) || (decide (aA≥16))) || (decide (aC<0))) || (decide (aC≥16)))=b8'0)∧Hst w0 None w0 HJ wJ∧HB HJ wJ [(p1,(Ad aB aA aC aE aF aG aH),59)]∧Has ρ [(39,(vb (b8'0 || (((aB == 8) || (aB == 9)) && (aA == aC)))))]) ?_ ?_))))
 refine rg (q (q3 (xl (isAgg3 _) (hb.d 0 1 gZ)) (qb (jU 4 (fun ρ wJ=>∃b9'0:Bool,∃HJ:NP,((decide (aA<0))=b9'0)∧Hst w0 None w0 HJ wJ∧HB HJ wJ [(p1,(Ad aB aA aC aE aF aG aH),59)]∧Has ρ [(1,(vp (some p1))),(3,(vb ((aB == 8) || (aB == 9)))),(19,(vb (b9'0 || (decide (aA≥16)))))]) ?_ ?_))))
 rintro ρ w10 ⟨b9'0,H10,he0,hs,hb,hH⟩
 subst he0
 refine zB hH (q (jU 4 (fun ρ wJ=>∃b10'0:Bool,∃HJ:NP,(((decide (aA<0)) || (decide (aA≥16)))=b10'0)∧Hst w0 None w0 HJ wJ∧HB HJ wJ [(p1,(Ad aB aA aC aE aF aG aH),59)]∧Has ρ [(1,(vp (some p1))),(3,(vb ((aB == 8) || (aB == 9)))),(24,(vb (b10'0 || (decide (aC<0)))))]) ?_ ?_))
 rintro ρ w11 ⟨b10'0,H11,he0,hs,hb,hH⟩
 subst he0
 refine zB hH (q (jU 4 (fun ρ wJ=>∃b11'0:Bool,∃HJ:NP,((((decide (aA<0)) || (decide (aA≥16))) || (decide (aC<0)))=b11'0)∧Hst w0 None w0 HJ wJ∧HB HJ wJ [(p1,(Ad aB aA aC aE aF aG aH),59)]∧Has ρ [(1,(vp (some p1))),(3,(vb ((aB == 8) || (aB == 9)))),(29,(vb (b11'0 || (decide (aC≥16)))))]) ?_ ?_))
 rintro ρ w12 ⟨b11'0,H12,he0,hs,hb,hH⟩
 subst he0
 refine zB hH (q ?_)
 rcases bte ((((decide (aA<0)) || (decide (aA≥16))) || (decide (aC<0))) || (decide (aC≥16))) with hg20 | hg20
 refine sj2 30 hg20 (sm (sm (sm (sm (sm (sj 30 hg20 (q2 (vb true) (xT hg20) (ln ⟨true,_,hg20,hs,hb,hm⟩))))))))
 refine qk 30 hg20 (qk 30 hg20 (jU 6 (fun ρ wJ=>∃b12'0:Bool,∃HJ:NP,(((aB == 8) || (aB == 9))=b12'0)∧Hst w0 None w0 HJ wJ∧HB HJ wJ [(p1,(Ad aB aA aC aE aF aG aH),59)]∧Has ρ [(30,(vb ((((decide (aA<0)) || (decide (aA≥16))) || (decide (aC<0))) || (decide (aC≥16))))),(38,(vb (b12'0 && (aA == aC))))]) ?_ ?_))
 rintro ρ w13 ⟨b12'0,H13,he0,hs,hb,hH⟩
 subst he0
 refine zB hH (q2 (vb (((aB == 8) || (aB == 9)) && (aA == aC))) (xF hg20) (ln ⟨false,_,hg20,hs,hb,hm⟩))
 rcases bte ((aB == 8) || (aB == 9)) with hg22 | hg22
 refine qk 32 hg22 (q4 32 hg22 (xl (isAgg3 _) (hb.d 0 1 gZ)) (qk 32 hg22 (q4 32 hg22 (xl (isAgg3 _) (hb.d 0 2 gZ)) (qk 32 hg22 (stq (v:=(vb (aA == aC))) (wy 30 hg20) (xT hg22) (jC ⟨true,_,hg22,hs,hb,hm⟩))))))
 refine sj5 32 hg22 (stq (v:=(vb false)) (wy 30 hg20) (xF hg22) (jC ⟨false,_,hg22,hs,hb,hm⟩))
 rcases bte (((decide (aA<0)) || (decide (aA≥16))) || (decide (aC<0))) with hg19 | hg19
 refine sj3 25 hg19 (q2 (vb true) (xT hg19) (jC ⟨true,_,hg19,hs,hb,hm⟩))
 refine qk 25 hg19 (q4 25 hg19 (xl (isAgg3 _) (hb.d 0 2 gZ)) (qk 25 hg19 (q2 (vb (decide (aC≥16))) (xF hg19) (jC ⟨false,_,hg19,hs,hb,hm⟩))))
 rcases bte ((decide (aA<0)) || (decide (aA≥16))) with hg17 | hg17
 refine sj3 20 hg17 (q2 (vb true) (xT hg17) (jC ⟨true,_,hg17,hs,hb,hm⟩))
 refine qk 20 hg17 (q4 20 hg17 (xl (isAgg3 _) (hb.d 0 2 gZ)) (qk 20 hg17 (q2 (vb (decide (aC<0))) (xF hg17) (jC ⟨false,_,hg17,hs,hb,hm⟩))))
 rcases bte (decide (aA<0)) with hg15 | hg15
 refine sj3 15 hg15 (q2 (vb true) (xT hg15) (jC ⟨true,_,hg15,hs,hb,hm⟩))
 refine qk 15 hg15 (q4 15 hg15 (xl (isAgg3 _) (hb.d 0 1 gZ)) (qk 15 hg15 (q2 (vb (decide (aA≥16))) (xF hg15) (jC ⟨false,_,hg15,hs,hb,hm⟩))))
 rintro ρ w9 ⟨b8'0,H9,he0,hs,hb,hH⟩
 subst he0
 refine kM hH (jN (vM (t:=(((((decide (aA<0)) || (decide (aA≥16))) || (decide (aC<0))) || (decide (aC≥16))) || (((aB == 8) || (aB == 9)) && (aA == aC)))) (by kernel_rfl) (fun hc1=>?_) (fun hc1=>?_)))
 refine eg (q (ln (er (zM (rs1 results105 (v:=(vi 50)) ⟨true,hc1,by kernel_rfl,(Ext.refl (F:=None) _).hst hs⟩)))))
 refine jB (jN (eg (q (ln (er (rs1 results105 (v:=(vi 0)) ⟨false,hc1,by kernel_rfl,(Ext.refl (F:=None) _).hst hs⟩))))))
theorem p_P (aB aA:Int) (aC aE:Int) (aF:ByteArray) (aG aH:Int) (w0:World):Calls prog 105 #[(.agg #[(.int .i64 aB),(.int .i64 aA),(.int .i64 aC),(.int .u64 aE),(.string aF),(.int .i64 aG),(.int .i64 aH)])] w0 (fun e w'=>e=.returned (.int .i64 (s_P aB aA aC aE aF aG aH))∧Pure w0 w'):=by
 refine (pw_P aB aA aC aE aF aG aH w0).mono ?_;rintro e w' ⟨b'0,e0,h,E⟩;subst e0;exact ⟨h,E⟩
def m_D_j4 (aD:Option Addr) (p1:Addr) (H:NP) (w:World) (K:Int→WP):Prop :=∃aX aY aZ bA bB bC bD,Row w p1 (Ad aX aY aZ bA bB bC bD)∧Calls prog 106 #[(vp aD),(.agg #[(vi aX),(vi aY),(vi aZ),(vu bA),(vs bB),(vi bC),(vi bD)])] w (fun e w14=>∃r8 r9,e=.returned (.tuple #[(vi r8),(vb r9)])∧Kept H w w14∧Br r9 (K 72 w14) (∃bE bF bG bH bI bJ bK,Row w14 p1 (Ad bE bF bG bH bI bJ bK)∧Calls prog 63 #[(vp aD),(.agg #[(vi bE),(vi bF),(vi bG),(vu bH),(vs bI),(vi bJ),(vi bK)])] w14 (fun e w15=>∃r10 r11,e=.returned (.tuple #[(vi r10),(vi r11)])∧Kept H w14 w15∧K r11 w15)))
def m_D_j3 (aD:Option Addr) (p1:Addr) (H:NP) (w:World) (K:Int→WP):Prop :=∃v7,w.cell? (p1.add 11)=some (vi v7)∧Br (decide (v7>1)) (∃v8,w.cell? (p1.add 10)=some (vu v8)∧jT w (p1.add 6)∧¬ H (p1.add 6).block∧∀w16,w16=w.setCell (p1.add 6) (vi (q6.wrap (IntKind.u64.wrap (v8+1))))→m_D_j4 aD p1 H w16 K) (m_D_j4 aD p1 H w K)
def m_D_j2 (aD:Option Addr) (p1:Addr) (x2:Bool) (H:NP) (w:World) (K:Int→WP):Prop :=Br x2 (K 71 w) (∃v6,w.cell? (p1.add 11)=some (vi v6)∧Br (decide (v6>0)) (∃v9,w.cell? (p1.add 9)=some (vu v9)∧jT w (p1.add 5)∧¬ H (p1.add 5).block∧∀w17,w17=w.setCell (p1.add 5) (vi (q6.wrap (IntKind.u64.wrap (v9+1))))→m_D_j3 aD p1 H w17 K) (m_D_j3 aD p1 H w K))
def m_D_j5 (aD:Option Addr) (p1:Addr) (r7:Int) (x3:Bool) (H:NP) (w:World) (K:Int→WP):Prop :=Br x3 (m_D_j2 aD p1 true H w K) (∃v11,w.cell? (p1.add 11)=some (vi v11)∧Br (decide (v11>1)) (∃v12,w.cell? (p1.add 10)=some (vu v12)∧m_D_j2 aD p1 (decide (v12≥(IntKind.u64.wrap r7))) H w K) (m_D_j2 aD p1 false H w K))
def m_D_l1 (aD:Option Addr) (r1:Option Addr) (p1:Addr) (v2:Sl) (x1:Int) (w0:World) (Hl1:NP) (wl1:World) (Kc1:Int→NP→WP) (K:Int→WP):Prop :=Br (decide (x1<(v2.len:Int))) (∃a1:Addr,At v2 x1 2 a1∧∃vput1:Value,∃vget1:Value,Row wl1 a1 [vput1,vget1]∧∀p2 w3,New wl1 (.cells #[(.nilFunc:Value),(.nilFunc:Value)] 140) p2 w3→([vput1,vget1].all kD=true∧∀j,j<2→jT w3 (p2.add j))∧¬ Hl1 p2.block∧∀w4,w4=storeRow w3 p2 [vput1,vget1]→∃v3:Value,w4.cell? (p2.add 1)=some v3∧∃(f1:FuncId) (fs1 cs1:Array Value),v3=.func (.func f1) fs1 cs1∧(∀args w,(callFunc f1 args).run prog w=.ok (.enter f1 args) w)∧Calls prog f1 (fs1++#[(vp r1),(vp (some p1))]++cs1) w4 (fun e w5=>e=.returned (.tuple #[])∧Kept Hl1 w4 w5∧Kc1 (q6.wrap (x1+1)) Hl1 w5)) (Calls prog 103 #[(vp r1)] wl1 (fun e w6=>∃r3 r4,e=.returned (.tuple #[(vi r3),(vi r4)])∧Kept Hl1 wl1 w6∧Br (r3 != 0) (K r3 w6) (∃C1:WP,C1 w6.drew∧∀w7,w7=w6.drew→∃v4,w7.cell? (p1.add 7)=some (vu v4)∧∃v5,(∀w',C1 w'→w'.cell? (p1.add 8)=some (vu v5))∧Calls prog 104 #[(vu v4)] w7 (fun e w8=>∃r5,e=.returned (vi r5)∧C1 w8∧Kept Hl1 w7 w8∧Calls prog 104 #[(vu v5)] w8 (fun e w9=>∃r6,e=.returned (vi r6)∧C1 w9∧Kept Hl1 w8 w9∧jT w9 (p1.add 1)∧¬ Hl1 (p1.add 1).block∧∀w10,w10=w9.setCell (p1.add 1) (vi r5)→C1 w10∧jT w10 (p1.add 2)∧¬ Hl1 (p1.add 2).block∧∀w11,w11=w10.setCell (p1.add 2) (vi r6)→∃aP aQ aR aS aT aU aV,Row w11 p1 (Ad aP aQ aR aS aT aU aV)∧Br (((s_P aP aQ aR aS aT aU aV):Int) != 0) (∀w12,Hst w0 Hl1 w11 Hl1 w12→K (s_P aP aQ aR aS aT aU aV) w12) (∀w12,Hst w0 Hl1 w11 Hl1 w12→Calls prog 51 #[(vp aD)] w12 (fun e w13=>∃r7,e=.returned (vi r7)∧Kept Hl1 w12 w13∧∃v10,w13.cell? (p1.add 11)=some (vi v10)∧Br (decide (v10>0)) (∃v13,w13.cell? (p1.add 9)=some (vu v13)∧m_D_j5 aD p1 r7 (decide (v13≥(IntKind.u64.wrap r7))) Hl1 w13 K) (m_D_j5 aD p1 r7 false Hl1 w13 K))))))))
def m_D (aD:Option Addr) (r1:Option Addr) (kinds1:Option Nat) (w0:World) (K:Int→WP):Prop :=Calls prog 102 #[(vp r1)] w0 (fun e w1=>∃r2:Int,e=.returned (.int .u8 r2)∧Kept None w0 w1∧∀p1 w2,New w1 (.cells #[(vi (q6.wrap r2)),(vi 0),(vi 0),(vu 0),ve,(vi 0),(vi 0),(vu 0),(vu 0),(vu 0),(vu 0),(vi 0)] 164) p1 w2→∃v1,w2.cell? p1=some (vi v1)∧∃v2:Sl,∃ok1,(Instr.lookup 130 (.map kinds1) (vi v1) true).run prog w2=.ok (.tuple #[v2.v,(vb ok1)]) w2∧Br (!ok1) (K 70 w2) (∃(I1:Int→NP→WP) (mu1:Int→World→Nat),I1 0 None w2∧∀(x1:Int) (Hl1:NP) (wl1:World),Hst w0 Hl1 wl1 Hl1 wl1→I1 x1 Hl1 wl1→m_D_l1 aD r1 p1 v2 x1 w0 Hl1 wl1 (fun y'0 H' w'=>I1 y'0 H' w'∧mu1 y'0 w'<mu1 x1 wl1) K))
theorem w_D (aD r1 kinds1 w0 K) (h:m_D aD r1 kinds1 w0 K):
  Calls prog 69 #[(vp aD),(vp r1),(.map kinds1)] w0 (fun e w'=>∃r12,e=.returned (vi r12)∧K r12 w'):=by
 refine cw (args:=[(vp aD),(vp r1),(.map kinds1)]) func69 ntmps69 ?_
 obtain ⟨hs,hb⟩:=st0 w0
 refine eg (q (ln (eg (q (sc call102 (h.mono fun e w1 ⟨r2,k,hk,h⟩=>have ⟨hs,hb⟩:=hk.hh hs hb;⟨_,k,?_⟩))))))
 refine qc (nw2 hs hb h xb fun p1 w2 hs hb h=>q (ln (eg (q (qd (ql (isAgg3 _) h fun v1 h=>?_))))))
 obtain ⟨v2,ok1,hv17,h⟩:=h
 refine q2 (.tuple #[v2.v,(vb ok1)]) (vW (by kernel_rfl) (by kernel_rfl) hv17) (q (qd (ln (jA (eg (q (q (ln (cbr h ?_ ?_)))))))))<;>intro h
 refine eg (q (ln (er (zM (rs1 results69 ⟨70,rfl,h⟩)))))
 refine jB (jN (jA (eg (qc (ln (jM ?_))))))
 obtain ⟨I1,mu1,h0,hr⟩:=h
 refine kL (σ:=Int×NP×World) (fun s ρ w=>w=s.2.2∧Has ρ [(0,(vp aD)),(1,(vp r1)),(7,(vp (some p1))),(38,v2.v),(39,(vi (v2.len:Int))),(40,(vi s.1))]∧Hst w0 s.2.1 w s.2.1 w∧HB s.2.1 w []∧I1 s.1 s.2.1 s.2.2) (fun s=>mu1 s.1 s.2.2) (0,None,w2) ⟨rfl,hm,hs,hb,h0⟩ ?_
 rintro ⟨x1,Hl1,wl1⟩ ρ w ⟨hw,hH,hs,hb,hI⟩
 dsimp only at hw hH hs hb;subst w
 have h:=hr x1 Hl1 wl1 hs hI
 refine jQ hH (eg (q (ln (jA (cbr h ?_ ?_)))))<;>intro h
 refine jB (jN (jA (jM (eg (qi (runUnderlying136 _) (sizeOf140 _) h fun a1 h=>?_)))))
 obtain ⟨vput1,vget1,hv2,h⟩:=h
 refine qa (isAgg140 _) (sizeOf140 _) hv2 (nw2 hs hb h (jG (zeroValue140 _) rfl) fun p2 w3 hs hb h=>?_)
 obtain ⟨hp1,hnh,h⟩:=h
 refine ss (lC (a:=p2) (vs:=[vput1,vget1]) (by kernel_rfl) (by kernel_rfl) hp1.1 (sizeOf140 _) rfl hp1.2) ?_
 intro w4 hn1
 have h:=h w4 hn1
 have hk:Kept Hl1 w3 w4:=by rw [hn1];exact Kept.storeRow hnh
 obtain ⟨hs,hb⟩:=hk.hh hs hb
 refine ln (rg (q (ql (isAgg138 _) h fun v3 h=>qb ?_)))
 obtain ⟨f1,fs1,cs1,hp2,h⟩:=h
 obtain ⟨hf1,h⟩:=h
 refine vK (jK rfl) (jAY (fs:=fs1) (caps:=cs1) (args:=#[(vp r1),(vp (some p1))]) (by kernel_rfl) hp2 hf1 (by kernel_rfl) rfl) (h.mono ?_)
 rintro e w5 ⟨rfl,hk,h⟩
 refine ⟨_,rfl,?_⟩
 obtain ⟨hs,hb⟩:=hk.hh hs hb
 refine jC (uS (jN (rg (qb (ln ⟨((q6.wrap (x1+1)),Hl1,w5),⟨rfl,hm,hs,hb,h.1⟩,h.2⟩)))))
 refine zV (xG (xG (xE (jN (jA (eg (q0 (vp r1) (sc call103 (h.mono fun e w6 ⟨r3,r4,k,hk,h⟩=>have ⟨hs,hb⟩:=hk.hh hs hb;⟨_,k,?_⟩)))))))))
 refine q (qd (ln (eg (qb (jC (jN (cbr h ?_ ?_)))))))<;>intro h
 refine eg (qb (ln (er (zM (rs1 results69 ⟨r3,rfl,h⟩)))))
 refine jB (jN (jA ?_))
 obtain ⟨C1,hC,h⟩:=h
 refine dr2 C1 [6,11,15,19] [19] hC h hs hb fun w7 hs hb h=>?_
 have hs:=hs.here
 refine qx 0 (vp (some p1)) Kp0 (qx 1 (vp (some p1)) Kp1 (qx 2 (vp (some p1)) Kp2 (qx 3 (vp (some p1)) Kp3 (qx 4 (vp (some (p1.add 7))) Kp4 (qg 5 ?_)))))
 obtain ⟨v4,hv16,h⟩:=h
 refine sye Kp5 (xl (isAgg22 _) hv16) (qx 7 (vp (some p1)) Kp7 (qx 8 (vp (some p1)) Kp8 (qx 9 (vp (some (p1.add 8))) Kp9 (qg 10 ?_))))
 obtain ⟨v5,hv15,h⟩:=h
 refine sy (jJ (S8 (jD (jD jI)))) (fun _ k=>xl (isAgg22 _) (hv15 _ k)) (lg 6 (slc Kp6 call104 (h.mono ?_)))
 rintro e w8 ⟨r5,rfl,hC,hk,h⟩
 refine ⟨_,rfl,.inr hC,?_⟩
 obtain ⟨hs,hb⟩:=hk.hh hs hb
 refine lg 11 (slc (jJ (S8 (jD (jD (jD jI))))) call104 (h.mono ?_))
 rintro e w9 ⟨r6,rfl,hC,hk,h⟩
 refine ⟨_,rfl,.inr hC,?_⟩
 obtain ⟨hs,hb⟩:=hk.hh hs hb
 refine qx 12 (vp (some p1)) (jJ (S8 (S4 jI))) (qx 13 (vp (some p1)) (jJ (S8 (S4 (jD jI)))) (qx 14 (vp (some (p1.add 1))) (jJ (S8 (S4 (jD (jD jI))))) (lg 15 ?_)))
 obtain ⟨hp3,hnh,h⟩:=h
 refine sl_t (jJ (S8 (S4 (jD (jD (jD jI)))))) (xs (v:=(vi r5)) (sizeOf3 _) hp3) ?_
 intro w10 hn3
 have h:=h w10 hn3
 refine ⟨.inr h.1,?_⟩
 have h:=h.2
 have hk:=Kept.sc hnh hn3
 obtain ⟨hs,hb⟩:=hk.hh hs hb
 refine qx 16 (vp (some p1)) (jJ (S8 (S8 jI))) (qx 17 (vp (some p1)) (jJ (S8 (S8 (jD jI)))) (qx 18 (vp (some (p1.add 2))) (jJ (S8 (S8 (jD (jD jI))))) (lg 19 ?_)))
 obtain ⟨hp4,hnh,h⟩:=h
 refine sl_t (jJ (S8 (S8 (jD (jD (jD jI)))))) (xs (v:=(vi r6)) (sizeOf3 _) hp4) ?_
 intro w11 hn4
 have h:=h w11 hn4
 refine ⟨.inl (by kernel_rfl),?_⟩
 have hk:=Kept.sc hnh hn4
 obtain ⟨hs,hb⟩:=hk.hh hs hb
 refine wn (jN (jA (eg (qc ?_))))
 obtain ⟨aP,aQ,aR,aS,aT,aU,aV,hv14,h⟩:=h
 refine qa (isAgg59 _) (sizeOf59 _) hv14 (sc call105 ((p_P aP aQ aR aS aT aU aV w11).mono ?_))
 rintro e w12 ⟨he,hE⟩
 refine ⟨_,he,?_⟩
 obtain ⟨hs,hb⟩:=hs.pp hb hE
 refine q (ln (eg (qb (ln (cbr h ?_ ?_)))))<;>intro h
 refine eg (qb (ln (er (zM ?_))))
 have ⟨h,hs⟩:=hs.hr (h w12)
 refine rs1 results69 ⟨(s_P aP aQ aR aS aT aU aV),rfl,h⟩
 refine jB (jN (eg (q ?_)))
 have ⟨h,hs⟩:=hs.hr (h w12)
 refine sc call51 (h.mono fun e w13 ⟨r7,k,hk,h⟩=>have ⟨hs,hb⟩:=hk.hh hs hb;⟨_,k,?_⟩)
 refine qb (ln (jA (jA (zC (fun ρ w=>∃x2,∃H:NP,Has ρ [(0,(vp aD)),(7,(vp (some p1))),(114,(vb x2))]∧Hst w0 H w H w∧HB H w []∧m_D_j2 aD p1 x2 H w K) ?_ ?_))))
 rintro ρ w ⟨x2,H,hH,hs,hb,h⟩
 refine jQ hH (cbr h ?_ ?_)<;>intro h
 refine eg (q (ln (er (zM (rs1 results69 ⟨71,rfl,h⟩)))))
 refine jB (jN (jA (eg (qc (ql (isAgg3 _) h fun v6 h=>q (ln (zC (fun ρ w=>∃H:NP,Has ρ [(0,(vp aD)),(7,(vp (some p1)))]∧Hst w0 H w H w∧HB H w []∧m_D_j3 aD p1 H w K) ?_ ?_)))))))
 rintro ρ w ⟨H,hH,hs,hb,h⟩
 refine jQ hH (jA (eg (qc (ql (isAgg3 _) h fun v7 h=>q (ln (zC (fun ρ w=>∃H:NP,Has ρ [(0,(vp aD)),(7,(vp (some p1)))]∧Hst w0 H w H w∧HB H w []∧m_D_j4 aD p1 H w K) ?_ ?_))))))
 rintro ρ w ⟨H,hH,hs,hb,h⟩
 refine jQ hH (jA (eg (qd ?_)))
 obtain ⟨aX,aY,aZ,bA,bB,bC,bD,hv5,h⟩:=h
 refine qa (isAgg59 _) (sizeOf59 _) hv5 (sc call106 (h.mono fun e w14 ⟨r8,r9,k,hk,h⟩=>have ⟨hs,hb⟩:=hk.hh hs hb;⟨_,k,?_⟩))
 refine q (qd (ln (eg (q (ln (cbr h ?_ ?_))))))<;>intro h
 refine eg (q (ln (er (zM (rs1 results69 ⟨72,rfl,h⟩)))))
 refine jB (jN (eg (qd ?_)))
 obtain ⟨bE,bF,bG,bH,bI,bJ,bK,hv4,h⟩:=h
 refine qa (isAgg59 _) (sizeOf59 _) hv4 (sc call63 (h.mono fun e w15 ⟨r10,r11,k,hk,h⟩=>have ⟨hs,hb⟩:=hk.hh hs hb;⟨_,k,?_⟩))
 refine q (qd (ln (eg (qb (jC (jN (er (rs1 results69 ⟨r11,rfl,h⟩))))))))
 refine cbr h ?_ ?_<;>intro h
 refine rg (qd (ql (isAgg22 _) h fun v8 h=>q (qd (st2 (sizeOf29 _) hs hb h fun w16 hs hb h=>ln ⟨H,hm,hs,hb,h⟩))))
 refine jB (jN ⟨H,hm,hs,hb,h⟩)
 refine cbr h ?_ ?_<;>intro h
 refine rg (qd (ql (isAgg22 _) h fun v9 h=>q (qd (st2 (sizeOf29 _) hs hb h fun w17 hs hb h=>ln ⟨H,hm,hs,hb,h⟩))))
 refine jB (jN ⟨H,hm,hs,hb,h⟩)
 refine rg (qc (ql (isAgg3 _) h fun v10 h=>qb (jU 7 (fun ρ w=>∃x3,∃H:NP,Has ρ [(0,(vp aD)),(7,(vp (some p1))),(15,(vu (IntKind.u64.wrap r7))),(99,(vb x3))]∧Hst w0 H w H w∧HB H w []∧m_D_j5 aD p1 r7 x3 H w K) ?_ ?_)))
 rintro ρ w ⟨x3,H,hH,hs,hb,h⟩
 refine zB hH (q ?_)
 obtain ⟨hg1,h⟩|⟨hg1,h⟩:=h.br
 refine sj 100 hg1 (sj5 100 hg1 (sm (sm (sm (sm (sm (sm (sj 100 hg1 (q2 (vb true) (xT hg1) (ln ⟨true,H,hm,hs,hb,h⟩))))))))))
 refine qk 100 hg1 (qk 100 hg1 (qk 100 hg1 ?_))
 obtain ⟨v11,hv11,h⟩:=h
 refine q4 100 hg1 (xl (isAgg3 _) hv11) (qk 100 hg1 (qk 100 hg1 ?_))
 obtain ⟨hg2,h⟩|⟨hg2,h⟩:=h.br
 refine qk 106 hg2 (qk 106 hg2 (qk 106 hg2 ?_))
 obtain ⟨v12,hv10,h⟩:=h
 refine q4 106 hg2 (xl (isAgg22 _) hv10) (qk 106 hg2 (qk 106 hg2 (stq (v:=(vb (decide (v12≥(IntKind.u64.wrap r7))))) (wy 100 hg1) (xT hg2) (q2 (vb (decide (v12≥(IntKind.u64.wrap r7)))) (xF hg1) (ln ⟨(decide (v12≥(IntKind.u64.wrap r7))),H,hm,hs,hb,h⟩)))))
 refine sj 106 hg2 (sj5 106 hg2 (stq (v:=(vb false)) (wy 100 hg1) (xF hg2) (q2 (vb false) (xF hg1) (ln ⟨false,H,hm,hs,hb,h⟩))))
 obtain ⟨hg3,h⟩|⟨hg3,h⟩:=h.br
 refine qk 92 hg3 (qk 92 hg3 (qk 92 hg3 ?_))
 obtain ⟨v13,hv12,h⟩:=h
 refine q4 92 hg3 (xl (isAgg22 _) hv12) (qk 92 hg3 (qk 92 hg3 (q2 (vb (decide (v13≥(IntKind.u64.wrap r7)))) (xT hg3) (jC ⟨(decide (v13≥(IntKind.u64.wrap r7))),Hl1,hm,hs,hb,h⟩))))
 refine sj 92 hg3 (sj5 92 hg3 (q2 (vb false) (xF hg3) (jC ⟨false,Hl1,hm,hs,hb,h⟩)))
def m_G1_l1 (r1:Option Addr) (r2:Option Addr) (r3:Option Nat) (places1:Sl) (w0:World) (Hl1:NP) (wl1:World) (Kc1:Sl→NP→WP) (K:(Option Addr)→Int→Int→WP):Prop :=Calls prog 67 #[(vp r2)] wl1 (fun e w4=>∃r4,e=.returned (vi r4)∧Kept Hl1 wl1 w4∧Br (decide (r4>0)) (Calls prog 68 #[(vp r2)] w4 (fun e w5=>∃r5,e=.returned (vi r5)∧Kept Hl1 w4 w5∧Calls prog 69 #[(vp r1),(vp r2),(.map r3)] w5 (fun e w6=>∃r6,e=.returned (vi r6)∧Kept Hl1 w5 w6∧Br (r6 != 0) (K none r6 r5 w6) (∀p1 w7,New w6 (.cells #[(vi r5)] 3) p1 w7→∃s1:Sl,∃w8:World,(Builtin.append_ #[143,143] 143 #[places1.v,(Sl.mk (some p1) 1 1).v]).run prog w7=.ok s1.v w8∧Kept Hl1 w7 w8∧Kc1 s1 Hl1 w8)))) (∀p2 w9,New w4 (.cells #[(vi 0)] 3) p2 w9→jT w9 p2∧¬ Hl1 p2.block∧∀w10,w10=w9.setCell p2 (vi 0)→Calls prog 51 #[(vp r1)] w10 (fun e w11=>∃r7,e=.returned (vi r7)∧Kept Hl1 w10 w11∧Calls prog 65 #[(vp r1),(vi r7)] w11 (fun e w12=>∃r8:Value,e=.returned r8∧Kept Hl1 w11 w12∧∃(f1:FuncId) (cs1:Array Value),r8=.func (.func f1) #[] cs1∧(∀args w,(callFunc f1 args).run prog w=.ok (.enter f1 args) w)∧∃(xs1:List (Int)) (Rd1:WP),jPR prog f1 cs1 (fun (z2:Int)=>#[(vi z2)]) xs1 Rd1 w12∧∃(I2 Ix1:List (Int)→NP→WP),RngI w0 Rd1 I2 Ix1 (fun _ _ _=>False)∧I2 [] Hl1 w12∧(∀(pre1:List (Int)) (z2:Int) (Y1:NP) (A1:World),I2 pre1 Y1 A1→Hst w0 Y1 A1 Y1 A1→(∃post,xs1=pre1++z2 :: post)→∃v1,A1.cell? p2=some (vi v1)∧Br (z2 != (q6.wrap (v1+1))) (Kept Y1 A1 A1∧Ix1 (pre1++[z2]) Y1 A1) (∃v2,A1.cell? p2=some (vi v2)∧jT A1 p2∧¬ None p2.block∧∀w14,w14=A1.setCell p2 (vi (q6.wrap (v2+1)))→Kept Y1 A1 w14∧I2 (pre1++[z2]) Y1 w14))∧∀H1 w15,Hst w0 H1 w15 H1 w15→(∀b,Hl1 b→H1 b)→Kept Hl1 w12 w15→(I2 xs1 H1 w15∨∃pre,Ix1 pre H1 w15)→∃v3,w15.cell? p2=some (vi v3)∧Br (decide (v3<(places1.len:Int))) (∀w16,Hst w0 H1 w15 H1 w16→∃v4,w16.cell? p2=some (vi v4)∧∃a1:Addr,At places1 v4 1 a1∧∃v5,w16.cell? a1=some (vi v5)∧∀w17,Hst w0 H1 w16 H1 w17→K none 73 v5 w17) (∀w18,Hst w0 H1 w15 H1 w18→K r1 0 0 w18)))))
def m_G1 (b1:Sl) (w0:World) (K:(Option Addr)→Int→Int→WP):Prop :=Br (decide ((b1.len:Int)>4096)) (K none 1 0 w0) (Br (((b1.len:Int):Int) == 0) (K none 3 0 w0) (Calls prog 5 #[] w0 (fun e w1=>∃r1,e=.returned (vp r1)∧Kept None w0 w1∧Calls prog 66 #[b1.v] w1 (fun e w2=>∃r2,e=.returned (vp r2)∧Kept None w1 w2∧Calls prog 64 #[] w2 (fun e w3=>∃r3:Option Nat,e=.returned (.map r3)∧Kept None w2 w3∧∃(I1:Sl→NP→WP) (mu1:Sl→World→Nat),I1 Sl.nil None w3∧∀(places1:Sl) (Hl1:NP) (wl1:World),Hst w0 Hl1 wl1 Hl1 wl1→I1 places1 Hl1 wl1→m_G1_l1 r1 r2 r3 places1 w0 Hl1 wl1 (fun y'0 H' w'=>I1 y'0 H' w'∧mu1 y'0 w'<mu1 places1 wl1) K)))))
theorem w_G1 (b1 w0 K) (h:m_G1 b1 w0 K):
  Calls prog 49 #[b1.v] w0 (fun e w'=>∃r9 r10 r11,e=.returned (.tuple #[(vp r9),(vi r10),(vi r11)])∧K r9 r10 r11 w'):=by
 refine cw (args:=[b1.v]) func49 ntmps49 ?_
 obtain ⟨hs,hb⟩:=st0 w0
 refine eg (qc (ln (jFH rfl (fun _ _ _ h=>h) (jA (jM (eg (qd (ln (cbr h ?_ ?_)))))))))<;>intro h
 refine eg (qc (ln (er (qJ (zM (jKX (.inl rfl) results49 (v:=(vp none)) (by kernel_rfl) (v':=(vi 1)) (by kernel_rfl) (v'':=(vi 0)) (by kernel_rfl) ⟨none,1,0,rfl,h⟩))))))
 refine eg (qd (ln (cbr h ?_ ?_)))<;>intro h
 refine eg (qc (ln (er (qJ (zM (jKX (.inl rfl) results49 (v:=(vp none)) (by kernel_rfl) (v':=(vi 3)) (by kernel_rfl) (v'':=(vi 0)) (by kernel_rfl) ⟨none,3,0,rfl,h⟩))))))
 refine jB (uS (jN (eg (sc call5 (h.mono fun e w1 ⟨r1,k,hk,h⟩=>have ⟨hs,hb⟩:=hk.hh hs hb;⟨_,k,?_⟩)))))
 refine q (ln (eg (q (sc call66 (h.mono fun e w2 ⟨r2,k,hk,h⟩=>have ⟨hs,hb⟩:=hk.hh hs hb;⟨_,k,?_⟩)))))
 refine q (ln (eg (sc call64 (h.mono fun e w3 ⟨r3,k,hk,h⟩=>have ⟨hs,hb⟩:=hk.hh hs hb;⟨_,k,?_⟩))))
 refine q (ln (eg (q (ln (jA (jM ?_))))))
 obtain ⟨I1,mu1,h0,hr⟩:=h
 refine kL (σ:=Sl×NP×World) (fun s ρ w=>w=s.2.2∧Has ρ [(5,(vp r1)),(6,(vp r2)),(7,(.map r3)),(8,s.1.v)]∧Hst w0 s.2.1 w s.2.1 w∧HB s.2.1 w []∧I1 s.1 s.2.1 s.2.2) (fun s=>mu1 s.1 s.2.2) (Sl.nil,None,w3) ⟨rfl,hm,hs,hb,h0⟩ ?_
 rintro ⟨places1,Hl1,wl1⟩ ρ w ⟨hw,hH,hs,hb,hI⟩
 dsimp only at hw hH hs hb;subst w
 have h:=hr places1 Hl1 wl1 hs hI
 refine jQ hH (jA (eg (q (sc call67 (h.mono fun e w4 ⟨r4,k,hk,h⟩=>have ⟨hs,hb⟩:=hk.hh hs hb;⟨_,k,?_⟩)))))
 refine q (ln (cbr h ?_ ?_))<;>intro h
 refine jB (jN (jM (eg (q (sc call68 (h.mono fun e w5 ⟨r5,k,hk,h⟩=>have ⟨hs,hb⟩:=hk.hh hs hb;⟨_,k,?_⟩))))))
 refine q (ln (jA (eg (qc (sc call69 (h.mono fun e w6 ⟨r6,k,hk,h⟩=>have ⟨hs,hb⟩:=hk.hh hs hb;⟨_,k,?_⟩))))))
 refine q (ln (eg (qb (ln (cbr h ?_ ?_)))))<;>intro h
 refine eg (q (qd (ln (er (zM (qJ (zM (qJ (zM (jKX (.inl rfl) results49 (v:=(vp none)) (by kernel_rfl) (v':=(vi r6)) (by kernel_rfl) (v'':=(vi r5)) (by kernel_rfl) ⟨none,r6,r5,rfl,h⟩))))))))))
 refine jB (jN (rg (qb (nw5 (fun p=>(Sl.mk (some p) 1 1).v) hs hb h fun p1 w7 hs hb h=>?_))))
 obtain ⟨s1,w8,hv1,hk,h⟩:=h
 refine st (v:=s1.v) (jK rfl) (kB (args:=#[places1.v,(Sl.mk (some p1) 1 1).v]) (by kernel_rfl) (fun _=>rfl) hv1) ?_
 obtain ⟨hs,hb⟩:=hk.hh hs hb
 refine q (jC (uS (jN ⟨(s1,Hl1,w8),⟨rfl,hm,hs,hb,h.1⟩,h.2⟩)))
 refine zV (xG (xG (xE (jN (eg (sn (O:=(.cells #[(vi 0)] 3)) (jG (zeroValue3 _) rfl) ?_))))))
 intro p2 w9 hn4
 have h:=h p2 w9 hn4
 obtain ⟨hs,hb⟩:=hs.nw hb hn4
 refine st2 (sizeOf3 _) hs hb h fun w10 hs hb h=>ln (jA (jFI (jN (jED (rg (q0 (vp r1) (q0 (vp r1) (sc call51 (h.mono fun e w11 ⟨r7,k,hk,h⟩=>have ⟨hs,hb⟩:=hk.hh hs hb;⟨_,k,?_⟩)))))))))
 refine sc call65 (h.mono fun e w12 ⟨r8,k,hk,h⟩=>have ⟨hs,hb⟩:=hk.hh hs hb;⟨_,k,?_⟩)
 refine ln ?_
 obtain ⟨f1,cs1,hv2,hf1,h⟩:=h
 obtain ⟨xs1,Rd1,hit,I2,Ix1,hRI,h0,hbody,h⟩:=h
 refine jBR (encs:=(fun (z2:Int)=>#[(vi z2)])) (Eq.trans (b:=r8) (by kernel_rfl) hv2) hf1 hit (fun _=>rfl) (by decide) hs I2 Ix1 (fun _ _ _=>False) hRI h0 ?ha ?hr ?ht
 case ha =>
  intro l z2 w19
  refine rg (q (ln ⟨rfl,?_⟩))
  intro pre1 Y1 A1 hi hY hpost
  have h:=hbody pre1 z2 Y1 A1 hi hY hpost
  obtain ⟨hs,hb⟩:=st0 A1
  refine jM (jA (eg (q (ql (isAgg3 _) h fun v1 h=>qb (ln (cbr h ?_ ?_))))))<;>intro h
  refine zV (xG (bl_ne rfl ?_))
  exact rd_x h
  refine jB (jN (rg (ql (isAgg3 _) h fun v2 h=>q (st2 (sizeOf3 _) hs hb h fun w14 hs hb h=>jC (uS ?_)))))
  exact rd_n h
 case hr =>
  intro D1 H1 w15 hs' hD hDe aW hk1 hio1
  have hb':=hb.behind hk1 aW hD hDe
  have hs:=hs'
  have hb:=hb'
  have h:=h H1 w15 hs aW hk1 hio1
  refine jA (eg (ql (isAgg3 _) h fun v3 h=>qc (ln (cbr h ?_ ?_))))<;>intro h
  refine jA (zW (by kernel_rfl) (by kernel_rfl) (by kernel_rfl) (by kernel_rfl) ?_)
  intro w16 hw16
  have hs:Hst w0 H1 w15 H1 w16:=by rw [hw16];exact hs.drew
  have hb:HBZ [(D1,.deferred (some []))] H1 w16 []:=by rw [hw16];exact hb.drew
  refine qq 0 places1.v Kp0 (qg 1 ?_)
  have ⟨h,hs⟩:=hs.hr (h w16)
  obtain ⟨v4,hv7,h⟩:=h
  refine sxQ Kp1 (jK rfl) rfl (xl (isAgg3 _) hv7) (qg 2 ?_)
  obtain ⟨a1,hv6,h⟩:=h
  refine sxQ Kp2 (jK rfl) rfl (xi (runUnderlying143 _) (sizeOf3 _) hv6) (qg 3 ?_)
  obtain ⟨v5,hv5,h⟩:=h
  refine sxQ Kp3 (jK rfl) rfl (xl (isAgg3 _) hv5) (qq 4 (vp none) Kp4 (qq 5 (vi 73) Kp5 (qq 6 (vi v5) Kp6 (wn (jN (er (zM (af_r hb.dead ?_))))))))
  intro w17 hw'
  have hl:=hb.leave hs hw'
  obtain ⟨hs,hb⟩:=hl
  -- behind the loop
  have ⟨h,hs⟩:=hs.hr (h w17)
  refine jKX (.inl rfl) results49 (v:=(vp none)) (by kernel_rfl) (v':=(vi 73)) (by kernel_rfl) (v'':=(vi v5)) (by kernel_rfl) ⟨none,73,v5,rfl,h⟩
  refine jB (jN (eg (qd (ln (er (af_r hb.dead ?_))))))
  intro w18 hw'
  have hl:=hb.leave hs hw'
  obtain ⟨hs,hb⟩:=hl
  -- behind the loop
  have ⟨h,hs⟩:=hs.hr (h w18)
  refine jKX (.inl rfl) results49 (v:=(vp r1)) (by kernel_rfl) (v':=(vi 0)) (by kernel_rfl) (v'':=(vi 0)) (by kernel_rfl) ⟨r1,0,0,rfl,h⟩
 case ht =>
  intro _ _ _ _ _ _ _ h
  exact h.elim
def m_T2 (p1:Option Addr) (b1:Sl) (w0:World) (K:Int→Int→Int→WP):Prop :=Br (Option.isNone p1) (K 0 2 0 w0) (Calls prog 49 #[b1.v] w0 (fun e w1=>∃r1 r2 r3,e=.returned (.tuple #[(vp r1),(vi r2),(vi r3)])∧Br (r2 != 0) (K 0 r2 r3 w1) (Calls prog 51 #[(vp r1)] w1 (fun e w2=>∃r4,e=.returned (vi r4)∧Calls prog 50 #[(vp p1),(vp r1),(vi r4)] w2 (fun e w3=>∃r5 r6,e=.returned (.tuple #[(vi r5),(vi r6)])∧K r5 r6 0 w3)))))
theorem w_T2 (p1 b1 w0 K) (h:m_T2 p1 b1 w0 K):
  Calls prog 24 #[(vp p1),b1.v] w0 (fun e w'=>∃r7 r8 r9,e=.returned (.tuple #[(vi r7),(vi r8),(vi r9)])∧K r7 r8 r9 w'):=by
 refine cw (args:=[(vp p1),b1.v]) func24 ntmps24 (eg (q0 (vi 0) (q0 (vi 0) (q0 (vi 0) (ln (jA (eg (q0 (vp p1) ?_))))))))
 refine q2 (vb (Option.isNone p1)) (qK (by kernel_rfl) rfl underlying27) (ln (cbr h ?_ ?_))<;>intro h
 refine eg (qc (ln (er (zM (jKX (.inl rfl) results24 (v:=(vi 0)) (by kernel_rfl) (v':=(vi 2)) (by kernel_rfl) (v'':=(vi 0)) (by kernel_rfl) ⟨0,2,0,rfl,h⟩)))))
 refine jB (jN (eg (q (sc call49 (h.mono fun e w1 ⟨r1,r2,r3,k,h⟩=>⟨_,k,?_⟩)))))
 refine qc (qd (ln (jA (eg (qb (ln (cbr h ?_ ?_)))))))<;>intro h
 refine eg (q (qd (ln (er (zM (jKX (.inl rfl) results24 (v:=(vi 0)) (by kernel_rfl) (v':=(vi r2)) (by kernel_rfl) (v'':=(vi r3)) (by kernel_rfl) ⟨0,r2,r3,rfl,h⟩))))))
 refine jB (jN (eg (qc (sc call51 (h.mono fun e w2 ⟨r4,k,h⟩=>⟨_,k,?_⟩)))))
 refine sc call50 (h.mono fun e w3 ⟨r5,r6,k,h⟩=>⟨_,k,?_⟩)
 refine q (qd (ln (eg (qc (qb (ln (er (jKX (.inl rfl) results24 (v:=(vi r5)) (by kernel_rfl) (v':=(vi r6)) (by kernel_rfl) (v'':=(vi 0)) (by kernel_rfl) ⟨r5,r6,0,rfl,h⟩))))))))
def m_H1_l1 (b2:Sl) (n2:Int) (wl1:World) (Kc1:Sl→Int→WP) (K:Sl→WP):Prop :=Br (decide (n2≥128)) (∃z1:Int,(Go.binOp .or 5 (.int .u8 (IntKind.u8.wrap n2)) (.int .u8 128)).run prog wl1=.ok (.int .u8 z1) wl1∧∀p1 w2,New wl1 (.cells #[(.int .u8 z1)] 5) p1 w2→∃s1:Sl,∃w3:World,(Builtin.append_ #[25,25] 25 #[b2.v,(Sl.mk (some p1) 1 1).v]).run prog w2=.ok s1.v w3∧∃z2,(Go.binOp .shr 22 (vu n2) (vu 7)).run prog w3=.ok (vu z2) w3∧Kc1 s1 z2 w3) (∀p2 w4,New wl1 (.cells #[(.int .u8 (IntKind.u8.wrap n2))] 5) p2 w4→∃s2:Sl,∃w5:World,(Builtin.append_ #[25,25] 25 #[b2.v,(Sl.mk (some p2) 1 1).v]).run prog w4=.ok s2.v w5∧K s2 w5)
def m_H1 (b1:Sl) (n1:Int) (w0:World) (K:Sl→WP):Prop :=Calls prog 101 #[b1.v] w0 (fun e w1=>∃r1:Sl,e=.returned r1.v∧∃(I1:Sl→Int→WP) (mu1:Sl→Int→World→Nat),I1 r1 n1 w1∧∀(b2:Sl) (n2:Int) (wl1:World),I1 b2 n2 wl1→m_H1_l1 b2 n2 wl1 (fun y'0 y'1 w'=>I1 y'0 y'1 w'∧mu1 y'0 y'1 w'<mu1 b2 n2 wl1) K)
theorem w_H1 (b1 n1 w0 K) (h:m_H1 b1 n1 w0 K):
  Calls prog 84 #[b1.v,(vu n1)] w0 (fun e w'=>∃r2:Sl,e=.returned r2.v∧K r2 w'):=by
 refine cw (args:=[b1.v,(vu n1)]) func84 ntmps84 (eg (q0 Sl.nil.v (ln (eg (q0 b1.v ?_)))))
 refine sc call101 (h.mono fun e w1 ⟨r1,k,h⟩=>⟨_,k,?_⟩)
 refine q (ln (jA (jM ?_)))
 obtain ⟨I1,mu1,h0,hr⟩:=h
 refine kL (σ:=Sl×Int×World) (fun s ρ w=>w=s.2.2∧Has ρ [(0,s.1.v),(1,(vu s.2.1))]∧I1 s.1 s.2.1 s.2.2) (fun s=>mu1 s.1 s.2.1 s.2.2) (r1,n1,w1) ⟨rfl,hm,h0⟩ ?_
 rintro ⟨b2,n2,wl1⟩ ρ w ⟨hw,hH,hI⟩
 dsimp only at hw hH;subst w
 have h:=hr b2 n2 wl1 hI
 refine jQ hH (jA (eg (qb (ln (cbr h ?_ ?_)))))<;>intro h
 refine jB (jN (jM (eg (qc ?_))))
 obtain ⟨z1,hv3,h⟩:=h
 refine q2 (.int .u8 z1) (uJ (by kernel_rfl) (by kernel_rfl) (by kernel_rfl) hv3) (nw4 (fun p=>(Sl.mk (some p) 1 1).v) h fun p1 w2 h=>?_)
 obtain ⟨s1,w3,hv2,h⟩:=h
 refine st (v:=s1.v) (jK rfl) (kB (args:=#[b2.v,(Sl.mk (some p1) 1 1).v]) (by kernel_rfl) (fun _=>rfl) hv2) (q0 s1.v (ln (rg (q0 (vu n2) ?_))))
 obtain ⟨z2,hv1,h⟩:=h
 refine q2 (vu z2) (uJ (by kernel_rfl) (by kernel_rfl) (by kernel_rfl) hv1) (q (jC (uS (jN ⟨(s1,z2,w3),⟨rfl,hm,h.1⟩,h.2⟩))))
 refine zV (xG (xG (xE (jN (eg (q0 b2.v (q0 (vu n2) (q0 (.int .u8 (IntKind.u8.wrap n2)) (uL (O:=(.cells #[(.int .u8 (IntKind.u8.wrap n2))] 5)) (fun p=>(Sl.mk (some p) 1 1).v) (jK rfl) (kZ (vs:=#[(0,(.int .u8 (IntKind.u8.wrap n2)))]) (by kernel_rfl) (by kernel_rfl)) ?_)))))))))
 intro p2 w4 hn2
 have h:=h p2 w4 hn2
 obtain ⟨s2,w5,hv4,h⟩:=h
 refine st (v:=s2.v) (jK rfl) (kB (args:=#[b2.v,(Sl.mk (some p2) 1 1).v]) (by kernel_rfl) (fun _=>rfl) hv4) (q0 s2.v (ln (er (rs1 results84 ⟨s2,rfl,h⟩))))
def m_U2 (b1:Sl) (aB aA:Int) (aC aE:Int) (aF:ByteArray) (aG aH:Int) (x1:Option Nat) (w0:World) (K:Sl→WP):Prop :=∀H1 w1,Hst w0 None w0 H1 w1→Calls prog 84 #[b1.v,(vu (IntKind.u64.wrap aA))] w1 (fun e w2=>∃r1:Sl,e=.returned r1.v∧Kept H1 w1 w2∧K r1 w2)
theorem w_U2 (b1 aB aA aC aE aF aG aH x1 w0 K) (h:m_U2 b1 aB aA aC aE aF aG aH x1 w0 K):
  Calls prog 83 #[b1.v,(.agg #[(vi aB),(vi aA),(vi aC),(vu aE),(vs aF),(vi aG),(vi aH)]),(.map x1)] w0 (fun e w'=>∃r2:Sl,e=.returned r2.v∧K r2 w'):=by
 refine cw (args:=[b1.v,(Ae aB aA aC aE aF aG aH),(.map x1)]) func83 ntmps83 ?_
 obtain ⟨hs,hb⟩:=st0 w0
 refine eg (nw3 (Ad aB aA aC aE aF aG aH) 59 hs hb xb fun p1 w1 H1 hs hb=>q (ln (eg (qb (q3 (xl (isAgg3 _) (hb.d 0 1 gZ)) (q ?_))))))
 have ⟨h,hs⟩:=hs.hr (h H1 w1)
 refine sc call84 (h.mono fun e w2 ⟨r1,k,hk,h⟩=>have ⟨hs,hb⟩:=hk.hh hs hb;⟨_,k,?_⟩)
 refine q (ln (er (rs1 results83 ⟨r1,rfl,h⟩)))
def m_V2 (r1:Option Addr) (w0:World) (K:Int→WP):Prop :=∀p1 w1,New w0 (.cells #[(vp r1)] 141) p1 w1→∀p2 w2,New w1 (.cells #[(vu 0)] 22) p2 w2→∃v1,w2.cell? p1=some (vp v1)∧Calls prog 121 #[(vp v1),(.func (.func 122) #[] #[(vp (some p1)),(vp (some p2))])] w2 (fun e w3=>e=.returned (.tuple #[])∧∃v2,w3.cell? p2=some (vu v2)∧jT w3 p2∧∀w4,w4=w3.setCell p2 (vu v2)→∃aD,w4.cell? p2=some (vu aD)∧K aD w4)
theorem w_V2 (r1 w0 K) (h:m_V2 r1 w0 K):
  Calls prog 86 #[(vp r1)] w0 (fun e w'=>∃r2,e=.returned (vu r2)∧K r2 w'):=by
 refine cw (args:=[(vp r1)]) func86 ntmps86 (eg (sn (O:=(.cells #[(vp r1)] 141)) xb ?_))
 intro p1 w1 hn3
 have h:=h p1 w1 hn3
 refine nw1 h (jG (zeroValue22 _) rfl) fun p2 w2 h=>ln (eg (ql (isAgg141 _) h fun v1 h=>q (sc call121 (h.mono fun e w3 ⟨k,h⟩=>⟨_,k,?_⟩))))
 refine ln (eg (ql (isAgg22 _) h fun v2 h=>st1 (sizeOf22 _) h fun w4 h=>ln (er ?_)))
 obtain ⟨aD,hv1,h⟩:=h
 refine gg1 results86 (RV.cell1 (A:=p2) (by kernel_rfl) (isAgg22 _) hv1) ⟨aD,rfl,h⟩
def m_W2 (r1:Option Addr) (n1:Option Addr) (w0:World) (K:WP):Prop :=Calls prog 86 #[(vp r1)] w0 (fun e w1=>∃r2,e=.returned (vu r2)∧∃a1,n1=some a1∧jT w1 (a1.add 7)∧∀w2,w2=w1.setCell (a1.add 7) (vu r2)→K w2)
theorem w_W2 (r1 n1 w0 K) (h:m_W2 r1 n1 w0 K):
  Calls prog 85 #[(vp r1),(vp n1)] w0 (fun e w'=>e=.returned (.tuple #[])∧K  w'):=by
 refine cw (args:=[(vp r1),(vp n1)]) func85 ntmps85 (rg (q0 (vp n1) (q0 (vp r1) ?_)))
 refine sc call86 (h.mono fun e w1 ⟨r2,k,h⟩=>⟨_,k,?_⟩)
 refine qm h fun a1 h=>q (st1 (sizeOf22 _) h fun w2 h=>jC (jFV (.inr rfl) results85 ⟨rfl,h⟩))
def m_X2 (b1:Sl) (aB aA:Int) (aC aE:Int) (aF:ByteArray) (aG aH:Int) (x1:Option Nat) (w0:World) (K:Sl→WP):Prop :=∀H1 w1,Hst w0 None w0 H1 w1→Calls prog 84 #[b1.v,(vu (IntKind.u64.wrap aC))] w1 (fun e w2=>∃r1:Sl,e=.returned r1.v∧Kept H1 w1 w2∧K r1 w2)
theorem w_X2 (b1 aB aA aC aE aF aG aH x1 w0 K) (h:m_X2 b1 aB aA aC aE aF aG aH x1 w0 K):
  Calls prog 87 #[b1.v,(.agg #[(vi aB),(vi aA),(vi aC),(vu aE),(vs aF),(vi aG),(vi aH)]),(.map x1)] w0 (fun e w'=>∃r2:Sl,e=.returned r2.v∧K r2 w'):=by
 refine cw (args:=[b1.v,(Ae aB aA aC aE aF aG aH),(.map x1)]) func87 ntmps87 ?_
 obtain ⟨hs,hb⟩:=st0 w0
 refine eg (nw3 (Ad aB aA aC aE aF aG aH) 59 hs hb xb fun p1 w1 H1 hs hb=>q (ln (eg (qb (q3 (xl (isAgg3 _) (hb.d 0 2 gZ)) (q ?_))))))
 have ⟨h,hs⟩:=hs.hr (h H1 w1)
 refine sc call84 (h.mono fun e w2 ⟨r1,k,hk,h⟩=>have ⟨hs,hb⟩:=hk.hh hs hb;⟨_,k,?_⟩)
 refine q (ln (er (rs1 results87 ⟨r1,rfl,h⟩)))
def m_Y2 (r1:Option Addr) (n1:Option Addr) (w0:World) (K:WP):Prop :=Calls prog 86 #[(vp r1)] w0 (fun e w1=>∃r2,e=.returned (vu r2)∧∃a1,n1=some a1∧jT w1 (a1.add 8)∧∀w2,w2=w1.setCell (a1.add 8) (vu r2)→K w2)
theorem w_Y2 (r1 n1 w0 K) (h:m_Y2 r1 n1 w0 K):
  Calls prog 88 #[(vp r1),(vp n1)] w0 (fun e w'=>e=.returned (.tuple #[])∧K  w'):=by
 refine cw (args:=[(vp r1),(vp n1)]) func88 ntmps88 (rg (q0 (vp n1) (q0 (vp r1) ?_)))
 refine sc call86 (h.mono fun e w1 ⟨r2,k,h⟩=>⟨_,k,?_⟩)
 refine qm h fun a1 h=>q (st1 (sizeOf22 _) h fun w2 h=>jC (jFV (.inr rfl) results88 ⟨rfl,h⟩))
def m_Z2 (b1:Sl) (aB aA:Int) (aC aE:Int) (aF:ByteArray) (aG aH:Int) (x1:Option Nat) (w0:World) (K:Sl→WP):Prop :=∀H1 w1,Hst w0 None w0 H1 w1→Calls prog 84 #[b1.v,(vu aE)] w1 (fun e w2=>∃r1:Sl,e=.returned r1.v∧Kept H1 w1 w2∧K r1 w2)
theorem w_Z2 (b1 aB aA aC aE aF aG aH x1 w0 K) (h:m_Z2 b1 aB aA aC aE aF aG aH x1 w0 K):
  Calls prog 89 #[b1.v,(.agg #[(vi aB),(vi aA),(vi aC),(vu aE),(vs aF),(vi aG),(vi aH)]),(.map x1)] w0 (fun e w'=>∃r2:Sl,e=.returned r2.v∧K r2 w'):=by
 refine cw (args:=[b1.v,(Ae aB aA aC aE aF aG aH),(.map x1)]) func89 ntmps89 ?_
 obtain ⟨hs,hb⟩:=st0 w0
 refine eg (nw3 (Ad aB aA aC aE aF aG aH) 59 hs hb xb fun p1 w1 H1 hs hb=>q (ln (eg (qb (q3 (xl (isAgg22 _) (hb.d 0 3 gZ)) ?_)))))
 have ⟨h,hs⟩:=hs.hr (h H1 w1)
 refine sc call84 (h.mono fun e w2 ⟨r1,k,hk,h⟩=>have ⟨hs,hb⟩:=hk.hh hs hb;⟨_,k,?_⟩)
 refine q (ln (er (rs1 results89 ⟨r1,rfl,h⟩)))
def m_A3 (r1:Option Addr) (n1:Option Addr) (w0:World) (K:WP):Prop :=Calls prog 86 #[(vp r1)] w0 (fun e w1=>∃r2,e=.returned (vu r2)∧∃a1,n1=some a1∧jT w1 (a1.add 3)∧∀w2,w2=w1.setCell (a1.add 3) (vu r2)→K w2)
theorem w_A3 (r1 n1 w0 K) (h:m_A3 r1 n1 w0 K):
  Calls prog 90 #[(vp r1),(vp n1)] w0 (fun e w'=>e=.returned (.tuple #[])∧K  w'):=by
 refine cw (args:=[(vp r1),(vp n1)]) func90 ntmps90 (rg (q0 (vp n1) (q0 (vp r1) ?_)))
 refine sc call86 (h.mono fun e w1 ⟨r2,k,h⟩=>⟨_,k,?_⟩)
 refine qm h fun a1 h=>qb (st1 (sizeOf22 _) h fun w2 h=>jC (jFV (.inr rfl) results90 ⟨rfl,h⟩))
def m_B3 (b1:Sl) (s1:ByteArray) (w0:World) (K:Sl→WP):Prop :=Calls prog 84 #[b1.v,(vu (IntKind.u64.wrap (s1.size:Int)))] w0 (fun e w1=>∃r1:Sl,e=.returned r1.v∧∃s2:Sl,∃w2:World,(Builtin.append_ #[25,9] 25 #[r1.v,(vs s1)]).run prog w1=.ok s2.v w2∧K s2 w2)
theorem w_B3 (b1 s1 w0 K) (h:m_B3 b1 s1 w0 K):
  Calls prog 92 #[b1.v,(vs s1)] w0 (fun e w'=>∃r2:Sl,e=.returned r2.v∧K r2 w'):=by
 refine cw (args:=[b1.v,(vs s1)]) func92 ntmps92 (eg (q0 Sl.nil.v (ln (eg (q0 b1.v (q0 (vs s1) (q0 (vi (s1.size:Int)) (q0 (vu (IntKind.u64.wrap (s1.size:Int))) ?_))))))))
 refine sc call84 (h.mono fun e w1 ⟨r1,k,h⟩=>⟨_,k,?_⟩)
 refine q ?_
 obtain ⟨s2,w2,hv1,h⟩:=h
 refine st (v:=s2.v) (jK rfl) (kB (args:=#[r1.v,(vs s1)]) (by kernel_rfl) (fun _=>rfl) hv1) (q0 s2.v (ln (er (rs1 results92 ⟨s2,rfl,h⟩))))
def m_C3 (b1:Sl) (aB aA:Int) (aC aE:Int) (aF:ByteArray) (aG aH:Int) (x1:Option Nat) (w0:World) (K:Sl→WP):Prop :=∀H1 w1,Hst w0 None w0 H1 w1→Calls prog 92 #[b1.v,(vs aF)] w1 (fun e w2=>∃r1:Sl,e=.returned r1.v∧Kept H1 w1 w2∧K r1 w2)
theorem w_C3 (b1 aB aA aC aE aF aG aH x1 w0 K) (h:m_C3 b1 aB aA aC aE aF aG aH x1 w0 K):
  Calls prog 91 #[b1.v,(.agg #[(vi aB),(vi aA),(vi aC),(vu aE),(vs aF),(vi aG),(vi aH)]),(.map x1)] w0 (fun e w'=>∃r2:Sl,e=.returned r2.v∧K r2 w'):=by
 refine cw (args:=[b1.v,(Ae aB aA aC aE aF aG aH),(.map x1)]) func91 ntmps91 ?_
 obtain ⟨hs,hb⟩:=st0 w0
 refine eg (nw3 (Ad aB aA aC aE aF aG aH) 59 hs hb xb fun p1 w1 H1 hs hb=>q (ln (eg (qb (q3 (xl (isAgg9 _) (hb.d 0 4 gZ)) ?_)))))
 have ⟨h,hs⟩:=hs.hr (h H1 w1)
 refine sc call92 (h.mono fun e w2 ⟨r1,k,hk,h⟩=>have ⟨hs,hb⟩:=hk.hh hs hb;⟨_,k,?_⟩)
 refine q (ln (er (rs1 results91 ⟨r1,rfl,h⟩)))
def m_D3 (r1:Option Addr) (most1:Int) (w0:World) (K:ByteArray→WP):Prop :=∀p1 w1,New w0 (.cells #[(vp r1)] 141) p1 w1→∀p2 w2,New w1 (.cells #[(vi most1)] 3) p2 w2→∀p3 w3,New w2 (.cells #[ve] 9) p3 w3→∃v1,w3.cell? p1=some (vp v1)∧Calls prog 121 #[(vp v1),(.func (.func 124) #[] #[(vp (some p1)),(vp (some p2)),(vp (some p3))])] w3 (fun e w4=>e=.returned (.tuple #[])∧∃v2,w4.cell? p3=some (vs v2)∧jT w4 p3∧∀w5,w5=w4.setCell p3 (vs v2)→∃aD,w5.cell? p3=some (vs aD)∧K aD w5)
theorem w_D3 (r1 most1 w0 K) (h:m_D3 r1 most1 w0 K):
  Calls prog 94 #[(vp r1),(vi most1)] w0 (fun e w'=>∃r2,e=.returned (vs r2)∧K r2 w'):=by
 refine cw (args:=[(vp r1),(vi most1)]) func94 ntmps94 (eg (sn (O:=(.cells #[(vp r1)] 141)) xb ?_))
 intro p1 w1 hn4
 have h:=h p1 w1 hn4
 refine nw1 h xb fun p2 w2 h=>nw1 h (jG (zeroValue9 _) rfl) fun p3 w3 h=>ln (eg (ql (isAgg141 _) h fun v1 h=>q (sc call121 (h.mono fun e w4 ⟨k,h⟩=>⟨_,k,?_⟩))))
 refine ln (eg (ql (isAgg9 _) h fun v2 h=>st1 (sizeOf9 _) h fun w5 h=>ln (er ?_)))
 obtain ⟨aD,hv1,h⟩:=h
 refine gg1 results94 (RV.cell1 (A:=p3) (by kernel_rfl) (isAgg9 _) hv1) ⟨aD,rfl,h⟩
def m_E3 (r1:Option Addr) (n1:Option Addr) (w0:World) (K:WP):Prop :=Calls prog 94 #[(vp r1),(vi 64)] w0 (fun e w1=>∃r2,e=.returned (vs r2)∧∃a1,n1=some a1∧jT w1 (a1.add 4)∧∀w2,w2=w1.setCell (a1.add 4) (vs r2)→K w2)
theorem w_E3 (r1 n1 w0 K) (h:m_E3 r1 n1 w0 K):
  Calls prog 93 #[(vp r1),(vp n1)] w0 (fun e w'=>e=.returned (.tuple #[])∧K  w'):=by
 refine cw (args:=[(vp r1),(vp n1)]) func93 ntmps93 (rg (q0 (vp n1) (q0 (vp r1) ?_)))
 refine sc call94 (h.mono fun e w1 ⟨r2,k,h⟩=>⟨_,k,?_⟩)
 refine qm h fun a1 h=>qb (st1 (sizeOf9 _) h fun w2 h=>jC (jFV (.inr rfl) results93 ⟨rfl,h⟩))
def m_F3 (b1:Sl) (aB aA:Int) (aC aE:Int) (aF:ByteArray) (aG aH:Int) (number1:Option Nat) (w0:World) (K:Sl→WP):Prop :=∀H1 w1,Hst w0 None w0 H1 w1→∃v1,(Instr.lookup 132 (.map number1) (vi aG) false).run prog w1=.ok (vi v1) w1∧Calls prog 84 #[b1.v,(vu (IntKind.u64.wrap v1))] w1 (fun e w2=>∃r1:Sl,e=.returned r1.v∧Kept H1 w1 w2∧K r1 w2)
theorem w_F3 (b1 aB aA aC aE aF aG aH number1 w0 K) (h:m_F3 b1 aB aA aC aE aF aG aH number1 w0 K):
  Calls prog 95 #[b1.v,(.agg #[(vi aB),(vi aA),(vi aC),(vu aE),(vs aF),(vi aG),(vi aH)]),(.map number1)] w0 (fun e w'=>∃r2:Sl,e=.returned r2.v∧K r2 w'):=by
 refine cw (args:=[b1.v,(Ae aB aA aC aE aF aG aH),(.map number1)]) func95 ntmps95 ?_
 obtain ⟨hs,hb⟩:=st0 w0
 refine eg (nw3 (Ad aB aA aC aE aF aG aH) 59 hs hb xb fun p1 w1 H1 hs hb=>q (ln (eg (qc (q3 (xl (isAgg29 _) (hb.d 0 5 gZ)) ?_)))))
 have ⟨h,hs⟩:=hs.hr (h H1 w1)
 obtain ⟨v1,hv1,h⟩:=h
 refine q2 (vi v1) (vW (by kernel_rfl) (by kernel_rfl) hv1) (q (sc call84 (h.mono fun e w2 ⟨r1,k,hk,h⟩=>have ⟨hs,hb⟩:=hk.hh hs hb;⟨_,k,?_⟩)))
 refine q (ln (er (rs1 results95 ⟨r1,rfl,h⟩)))
def m_G3 (r1:Option Addr) (n1:Option Addr) (w0:World) (K:WP):Prop :=Calls prog 86 #[(vp r1)] w0 (fun e w1=>∃r2,e=.returned (vu r2)∧∃a1,n1=some a1∧jT w1 (a1.add 9)∧∀w2,w2=w1.setCell (a1.add 9) (vu r2)→∃a2,n1=some a2∧jT w2 (a2.add 11)∧∀w3,w3=w2.setCell (a2.add 11) (vi 1)→K w3)
theorem w_G3 (r1 n1 w0 K) (h:m_G3 r1 n1 w0 K):
  Calls prog 96 #[(vp r1),(vp n1)] w0 (fun e w'=>e=.returned (.tuple #[])∧K  w'):=by
 refine cw (args:=[(vp r1),(vp n1)]) func96 ntmps96 (rg (q0 (vp n1) (q0 (vp n1) (q0 (vp r1) ?_))))
 refine sc call86 (h.mono fun e w1 ⟨r2,k,h⟩=>⟨_,k,?_⟩)
 refine qm h fun a1 h=>q (st1 (sizeOf22 _) h fun w2 h=>qm h fun a2 h=>q (st1 (sizeOf3 _) h fun w3 h=>jC (jFV (.inr rfl) results96 ⟨rfl,h⟩)))
def m_H3 (b1:Sl) (aB aA:Int) (aC aE:Int) (aF:ByteArray) (aG aH:Int) (number1:Option Nat) (w0:World) (K:Sl→WP):Prop :=∀H1 w1,Hst w0 None w0 H1 w1→∃v1,(Instr.lookup 132 (.map number1) (vi aH) false).run prog w1=.ok (vi v1) w1∧Calls prog 84 #[b1.v,(vu (IntKind.u64.wrap v1))] w1 (fun e w2=>∃r1:Sl,e=.returned r1.v∧Kept H1 w1 w2∧K r1 w2)
theorem w_H3 (b1 aB aA aC aE aF aG aH number1 w0 K) (h:m_H3 b1 aB aA aC aE aF aG aH number1 w0 K):
  Calls prog 97 #[b1.v,(.agg #[(vi aB),(vi aA),(vi aC),(vu aE),(vs aF),(vi aG),(vi aH)]),(.map number1)] w0 (fun e w'=>∃r2:Sl,e=.returned r2.v∧K r2 w'):=by
 refine cw (args:=[b1.v,(Ae aB aA aC aE aF aG aH),(.map number1)]) func97 ntmps97 ?_
 obtain ⟨hs,hb⟩:=st0 w0
 refine eg (nw3 (Ad aB aA aC aE aF aG aH) 59 hs hb xb fun p1 w1 H1 hs hb=>q (ln (eg (qc (q3 (xl (isAgg29 _) (hb.d 0 6 gZ)) ?_)))))
 have ⟨h,hs⟩:=hs.hr (h H1 w1)
 obtain ⟨v1,hv1,h⟩:=h
 refine q2 (vi v1) (vW (by kernel_rfl) (by kernel_rfl) hv1) (q (sc call84 (h.mono fun e w2 ⟨r1,k,hk,h⟩=>have ⟨hs,hb⟩:=hk.hh hs hb;⟨_,k,?_⟩)))
 refine q (ln (er (rs1 results97 ⟨r1,rfl,h⟩)))
def m_I3 (r1:Option Addr) (n1:Option Addr) (w0:World) (K:WP):Prop :=Calls prog 86 #[(vp r1)] w0 (fun e w1=>∃r2,e=.returned (vu r2)∧∃a1,n1=some a1∧jT w1 (a1.add 10)∧∀w2,w2=w1.setCell (a1.add 10) (vu r2)→∃a2,n1=some a2∧jT w2 (a2.add 11)∧∀w3,w3=w2.setCell (a2.add 11) (vi 2)→K w3)
theorem w_I3 (r1 n1 w0 K) (h:m_I3 r1 n1 w0 K):
  Calls prog 98 #[(vp r1),(vp n1)] w0 (fun e w'=>e=.returned (.tuple #[])∧K  w'):=by
 refine cw (args:=[(vp r1),(vp n1)]) func98 ntmps98 (rg (q0 (vp n1) (q0 (vp n1) (q0 (vp r1) ?_))))
 refine sc call86 (h.mono fun e w1 ⟨r2,k,h⟩=>⟨_,k,?_⟩)
 refine qm h fun a1 h=>q (st1 (sizeOf22 _) h fun w2 h=>qm h fun a2 h=>q (st1 (sizeOf3 _) h fun w3 h=>jC (jFV (.inr rfl) results98 ⟨rfl,h⟩)))
def m_D1_j1 (r1:Option Addr) (w0:World) (H:NP) (w:World) (K:Option (List PanicEntry)→Int→WP):Prop :=∃a3,r1=some a3∧∃v3,w.cell? (a3.add 1)=some (vi v3)∧∃a4,r1=some a4∧jT w (a4.add 1)∧¬ H (a4.add 1).block∧∀w2,w2=w.setCell (a4.add 1) (vi (q6.wrap (v3+1)))→∃a5,r1=some a5∧∀w3,Hst w0 H w2 H w3→∃v4:Sl,w3.cell? a5=some v4.v∧∃a6,r1=some a6∧∃v5,w3.cell? (a6.add 1)=some (vi v5)∧∃a7:Addr,At v4 (q6.wrap (v5 - 1)) 1 a7∧∃v6:Int,w3.cell? a7=some (.int .u8 v6)∧K none v6 w3
def m_D1 (r1:Option Addr) (w0:World) (K:Option (List PanicEntry)→Int→WP):Prop :=∃a1,r1=some a1∧∀w1,Hst w0 None w0 None w1→∃v1,w1.cell? (a1.add 1)=some (vi v1)∧∃a2,r1=some a2∧∃v2:Sl,w1.cell? a2=some v2.v∧Br (v1 == (v2.len:Int)) (K (some [{ v:=(.iface 191 (vi 3)),recovered:=false }]) 0 w1) (m_D1_j1 r1 w0 None w1 K)
theorem w_D1 (r1 w0 K) (h:m_D1 r1 w0 K):
  Calls prog 128 #[(vp r1)] w0 (fun e w'=>(∃r2:Int,e=.returned (.int .u8 r2)∧K none r2 w')∨∃ch,e=.panicked ch∧K (some ch) 0 w'):=by
 refine qB (args:=[(vp r1)]) func128 rfl ntmps128 (Nat.le_of_ble_eq_true rfl) ?_
 obtain ⟨hs,hb⟩:=st0 w0
 refine eg (q (ln (jA (jA (zW (by kernel_rfl) (by kernel_rfl) (by kernel_rfl) (by kernel_rfl) ?_)))))
 intro w1 hw1
 have hs:Hst w0 None w0 None w1:=by rw [hw1];exact hs.drew
 have hb:HB None w1 []:=by rw [hw1];exact hb.drew
 refine qq 0 (vp r1) Kp0 (qg 1 ?_)
 obtain ⟨a1,hp1,h⟩:=h
 refine sxQ Kp1 (jK rfl) rfl (xn hp1) (qq 2 (vp (some (a1.add 1))) Kp2 (qg 3 ?_))
 have ⟨h,hs⟩:=hs.hr (h w1)
 obtain ⟨v1,hv7,h⟩:=h
 refine sxQ Kp3 (jK rfl) rfl (xl (isAgg3 _) hv7) (qq 4 (vp r1) Kp4 (qg 5 ?_))
 obtain ⟨a2,hp2,h⟩:=h
 refine sxQ Kp5 (jK rfl) rfl (xn hp2) (qq 6 (vp (some a2)) Kp6 (qg 7 ?_))
 obtain ⟨v2,hv6,h⟩:=h
 refine sxQ Kp7 (jK rfl) rfl (xl (isAgg25 _) hv6) (qq 8 (vi (v2.len:Int)) Kp8 (qq 9 (vb (v1 == (v2.len:Int))) Kp9 (wn (jN (zC (fun ρ w=>∃H:NP,Has ρ [(0,(vp r1))]∧Hst w0 H w H w∧HB H w []∧m_D1_j1 r1 w0 H w K) ?_ ?_)))))
 rintro ρ w ⟨H,hH,hs,hb,h⟩
 refine jQ hH (eg (q (qm h fun a3 h=>q (ql (isAgg3 _) h fun v3 h=>q (qm h fun a4 h=>q (st2 (sizeOf3 _) hs hb h fun w2 hs hb h=>ln (jA (zW (by kernel_rfl) (by kernel_rfl) (by kernel_rfl) (by kernel_rfl) ?_))))))))
 intro w3 hw3
 have hs:Hst w0 H w2 H w3:=by rw [hw3];exact hs.drew
 have hb:HB H w3 []:=by rw [hw3];exact hb.drew
 refine qq 0 (vp r1) Kp0 (qg 1 ?_)
 obtain ⟨a5,hp6,h⟩:=h
 refine sxQ Kp1 (jK rfl) rfl (xn hp6) (qq 2 (vp (some a5)) Kp2 (qg 3 ?_))
 have ⟨h,hs⟩:=hs.hr (h w3)
 obtain ⟨v4,hv4,h⟩:=h
 refine sxQ Kp3 (jK rfl) rfl (xl (isAgg25 _) hv4) (qq 4 (vp r1) Kp4 (qg 5 ?_))
 obtain ⟨a6,hp7,h⟩:=h
 refine sxQ Kp5 (jK rfl) rfl (xn hp7) (qq 6 (vp (some (a6.add 1))) Kp6 (qg 7 ?_))
 obtain ⟨v5,hv3,h⟩:=h
 refine sxQ Kp7 (jK rfl) rfl (xl (isAgg3 _) hv3) (qq 8 (vi (q6.wrap (v5 - 1))) Kp8 (qg 9 ?_))
 obtain ⟨a7,hv2,h⟩:=h
 refine sxQ Kp9 (jK rfl) rfl (xi (runUnderlying25 _) (sizeOf5 _) hv2) (qg 10 ?_)
 obtain ⟨v6,hv1,h⟩:=h
 refine sxQ (jJ (S8 (jD (jD jI)))) (jK rfl) rfl (xl (isAgg5 _) hv1) (qq 11 (.int .u8 v6) (jJ (S8 (jD (jD (jD jI))))) (wn (jN (er (ep (rs1 results128 (v:=(.int .u8 v6)) ?_))))))
 exact .inl ⟨v6,rfl,h⟩
 refine cbr h ?_ ?_<;>intro h
 refine kJ (by kernel_rfl) (kC 1 (q0 (.iface 191 (vi 3)) (jC (oU (jK rfl) (by intro c hc;cases hc) (jBM (by kernel_rfl)) (fun ρ'=>.inr ⟨_,rfl,h⟩)))))
 refine jB (jN ⟨None,hm,hs,hb,h⟩)
def m_U_j2 (n1 i1 r2:Int) (w:World) (Kc1:Int→Int→WP) (K:Option (List PanicEntry)→Int→WP):Prop :=∃z1:Int,(Go.binOp .and 5 (.int .u8 r2) (.int .u8 127)).run prog w=.ok (.int .u8 z1) w∧∃z2,(Go.binOp .shl 22 (vu (IntKind.u64.wrap z1)) (vi (q6.wrap (7*i1)))).run prog w=.ok (vu z2) w∧∃z3,(Go.binOp .or 22 (vu n1) (vu z2)).run prog w=.ok (vu z3) w∧Br (decide (r2<128)) (Br ((r2 == 0) && (decide (i1>0))) (K (some [{ v:=(.iface 191 (vi 10)),recovered:=false }]) 0 w) (K none z3 w)) (Kc1 z3 (q6.wrap (i1+1)) w)
def m_U_l1 (r1:Option Addr) (n1 i1:Int) (wl1:World) (Kc1:Int→Int→WP) (K:Option (List PanicEntry)→Int→WP):Prop :=Calls prog 128 #[(vp r1)] wl1 (fun e w1=>(∃r2:Int,e=.returned (.int .u8 r2)∧Br ((i1 == 9) && (decide (r2>1))) (K (some [{ v:=(.iface 191 (vi 11)),recovered:=false }]) 0 w1) (m_U_j2 n1 i1 r2 w1 Kc1 K))∨∃ch,e=.panicked ch∧K (some ch) 0 w1)
def m_U (r1:Option Addr) (w0:World) (K:Option (List PanicEntry)→Int→WP):Prop :=∃(I1:Int→Int→WP) (mu1:Int→Int→World→Nat),I1 0 0 w0∧∀(n1 i1:Int) (wl1:World),I1 n1 i1 wl1→m_U_l1 r1 n1 i1 wl1 (fun y'0 y'1 w'=>I1 y'0 y'1 w'∧mu1 y'0 y'1 w'<mu1 n1 i1 wl1) K
theorem w_U (r1 w0 K) (h:m_U r1 w0 K):
  Calls prog 123 #[(vp r1)] w0 (fun e w'=>(∃r3,e=.returned (vu r3)∧K none r3 w')∨∃ch,e=.panicked ch∧K (some ch) 0 w'):=by
 refine qB (args:=[(vp r1)]) func123 rfl ntmps123 (Nat.le_of_ble_eq_true rfl) (eg (q0 (vu 0) (ln (eg (q0 (vu 0) (ln (jA (rg (q (ln (jM ?_)))))))))))
 obtain ⟨I1,mu1,h0,hr⟩:=h
 refine kL (σ:=Int×Int×World) (fun s ρ w=>w=s.2.2∧Has ρ [(0,(vp r1)),(3,(vu s.1)),(4,(vi s.2.1))]∧I1 s.1 s.2.1 s.2.2) (fun s=>mu1 s.1 s.2.1 s.2.2) (0,0,w0) ⟨rfl,hm,h0⟩ ?_
 rintro ⟨n1,i1,wl1⟩ ρ w ⟨hw,hH,hI⟩
 dsimp only at hw hH;subst w
 have h:=hr n1 i1 wl1 hI
 refine jQ hH (jA (jM (jA (kJ (by kernel_rfl) (kC 1 (q0 (vp r1) (jC (jBX (jK rfl) (by intro c hc;cases hc) (xc call128) (h.mono (fun e w1 hh=>hh.elim ?_ (by rintro ⟨ch,rfl,h⟩;exact .inr ⟨ch,rfl,fun ρ'=>.inr ⟨ch,rfl,h⟩⟩)))))))))))
 rintro ⟨r2,rfl,h⟩
 refine .inl ⟨_,rfl,?_⟩
 refine oM (q0 (.int .u8 r2) (ln (jA (jA (vJ (fun ρ wJ=>∃b1'0:Bool,((i1 == 9)=b1'0)∧w1=wJ∧Has ρ [(0,(vp r1)),(3,(vu n1)),(4,(vi i1)),(5,(.int .u8 r2)),(15,(vb (b1'0 && (decide (r2>1)))))]) ?_ ?_)))))
 refine rg (qc ?_)
 rcases bte (i1 == 9) with hg2 | hg2
 refine qk 12 hg2 (qk 12 hg2 (q2 (vb (decide (r2>1))) (xT hg2) (ln ⟨true,hg2,rfl,hm⟩)))
 refine sj2 12 hg2 (q2 (vb false) (xF hg2) (ln ⟨false,hg2,rfl,hm⟩))
 rintro ρ w2 ⟨b1'0,he0,hw,hH⟩
 subst he0
 subst hw
 refine kM hH (jN (zC (fun ρ w=>Has ρ [(0,(vp r1)),(3,(vu n1)),(4,(vi i1)),(5,(.int .u8 r2))]∧m_U_j2 n1 i1 r2 w (fun y'0 y'1 w'=>I1 y'0 y'1 w'∧mu1 y'0 y'1 w'<mu1 n1 i1 wl1) K) ?_ ?_))
 rintro ρ w ⟨hH,h⟩
 refine jQ hH (eg (qb ?_))
 obtain ⟨z1,hv3,h⟩:=h
 refine q2 (.int .u8 z1) (uJ (by kernel_rfl) (by kernel_rfl) (by kernel_rfl) hv3) (qc ?_)
 obtain ⟨z2,hv2,h⟩:=h
 refine q2 (vu z2) (uJ (by kernel_rfl) (by kernel_rfl) (by kernel_rfl) hv2) ?_
 obtain ⟨z3,hv1,h⟩:=h
 refine q2 (vu z3) (uJ (by kernel_rfl) (by kernel_rfl) (by kernel_rfl) hv1) (q (ln (eg (qb (ln (cbr h ?_ ?_))))))<;>intro h
 refine jA (jA (vJ (fun ρ wJ=>∃b2'0:Bool,((r2 == 0)=b2'0)∧w=wJ∧Has ρ [(3,(vu z3)),(32,(vb (b2'0 && (decide (i1>0)))))]) ?_ ?_))
 refine rg (qc ?_)
 rcases bte (r2 == 0) with hg4 | hg4
 refine qk 29 hg4 (qk 29 hg4 (q2 (vb (decide (i1>0))) (xT hg4) (ln ⟨true,hg4,rfl,hm⟩)))
 refine sj2 29 hg4 (q2 (vb false) (xF hg4) (ln ⟨false,hg4,rfl,hm⟩))
 rintro ρ w3 ⟨b2'0,he0,hw,hH⟩
 subst he0
 subst hw
 refine kM hH (jN (cbr h ?_ ?_))<;>intro h
 refine kJ (by kernel_rfl) (kC 1 (q0 (.iface 191 (vi 10)) (jC (oU (jK rfl) (by intro c hc;cases hc) (jBM (by kernel_rfl)) (fun ρ'=>.inr ⟨_,rfl,h⟩)))))
 refine jB (jN (eg (qb (ln (er (qJ (zM (zM (qJ (ep (rs1 results123 (v:=(vu z3)) ?_)))))))))))
 exact .inl ⟨z3,rfl,h⟩
 refine jB (uS (jN (rg (qc (ln ⟨(z3,(q6.wrap (i1+1)),w),⟨rfl,hm,h.1⟩,h.2⟩)))))
 refine cbr h ?_ ?_<;>intro h
 refine kJ (by kernel_rfl) (kC 1 (q0 (.iface 191 (vi 11)) (jC (oU (jK rfl) (by intro c hc;cases hc) (jBM (by kernel_rfl)) (fun ρ'=>.inr ⟨_,rfl,h⟩)))))
 refine jB (jN ⟨hm,h⟩)
def m_J3 (cap1 cap2:Addr) (w0:World) (K:Option (List PanicEntry)→WP):Prop :=∃v1,w0.cell? cap1=some (vp v1)∧Calls prog 123 #[(vp v1)] w0 (fun e w1=>(∃r1,e=.returned (vu r1)∧jT w1 cap2∧∀w2,w2=w1.setCell cap2 (vu r1)→K none w2)∨∃ch,e=.panicked ch∧K (some ch)  w1)
theorem w_J3 (cap1 cap2 w0 K) (h:m_J3 cap1 cap2 w0 K):
  Calls prog 122 #[(vp (some cap1)),(vp (some cap2))] w0 (fun e w'=>(e=.returned (.tuple #[])∧K none  w')∨∃ch,e=.panicked ch∧K (some ch)  w'):=by
 refine qB (args:=[(vp (some cap1)),(vp (some cap2))]) func122 rfl ntmps122 (Nat.le_of_ble_eq_true rfl) (kJ (by kernel_rfl) (kC 1 (ql (isAgg141 _) h fun v1 h=>jC (jBX (jK rfl) (by intro c hc;cases hc) (xc call123) (h.mono (fun e w1 hh=>hh.elim ?_ (by rintro ⟨ch,rfl,h⟩;exact .inr ⟨ch,rfl,fun ρ'=>.inr ⟨ch,rfl,h⟩⟩)))))))
 rintro ⟨r1,rfl,h⟩
 refine .inl ⟨_,rfl,?_⟩
 refine oM (st1 (sizeOf22 _) h fun w2 h=>jC (ep (jFV (.inr rfl) results122 ?_)))
 exact .inl ⟨rfl,h⟩
def m_N_j3 (cap1 cap3:Addr) (r1:Int) (H:NP) (w:World) (K:Option (List PanicEntry)→WP):Prop :=∃C1:WP,C1 w.drew∧∀w3,w3=w.drew→∃v6,w3.cell? cap1=some (vp v6)∧∃a3,v6=some a3∧∃v7:Sl,w3.cell? a3=some v7.v∧∃v8,w3.cell? cap1=some (vp v8)∧∃a4,v8=some a4∧∃v9,w3.cell? (a4.add 1)=some (vi v9)∧∃v10,w3.cell? cap1=some (vp v10)∧∃a5,v10=some a5∧∃v11,w3.cell? (a5.add 1)=some (vi v11)∧∃s1:Sl,(Instr.sliceAt 25 v7.v (some (vi v9)) (some (vi (q6.wrap (v11+(q6.wrap r1))))) none).run prog w3=.ok s1.v w3∧∃c1,(convert 25 9 s1.v).run prog w3=.ok (vs c1) w3∧jT w3 cap3∧¬ H cap3.block∧∀w4,w4=w3.setCell cap3 (vs c1)→∃v12,w4.cell? cap1=some (vp v12)∧∃a6,v12=some a6∧∃v13,w4.cell? (a6.add 1)=some (vi v13)∧∃a7,v12=some a7∧jT w4 (a7.add 1)∧¬ H (a7.add 1).block∧∀w5,w5=w4.setCell (a7.add 1) (vi (q6.wrap (v13+(q6.wrap r1))))→K none w5
def m_N_j2 (cap1 cap3:Addr) (r1:Int) (w0:World) (H:NP) (w:World) (K:Option (List PanicEntry)→WP):Prop :=∀w2,Hst w0 H w H w2→∃v2,w2.cell? cap1=some (vp v2)∧∃a1,v2=some a1∧∃v3:Sl,w2.cell? a1=some v3.v∧∃v4,w2.cell? cap1=some (vp v4)∧∃a2,v4=some a2∧∃v5,w2.cell? (a2.add 1)=some (vi v5)∧Br (decide (r1>(IntKind.u64.wrap (q6.wrap ((v3.len:Int) - v5))))) (K (some [{ v:=(.iface 191 (vi 3)),recovered:=false }])  w2) (m_N_j3 cap1 cap3 r1 H w2 K)
def m_N_j1 (cap1 cap3:Addr) (r1:Int) (x1:Bool) (w0:World) (H:NP) (w:World) (K:Option (List PanicEntry)→WP):Prop :=Br x1 (K (some [{ v:=(.iface 191 (vi 1)),recovered:=false }])  w) (m_N_j2 cap1 cap3 r1 w0 H w K)
def m_N (cap1 cap2 cap3:Addr) (w0:World) (K:Option (List PanicEntry)→WP):Prop :=∃v1,w0.cell? cap1=some (vp v1)∧Calls prog 123 #[(vp v1)] w0 (fun e w1=>(∃r1,e=.returned (vu r1)∧Kept None w0 w1∧∃v14,w1.cell? cap2=some (vi v14)∧Br (decide (v14<0)) (m_N_j1 cap1 cap3 r1 true w0 None w1 K) (∃v15,w1.cell? cap2=some (vi v15)∧m_N_j1 cap1 cap3 r1 (decide (r1>(IntKind.u64.wrap v15))) w0 None w1 K))∨∃ch,e=.panicked ch∧K (some ch)  w1)
theorem w_N (cap1 cap2 cap3 w0 K) (h:m_N cap1 cap2 cap3 w0 K):
  Calls prog 124 #[(vp (some cap1)),(vp (some cap2)),(vp (some cap3))] w0 (fun e w'=>(e=.returned (.tuple #[])∧K none  w')∨∃ch,e=.panicked ch∧K (some ch)  w'):=by
 refine qB (args:=[(vp (some cap1)),(vp (some cap2)),(vp (some cap3))]) func124 rfl ntmps124 (Nat.le_of_ble_eq_true rfl) ?_
 obtain ⟨hs,hb⟩:=st0 w0
 refine jA (kJ (by kernel_rfl) (kC 1 (ql (isAgg141 _) h fun v1 h=>jC (jBX (jK rfl) (by intro c hc;cases hc) (xc call123) (h.mono (fun e w1 hh=>hh.elim ?_ (by rintro ⟨ch,rfl,h⟩;exact .inr ⟨ch,rfl,fun ρ'=>.inr ⟨ch,rfl,h⟩⟩)))))))
 rintro ⟨r1,rfl,hk,h⟩
 refine .inl ⟨_,rfl,?_⟩
 obtain ⟨hs,hb⟩:=hk.hh hs hb
 refine oM (q0 (vu r1) (ln (jA (jA (zC (fun ρ w=>∃x1,∃H:NP,Has ρ [(0,(vp (some cap1))),(2,(vp (some cap3))),(3,(vu r1)),(13,(vb x1))]∧Hst w0 H w H w∧HB H w []∧m_N_j1 cap1 cap3 r1 x1 w0 H w K) ?_ ?_)))))
 rintro ρ w ⟨x1,H,hH,hs,hb,h⟩
 refine jQ hH (zC (fun ρ w=>∃H:NP,Has ρ [(0,(vp (some cap1))),(2,(vp (some cap3))),(3,(vu r1))]∧Hst w0 H w H w∧HB H w []∧m_N_j2 cap1 cap3 r1 w0 H w K) ?_ ?_)
 rintro ρ w ⟨H,hH,hs,hb,h⟩
 refine jQ hH (jA (jA (zW (by kernel_rfl) (by kernel_rfl) (by kernel_rfl) (by kernel_rfl) ?_)))
 intro w2 hw2
 have hs:Hst w0 H w H w2:=by rw [hw2];exact hs.drew
 have hb:HB H w2 []:=by rw [hw2];exact hb.drew
 refine qq 0 (vu r1) Kp0 (qg 1 ?_)
 have ⟨h,hs⟩:=hs.hr (h w2)
 obtain ⟨v2,hv14,h⟩:=h
 refine sxQ Kp1 (jK rfl) rfl (xl (isAgg141 _) hv14) (qg 2 ?_)
 obtain ⟨a1,hp1,h⟩:=h
 refine sxQ Kp2 (jK rfl) rfl (xn hp1) (qq 3 (vp (some a1)) Kp3 (qg 4 ?_))
 obtain ⟨v3,hv13,h⟩:=h
 refine sxQ Kp4 (jK rfl) rfl (xl (isAgg25 _) hv13) (qq 5 (vi (v3.len:Int)) Kp5 (qg 6 ?_))
 obtain ⟨v4,hv12,h⟩:=h
 refine sxQ Kp6 (jK rfl) rfl (xl (isAgg141 _) hv12) (qg 7 ?_)
 obtain ⟨a2,hp2,h⟩:=h
 refine sxQ Kp7 (jK rfl) rfl (xn hp2) (qq 8 (vp (some (a2.add 1))) Kp8 (qg 9 ?_))
 obtain ⟨v5,hv11,h⟩:=h
 refine sxQ Kp9 (jK rfl) rfl (xl (isAgg3 _) hv11) (qq 10 (vi (q6.wrap ((v3.len:Int) - v5))) (jJ (S8 (jD (jD jI)))) (qq 11 (vu (IntKind.u64.wrap (q6.wrap ((v3.len:Int) - v5)))) (jJ (S8 (jD (jD (jD jI))))) (qq 12 (vb (decide (r1>(IntKind.u64.wrap (q6.wrap ((v3.len:Int) - v5)))))) (jJ (S8 (S4 jI))) (wn (jN (zC (fun ρ w=>∃H:NP,Has ρ [(0,(vp (some cap1))),(2,(vp (some cap3))),(3,(vu r1))]∧Hst w0 H w H w∧HB H w []∧m_N_j3 cap1 cap3 r1 H w K) ?_ ?_))))))
 rintro ρ w ⟨H,hH,hs,hb,h⟩
 refine jQ hH (jA ?_)
 obtain ⟨C1,hC,h⟩:=h
 refine dr2 C1 [17] [17] hC h hs hb fun w3 hs hb h=>?_
 have hs:=hs.here
 refine qg 0 ?_
 obtain ⟨v6,hv10,h⟩:=h
 refine sye Kp0 (xl (isAgg141 _) hv10) (qg 1 ?_)
 obtain ⟨a3,hp3,h⟩:=h
 refine sy Kp1 (fun _ _=>xn hp3) (qx 2 (vp (some a3)) Kp2 (qg 3 ?_))
 obtain ⟨v7,hv9,h⟩:=h
 refine sye Kp3 (xl (isAgg25 _) hv9) (qg 4 ?_)
 obtain ⟨v8,hv8,h⟩:=h
 refine sye Kp4 (xl (isAgg141 _) hv8) (qg 5 ?_)
 obtain ⟨a4,hp4,h⟩:=h
 refine sy Kp5 (fun _ _=>xn hp4) (qx 6 (vp (some (a4.add 1))) Kp6 (qg 7 ?_))
 obtain ⟨v9,hv7,h⟩:=h
 refine sye Kp7 (xl (isAgg3 _) hv7) (qg 8 ?_)
 obtain ⟨v10,hv6,h⟩:=h
 refine sye Kp8 (xl (isAgg141 _) hv6) (qg 9 ?_)
 obtain ⟨a5,hp5,h⟩:=h
 refine sy Kp9 (fun _ _=>xn hp5) (qx 10 (vp (some (a5.add 1))) (jJ (S8 (jD (jD jI)))) (qg 11 ?_))
 obtain ⟨v11,hv5,h⟩:=h
 refine sye (jJ (S8 (jD (jD (jD jI))))) (xl (isAgg3 _) hv5) (qx 12 (vu r1) (jJ (S8 (S4 jI))) (qx 13 (vi (q6.wrap r1)) (jJ (S8 (S4 (jD jI)))) (qx 14 (vi (q6.wrap (v11+(q6.wrap r1)))) (jJ (S8 (S4 (jD (jD jI))))) (qg 15 ?_))))
 obtain ⟨s1,hv4,h⟩:=h
 refine sye (v:=s1.v) (jJ (S8 (S4 (jD (jD (jD jI)))))) (yF (by kernel_rfl) (by kernel_rfl) (by kernel_rfl) (by kernel_rfl) hv4) (qg 16 ?_)
 obtain ⟨c1,hv3,h⟩:=h
 refine sye (v:=(vs c1)) (jJ (S8 (S8 jI))) (qS (by kernel_rfl) hv3) (lg 17 ?_)
 obtain ⟨hp6,hnh,h⟩:=h
 refine sl_t (jJ (S8 (S8 (jD jI)))) (xs (v:=(vs c1)) (sizeOf9 _) hp6) ?_
 intro w4 hn1
 have h:=h w4 hn1
 refine ⟨.inl (by kernel_rfl),?_⟩
 have hk:=Kept.sc hnh hn1
 obtain ⟨hs,hb⟩:=hk.hh hs hb
 refine wn (jN (rg (ql (isAgg141 _) h fun v12 h=>qm h fun a6 h=>q (ql (isAgg3 _) h fun v13 h=>qc (qm h fun a7 h=>q (st2 (sizeOf3 _) hs hb h fun w5 hs hb h=>jC (ep (jFV (.inr rfl) results124 ?_))))))))
 exact .inl ⟨rfl,h⟩
 refine cbr h ?_ ?_<;>intro h
 refine kJ (by kernel_rfl) (kC 1 (q0 (.iface 191 (vi 3)) (jC (oU (jK rfl) (by intro c hc;cases hc) (jBM (by kernel_rfl)) (fun ρ'=>.inr ⟨_,rfl,h⟩)))))
 refine jB (jN ⟨H,hm,hs,hb,h⟩)
 refine cbr h ?_ ?_<;>intro h
 refine kJ (by kernel_rfl) (kC 1 (q0 (.iface 191 (vi 1)) (jC (oU (jK rfl) (by intro c hc;cases hc) (jBM (by kernel_rfl)) (fun ρ'=>.inr ⟨_,rfl,h⟩)))))
 refine jB (jN ⟨H,hm,hs,hb,h⟩)
 refine rg (ql (isAgg3 _) h fun v14 h=>qb ?_)
 obtain ⟨hg1,h⟩|⟨hg1,h⟩:=h.br
 refine sj4 8 hg1 (q2 (vb true) (xT hg1) (ln ⟨true,None,hm,hs,hb,h⟩))
 refine qk 8 hg1 ?_
 obtain ⟨v15,hv15,h⟩:=h
 refine q4 8 hg1 (xl (isAgg3 _) hv15) (qk 8 hg1 (qk 8 hg1 (q2 (vb (decide (r1>(IntKind.u64.wrap v15)))) (xF hg1) (ln ⟨(decide (r1>(IntKind.u64.wrap v15))),None,hm,hs,hb,h⟩))))
def m_K3 (cap1 cap2:Addr) (w0:World) (K:Option (List PanicEntry)→WP):Prop :=∃v1,w0.cell? cap1=some (vp v1)∧Calls prog 128 #[(vp v1)] w0 (fun e w1=>(∃r1:Int,e=.returned (.int .u8 r1)∧jT w1 cap2∧∀w2,w2=w1.setCell cap2 (.int .u8 r1)→K none w2)∨∃ch,e=.panicked ch∧K (some ch)  w1)
theorem w_K3 (cap1 cap2 w0 K) (h:m_K3 cap1 cap2 w0 K):
  Calls prog 127 #[(vp (some cap1)),(vp (some cap2))] w0 (fun e w'=>(e=.returned (.tuple #[])∧K none  w')∨∃ch,e=.panicked ch∧K (some ch)  w'):=by
 refine qB (args:=[(vp (some cap1)),(vp (some cap2))]) func127 rfl ntmps127 (Nat.le_of_ble_eq_true rfl) (kJ (by kernel_rfl) (kC 1 (ql (isAgg141 _) h fun v1 h=>jC (jBX (jK rfl) (by intro c hc;cases hc) (xc call128) (h.mono (fun e w1 hh=>hh.elim ?_ (by rintro ⟨ch,rfl,h⟩;exact .inr ⟨ch,rfl,fun ρ'=>.inr ⟨ch,rfl,h⟩⟩)))))))
 rintro ⟨r1,rfl,h⟩
 refine .inl ⟨_,rfl,?_⟩
 refine oM (st1 (sizeOf5 _) h fun w2 h=>jC (ep (jFV (.inr rfl) results127 ?_)))
 exact .inl ⟨rfl,h⟩
end Go.Proofs
end
section
open Go Go.SE
namespace Go.Proofs
attribute [local irreducible] wpL wpX opE wpE Calls
end Go.Proofs
end
section
open Go Go.SE
namespace Go.Proofs
open Tryz
attribute [local irreducible] Calls
def tmr (ts:List Int):List (List Value):=ts.map fun t=>[.int .i64 t]
theorem uY (ts:List Int):(tmr ts).length=ts.length:=by simp [tmr]
theorem slT_tm:SlType prog 166 29 1 8:=by
 refine ⟨underlying166,⟨t29,_,by kernel_rfl,(by kernel_rfl:t29.zero=some (.int .i64 0)),by kernel_rfl,by kernel_rfl,rfl⟩,by omega⟩
structure RetO (w:World) (e:TypeId) (sz:Nat) (rs:List (List Value)) (s:Sl) (w':World):Prop where
 rows:Rws w' e sz s rs
 own:∀b,s.blk b→w.heap.size≤b
 pure:Pure w w'
theorem RetO.kept {w:World} {H:NP} {e:TypeId} {sz:Nat} {rs:List (List Value)} {s:Sl} {w':World} (h:RetO w e sz rs s w'):Kept H w w':=h.pure.keptP
theorem jMU {S:NP} {w:World} {s:Sl} {ts:List Int} (h:Lst S w 1 s (tmr ts)) {j:Nat} (hj:j<ts.length):∃a,At s j 1 a∧S a.block∧w.cell? a=some (.int .i64 ts[j]):=by
 obtain ⟨a,h1,h2,h3⟩:=h.at_ j (by simpa [tmr] using hj);exact ⟨a,h1,h2,jJS (by simpa [tmr] using h3)⟩
theorem tX {P:Program} (w:World) (d:Nat) {t e:TypeId} (a:Option Addr) (l c:Nat) (h:P.underlying t=some (.slice e)):(Op.equalIn (d+1) t (.slice a l c) (.slice none 0 0)).run P w=.ok a.isNone w:=by
 cases a <;> simp [Op.equalIn,run_underlying h]
theorem jEK {P:Program} (w:World) {t e:TypeId} (a:Option Addr) (l c:Nat) (h:P.underlying t=some (.slice e)):(Go.binOp .eql t (.slice a l c) (.slice none 0 0)).run P w=.ok (.bool a.isNone) w:=by
 simp only [Go.binOp];simp [Op.equal,Op.maxDepth,tX w 9999 a l c h]
end Go.Proofs
end
section
open Nat
namespace Go.Proofs
def zH (n:Nat):List UInt8:=if h:n<128 then [UInt8.ofNat n] else UInt8.ofNat (n % 128+128) :: zH (n / 128)
theorem yH {n:Nat} (h:n<128):zH n=[UInt8.ofNat n]:=by rw [zH,dif_pos h]
theorem xO {n:Nat} (h:128≤n):zH n=UInt8.ofNat (n % 128+128) :: zH (n / 128):=by rw [zH,dif_neg (by omega)]
theorem jKQ (k:Nat):∀n,n<128 ^ (k+1)→(zH n).length≤k+1:=by
 induction k with
 | zero=>intro n h;rw [yH (by simpa using h)];simp
 | succ k ih =>
  intro n h
  by_cases h1:n<128
  ·rw [yH h1];simp
  ·rw [xO (by omega),List.length_cons]
   have:=ih (n / 128) (by rw [Nat.div_lt_iff_lt_mul (by omega)];rw [Nat.pow_succ] at h;exact h)
   omega
theorem vB {n:Nat} (h:n<18446744073709551616):(zH n).length≤10:=jKQ 9 n (by omega)
def kH (s:ByteArray):List UInt8:=zH s.size++s.data.toList
def yT:Nat→Nat→List UInt8→Except Nat (Nat×Nat)
 | _,_,[]=>.error 3
 | i,n,c :: l =>
  if i=9∧1<c.toNat then .error 11
  else if c.toNat<128 then (if c.toNat=0∧0<i then .error 10 else .ok (n+c.toNat*128 ^ i,i+1))
  else yT (i+1) (n+c.toNat % 128*128 ^ i) l
theorem yB (i n:Nat) (c:UInt8) (l:List UInt8):yT i n (c :: l)=(if i=9∧1<c.toNat then .error 11
  else if c.toNat<128 then (if c.toNat=0∧0<i then .error 10 else .ok (n+c.toNat*128 ^ i,i+1))
  else yT (i+1) (n+c.toNat % 128*128 ^ i) l):=rfl
structure Rd where
 at_:Nat
 err:Nat
 spot:Nat
def kW (bs:List UInt8) (r:Rd):Nat×Rd :=
 if r.err=0 then match yT 0 0 (bs.drop r.at_) with
  | .ok (n,k)=>(n,⟨r.at_+k,0,r.spot⟩)
  | .error x=>(0,⟨r.at_,x,r.at_⟩)
 else (0,r)
def qF (bs:List UInt8) (r:Rd):Nat×Rd :=
 if r.err=0 then (if h:r.at_<bs.length then (bs[r.at_].toNat,⟨r.at_+1,0,r.spot⟩) else (0,⟨r.at_,3,r.at_⟩))
 else (0,r)
def kK (bs:List UInt8) (most:Nat) (r:Rd):List UInt8×Rd :=
 if r.err=0 then match yT 0 0 (bs.drop r.at_) with
  | .ok (n,k)=>if most<n then ([],⟨r.at_,1,r.at_⟩) else if bs.length<r.at_+k+n then ([],⟨r.at_,3,r.at_⟩) else ((bs.drop (r.at_+k)).take n,⟨r.at_+k+n,0,r.spot⟩)
  | .error x=>([],⟨r.at_,x,r.at_⟩)
 else ([],r)
end Go.Proofs
end
section
open Go Go.SE
namespace Go.Proofs
open Tryz
attribute [local irreducible] Calls
theorem oV:SlType prog 25 5 1 1:=by
 refine ⟨underlying25,⟨t5,_,by kernel_rfl,(by kernel_rfl:t5.zero=some (.int .u8 0)),by kernel_rfl,by kernel_rfl,rfl⟩,by omega⟩
theorem jHL {S:NP} (s:Sl) (bs:List UInt8) (w0:World) (hs:Lst S w0 1 s (byr bs)) (hz:s.a=none→s=Sl.nil) (hn:bs.length≤100000000000) :
  Calls prog 101 #[s.v] w0 (fun e w'=>∃r:Sl,e=.returned r.v∧RetO w0 5 1 (byr bs) r w'):=by
 refine w_L2 _ w0 (fun r w'=>RetO w0 5 1 (byr bs) r w') ?_
 unfold m_L2
 refine ⟨s.a.isNone,?_,fun h=>?_,fun h=>?_⟩
 ·exact jEK w0 s.a s.len s.cap underlying25
 ·have hs0:=hz (Option.isNone_iff_eq_none.1 h)
  subst hs0
  have:bs=[]:=by have:=hs.len;rw [zN] at this;exact List.length_eq_zero_iff.1 this.symm
  subst this
  exact ⟨Rws.nil _ _ _,fun b hb=>(by obtain ⟨a,ha,_⟩:=hb;cases ha),Ext.refl _⟩
 ·intro p1 w1 h1
  have E1:Pure w0 w1:=Ext.new h1
  obtain ⟨s2,w2,hr,hR,hE,hb⟩:=(Rws.empty (sz:=1) h1).appendL (P:=prog) (ty:=25) oV (hs.pure E1) (jCY _) (jPM _) (by rw [zN];simp;omega) (by rw [zN];simp [maxLen];omega)
  have hp:=h1.at_size
  have hp':∀b,(Sl.mk (some p1) 0 0).blk b→w0.heap.size≤b:=fun b hb=>(by obtain ⟨a,ha,e⟩:=hb;cases ha;omega)
  exact ⟨s2,w2,hr,by simpa using hR,fun b h=>(hb b h).elim (hp' b) (fun h=>by have:=E1.size;omega),E1.trans' hE (fun i hi h=>by have:=hp' i h;omega)⟩
theorem RetO.put {w0 w w1:World} {s:Sl} {bs:List UInt8} {x:UInt8} {p:Addr} (h:RetO w0 5 1 (byr bs) s w) (hn:New w (.cells #[.int .u8 (x.toNat:Int)] 5) p w1) (hl:bs.length≤100000000000) :
  ∃s' w',(Builtin.append_ #[25,25] 25 #[s.v,(Sl.mk (some p) 1 1).v]).run prog w1=.ok s'.v w'∧RetO w0 5 1 (byr (bs++[x])) s' w':=by
 have E1:Pure w w1:=Ext.new hn
 have hrow:Row w1 p [.int .u8 (x.toNat:Int)]:=(Box.of_newA hn).row
 obtain ⟨s',w',hr,hR,hE,hb⟩:=(h.rows.pure E1).append (ty:=25) (c:=1) oV hrow rfl rfl (by rw [zN];omega) (by rw [zN];simp [maxLen];omega)
 have h1:=(h.pure.trans E1)
 exact ⟨s',w',hr,by rw [jJJ];exact hR,fun b hb'=>(hb b hb').elim (h.own b) (fun h2=>by have:=h1.size;omega),h1.trans' hE (fun i hi h2=>by have:=h.own i h2;omega)⟩
theorem RetO.text {w0 w:World} {s:Sl} {bs:List UInt8} {x:ByteArray} (h:RetO w0 5 1 (byr (bs++zH x.size)) s w) (hn:bs.length≤10000000000) (hN:x.size≤10000000000) :
  ∃s' w',(Builtin.append_ #[25,9] 25 #[s.v,.string x]).run prog w=.ok s'.v w'∧RetO w0 5 1 (byr (bs++kH x)) s' w':=by
 have hv:=vB (n:=x.size) (by omega)
 obtain ⟨s',w',hr,hR,hE,hb⟩:=h.rows.appendStr (ty:=25) oV underlying9 x (by rw [zN,List.length_append];omega) (by rw [zN,List.length_append];simp [maxLen];omega)
 refine ⟨s',w',hr,?_,fun b hb'=>(hb b hb').elim (h.own b) (fun h2=>by have:=h.pure.size;omega),h.pure.trans' hE (fun i hi h2=>by have:=h.own i h2;omega)⟩
 rw [kH,← List.append_assoc,jJJ];exact hR
theorem lQ {S:NP} (s:Sl) (bs:List UInt8) (n:Nat) (w0:World) (hs:Lst S w0 1 s (byr bs)) (hz:s.a=none→s=Sl.nil) (hn:bs.length≤10000000000) (hN:n<18446744073709551616) :
  Calls prog 84 #[s.v,.int .u64 (n:Int)] w0 (fun e w'=>∃r:Sl,e=.returned r.v∧RetO w0 5 1 (byr (bs++zH n)) r w'):=by
 refine w_H1 _ _ w0 (fun r w'=>RetO w0 5 1 (byr (bs++zH n)) r w') ?_
 unfold m_H1
 refine (jHL s bs w0 hs hz (by omega)).mono ?_
 rintro _ w1 ⟨r1,rfl,h1⟩
 refine ⟨r1,rfl,fun b m w=>∃k:Nat,∃xs:List UInt8,m=(k:Int)∧k<18446744073709551616∧xs++zH k=bs++zH n∧RetO w0 5 1 (byr xs) b w,fun _ m _=>m.toNat,⟨n,bs,rfl,hN,rfl,h1⟩,?_⟩
 rintro b _ w ⟨k,xs,rfl,hk,hx,hR⟩
 have hlen:xs.length≤10000000010:=by
  have:=congrArg List.length hx;have:=vB hN;simp only [List.length_append] at *;omega
 unfold m_H1_l1
 refine ⟨fun h=>?_,fun h=>?_⟩
 ·have h:=of_decide_eq_true h
  refine ⟨_,jNA k,fun p2 w2 h2=>?_⟩
  obtain ⟨s',w',hr,hR'⟩:=hR.put h2 (by omega)
  refine ⟨s',w',hr,_,jQD k,⟨k / 128,xs++[UInt8.ofNat (k % 128+128)],rfl,by omega,?_,hR'⟩,by show (((k / 128:Nat):Int)).toNat<((k:Int)).toNat;omega⟩
  rw [← hx,xO (n:=k) (by omega)];simp
 ·have h:=of_decide_eq_false h
  intro p2 w2 h2
  rw [lZ] at h2
  obtain ⟨s',w',hr,hR'⟩:=hR.put h2 (by omega)
  refine ⟨s',w',hr,?_⟩
  rw [← hx,yH (n:=k) (by omega)];exact hR'
theorem jPC {S:NP} (s:Sl) (bs:List UInt8) (x:ByteArray) (w0:World) (hs:Lst S w0 1 s (byr bs)) (hz:s.a=none→s=Sl.nil) (hn:bs.length≤10000000000) (hN:x.size≤10000000000) :
  Calls prog 92 #[s.v,.string x] w0 (fun e w'=>∃r:Sl,e=.returned r.v∧RetO w0 5 1 (byr (bs++kH x)) r w'):=by
 refine w_B3 _ _ w0 (fun r w'=>RetO w0 5 1 (byr (bs++kH x)) r w') ?_
 unfold m_B3
 rw [show IntKind.u64.wrap (x.size:Int)=(x.size:Int) by simp [IntKind.wrap,IntKind.bits,IntKind.signed];omega]
 refine (lQ s bs x.size w0 hs hz hn (by omega)).mono ?_
 rintro _ w1 ⟨r1,rfl,h1⟩
 exact ⟨r1,rfl,h1.text hn hN⟩
end Go.Proofs
end
section
open Go Go.SE
namespace Go.SE
end Go.SE
namespace Go.Proofs
open Tryz
attribute [local irreducible] Calls
def Bld (w:World) (p:Addr) (l:List UInt8):Prop :=
 ∃(q:Value) (s:Sl),Box w p [q,s.v] 85∧(q=.pointer none∨q=.pointer (some p))∧Rws w 5 1 s (byr l)∧∀b,s.blk b→p.block<b
abbrev From (p:Addr) (b:Nat):Prop:=p.block≤b
section
variable {w w':World} {p:Addr} {l:List UInt8}
theorem Bld.pure (h:Bld w p l) (E:Pure w w'):Bld w' p l:=by
 obtain ⟨q,s,hB,hq,hR,hb⟩:=h;exact ⟨q,s,hB.pure E,hq,hR.pure E,hb⟩
theorem Bld.lt (h:Bld w p l):p.block<w.heap.size:=by obtain ⟨q,s,hB,_⟩:=h;exact hB.lt
theorem Bld.new (h:New w (.cells #[.pointer none,Sl.nil.v] 85) p w'):Bld w' p [] :=
 ⟨_,Sl.nil,Box.of_newA h,.inl rfl,Rws.nil _ _ _,fun b hb=>(by obtain ⟨a,h,_⟩:=hb;cases h)⟩
theorem jCX {q:Value} {s:Sl} (hB:Box w p [q,s.v] 85) (hq:q=.pointer none∨q=.pointer (some p)) :
  Calls prog 57 #[.pointer (some p)] w (fun e w'=>e=.returned (.tuple #[])∧Box w' p [.pointer (some p),s.v] 85∧Ext (·=p.block) w w'):=by
 have hp:=hB.addr
 have h0:w.cell? ⟨p.block,0,none⟩=some q:=by have:=hB.cell0;rwa [hp] at this
 rcases hq with rfl | rfl
 ·have h1:=jRR p.block w h0 (by simp [World.shape?,hB.blk]) (by simp [World.frozen?,hB.blk])
  rw [← hp] at h1
  refine h1.mono ?_
  rintro _ w' ⟨rfl,rfl⟩
  exact ⟨rfl,hB.set0,Ext.setCell _ _⟩
 ·rw [hp] at h0
  have h1:=jUN p.block w h0
  rw [← hp] at h1
  refine h1.mono ?_
  rintro _ w' ⟨rfl,rfl⟩
  exact ⟨rfl,hB,Ext.refl _⟩
theorem jHG (h:Bld w p l) (s:ByteArray) (hl:l.length+s.size≤100000000) :
  Calls prog 31 #[.pointer (some p),.string s] w (fun e w'=>∃r1:Int,∃r2:Value,e=.returned (.tuple #[.int .i64 r1,r2])∧(Bld w' p (l++s.data.toList)∧Ext (From p) w w')):=by
 refine w_J2 (some p) s w (fun r1 r2 w'=>Bld w' p (l++s.data.toList)∧Ext (From p) w w') ?_
 unfold m_J2
 obtain ⟨q,sl,hB,hq,hR,hb⟩:=h
 refine (jCX hB hq).mono ?_
 rintro _ w1 ⟨rfl,hB1,E1⟩
 have hR1:=hR.ext E1 (fun b hs e=>by have:=hb b hs;omega)
 obtain ⟨s',w2,hrun,hR2,E2,hn⟩:=hR1.appendStr (P:=prog) (ty:=25) oV underlying9 s (by rw [zN];omega) (by rw [zN];simp only [maxLen];omega)
 have z1:=E1.size;have hlt:=hB.lt
 have hB2:=hB1.ext E2 (fun hs=>by have:=hb _ hs;omega)
 refine ⟨rfl,p,rfl,sl,hB1.cell rfl,s',w2,hrun,p,rfl,hB2.canW (by simp),?_⟩
 rintro _ rfl
 have E3:Ext (·=p.block) w2 (w2.setCell (p.add 1) s'.v):=by have:=Ext.setCell (w:=w2) (p.add 1) s'.v;rw [zA] at this;exact this
 have hb':∀b,s'.blk b→p.block<b:=fun b hs=>(hn b hs).elim (hb b) (fun h=>by omega)
 refine ⟨⟨_,s',hB2.set 1 _,.inr rfl,?_,hb'⟩,?_⟩
 ·have e:byr l++byr s.data.toList=byr (l++s.data.toList):=by simp [byr]
  rw [← e]
  exact hR2.ext E3 (fun b hs e=>by have:=hb' b hs;omega)
 ·exact ((E1.mono (fun b _ e=>by show p.block≤b;omega)).trans (E2.mono (fun b _ hs=>by have:=hb b hs;show p.block≤b;omega))).trans (E3.mono (fun b _ e=>by show p.block≤b;omega))
theorem jOZ (h:Bld w p l) (c:UInt8) (hl:l.length+1≤100000000) :
  Calls prog 32 #[.pointer (some p),.int .u8 (c.toNat:Int)] w (fun e w'=>∃r:Value,e=.returned r∧(Bld w' p (l++[c])∧Ext (From p) w w')):=by
 refine w_K2 (some p) (c.toNat:Int) w (fun r w'=>Bld w' p (l++[c])∧Ext (From p) w w') ?_
 unfold m_K2
 obtain ⟨q,sl,hB,hq,hR,hb⟩:=h
 refine (jCX hB hq).mono ?_
 rintro _ w1 ⟨rfl,hB1,E1⟩
 have hR1:=hR.ext E1 (fun b hs e=>by have:=hb b hs;omega)
 refine ⟨rfl,p,rfl,sl,hB1.cell rfl,fun p1 w2 n2=>?_⟩
 have En:Pure w1 w2:=Ext.new n2
 obtain ⟨s',w3,hrun,hR2,E2,hn⟩:=(hR1.pure En).append (P:=prog) (ty:=25) (c:=1) oV (p:=p1) (r:=[.int .u8 (c.toNat:Int)]) (Box.of_newA n2).row rfl rfl (by rw [zN];omega) (by rw [zN];simp only [maxLen];omega)
 have z1:=E1.size;have hlt:=hB.lt;have zn:=En.size
 have hB2:=(hB1.pure En).ext E2 (fun hs=>by have:=hb _ hs;omega)
 refine ⟨s',w3,hrun,p,rfl,hB2.canW (by simp),?_⟩
 rintro _ rfl
 have E3:Ext (·=p.block) w3 (w3.setCell (p.add 1) s'.v):=by have:=Ext.setCell (w:=w3) (p.add 1) s'.v;rw [zA] at this;exact this
 have hb':∀b,s'.blk b→p.block<b:=fun b hs=>(hn b hs).elim (hb b) (fun h=>by omega)
 refine ⟨⟨_,s',hB2.set 1 _,.inr rfl,?_,hb'⟩,?_⟩
 ·have e:byr l++[[.int .u8 (c.toNat:Int)]]=byr (l++[c]):=by simp [byr]
  rw [← e]
  exact hR2.ext E3 (fun b hs e=>by have:=hb' b hs;omega)
 ·exact (((E1.mono (fun b _ e=>by show p.block≤b;omega)).thenPure En).trans (E2.mono (fun b _ hs=>by have:=hb b hs;show p.block≤b;omega))).trans (E3.mono (fun b _ e=>by show p.block≤b;omega))
theorem jSQ (h:Bld w p l) :
  Calls prog 36 #[.pointer (some p)] w (fun e w'=>∃r:ByteArray,e=.returned (.string r)∧(r=⟨l.toArray⟩∧Ext (From p) w w')):=by
 obtain ⟨q,s,hB,hq,hR,hb⟩:=h
 have hp:=hB.addr
 have hown:w.ownsRow p.block 5 1 s.v (Lib.byteCells l).length (Lib.byteCells l):=by
  have hf:(byr l).flatten=Lib.byteCells l:=by
   unfold byr Lib.byteCells;have:∀l:List UInt8,(l.map fun b=>[Value.int .u8 (b.toNat:Int)]).flatten=l.map fun b=>Value.int .u8 (b.toNat:Int):=fun l=>by
    induction l with
    | nil=>rfl
    | cons a t ih=>rw [List.map_cons,List.flatten_cons,ih];rfl
   exact this l
  have hl:(Lib.byteCells l).length=l.length:=Lib.byteCells_length l;refine ⟨by omega,?_⟩;rcases hR.own with ⟨rfl,hnil⟩ | ⟨g,cur,ha,hg,hc,hm,hs,ht⟩
  ·have:l=[]:=by cases l with | nil=>rfl | cons a t=>simp [byr] at hnil
   subst this;exact .inl ⟨rfl,rfl⟩
  ·refine .inr ⟨g,s.cap,cur,?_,?_,hg,by rw [hl];rw [zN] at hc;exact hc,hm,hs,?_⟩
   ·unfold Sl.v;rw [ha,hR.len,zN,hl]
   ·exact Nat.le_of_lt (hb g ⟨_,ha,rfl⟩)
   ·rw [hl,← hf,← ht,zN]
 have hat:Lib.IsBuilder 85 5 p.block p.block (Lib.byteCells l) w:=by
  have hA:∀q',q=q'→Lib.BuilderAt 85 5 p.block p.block q' (Lib.byteCells l) w:=by
   rintro _ rfl;refine ⟨Nat.le_refl _,s.v,hB.blk,hown,?_⟩;intro e;unfold Value.ownBlock Sl.v at e;cases ha:s.a with
   | none=>rw [ha] at e;cases e
   | some a =>
    rw [ha] at e
    simp at e
    have:=hb a.block ⟨a,ha,rfl⟩
    omega
  rcases hq with h | h
  ·exact .inl (hA _ h)
  ·refine .inr ?_;have:=hA _ h;rwa [hp] at this
 have hlt:=hB.lt
 have:=jRE p.block p.block l w hat (by omega)
 rw [← hp] at this
 refine this.mono ?_
 rintro _ w' ⟨rfl,h2⟩
 exact ⟨_,rfl,rfl,jCT h2⟩
end
end Go.Proofs
end
section
open Go Go.SE
open Go.IntKind renaming i64 → q6
namespace Go.Proofs
open Tryz
set_option maxRecDepth 100000
set_option maxHeartbeats 4000000
attribute [local irreducible] wpL wpX opE wpE Calls
def m_L3 (i1 base1:Int) (w0:World) (K:ByteArray→WP):Prop :=Br (base1 == 10) (Br (decide (i1<100)) (Calls prog 76 #[(vi (q6.wrap i1))] w0 (fun e w1=>∃r1,e=.returned (vs r1)∧K r1 w1)) (∀p1 w2,New w0 (.cells #[(.int .u8 0),(.int .u8 0),(.int .u8 0),(.int .u8 0),(.int .u8 0),(.int .u8 0),(.int .u8 0),(.int .u8 0),(.int .u8 0),(.int .u8 0),(.int .u8 0),(.int .u8 0),(.int .u8 0),(.int .u8 0),(.int .u8 0),(.int .u8 0),(.int .u8 0),(.int .u8 0),(.int .u8 0),(.int .u8 0),(.int .u8 0),(.int .u8 0),(.int .u8 0),(.int .u8 0)] 150) p1 w2→Calls prog 77 #[(vu i1)] w2 (fun e w3=>∃r2,e=.returned (vi r2)∧∃s1:Sl,(Instr.sliceAt 150 (vp (some p1)) none (some (vi r2)) none).run prog w3=.ok s1.v w3∧Calls prog 78 #[s1.v,(vu i1)] w3 (fun e w4=>e=.returned (.tuple #[])∧∃s2:Sl,(Instr.sliceAt 150 (vp (some p1)) none (some (vi r2)) none).run prog w4=.ok s2.v w4∧∃c1,(convert 25 9 s2.v).run prog w4=.ok (vs c1) w4∧K c1 w4)))) (Calls prog 79 #[Sl.nil.v,(vu i1),(vi base1),(vb false),(vb false)] w0 (fun e w5=>∃r3:Sl,∃r4,e=.returned (.tuple #[r3.v,(vs r4)])∧K r4 w5))
theorem w_L3 (i1 base1 w0 K) (h:m_L3 i1 base1 w0 K):
  Calls prog 59 #[(vu i1),(vi base1)] w0 (fun e w'=>∃r5,e=.returned (vs r5)∧K r5 w'):=by
 refine cw (args:=[(vu i1),(vi base1)]) func59 ntmps59 (eg (q0 ve (ln (jA (eg (q0 (vi base1) (q0 (vb (base1 == 10)) (jC ?_))))))))
 refine jN (cbr h ?_ ?_)<;>intro h
 refine jA (eg (qb (ln (cbr h ?_ ?_))))<;>intro h
 refine eg (qb (sc call76 (h.mono fun e w1 ⟨r1,k,h⟩=>⟨_,k,?_⟩)))
 refine q (ln (er (zM (zM (rs1 results59 ⟨r1,rfl,h⟩)))))
 refine jB (jN (eg (nw1 h (jG (zeroValue150 _) rfl) fun p1 w2 h=>ln (eg (q (sc call77 (h.mono fun e w3 ⟨r2,k,h⟩=>⟨_,k,?_⟩)))))))
 refine q (ln (eg (q ?_)))
 obtain ⟨s1,hv3,h⟩:=h
 refine q2 s1.v (yF (by kernel_rfl) (by kernel_rfl) (by kernel_rfl) (by kernel_rfl) hv3) (q (sc call78 (h.mono fun e w4 ⟨k,h⟩=>⟨_,k,?_⟩)))
 refine ln (eg (q ?_))
 obtain ⟨s2,hv2,h⟩:=h
 refine q2 s2.v (yF (by kernel_rfl) (by kernel_rfl) (by kernel_rfl) (by kernel_rfl) hv2) ?_
 obtain ⟨c1,hv1,h⟩:=h
 refine q2 (vs c1) (qS (by kernel_rfl) hv1) (q (ln (er (zM (rs1 results59 ⟨c1,rfl,h⟩)))))
 refine jB (jN (eg (qb (sc call79 (h.mono fun e w5 ⟨r3,r4,k,h⟩=>⟨_,k,?_⟩)))))
 refine q (qd (ln (eg (qb (jC (jN (er (rs1 results59 ⟨r4,rfl,h⟩))))))))
def m_M3 (i1 base1:Int) (w0:World) (K:ByteArray→WP):Prop :=Calls prog 59 #[(vu i1),(vi base1)] w0 (fun e w1=>∃r1,e=.returned (vs r1)∧K r1 w1)
theorem w_M3 (i1 base1 w0 K) (h:m_M3 i1 base1 w0 K):
  Calls prog 34 #[(vu i1),(vi base1)] w0 (fun e w'=>∃r2,e=.returned (vs r2)∧K r2 w'):=by
 refine cw (args:=[(vu i1),(vi base1)]) func34 ntmps34 (eg (q0 ve (ln (eg (q0 (vu i1) (q0 (vi base1) ?_))))))
 refine sc call59 (h.mono fun e w1 ⟨r1,k,h⟩=>⟨_,k,?_⟩)
 refine q (ln (er (rs1 results34 ⟨r1,rfl,h⟩)))
end Go.Proofs
end
section
open Go Go.SE
namespace Go.SE
theorem jAN {w:World} {k:Nat} {os:Array Obj}:Pure w (Sort.grow (w.drewN k) os):=by
 refine ⟨rfl,rfl,rfl,(by first | exact Nat.le_add_right _ _ | exact Nat.le_refl _),by simp [Sort.grow,World.drewN],fun b hb _=>?_⟩;show (w.heap++os)[b]?=w.heap[b]?;exact Array.getElem?_append_left hb
theorem yA {P:Program} {w w':World} {name:String} {k:IntKind} {zs:List Int} (h:Lib.TabIs P w name k zs) (E:Pure w w'):Lib.TabIs P w' name k zs:=by
 unfold Lib.TabIs World.var? at *;cases hg:P.globalNamed name with
 | none=>simp [hg] at h
 | some g =>
  simp only [hg,Option.bind_some] at h ⊢
  have hlt:g<w.heap.size:=by
   rcases Nat.lt_or_ge g w.heap.size with h' | h'
   ·exact h'
   ·rw [Array.getElem?_eq_none h'] at h;simp at h
  rw [E.keep g hlt id]
  exact h
theorem jIP (w:World) (T:TypeId) (nd:Nat) (hs:nd≤24):Sort.Holds (fun (b:UInt8)=>Value.int .u8 (b.toNat:Int)) (w.alloc (.cells Lib.zeros24 T)) w.heap.size 0 (Array.replicate nd (0:UInt8)):=fun j hj=>by
 have hj':j<nd:=by simpa using hj
 refine ⟨?_,World.frozen?_alloc_new _ _ _ _⟩;rw [World.cell?_alloc_new,Lib.zeros24_at _ (by omega),getElem!_pos _ j hj];simp
theorem jRO (w:World) (o:Obj) (dk:Array UInt8) (k:Nat):∃os,(Sort.putRow (fun (b:UInt8)=>Value.int .u8 (b.toNat:Int)) (w.alloc o) w.heap.size 0 dk).drewN k=Sort.grow (w.drewN k) os:=by
 rw [Sort.alloc_eq_grow];obtain ⟨os',_,e⟩:=Sort.putRow_grow_new (fun (b:UInt8)=>Value.int .u8 (b.toNat:Int)) w #[o] w.heap.size 0 dk (Nat.le_refl _);exact ⟨os',by rw [e];rfl⟩
end Go.SE
namespace Go.Proofs
open Tryz
attribute [local irreducible] Calls
abbrev Pow (w : World) : Prop := Lib.TabIs prog w "internal/strconv.uint64pow10" .u64 Lib.pow10Tab
theorem jHO (n:Nat) (hn:n<18446744073709551616) (w0:World) (ht:Pow w0) :
  Calls prog 34 #[.int .u64 (n:Int),.int .i64 10] w0 (fun e w'=>∃r:ByteArray,e=.returned (.string r)∧r=⟨(Lib.decDigits n).toArray⟩∧Pure w0 w'):=by
 refine w_M3 _ _ w0 (fun r w'=>r=⟨(Lib.decDigits n).toArray⟩∧Pure w0 w') ?_
 unfold m_M3
 refine w_L3 _ _ w0 (fun r w'=>r=⟨(Lib.decDigits n).toArray⟩∧Pure w0 w') ?_
 unfold m_L3
 refine ⟨fun _=>⟨fun h=>?_,fun h=>?_⟩,fun h=>absurd h (by decide)⟩
 ·have h:=of_decide_eq_true h
  have hw:IntKind.i64.wrap (n:Int)=(n:Int):=IntWalk.i64_in _ ⟨by omega,by omega⟩
  rw [hw]
  refine (jOE n (by omega) w0).mono ?_
  rintro _ w1 ⟨rfl,rfl⟩
  exact ⟨_,rfl,rfl,Ext.refl _⟩
 ·have h:¬ (n:Int)<100:=of_decide_eq_false h
  intro p1 w2 h2
  obtain ⟨hp,hw⟩:=h2
  subst hp;subst hw
  have hnd:=Lib.numDigits_eq n (by omega) hn
  have hnd20:Lib.nDigits n≤20:=by split at hnd <;> omega
  refine (jEV n (by omega) hn _ (Lib.tabIs_alloc ht _)).mono ?_
  rintro _ w3 ⟨rfl,rfl⟩
  have hal:prog.arrayLen 150=24:=by simp [Program.arrayLen,underlying150]
  have hsl:∀W,(Instr.sliceAt 150 (.pointer (some ⟨w0.heap.size,0,none⟩)) none (some (.int .i64 (Lib.nDigits n:Int))) none).run prog W=.ok (Sl.mk (some ⟨w0.heap.size,0,none⟩) (Lib.nDigits n) 24).v W:=fun W=>by
   rw [run_sliceAt_array_h W 150 ⟨w0.heap.size,0,none⟩ (by simp [Program.arrayLen,Program.elem,underlying150]) .i64 (Lib.nDigits n:Int) (by omega) (by rw [hal];omega)];go_simp;unfold Sl.v;simp
  refine ⟨_,rfl,Sl.mk (some ⟨w0.heap.size,0,none⟩) (Lib.nDigits n) 24,hsl _,?_⟩
  have hH0:=jIP w0 150 (Lib.nDigits n) (by omega)
  have hf:=jLS w0.heap.size 0 24 n (Array.replicate (Lib.nDigits n) 0) _ hH0 (by rw [Array.size_replicate];exact Lib.lt_pow_nDigits n) hn (by rw [Array.size_replicate];omega)
  rw [Array.size_replicate] at hf
  have hH1:=Lib.hid hH0
  refine Calls.mono hf ?_
  rintro _ w4 ⟨rfl,k,v',dk,rfl,hF⟩
  refine ⟨rfl,Sl.mk (some ⟨w0.heap.size,0,none⟩) (Lib.nDigits n) 24,hsl _,⟨(Lib.decDigits n).toArray⟩,?_,rfl,?_⟩
  ·have h := run_convert_bytes_back (P := prog) ((Sort.putRow (fun (b : UInt8) => Value.int .u8 (b.toNat : Int)) (w0.alloc (.cells Lib.zeros24 150)) w0.heap.size 0 dk).drewN k) 25 9 5 ⟨w0.heap.size, 0, none⟩ 24 (Lib.decDigits n) underlying25 underlying5 underlying9 (fun j hj => by
    rw [Lib.row_is_numeral hF j hj,Lib.add_plain,World.cell?_drewN];exact Sort.cell?_putRow (fun (b:UInt8)=>Value.int .u8 (b.toNat:Int)) _ w0.heap.size 0 _ dk hH1.out (by rw [hF.size,Array.size_replicate]) j (by rw [hF.size];rw [Lib.decDigits_length] at hj;exact hj))
   rw [Lib.decDigits_length] at h
   exact h
  ·obtain ⟨os,eo⟩:=jRO w0 (.cells Lib.zeros24 150) dk k
   have E:Pure w0 (Sort.grow (w0.drewN k) os):=jAN
   rw [← eo] at E
   exact E
theorem c_Itoa (n:Int) (h0:-9223372036854775808≤n) (h1:n≤9223372036854775807) (w0:World) (ht:Pow w0) :
  Calls prog 33 #[.int .i64 n] w0 (fun e w'=>∃r:ByteArray,e=.returned (.string r)∧r=⟨(Lib.itoa n).toArray⟩∧Pure w0 w'):=by
 refine (jRF n h0 h1 w0 ht).mono ?_
 rintro _ w1 ⟨rfl,k,os,rfl⟩
 exact ⟨_,rfl,rfl,jAN⟩
theorem nd20 {n:Nat} (h:n<18446744073709551616):(Lib.decDigits n).length≤20:=by
 rw [Lib.decDigits_length];by_cases h0:n<10
 ·rw [Lib.nDigits_small h0];omega
 ·have:=Lib.numDigits_eq n (by omega) h;split at this <;> omega
end Go.Proofs
end
section
open Go Go.SE
open Go.IntKind renaming i64 → q6
namespace Go.Proofs
open Tryz
set_option maxRecDepth 100000
set_option maxHeartbeats 4000000
attribute [local irreducible] wpL wpX opE wpE Calls
def m_N3 (aE aC aB:Int) (aA:ByteArray) (aD:Bool) (w0:World) (K:Sl→Int→WP):Prop :=∀H1 w1,Hst w0 None w0 H1 w1→Calls prog 5 #[] w1 (fun e w2=>∃r1,e=.returned (vp r1)∧Kept H1 w1 w2∧Calls prog 6 #[(vp r1),(.agg #[(vi aE),(vi aC),(vu aB),(vs aA),(vb aD)])] w2 (fun e w3=>∃r2 r3,e=.returned (.tuple #[(vi r2),(vi r3)])∧Kept H1 w2 w3∧Br (r3 != 0) (K Sl.nil r3 w3) (Calls prog 23 #[(vp r1),(vi r2)] w3 (fun e w4=>∃r4:Sl,∃r5,e=.returned (.tuple #[r4.v,(vi r5)])∧Kept H1 w3 w4∧K r4 r5 w4))))
theorem w_N3 (aE aC aB aA aD w0 K) (h:m_N3 aE aC aB aA aD w0 K):
  Calls prog 9 #[(.agg #[(vi aE),(vi aC),(vu aB),(vs aA),(vb aD)])] w0 (fun e w'=>∃r6:Sl,∃r7,e=.returned (.tuple #[r6.v,(vi r7)])∧K r6 r7 w'):=by
 refine cw (args:=[(Ac aE aC aB aA aD)]) func9 ntmps9 ?_
 obtain ⟨hs,hb⟩:=st0 w0
 refine eg (nw3 (Aa aE aC aB aA aD) 24 hs hb xb fun p1 w1 H1 hs hb=>qb (ln (eg ?_)))
 have ⟨h,hs⟩:=hs.hr (h H1 w1)
 refine sc call5 (h.mono fun e w2 ⟨r1,k,hk,h⟩=>have ⟨hs,hb⟩:=hk.hh hs hb;⟨_,k,?_⟩)
 refine q (ln (eg (q (q2 (Ac aE aC aB aA aD) (xa p1 (Aa aE aC aB aA aD) (isAgg24 _) (sizeOf24 _) (hb.r0 0 5 gZ)) (sc call6 (h.mono fun e w3 ⟨r2,r3,k,hk,h⟩=>have ⟨hs,hb⟩:=hk.hh hs hb;⟨_,k,?_⟩))))))
 refine q (qd (ln (jA (eg (qb (ln (cbr h ?_ ?_)))))))<;>intro h
 refine eg (qc (ln (er (zM (oX (.inl rfl) results9 (v:=Sl.nil.v) (by kernel_rfl) (v':=(vi r3)) (by kernel_rfl) ⟨Sl.nil,r3,rfl,h⟩)))))
 refine jB (jN (eg (qb (sc call23 (h.mono fun e w4 ⟨r4,r5,k,hk,h⟩=>have ⟨hs,hb⟩:=hk.hh hs hb;⟨_,k,?_⟩)))))
 refine qd (ln (er (oX (.inl rfl) results9 (v:=r4.v) (by kernel_rfl) (v':=(vi r5)) (by kernel_rfl) ⟨r4,r5,rfl,h⟩)))
def m_O3 (b1:Sl) (w0:World) (K:Int→Int→Int→ByteArray→Bool→Bool→WP):Prop :=∀H1 w1,Hst w0 None w0 H1 w1→Calls prog 5 #[] w1 (fun e w2=>∃r1,e=.returned (vp r1)∧Kept H1 w1 w2∧Calls prog 24 #[(vp r1),b1.v] w2 (fun e w3=>∃r2 r3 r4,e=.returned (.tuple #[(vi r2),(vi r3),(vi r4)])∧Kept H1 w2 w3∧Br (r3 != 0) (∀w4,Hst w0 H1 w3 H1 w4→K 0 0 0 ⟨#[]⟩ false false w4) (Calls prog 8 #[(vp r1),(vi r2)] w3 (fun e w5=>∃aF aG aH aI aJ r5,e=.returned (.tuple #[(Ac aF aG aH aI aJ),(vb r5)])∧Kept H1 w3 w5∧∀w6,Hst w0 H1 w5 H1 w6→K aF aG aH aI aJ r5 w6))))
theorem w_O3 (b1 w0 K) (h:m_O3 b1 w0 K):
  Calls prog 10 #[b1.v] w0 (fun e w'=>∃aK aL aM aN aO r6,e=.returned (.tuple #[(Ac aK aL aM aN aO),(vb r6)])∧K aK aL aM aN aO r6 w'):=by
 refine cw (args:=[b1.v]) func10 ntmps10 ?_
 obtain ⟨hs,hb⟩:=st0 w0
 refine eg (nw3 (Ag 0 0 0 false) 24 hs hb (jG (zeroValue24 _) rfl) fun p1 w1 H1 hs hb=>q (ln (eg ?_)))
 have ⟨h,hs⟩:=hs.hr (h H1 w1)
 refine sc call5 (h.mono fun e w2 ⟨r1,k,hk,h⟩=>have ⟨hs,hb⟩:=hk.hh hs hb;⟨_,k,?_⟩)
 refine q (ln (eg (qb (sc call24 (h.mono fun e w3 ⟨r2,r3,r4,k,hk,h⟩=>have ⟨hs,hb⟩:=hk.hh hs hb;⟨_,k,?_⟩)))))
 refine qc (qd (ln (jA (eg (qb (ln (cbr h ?_ ?_)))))))<;>intro h
 refine eg (q (qG (jK rfl) (xo p1 (Ag 0 0 0 false) (sizeOf24 _) (hb.k0 0 5 gZ)) ?_))
 intro w4 hn2
 obtain ⟨hs,hb⟩:=hb.st1 0 hs hn2 gZ
 refine q (ln (er (zM ?_)))
 have ⟨h,hs⟩:=hs.hr (h w4)
 refine jEM (.inl rfl) (vs:=[(.agg #[(vi 0),(vi 0),(vu 0),ve,(vb false)]),(vb false)]) (v:=(.tuple #[(.agg #[(vi 0),(vi 0),(vu 0),ve,(vb false)]),(vb false)])) results10 ⟨(rva (isAgg24 _) (sizeOf24 _) (hb.r0 0 5 gZ)),(rvT (by kernel_rfl)),trivial⟩ (by kernel_rfl) ⟨0,0,0,⟨#[]⟩,false,false,rfl,h⟩
 refine jB (jN (eg (qb (sc call8 (h.mono fun e w5 ⟨aF,aG,aH,aI,aJ,r5,k,hk,h⟩=>have ⟨hs,hb⟩:=hk.hh hs hb;⟨_,k,?_⟩)))))
 refine qb (qG (jK rfl) (xo p1 (Aa aF aG aH aI aJ) (sizeOf24 _) (hb.k0 0 5 gZ)) ?_)
 intro w6 hn3
 obtain ⟨hs,hb⟩:=hb.st1 0 hs hn3 gZ
 refine q (ln (er ?_))
 have ⟨h,hs⟩:=hs.hr (h w6)
 refine jEM (.inl rfl) (vs:=[(Ac aF aG aH aI aJ),(vb r5)]) (v:=(.tuple #[(Ac aF aG aH aI aJ),(vb r5)])) results10 ⟨(rva (isAgg24 _) (sizeOf24 _) (hb.r0 0 5 gZ)),(rvT (by kernel_rfl)),trivial⟩ (by kernel_rfl) ⟨aF,aG,aH,aI,aJ,r5,rfl,h⟩
def m_E1_j1 (c1:Int) (w0:World) (H:NP) (w:World) (K:ByteArray→WP):Prop :=∀w1,Hst w0 H w H w1→∃z1:Int,(Go.binOp .shr 5 (.int .u8 c1) (vu 4)).run prog w1=.ok (.int .u8 z1) w1∧∃z2:Int,(Go.binOp .shr 5 (.int .u8 c1) (vu 4)).run prog w1=.ok (.int .u8 z2) w1∧∃s1,(Instr.sliceAt 9 (vs (⟨#[48,49,50,51,52,53,54,55,56,57,97,98,99,100,101,102]⟩:ByteArray)) (some (.int .u8 z1)) (some (.int .u8 (IntKind.u8.wrap (z2+1)))) none).run prog w1=.ok (vs s1) w1∧∃s2,(Go.binOp .add 9 (vs (⟨#[92,120]⟩:ByteArray)) (vs s1)).run prog w1=.ok (vs s2) w1∧∃z3:Int,(Go.binOp .and 5 (.int .u8 c1) (.int .u8 15)).run prog w1=.ok (.int .u8 z3) w1∧∃z4:Int,(Go.binOp .and 5 (.int .u8 c1) (.int .u8 15)).run prog w1=.ok (.int .u8 z4) w1∧∃s3,(Instr.sliceAt 9 (vs (⟨#[48,49,50,51,52,53,54,55,56,57,97,98,99,100,101,102]⟩:ByteArray)) (some (.int .u8 z3)) (some (.int .u8 (IntKind.u8.wrap (z4+1)))) none).run prog w1=.ok (vs s3) w1∧∃s4,(Go.binOp .add 9 (vs s2) (vs s3)).run prog w1=.ok (vs s4) w1∧K s4 w1
def m_E1 (c1:Int) (w0:World) (K:ByteArray→WP):Prop :=Br ((c1 == 34) || (c1 == 92)) (∀H2 w3,Hst w0 None w0 H2 w3→∃c2,(convert 21 9 (.int .i32 (IntKind.i32.wrap c1))).run prog w3=.ok (vs c2) w3∧∃s5,(Go.binOp .add 9 (vs (⟨#[92]⟩:ByteArray)) (vs c2)).run prog w3=.ok (vs s5) w3∧K s5 w3) (Br (c1 == 10) (∀H2 w3,Hst w0 None w0 H2 w3→K (⟨#[92,110]⟩:ByteArray) w3) (Br ((decide (c1≥32)) && (decide (c1≤126))) (∀H5 w6,Hst w0 None w0 H5 w6→∃c3,(convert 21 9 (.int .i32 (IntKind.i32.wrap c1))).run prog w6=.ok (vs c3) w6∧K c3 w6) (∀H5 w6,Hst w0 None w0 H5 w6→m_E1_j1 c1 w0 H5 w6 K)))
theorem w_E1 (c1 w0 K) (h:m_E1 c1 w0 K):
  Calls prog 35 #[(.int .u8 c1)] w0 (fun e w'=>∃r1,e=.returned (vs r1)∧K r1 w'):=by
 refine cw (args:=[(.int .u8 c1)]) func35 ntmps35 ?_
 obtain ⟨hs,hb⟩:=st0 w0
 refine eg (q (ln (jA (zC (fun ρ w=>∃H:NP,Has ρ [(0,(.int .u8 c1))]∧Hst w0 H w H w∧HB H w []∧m_E1_j1 c1 w0 H w K) ?_ ?_))))
 rintro ρ w ⟨H,hH,hs,hb,h⟩
 refine jQ hH (jA (zW (by kernel_rfl) (by kernel_rfl) (by kernel_rfl) (by kernel_rfl) ?_))
 intro w1 hw1
 have hs:Hst w0 H w H w1:=by rw [hw1];exact hs.drew
 have hb:HB H w1 []:=by rw [hw1];exact hb.drew
 refine qq 0 (.int .u8 c1) Kp0 (qg 1 ?_)
 have ⟨h,hs⟩:=hs.hr (h w1)
 obtain ⟨z1,hv8,h⟩:=h
 refine sxQ (v:=(.int .u8 z1)) Kp1 (jK rfl) rfl (uJ (by kernel_rfl) (by kernel_rfl) (by kernel_rfl) hv8) (qq 2 (.int .u8 c1) Kp2 (qg 3 ?_))
 obtain ⟨z2,hv7,h⟩:=h
 refine sxQ (v:=(.int .u8 z2)) Kp3 (jK rfl) rfl (uJ (by kernel_rfl) (by kernel_rfl) (by kernel_rfl) hv7) (qq 4 (.int .u8 (IntKind.u8.wrap (z2+1))) Kp4 (qg 5 ?_))
 obtain ⟨s1,hv6,h⟩:=h
 refine sxQ (v:=(vs s1)) Kp5 (jK rfl) rfl (yF (by kernel_rfl) (by kernel_rfl) (by kernel_rfl) (by kernel_rfl) hv6) (qg 6 ?_)
 obtain ⟨s2,hv5,h⟩:=h
 refine sxQ (v:=(vs s2)) Kp6 (jK rfl) rfl (uJ (by kernel_rfl) (by kernel_rfl) (by kernel_rfl) hv5) (qq 7 (.int .u8 c1) Kp7 (qg 8 ?_))
 obtain ⟨z3,hv4,h⟩:=h
 refine sxQ (v:=(.int .u8 z3)) Kp8 (jK rfl) rfl (uJ (by kernel_rfl) (by kernel_rfl) (by kernel_rfl) hv4) (qq 9 (.int .u8 c1) Kp9 (qg 10 ?_))
 obtain ⟨z4,hv3,h⟩:=h
 refine sxQ (v:=(.int .u8 z4)) (jJ (S8 (jD (jD jI)))) (jK rfl) rfl (uJ (by kernel_rfl) (by kernel_rfl) (by kernel_rfl) hv3) (qq 11 (.int .u8 (IntKind.u8.wrap (z4+1))) (jJ (S8 (jD (jD (jD jI))))) (qg 12 ?_))
 obtain ⟨s3,hv2,h⟩:=h
 refine sxQ (v:=(vs s3)) (jJ (S8 (S4 jI))) (jK rfl) rfl (yF (by kernel_rfl) (by kernel_rfl) (by kernel_rfl) (by kernel_rfl) hv2) (qg 13 ?_)
 obtain ⟨s4,hv1,h⟩:=h
 refine sxQ (v:=(vs s4)) (jJ (S8 (S4 (jD jI)))) (jK rfl) rfl (uJ (by kernel_rfl) (by kernel_rfl) (by kernel_rfl) hv1) (qq 14 (vs s4) (jJ (S8 (S4 (jD (jD jI))))) (wn (jN (er (rs1 results35 ⟨s4,rfl,h⟩)))))
 refine jM (jA (vJ (fun ρ wJ=>∃HJ:NP,Hst w0 None w0 HJ wJ∧HB HJ wJ []∧Has ρ [(0,(.int .u8 c1)),(3,(vb ((c1 == 34) || (c1 == 92))))]) ?_ ?_))
 refine rg (qc (jU 3 (fun ρ wJ=>∃b3'0:Bool,∃HJ:NP,((c1 == 34)=b3'0)∧Hst w0 None w0 HJ wJ∧HB HJ wJ []∧Has ρ [(0,(.int .u8 c1)),(9,(vb (b3'0 || (c1 == 92))))]) ?_ ?_))
 rintro ρ w4 ⟨b3'0,H3,he0,hs,hb,hH⟩
 subst he0
 refine zB hH (q (ln ⟨_,hs,hb,hm⟩))
 rcases bte (c1 == 34) with hg4 | hg4
 refine sj2 6 hg4 (q2 (vb true) (xT hg4) (jC ⟨true,_,hg4,hs,hb,hm⟩))
 refine qk 6 hg4 (qk 6 hg4 (q2 (vb (c1 == 92)) (xF hg4) (jC ⟨false,_,hg4,hs,hb,hm⟩)))
 rintro ρ w3 ⟨H2,hs,hb,hH⟩
 refine kM hH (jN (cbr h ?_ ?_))<;>intro h
 refine eg (qb ?_)
 have ⟨h,hs⟩:=hs.hr (h H2 w3)
 obtain ⟨c2,hv10,h⟩:=h
 refine q2 (vs c2) (qS (by kernel_rfl) hv10) ?_
 obtain ⟨s5,hv9,h⟩:=h
 refine q2 (vs s5) (uJ (by kernel_rfl) (by kernel_rfl) (by kernel_rfl) hv9) (q (ln (er (qJ (zM (rs1 results35 ⟨s5,rfl,h⟩))))))
 refine eg (qc (ln (cbr h ?_ ?_)))<;>intro h
 refine eg (q (ln (er (qJ (zM ?_)))))
 have ⟨h,hs⟩:=hs.hr (h H2 w3)
 refine rs1 results35 ⟨(⟨#[92,110]⟩:ByteArray),rfl,h⟩
 refine jA (vJ (fun ρ wJ=>∃HJ:NP,Hst w0 None w0 HJ wJ∧HB HJ wJ []∧Has ρ [(0,(.int .u8 c1)),(17,(vb ((decide (c1≥32)) && (decide (c1≤126)))))]) ?_ ?_)
 refine rg (qc (jU 3 (fun ρ wJ=>∃b6'0:Bool,∃HJ:NP,((decide (c1≥32))=b6'0)∧Hst w0 None w0 HJ wJ∧HB HJ wJ []∧Has ρ [(0,(.int .u8 c1)),(23,(vb (b6'0 && (decide (c1≤126)))))]) ?_ ?_))
 rintro ρ w7 ⟨b6'0,H6,he0,hs,hb,hH⟩
 subst he0
 refine zB hH (q (ln ⟨_,hs,hb,hm⟩))
 rcases bte (decide (c1≥32)) with hg8 | hg8
 refine qk 20 hg8 (qk 20 hg8 (q2 (vb (decide (c1≤126))) (xT hg8) (jC ⟨true,_,hg8,hs,hb,hm⟩)))
 refine sj2 20 hg8 (q2 (vb false) (xF hg8) (jC ⟨false,_,hg8,hs,hb,hm⟩))
 rintro ρ w6 ⟨H5,hs,hb,hH⟩
 refine kM hH (jN (cbr h ?_ ?_))<;>intro h
 refine eg (qb ?_)
 have ⟨h,hs⟩:=hs.hr (h H5 w6)
 obtain ⟨c3,hv11,h⟩:=h
 refine q2 (vs c3) (qS (by kernel_rfl) hv11) (q (ln (er (qJ (zM (rs1 results35 ⟨c3,rfl,h⟩))))))
 refine jB (uS ?_)
 have ⟨h,hs⟩:=hs.hr (h H5 w6)
 refine jN ⟨H5,hm,hs,hb,h⟩
def m_H_l4 (aA:ByteArray) (p2:Addr) (x1:Int) (Hl1:NP) (wl1:World) (Kc4:Int→NP→WP) (K:ByteArray→WP):Prop :=Br (decide (x1<(aA.size:Int))) (∃e1:Int,(Instr.index 9 (vs aA) (vi x1)).run prog wl1=.ok (.int .u8 e1) wl1∧Calls prog 35 #[(.int .u8 e1)] wl1 (fun e w8=>∃r9,e=.returned (vs r9)∧Kept Hl1 wl1 w8∧Calls prog 31 #[(vp (some p2)),(vs r9)] w8 (fun e w9=>∃r10,∃r11:Value,e=.returned (.tuple #[(vi r10),r11])∧Kept Hl1 w8 w9∧Kc4 (q6.wrap (x1+1)) Hl1 w9))) (Calls prog 32 #[(vp (some p2)),(.int .u8 34)] wl1 (fun e w10=>∃r12:Value,e=.returned r12∧Kept Hl1 wl1 w10∧Calls prog 36 #[(vp (some p2))] w10 (fun e w11=>∃r13,e=.returned (vs r13)∧Kept Hl1 w10 w11∧K r13 w11)))
def m_H_j3 (aB:Int) (aA:ByteArray) (a1 p2:Addr) (w0:World) (H:NP) (w:World) (K:ByteArray→WP):Prop :=Calls prog 34 #[(vu aB),(vi 10)] w (fun e w5=>∃r4,e=.returned (vs r4)∧Kept H w w5∧∃s1,(Go.binOp .add 9 (vs (⟨#[32]⟩:ByteArray)) (vs r4)).run prog w5=.ok (vs s1) w5∧Calls prog 31 #[(vp (some p2)),(vs s1)] w5 (fun e w6=>∃r5,∃r6:Value,e=.returned (.tuple #[(vi r5),r6])∧Kept H w5 w6∧∃v3,w6.cell? (a1.add 1)=some (vb v3)∧Br v3 (Calls prog 31 #[(vp (some p2)),(vs (⟨#[32,34]⟩:ByteArray))] w6 (fun e w7=>∃r7,∃r8:Value,e=.returned (.tuple #[(vi r7),r8])∧Kept H w6 w7∧∃(I1:Int→NP→WP) (mu1:Int→World→Nat),I1 0 H w7∧∀(x1:Int) (Hl1:NP) (wl1:World),Hst w0 Hl1 wl1 Hl1 wl1→I1 x1 Hl1 wl1→m_H_l4 aA p2 x1 Hl1 wl1 (fun y'0 H' w'=>I1 y'0 H' w'∧mu1 y'0 w'<mu1 x1 wl1) K)) (Calls prog 36 #[(vp (some p2))] w6 (fun e w12=>∃r14,e=.returned (vs r14)∧Kept H w6 w12∧K r14 w12))))
def m_H_j2 (aC aB:Int) (aA:ByteArray) (a1 p2:Addr) (w0:World) (H:NP) (w:World) (K:ByteArray→WP):Prop :=∃v2,w.cell? a1=some (vb v2)∧Br v2 (Calls prog 33 #[(vi aC)] w (fun e w13=>∃r15,e=.returned (vs r15)∧Kept H w w13∧∃s2,(Go.binOp .add 9 (vs (⟨#[32]⟩:ByteArray)) (vs r15)).run prog w13=.ok (vs s2) w13∧Calls prog 31 #[(vp (some p2)),(vs s2)] w13 (fun e w14=>∃r16,∃r17:Value,e=.returned (.tuple #[(vi r16),r17])∧Kept H w13 w14∧m_H_j3 aB aA a1 p2 w0 H w14 K))) (m_H_j3 aB aA a1 p2 w0 H w K)
def m_H_j1 (aC aB:Int) (aA:ByteArray) (aD:Bool) (a1:Addr) (w0:World) (H:NP) (w:World) (K:ByteArray→WP):Prop :=∀p2 w3,New w (.cells #[(vp none),Sl.nil.v] 85) p2 w3→∃v1,w3.cell? (a1.add 3)=some (vs v1)∧Calls prog 31 #[(vp (some p2)),(vs v1)] w3 (fun e w4=>∃r2,∃r3:Value,e=.returned (.tuple #[(vi r2),r3])∧Kept H w3 w4∧Br aD (Calls prog 32 #[(vp (some p2)),(.int .u8 33)] w4 (fun e w15=>∃r18:Value,e=.returned r18∧Kept H w4 w15∧m_H_j2 aC aB aA a1 p2 w0 H w15 K)) (m_H_j2 aC aB aA a1 p2 w0 H w4 K))
def m_H (aE aC aB:Int) (aA:ByteArray) (aD:Bool) (w0:World) (K:ByteArray→WP):Prop :=∀H1 w1,Hst w0 None w0 H1 w1→Calls prog 15 #[(.agg #[(vi aE),(vi aC),(vu aB),(vs aA),(vb aD)])] w1 (fun e w2=>∃r1,e=.returned (vi r1)∧Kept H1 w1 w2∧Br (r1 != 0) (K ⟨#[]⟩ w2) (∃C1:WP,C1 w2.drew∧∀w16,w16=w2.drew→(Calls prog 26 #[] w16 (fun e w17=>∃r19:Array Value,e=.returned (.agg r19)∧C1 w17∧Kept H1 w16 w17∧∃efrom1 etext1 efake1 eword1,(∀w',C1 w'→(Instr.index 77 (.agg r19) (vi aE)).run prog w'=.ok (.agg #[(vb efrom1),(vb etext1),(vb efake1),(vs eword1)]) w')∧∀p3 w18,New w17 (.cells #[(vb false),(vb false),(vb false),ve] 76) p3 w18→C1 w18∧(∀j,j<4→jT w18 (p3.add j))∧¬ H1 p3.block∧∀w19,w19=storeRow w18 p3 (Ak efrom1 etext1 efake1 eword1)→m_H_j1 aC aB aA aD p3 w0 H1 w19 K))∧(∀p4 w20,New w16 (.cells #[(vb false),(vb false),(vb false),ve] 76) p4 w20→C1 w20∧Calls prog 26 #[] w20 (fun e w21=>∃r20:Array Value,e=.returned (.agg r20)∧C1 w21∧Kept H1 w20 w21∧∃efrom2 etext2 efake2 eword2,(∀w',C1 w'→(Instr.index 77 (.agg r20) (vi aE)).run prog w'=.ok (.agg #[(vb efrom2),(vb etext2),(vb efake2),(vs eword2)]) w')∧(∀j,j<4→jT w21 (p4.add j))∧¬ H1 p4.block∧∀w22,w22=storeRow w21 p4 (Ak efrom2 etext2 efake2 eword2)→m_H_j1 aC aB aA aD p4 w0 H1 w22 K))))
theorem w_H (aE aC aB aA aD w0 K) (h:m_H aE aC aB aA aD w0 K):
  Calls prog 12 #[(.agg #[(vi aE),(vi aC),(vu aB),(vs aA),(vb aD)])] w0 (fun e w'=>∃r21,e=.returned (vs r21)∧K r21 w'):=by
 refine cw (args:=[(Ac aE aC aB aA aD)]) func12 ntmps12 ?_
 obtain ⟨hs,hb⟩:=st0 w0
 refine eg (nw3 (Aa aE aC aB aA aD) 24 hs hb xb fun p1 w1 H1 hs hb=>q (ln (jA (eg (q2 (Ac aE aC aB aA aD) (xa p1 (Aa aE aC aB aA aD) (isAgg24 _) (sizeOf24 _) (hb.r0 0 5 gZ)) ?_)))))
 have ⟨h,hs⟩:=hs.hr (h H1 w1)
 refine sc call15 (h.mono fun e w2 ⟨r1,k,hk,h⟩=>have ⟨hs,hb⟩:=hk.hh hs hb;⟨_,k,?_⟩)
 refine q (ln (cbr h ?_ ?_))<;>intro h
 refine eg (q (ln (er (zM (rs1 results12 ⟨⟨#[]⟩,rfl,h⟩)))))
 refine jB (jN (jA (zC (fun ρ w=>∃a1:Addr,∃H:NP,Has ρ [(1,(vp (some p1))),(3,(vp (some a1)))]∧Hst w0 H w H w∧HB H w [(p1,(Aa aE aC aB aA aD),24)]∧m_H_j1 aC aB aA aD a1 w0 H w K) ?_ ?_)))
 rintro ρ w ⟨a1,H,hH,hs,hb,h⟩
 refine jQ hH (eg (nw2 hs hb h (jG (zeroValue85 _) rfl) fun p2 w3 hs hb h=>ln (eg (q (ql (isAgg9 _) h fun v1 h=>sc call31 (h.mono fun e w4 ⟨r2,r3,k,hk,h⟩=>have ⟨hs,hb⟩:=hk.hh hs hb;⟨_,k,?_⟩))))))
 refine ln (jA (eg (q (q3 (xl (isAgg4 _) (hb.d 0 4 gZ)) (ln (zC (fun ρ w=>∃H:NP,Has ρ [(1,(vp (some p1))),(3,(vp (some a1))),(4,(vp (some p2)))]∧Hst w0 H w H w∧HB H w [(p1,(Aa aE aC aB aA aD),24)]∧m_H_j2 aC aB aA a1 p2 w0 H w K) ?_ ?_))))))
 rintro ρ w ⟨H,hH,hs,hb,h⟩
 refine jQ hH (jA (eg (q (ql (isAgg4 _) h fun v2 h=>ln (zC (fun ρ w=>∃H:NP,Has ρ [(1,(vp (some p1))),(3,(vp (some a1))),(4,(vp (some p2)))]∧Hst w0 H w H w∧HB H w [(p1,(Aa aE aC aB aA aD),24)]∧m_H_j3 aB aA a1 p2 w0 H w K) ?_ ?_)))))
 rintro ρ w ⟨H,hH,hs,hb,h⟩
 refine jQ hH (eg (q (q3 (xl (isAgg22 _) (hb.d 0 2 gZ)) (sc call34 (h.mono fun e w5 ⟨r4,k,hk,h⟩=>have ⟨hs,hb⟩:=hk.hh hs hb;⟨_,k,?_⟩)))))
 obtain ⟨s1,hv3,h⟩:=h
 refine q2 (vs s1) (uJ (by kernel_rfl) (by kernel_rfl) (by kernel_rfl) hv3) (sc call31 (h.mono fun e w6 ⟨r5,r6,k,hk,h⟩=>have ⟨hs,hb⟩:=hk.hh hs hb;⟨_,k,?_⟩))
 refine ln (jA (eg (q (ql (isAgg4 _) h fun v3 h=>ln (cbr h ?_ ?_)))))<;>intro h
 refine eg (sc call31 (h.mono fun e w7 ⟨r7,r8,k,hk,h⟩=>have ⟨hs,hb⟩:=hk.hh hs hb;⟨_,k,?_⟩))
 refine ln (jA (eg (q (q3 (xl (isAgg9 _) (hb.d 0 3 gZ)) (qb (ln (jM ?_)))))))
 obtain ⟨I1,mu1,h0,hr⟩:=h
 refine kL (σ:=Int×NP×World) (fun s ρ w=>w=s.2.2∧Has ρ [(1,(vp (some p1))),(4,(vp (some p2))),(36,(vi (aA.size:Int))),(37,(vi s.1))]∧Hst w0 s.2.1 w s.2.1 w∧HB s.2.1 w [(p1,(Aa aE aC aB aA aD),24)]∧I1 s.1 s.2.1 s.2.2) (fun s=>mu1 s.1 s.2.2) (0,H,w7) ⟨rfl,hm,hs,hb,h0⟩ ?_
 rintro ⟨x1,Hl1,wl1⟩ ρ w ⟨hw,hH,hs,hb,hI⟩
 dsimp only at hw hH hs hb;subst w
 have h:=hr x1 Hl1 wl1 hs hI
 refine jQ hH (eg (q (ln (jA (cbr h ?_ ?_)))))<;>intro h
 refine jB (jN (jA (jM (eg (qb (ln (rg (q (q3 (xl (isAgg9 _) (hb.d 0 3 gZ)) (q ?_))))))))))
 obtain ⟨e1,hv1,h⟩:=h
 refine q2 (.int .u8 e1) (vX (by kernel_rfl) (by kernel_rfl) hv1) (sc call35 (h.mono fun e w8 ⟨r9,k,hk,h⟩=>have ⟨hs,hb⟩:=hk.hh hs hb;⟨_,k,?_⟩))
 refine sc call31 (h.mono fun e w9 ⟨r10,r11,k,hk,h⟩=>have ⟨hs,hb⟩:=hk.hh hs hb;⟨_,k,?_⟩)
 refine jC (uS (jN (rg (qb (ln ⟨((q6.wrap (x1+1)),Hl1,w9),⟨rfl,hm,hs,hb,h.1⟩,h.2⟩)))))
 refine zV (xG (xG (xE (jN (rg (sc call32 (h.mono fun e w10 ⟨r12,k,hk,h⟩=>have ⟨hs,hb⟩:=hk.hh hs hb;⟨_,k,?_⟩)))))))
 refine ln (eg (sc call36 (h.mono fun e w11 ⟨r13,k,hk,h⟩=>have ⟨hs,hb⟩:=hk.hh hs hb;⟨_,k,?_⟩)))
 refine q (ln (er (rs1 results12 ⟨r13,rfl,h⟩)))
 refine jB (jN (eg (sc call36 (h.mono fun e w12 ⟨r14,k,hk,h⟩=>have ⟨hs,hb⟩:=hk.hh hs hb;⟨_,k,?_⟩))))
 refine q (ln (er (rs1 results12 ⟨r14,rfl,h⟩)))
 refine cbr h ?_ ?_<;>intro h
 refine rg (q (q3 (xl (isAgg3 _) (hb.d 0 1 gZ)) (sc call33 (h.mono fun e w13 ⟨r15,k,hk,h⟩=>have ⟨hs,hb⟩:=hk.hh hs hb;⟨_,k,?_⟩))))
 obtain ⟨s2,hv4,h⟩:=h
 refine q2 (vs s2) (uJ (by kernel_rfl) (by kernel_rfl) (by kernel_rfl) hv4) (sc call31 (h.mono fun e w14 ⟨r16,r17,k,hk,h⟩=>have ⟨hs,hb⟩:=hk.hh hs hb;⟨_,k,?_⟩))
 refine ln ⟨H,hm,hs,hb,h⟩
 refine jB (jN ⟨H,hm,hs,hb,h⟩)
 refine cbr h ?_ ?_<;>intro h
 refine rg (sc call32 (h.mono fun e w15 ⟨r18,k,hk,h⟩=>have ⟨hs,hb⟩:=hk.hh hs hb;⟨_,k,?_⟩))
 refine ln ⟨H,hm,hs,hb,h⟩
 refine jB (jN ⟨H,hm,hs,hb,h⟩)
 obtain ⟨C1,hC,h⟩:=h
 refine dr2 (fun x=>C1 x∧HB H1 x _) [0,4,5] [5] ⟨hC,hb.drew⟩ h hs hb fun w16 hs hb h=>?_
 have hs:=hs.here
 refine qx 1 (vp (some p1)) Kp1 (qz 2 (vi aE) Kp2 (fun w' hw'=>(xl (isAgg3 _) (hw'.2.cell0 0 gZ (by kernel_rfl)))) (jPT (k:=0) (k':=4) (by kernel_rfl) ?_ ?_))
 have h:=h.1
 refine slc Kp0 call26 (h.mono ?_)
 rintro e w17 ⟨r19,rfl,hC,hk,h⟩
 refine ⟨_,rfl,.inr ⟨hC,hb.kept hk⟩,?_⟩
 obtain ⟨hs,hb⟩:=hk.hh hs hb
 refine qg 3 ?_
 obtain ⟨efrom1,etext1,efake1,eword1,hv7,h⟩:=h
 refine sy (v:=(.agg #[(vb efrom1),(vb etext1),(vb efake1),(vs eword1)])) Kp3 (fun w' hw'=>(vX (by kernel_rfl) (by kernel_rfl) (hv7 w' hw'.1))) (lg 4 (kT (O:=(.cells #[(vb false),(vb false),(vb false),ve] 76)) (fun p=>.pointer (some p)) Kp4 (jK rfl) (by kernel_rfl) (jG (zeroValue76 _) rfl) ?_))
 intro p3 w18 hn4
 have h:=h p3 w18 hn4
 refine ⟨.inr ⟨h.1,hb.kept (Ext.new (F:=None) hn4).keptP⟩,?_⟩
 have h:=h.2
 obtain ⟨hs,hb⟩:=hs.nw hb hn4
 refine lg 5 ?_
 obtain ⟨hp1,hnh,h⟩:=h
 refine yZ Kp5 (jK rfl) (by kernel_rfl) (xo p3 (Ak efrom1 etext1 efake1 eword1) (sizeOf76 _) hp1) ?_
 intro w19 hn3
 have h:=h w19 hn3
 refine ⟨.inl (by kernel_rfl),?_⟩
 have hk:Kept H1 w18 w19:=by rw [hn3];exact Kept.storeRow hnh
 obtain ⟨hs,hb⟩:=hk.hh hs hb
 refine wn (jN ⟨p3,H1,hm,hs,hb,h⟩)
 have h:=h.2
 refine kT (O:=(.cells #[(vb false),(vb false),(vb false),ve] 76)) (fun p=>.pointer (some p)) Kp4 (jK rfl) (by kernel_rfl) (jG (zeroValue76 _) rfl) ?_
 intro p4 w20 hn6
 have h:=h p4 w20 hn6
 refine ⟨.inr ⟨h.1,hb.kept (Ext.new (F:=None) hn6).keptP⟩,?_⟩
 have h:=h.2
 obtain ⟨hs,hb⟩:=hs.nw hb hn6
 refine lg 0 (slc Kp0 call26 (h.mono ?_))
 rintro e w21 ⟨r20,rfl,hC,hk,h⟩
 refine ⟨_,rfl,.inr ⟨hC,hb.kept hk⟩,?_⟩
 obtain ⟨hs,hb⟩:=hk.hh hs hb
 refine qg 3 ?_
 obtain ⟨efrom2,etext2,efake2,eword2,hv8,h⟩:=h
 refine sy (v:=(.agg #[(vb efrom2),(vb etext2),(vb efake2),(vs eword2)])) Kp3 (fun w' hw'=>(vX (by kernel_rfl) (by kernel_rfl) (hv8 w' hw'.1))) (lg 5 ?_)
 obtain ⟨hp2,hnh,h⟩:=h
 refine yZ Kp5 (jK rfl) (by kernel_rfl) (xo p4 (Ak efrom2 etext2 efake2 eword2) (sizeOf76 _) hp2) ?_
 intro w22 hn5
 have h:=h w22 hn5
 refine ⟨.inl (by kernel_rfl),?_⟩
 have hk:Kept H1 w21 w22:=by rw [hn5];exact Kept.storeRow hnh
 obtain ⟨hs,hb⟩:=hk.hh hs hb
 refine wn (jN ⟨p4,H1,hm,hs,hb,h⟩)
end Go.Proofs
end
section
open Go Go.SE
namespace Go.Proofs
open Tryz
attribute [local irreducible] Calls
theorem jMQ:∀n:Fin 128,Utf8.encode (n.val:Int)=⟨#[UInt8.ofNat n.val]⟩:=by decide +kernel
theorem jJP (n:Nat) (h:n<128) (w:World):(convert 21 9 (.int .i32 (IntKind.i32.wrap (n:Int)))).run prog w=.ok (.string ⟨#[UInt8.ofNat n]⟩) w:=by
 have hw:IntKind.i32.wrap (n:Int)=(n:Int):=by simp [IntKind.wrap,IntKind.bits,IntKind.signed];omega
 rw [hw];have:=jMQ ⟨n,h⟩;simp only at this;simp [convert,run_underlying underlying21,run_underlying underlying9,Conv.intToString,this]
theorem jSM (n:Nat) (h:n<16) (w:World):(Instr.sliceAt 9 (.string Sp.hexT) (some (.int .u8 (n:Int))) (some (.int .u8 (IntKind.u8.wrap ((n:Int)+1)))) none).run prog w=.ok (.string ⟨#[Sp.jMI n]⟩) w:=by
 have hw:IntKind.u8.wrap ((n:Int)+1)=((n+1:Nat):Int):=by simp [IntKind.wrap,IntKind.bits,IntKind.signed];omega
 rw [hw,run_sliceAt_string _ _ _ _ _ _ underlying9,run_slice_string_if _ _ _ _ _ _ _ underlying9,if_pos ⟨by omega,by show ((n+1:Nat):Int)≤16;omega⟩,if_pos ⟨by omega,by omega⟩];have he:∀m:Fin 16,Sp.hexT.extract m.val (m.val+1)=⟨#[Sp.jMI m.val]⟩:=by decide +kernel
 have:=he ⟨n,h⟩;simp only [Int.toNat_natCast] at this ⊢;rw [this]
theorem jEA (c:UInt8) (w0:World):Calls prog 35 #[.int .u8 (c.toNat:Int)] w0 (fun e w'=>∃r:ByteArray,e=.returned (.string r)∧(r=⟨(Sp.escB c).toArray⟩∧Pure w0 w')):=by
 refine w_E1 _ w0 (fun r w'=>r=⟨(Sp.escB c).toArray⟩∧Pure w0 w') ?_;unfold m_E1;have hc:c.toNat<256:=c.toNat_lt;have ofN:UInt8.ofNat c.toNat=c:=by simp
 refine ⟨fun h=>?_,fun h=>⟨fun h2=>?_,fun h2=>⟨fun h3=>?_,fun h3=>?_⟩⟩⟩
 ·intro H2 w3 hs;have h:c.toNat=34∨c.toNat=92:=by simp at h;omega
  refine ⟨_,jJP c.toNat (by omega) w3,_,xC w3 [92] [c] (by simp) (by simp) |> (fun h=>by rw [ofN];exact h),?_,hs.first⟩;unfold Sp.escB;rw [if_pos h];rfl
 ·intro H2 w3 hs;have h:¬ (c.toNat=34∨c.toNat=92):=by simp at h;omega
  have h2:c.toNat=10:=by simp at h2;omega
  refine ⟨?_,hs.first⟩;unfold Sp.escB;rw [if_neg h,if_pos h2]
 ·intro H5 w6 hs;have h:¬ (c.toNat=34∨c.toNat=92):=by simp at h;omega
  have h2:¬ c.toNat=10:=by simp at h2;omega
  have h3:32≤c.toNat∧c.toNat≤126:=by simp at h3;omega
  refine ⟨_,jJP c.toNat (by omega) w6,?_,hs.first⟩;unfold Sp.escB;rw [if_neg h,if_neg h2,if_pos h3,ofN]
 ·intro H5 w6 hs;have h:¬ (c.toNat=34∨c.toNat=92):=by simp at h;omega
  have h2:¬ c.toNat=10:=by simp at h2;omega
  have h3:¬ (32≤c.toNat∧c.toNat≤126):=by simp at h3;omega
  unfold m_E1_j1;intro w1 hs1;refine ⟨_,jJO c.toNat w1,_,jJO c.toNat w1,_,jSM (c.toNat / 16) (by omega) w1,_,xC w1 [92,120] [Sp.jMI (c.toNat / 16)] (by simp) (by simp),_,jFT c.toNat hc w1,_,jFT c.toNat hc w1,_,jSM (c.toNat % 16) (by omega) w1,_,xC w1 [92,120,Sp.jMI (c.toNat / 16)] [Sp.jMI (c.toNat % 16)] (by simp) (by simp),?_,hs.first.hst hs1⟩;unfold Sp.escB;rw [if_neg h,if_neg h2,if_neg h3];rfl
end Go.Proofs
namespace Go.Proofs
open Tryz
attribute [local irreducible] Calls
theorem From.own {p2:Addr} {w0 w w':World} (h2:w0.heap.size≤p2.block) (hE:Pure w0 w) (E:Ext (From p2) w w'):Pure w0 w':=hE.trans' E (fun i hi hf=>by have:p2.block≤i:=hf;omega)
theorem From.kept {p2:Addr} {H:NP} {w w':World} (hH:∀b,H b→b<p2.block) (E:Ext (From p2) w w'):Kept H w w':=E.kept (fun b hb hf=>by have:=hH b hb;have:p2.block≤b:=hf;omega)
abbrev kbox (k:Int) (wd:ByteArray):List Value:=[.bool (Sp.isSigned k),.bool (Sp.isTexted k),.bool (k == 1 || k == 4),.string wd]
theorem jSN (k:Int) (c:Nat) (hc:c<18446744073709551616) (x:ByteArray) (hx:x.size≤64) (wd:ByteArray) (p p2:Addr) {w0 w:World} {H:NP} {T:TypeId} (acc:List UInt8) (ha:acc.length≤1000)
  (hB:Box w p (kbox k wd) T) (hp:p.block<p2.block) (hH:∀b,H b→b<p2.block) (h2:w0.heap.size≤p2.block) (hb:Bld w p2 acc) (hE:Pure w0 w) (ht:Pow w0) :
  m_H_j3 (c:Int) x p p2 w0 H w (fun r w'=>r=⟨(acc++(32 :: Lib.decDigits c)++(if Sp.isTexted k=true then 32 :: Sp.yU x else [])).toArray⟩∧Pure w0 w'):=by
 unfold m_H_j3
 have hd:=nd20 hc
 have hxl:x.data.toList.length=x.size:=by rw [Array.length_toList];rfl
 refine (jHO c hc w (yA ht hE)).mono ?_
 rintro _ w5 ⟨r4,rfl,rfl,E5⟩
 refine ⟨_,rfl,E5.keptP,_,xC w5 [32] _ (by simp) (by omega),?_⟩
 have hE5:=hE.trans E5
 refine (jHG (hb.pure E5) ⟨([32]++Lib.decDigits c).toArray⟩ (by simp [ByteArray.size];omega)).mono ?_
 rintro _ w6 ⟨r5,r6,rfl,b6,E6⟩
 have hE6:=From.own h2 hE5 E6
 have B6:=(hB.pure E5).ext E6 (fun hf=>by have:p2.block≤p.block:=hf;omega)
 have ea:acc++(ByteArray.mk ([32]++Lib.decDigits c).toArray).data.toList=acc++(32 :: Lib.decDigits c):=by simp
 rw [ea] at b6
 generalize hacc:acc++(32 :: Lib.decDigits c)=acc2 at *
 have ha2:acc2.length≤1100:=by rw [← hacc];simp;omega
 refine ⟨_,_,rfl,From.kept hH E6,_,B6.cell (i:=1) rfl,fun ht'=>?_,fun ht'=>?_⟩
 ·rw [if_pos ht']
  refine (jHG b6 ⟨#[32,34]⟩ (by simp [ByteArray.size];omega)).mono ?_
  rintro _ w7 ⟨r7,r8,rfl,b7,E7⟩
  have hE7:=From.own h2 hE6 E7
  refine ⟨_,_,rfl,From.kept hH E7,fun i H' w'=>∃n:Nat,i=n∧n≤x.data.toList.length∧(∀b,H' b→b<p2.block)∧Bld w' p2 (acc2++[32,34]++(x.data.toList.take n).flatMap Sp.escB)∧Pure w0 w',fun i _=>((x.data.toList.length:Int) - i).toNat,⟨0,rfl,Nat.zero_le _,hH,by simpa using b7,hE7⟩,?_⟩
  rintro _ Hl wl hsl ⟨n,rfl,hn,hHl,bl,El⟩
  unfold m_H_l4
  have hfl:((x.data.toList.take n).flatMap Sp.escB).length≤256:=by
   have:=Sp.jIX (x.data.toList.take n);rw [List.length_take] at this;omega
  refine ⟨fun hlt=>?_,fun hlt=>?_⟩
  ·have hlt:n<x.data.toList.length:=by have:=of_decide_eq_true hlt;omega
   refine ⟨_,jOK x n hlt wl,?_⟩
   refine (jEA x.data.toList[n] wl).mono ?_
   rintro _ w8 ⟨r9,rfl,rfl,E8⟩
   refine ⟨_,rfl,E8.keptP,?_⟩
   have he:=Sp.jKH x.data.toList[n]
   refine (jHG (bl.pure E8) ⟨(Sp.escB x.data.toList[n]).toArray⟩ (by rw [List.length_append,List.length_append];simp only [ByteArray.size,List.size_toArray,List.length_cons,List.length_nil];omega)).mono ?_
   rintro _ w9 ⟨r10,r11,rfl,b9,E9⟩
   refine ⟨_,_,rfl,From.kept hHl E9,?_⟩
   rw [kQ hlt (by omega)]
   refine ⟨⟨n+1,rfl,hlt,hHl,?_,From.own h2 (El.trans E8) E9⟩,jNV hlt⟩
   rw [List.take_succ_eq_append_getElem hlt,List.flatMap_append,← List.append_assoc]
   simpa using b9
  ·have:n=x.data.toList.length:=by have:=of_decide_eq_false hlt;omega
   subst this
   rw [List.take_length] at bl
   refine (jOZ bl 34 (by rw [List.take_length] at hfl;rw [List.length_append,List.length_append];simp only [List.length_cons,List.length_nil];omega)).mono ?_
   rintro _ w10 ⟨r12,rfl,b10,E10⟩
   refine ⟨_,rfl,From.kept hHl E10,?_⟩
   refine (jSQ b10).mono ?_
   rintro _ w11 ⟨r13,rfl,rfl,E11⟩
   refine ⟨_,rfl,From.kept hHl E11,?_,From.own h2 (From.own h2 El E10) E11⟩
   simp [Sp.yU]
 ·rw [if_neg (by rw [ht'];decide),List.append_nil]
  refine (jSQ b6).mono ?_
  rintro _ w12 ⟨r14,rfl,rfl,E12⟩
  exact ⟨_,rfl,From.kept hH E12,rfl,From.own h2 hE6 E12⟩
theorem jLU {n:Int} (h:n=0∨n=1):Lib.itoa n=Lib.decDigits n.toNat:=by rcases h with rfl | rfl <;> kernel_rfl
theorem jSO (k f:Int) (hf:f=0∨f=1) (c:Nat) (hc:c<18446744073709551616) (x:ByteArray) (hx:x.size≤64) (g:Bool) (p:Addr) {w0 w:World} {H:NP} {T:TypeId}
  (hB:Box w p (kbox k ⟨(Sp.zU k).toArray⟩) T) (hH:∀b,H b→b<w.heap.size) (hE:Pure w0 w) (ht:Pow w0) :
  m_H_j1 f (c:Int) x g p w0 H w (fun r w'=>r=⟨(Sp.zU k++(if g=true then [33] else [])++(if Sp.isSigned k=true then 32 :: Lib.decDigits f.toNat else [])++(32 :: Lib.decDigits c)++(if Sp.isTexted k=true then 32 :: Sp.yU x else [])).toArray⟩∧Pure w0 w'):=by
 unfold m_H_j1
 intro p2 w3 n2
 have hp2:=n2.at_size
 have E3:Pure w w3:=Ext.new n2
 have B3:=hB.pure E3
 have hpl:=hB.lt
 have h2:w0.heap.size≤p2.block:=by have:=hE.size;omega
 have hH2:∀b,H b→b<p2.block:=fun b hb=>by have:=hH b hb;omega
 have hE3:=hE.trans E3
 have hw:=Sp.jBT k
 refine ⟨_,B3.cell (i:=3) rfl,?_⟩
 refine (jHG (Bld.new n2) ⟨(Sp.zU k).toArray⟩ (by simp [ByteArray.size];omega)).mono ?_
 rintro _ w4 ⟨r2,r3,rfl,b4,E4⟩
 have B4:=B3.ext E4 (fun hf=>by have:p2.block≤p.block:=hf;omega)
 have hE4:=From.own h2 hE3 E4
 rw [show []++(ByteArray.mk (Sp.zU k).toArray).data.toList=Sp.zU k by simp] at b4
 have j2:∀acc w,acc.length≤20→Box w p (kbox k ⟨(Sp.zU k).toArray⟩) T→Bld w p2 acc→Pure w0 w→m_H_j2 f (c:Int) x p p2 w0 H w (fun r w'=>r=⟨(acc++(if Sp.isSigned k=true then 32 :: Lib.decDigits f.toNat else [])++(32 :: Lib.decDigits c)++(if Sp.isTexted k=true then 32 :: Sp.yU x else [])).toArray⟩∧Pure w0 w'):=by
  intro acc w ha B b E;unfold m_H_j2;refine ⟨_,B.cell0,fun hs=>?_,fun hs=>?_⟩
  ·rw [if_pos hs];refine (c_Itoa f (by omega) (by omega) w (yA ht E)).mono ?_;rintro _ w13 ⟨r15,rfl,rfl,E13⟩;rw [jLU hf];have hd:=nd20 (n:=f.toNat) (by omega);refine ⟨_,rfl,E13.keptP,_,xC w13 [32] _ (by simp) (by omega),?_⟩;refine (jHG (b.pure E13) ⟨([32]++Lib.decDigits f.toNat).toArray⟩ (by simp [ByteArray.size];omega)).mono ?_;rintro _ w14 ⟨r16,r17,rfl,b14,E14⟩;replace b14:Bld w14 p2 (acc++(32 :: Lib.decDigits f.toNat)):=by simpa using b14
   have B14:=(B.pure E13).ext E14 (fun hf=>by have:p2.block≤p.block:=hf;omega);exact ⟨_,_,rfl,From.kept hH2 E14,jSN k c hc x hx _ p p2 _ (by simp;omega) B14 (by omega) hH2 h2 b14 (From.own h2 (E.trans E13) E14) ht⟩
  ·rw [if_neg (by rw [hs];decide),List.append_nil];exact jSN k c hc x hx _ p p2 _ (by omega) B (by omega) hH2 h2 b E ht
 refine ⟨_,_,rfl,From.kept hH2 E4,fun hg=>?_,fun hg=>?_⟩
 ·rw [if_pos hg]
  refine (jOZ b4 33 (by omega)).mono ?_
  rintro _ w15 ⟨r18,rfl,b15,E15⟩
  exact ⟨_,rfl,From.kept hH2 E15,j2 _ w15 (by simp;omega) (B4.ext E15 (fun hf=>by have:p2.block≤p.block:=hf;omega)) b15 (From.own h2 hE4 E15)⟩
 ·rw [if_neg (by rw [hg];decide),List.append_nil]
  exact j2 _ w4 (by omega) B4 b4 hE4
set_option maxRecDepth 100000 in
theorem jCV (l:Sp.Letter) (hc:Sp.vU l.c) (w0:World) (ht:Pow w0):Calls prog 12 #[.agg #[.int .i64 l.kind,.int .i64 l.frm,.int .u64 l.c,.string l.text,.bool l.fake]] w0 (fun e w'=>∃r:ByteArray,e=.returned (.string r)∧(r=⟨(Sp.xL l).toArray⟩∧Pure w0 w')):=by
 refine w_H _ _ _ _ _ w0 (fun r w'=>r=⟨(Sp.xL l).toArray⟩∧Pure w0 w') ?_;unfold m_H;intro H1 w1 hs;have E1:=hs.first;refine (jCW l w1).mono ?_;rintro _ w2 ⟨r1,rfl,hr,E2⟩;have E02:=E1.trans E2;refine ⟨_,rfl,E2.keptP,fun h=>⟨?_,E02⟩,fun h=>?_⟩
 ·unfold Sp.xL;rw [if_pos (by rw [← hr];exact bne_iff_ne.1 h)]
 have h0:Sp.zS l=0:=by rw [← hr];simpa using h
 obtain ⟨k,f,c,x,g⟩:=l;obtain ⟨hk,hf,_,_,_,hx⟩:=Sp.uQ h0;obtain ⟨c,rfl⟩:∃n:Nat,c=(n:Int):=⟨c.toNat,by have:=hc.1;simp only at this;omega⟩;have hc':c<18446744073709551616:=by have:=hc.2;simp only at this;omega
 have e:Sp.xL ⟨k,f,(c:Int),x,g⟩=Sp.zU k++(if g=true then [33] else [])++(if Sp.isSigned k=true then 32 :: Lib.decDigits f.toNat else [])++(32 :: Lib.decDigits c)++(if Sp.isTexted k=true then 32 :: Sp.yU x else []):=by
  unfold Sp.xL;rw [if_neg (by simpa using h0)];rfl
 rw [e];simp only;have idx:∀w':World,(Instr.index 77 (.agg jCP) (.int .i64 k)).run prog w'=.ok (.agg #[.bool (Sp.isSigned k),.bool (Sp.isTexted k),.bool (k == 1 || k == 4),.string ⟨(Sp.zU k).toArray⟩]) w':=by
  rcases hk with rfl | rfl | rfl | rfl | rfl | rfl | rfl <;> exact fun w'=>by kernel_rfl
 refine ⟨fun _=>True,trivial,?_⟩;rintro w9 e9;have E9:Pure w2 w9:=by rw [e9];exact Ext.drew w2
 have hH:∀b,H1 b→b<w9.heap.size:=fun b hb=>by have:=hs.lt b hb;have:=E9.size;have:=E2.size;omega
 refine ⟨?_,?_⟩
 ·refine (yR w9).mono ?_;rintro _ w10 ⟨_,rfl,rfl,E10⟩;refine ⟨_,rfl,trivial,E10.keptP,_,_,_,_,fun w' _=>idx w',?_⟩;intro p2 w11 n11;have b11:=n11.at_size;have z10:=E10.size;refine ⟨trivial,(Box.of_newA n11).canWs (by simp),fun hh=>by have:=hH _ hh;omega,?_⟩;rintro w12 e12;have X:Ext (·=p2.block) w11 w12:=by rw [e12];exact Ext.storeRow _ _ _
  have B:Box w12 p2 (kbox k ⟨(Sp.zU k).toArray⟩) 76:=by rw [e12];exact (Box.of_newA n11).store rfl
  have z2:=E02.size;have z9:=E9.size;have z11:w11.heap.size≤w12.heap.size:=X.size;have zn:w10.heap.size≤w11.heap.size:=(Ext.new n11:Pure w10 w11).size;exact jSO k f hf c hc' x hx g p2 B (fun b hb=>by have:=hH b hb;omega) ((((E02.trans E9).trans E10).trans (Ext.new n11)).own (by omega) X) ht
 ·intro p3 w13 n13;refine ⟨trivial,?_⟩;have b13:=n13.at_size;have E13:Pure w9 w13:=Ext.new n13;refine (yR w13).mono ?_;rintro _ w14 ⟨_,rfl,rfl,E14⟩;have B14:=(Box.of_newA n13).pure E14;refine ⟨_,rfl,trivial,E14.keptP,_,_,_,_,fun w' _=>idx w',B14.canWs (by simp),fun hh=>by have:=hH _ hh;omega,?_⟩;rintro w15 e15;have X:Ext (·=p3.block) w14 w15:=by rw [e15];exact Ext.storeRow _ _ _
  have B:Box w15 p3 (kbox k ⟨(Sp.zU k).toArray⟩) 76:=by rw [e15];exact B14.store rfl
  have z2:=E02.size;have z9:=E9.size;have z13:=E13.size;have z14:=E14.size;have z15:w14.heap.size≤w15.heap.size:=X.size;exact jSO k f hf c hc' x hx g p3 B (fun b hb=>by have:=hH b hb;omega) ((((E02.trans E9).trans E13).trans E14).own (by omega) X) ht
end Go.Proofs
end
section
namespace Go.Proofs
open Tryz
open Go.Shelf
def jGO:Go.Shelf.Ren:=⟨fun | 14=>55 | 16=>72 | 17=>73 | 19=>108 | 20=>109 | 21=>110 | 22=>111 | 23=>112 | 24=>113 | 25=>129 | 27=>33 | 26=>130 | 28=>58 | 29=>75 | 30=>76 | 31=>77 | 32=>78 | 33=>79 | 35=>115 | 34=>114 | 36=>116 | 37=>117 | 38=>118 | 39=>131 | 40=>132 | n=>n,fun | 9=>9 | 3=>3 | 22=>22 | 24=>87 | 25=>116 | 4=>4 | 34=>176 | 5=>5 | 36=>119 | 37=>25 | 0=>0 | 39=>179 | 21=>21 | 44=>195 | 47=>120 | 50=>201 | 48=>199 | 2=>2 | 52=>150 | 55=>153 | 59=>184 | 60=>185 | 20=>20 | 61=>186 | 65=>202 | 66=>203 | 67=>81 | n=>n,fun | 0=>2 | 1=>3 | 2=>0 | 3=>4 | 4=>5 | n=>n⟩
theorem jKB:Go.Proofs.LaysPu.n14 prog jGO:={
 mixed:=by kernel_rfl
 f14:=func55.trans (congrArg some (by kernel_rfl))
 f16:=func72.trans (congrArg some (by kernel_rfl))
 f17:=func73.trans (congrArg some (by kernel_rfl))
 f19:=func108.trans (congrArg some (by kernel_rfl))
 f20:=func109.trans (congrArg some (by kernel_rfl))
 f21:=func110.trans (congrArg some (by kernel_rfl))
 f22:=func111.trans (congrArg some (by kernel_rfl))
 f23:=func112.trans (congrArg some (by kernel_rfl))
 f24:=func113.trans (congrArg some (by kernel_rfl))
 f25:=func129.trans (congrArg some (by kernel_rfl))
 f26:=func130.trans (congrArg some (by kernel_rfl))
 f27:=func33.trans (congrArg some (by kernel_rfl))
 f28:=func58.trans (congrArg some (by kernel_rfl))
 f29:=func75.trans (congrArg some (by kernel_rfl))
 f30:=func76.trans (congrArg some (by kernel_rfl))
 f31:=func77.trans (congrArg some (by kernel_rfl))
 f32:=func78.trans (congrArg some (by kernel_rfl))
 f33:=func79.trans (congrArg some (by kernel_rfl))
 f34:=func114.trans (congrArg some (by kernel_rfl))
 f35:=func115.trans (congrArg some (by kernel_rfl))
 f36:=func116.trans (congrArg some (by kernel_rfl))
 f37:=func117.trans (congrArg some (by kernel_rfl))
 f38:=func118.trans (congrArg some (by kernel_rfl))
 f39:=func131.trans (congrArg some (by kernel_rfl))
 f40:=func132.trans (congrArg some (by kernel_rfl))
 t0:=underlying0
 a0:=isAgg0
 z0:=sizeOf0
 v0:=zeroValue0
 i0:=by kernel_rfl
 t2:=underlying2
 a2:=isAgg2
 z2:=sizeOf2
 v2:=zeroValue2
 i2:=by kernel_rfl
 t3:=underlying3
 a3:=isAgg3
 z3:=sizeOf3
 v3:=zeroValue3
 i3:=by kernel_rfl
 t4:=underlying4
 a4:=isAgg4
 z4:=sizeOf4
 v4:=zeroValue4
 i4:=by kernel_rfl
 t5:=underlying5
 a5:=isAgg5
 z5:=sizeOf5
 v5:=zeroValue5
 i5:=by kernel_rfl
 t9:=underlying9
 a9:=isAgg9
 z9:=sizeOf9
 v9:=zeroValue9
 i9:=by kernel_rfl
 t20:=underlying20
 a20:=isAgg20
 z20:=sizeOf20
 v20:=zeroValue20
 i20:=by kernel_rfl
 t21:=underlying21
 a21:=isAgg21
 z21:=sizeOf21
 v21:=zeroValue21
 i21:=by kernel_rfl
 t22:=underlying22
 a22:=isAgg22
 z22:=sizeOf22
 v22:=zeroValue22
 i22:=by kernel_rfl
 t24:=underlying87
 a24:=isAgg87
 z24:=sizeOf87
 v24:=zeroValue87
 i24:=by kernel_rfl
 t25:=underlying116
 a25:=isAgg116
 z25:=sizeOf116
 v25:=zeroValue116
 i25:=by kernel_rfl
 t34:=underlying176
 a34:=isAgg176
 z34:=sizeOf176
 v34:=zeroValue176
 i34:=by kernel_rfl
 c34:=by kernel_rfl
 t36:=underlying119
 a36:=isAgg119
 z36:=sizeOf119
 v36:=zeroValue119
 i36:=by kernel_rfl
 t37:=underlying25
 a37:=isAgg25
 z37:=sizeOf25
 v37:=zeroValue25
 i37:=by kernel_rfl
 t39:=underlying179
 a39:=isAgg179
 z39:=sizeOf179
 v39:=zeroValue179
 i39:=by kernel_rfl
 t44:=underlying195
 a44:=isAgg195
 z44:=sizeOf195
 v44:=zeroValue195
 i44:=by kernel_rfl
 t47:=underlying120
 a47:=isAgg120
 z47:=sizeOf120
 v47:=zeroValue120
 i47:=by kernel_rfl
 t48:=underlying199
 a48:=isAgg199
 z48:=sizeOf199
 v48:=zeroValue199
 i48:=by kernel_rfl
 t50:=underlying201
 a50:=isAgg201
 z50:=sizeOf201
 v50:=zeroValue201
 i50:=by kernel_rfl
 t52:=underlying150
 a52:=isAgg150
 z52:=sizeOf150
 v52:=zeroValue150
 i52:=by kernel_rfl
 t55:=underlying153
 a55:=isAgg153
 z55:=sizeOf153
 v55:=zeroValue153
 i55:=by kernel_rfl
 t59:=underlying184
 a59:=isAgg184
 z59:=sizeOf184
 v59:=zeroValue184
 i59:=by kernel_rfl
 t60:=underlying185
 a60:=isAgg185
 z60:=sizeOf185
 v60:=zeroValue185
 i60:=by kernel_rfl
 t61:=underlying186
 a61:=isAgg186
 z61:=sizeOf186
 t65:=underlying202
 a65:=isAgg202
 z65:=sizeOf202
 v65:=zeroValue202
 i65:=by kernel_rfl
 t66:=underlying203
 a66:=isAgg203
 z66:=sizeOf203
 v66:=zeroValue203
 i66:=by kernel_rfl
 t67:=underlying81
 a67:=isAgg81
 z67:=sizeOf81
 v67:=zeroValue81
 i67:=by kernel_rfl
 g0:=by kernel_rfl
 m0:=by kernel_rfl
 g1:=by kernel_rfl
 m1:=by kernel_rfl
 g2:=by kernel_rfl
 m2:=by kernel_rfl
 g3:=by kernel_rfl
 m3:=by kernel_rfl
 g4:=by kernel_rfl
 m4:=by kernel_rfl }
theorem jOF (s:ByteArray) (hmax:s.size≤9223372036854775806) (u:Nat) (h:Lib.parseUintB 64 s.data.toList=.ok u) (w:World) :
  Calls prog 55 #[.string s,.int .i64 10,.int .i64 64] w (fun e w'=>e=.returned (.tuple #[.int .u64 u,.nilIface])∧(w'=w∨w'=Lib.bytesWorld w 5 s)):=Any.strconv_ParseUint_10_at64_ok jKB s hmax u h w
theorem jGR (s : ByteArray) (hlim : s.size ≤ 281474976710656) (h : Lib.parseUintB 64 s.data.toList = .range) (tp : TypeId) (p : Value) (w : World) (hvar : w.var? prog "strconv.ErrRange" = some #[.iface tp p]) :
  Calls prog 55 #[.string s,.int .i64 10,.int .i64 64] w (fun e w'=>∃N,e=.returned (.tuple #[.int .u64 18446744073709551615,.iface 179 (.pointer (some ⟨N,0,none⟩))])∧w.heap.size≤N∧w'.heap[N]?=some (.cells #[.string ⟨#[80,97,114,115,101,85,105,110,116]⟩,.string s,.iface tp p] 195 (0,0))∧RowKit.Below w.heap.size w w'):=Any.strconv_ParseUint_10_at64_range_var jKB s hlim h tp p w hvar
end Go.Proofs
end
section
open Go Go.SE
namespace Go.Proofs
open Tryz
attribute [local irreducible] Calls
abbrev ErrV (w : World) : Prop := ∃ tp p, w.var? prog "strconv.ErrRange" = some #[.iface tp p]
theorem jDR (M:Nat) (hM:M=18446744073709551615):∀(l:List UInt8) (acc:Nat),(∀c∈l,Sp.isDig c=true)→acc≤M→Lib.parseUintM M acc l=if l.foldl (fun n c=>10*n+(c.toNat - 48)) acc≤M then .ok (l.foldl (fun n c=>10*n+(c.toNat - 48)) acc) else .range
 | [],acc,_,ha=>by rw [Lib.parseUintM,List.foldl_nil,if_pos ha]
 | c :: r,acc,hd,ha=>by
  have hc:=hd c (by simp);unfold Sp.isDig at hc;rw [Bool.and_eq_true,decide_eq_true_eq,decide_eq_true_eq] at hc;have mono:∀(l:List UInt8) (a:Nat),a≤l.foldl (fun n c=>10*n+(c.toNat - 48)) a:=by
   intro l;induction l with
   | nil=>intro a;exact Nat.le_refl _
   | cons d l ih=>intro a;rw [List.foldl_cons];have:=ih (10*a+(d.toNat - 48));omega
  have hm:=mono r (10*acc+(c.toNat - 48));rw [Lib.parseUintM,if_pos hc,List.foldl_cons];by_cases h1:1844674407370955162≤acc
  ·rw [if_pos h1,if_neg (by omega)]
  ·rw [if_neg h1];by_cases h2:M<acc*10+(c.toNat - 48)
   ·rw [if_pos h2,if_neg (by omega)]
   ·rw [if_neg h2,Nat.mul_comm acc 10,jDR M hM r _ (fun d hd'=>hd d (by simp [hd'])) (by omega)]
theorem jNJ {l:List UInt8} (hd:∀c∈l,Sp.isDig c=true) (hne:l≠[]):Lib.parseUintB 64 l=if Sp.decV l≤18446744073709551615 then .ok (Sp.decV l) else .range:=by
 unfold Lib.parseUintB;rw [if_neg hne];exact jDR _ (by decide) l 0 hd (by decide)
theorem jJH (l:List UInt8) (hd:∀c∈l,Sp.isDig c=true) (hne:l≠[]) (hl:l.length≤10000000) (w:World) (hv:ErrV w) :
  Calls prog 55 #[.string ⟨l.toArray⟩,.int .i64 10,.int .i64 64] w (fun e w'=>Pure w w'∧((Sp.decV l<18446744073709551616∧e=.returned (.tuple #[.int .u64 (Sp.decV l:Int),.nilIface]))∨(18446744073709551616≤Sp.decV l∧∃k T v,e=.returned (.tuple #[.int .u64 k,.iface T v])))):=by
 have hsz:(ByteArray.mk l.toArray).size=l.length:=by simp [ByteArray.size]
 have hB:=jNJ hd hne
 by_cases h:Sp.decV l≤18446744073709551615
 ·rw [if_pos h] at hB
  refine (jOF ⟨l.toArray⟩ (by omega) _ (by simpa using hB) w).mono ?_
  rintro e w' ⟨rfl,hw⟩
  refine ⟨?_,.inl ⟨by omega,rfl⟩⟩
  rcases hw with rfl | rfl
  ·exact Ext.refl _
  ·exact (jCT (Joins.below_bytesWorld w.heap.size w _ _ (Nat.le_refl _))).mono (fun i hi h=>by have:w.heap.size≤i:=h;omega)
 ·rw [if_neg h] at hB
  obtain ⟨tp,p,hv⟩:=hv
  refine (jGR ⟨l.toArray⟩ (by omega) (by simpa using hB) tp p w hv).mono ?_
  rintro e w' ⟨N,rfl,_,_,hb⟩
  exact ⟨(jCT hb).mono (fun i hi h=>by have:w.heap.size≤i:=h;omega),.inr ⟨by omega,_,_,_,rfl⟩⟩
theorem jOQ {w w':World} (h:ErrV w) (E:Pure w w'):ErrV w':=by
 obtain ⟨tp,p,h⟩:=h;refine ⟨tp,p,?_⟩;unfold World.var? at *;cases hg : prog.globalNamed "strconv.ErrRange" with
 | none=>simp [hg] at h
 | some g =>
  simp only [hg,Option.bind_some] at h ⊢
  cases hh:w.heap[g]? with
  | none=>simp [hh] at h
  | some o=>rw [E.heap hh id];rw [hh] at h;exact h
section
variable {w:World} {a:Addr}
abbrev bts (x:ByteArray):List UInt8:=x.data.toList
theorem lB (x:ByteArray):(bts x).length=x.size:=by rw [bts,Array.length_toList];rfl
theorem jLY (x:ByteArray) (n:Nat) (h:n<(bts x).length) (w:World):(Instr.index 9 (.string x) (.int .i64 (n:Int))).run prog w=.ok (.int .u8 ((bts x)[n].toNat:Int)) w:=jOK x n h w
theorem uD {k:Nat} {v:Value}:Ext (·=a.block) w (w.setCell (a.add k) v):=(Ext.setCell _ _).mono (fun i _ e=>by rw [zA] at e;exact e)
theorem vY {k m:Nat} (h:k≤m) (hm:m≤100000000):IntKind.i64.wrap ((k:Int)+1)=((k+1:Nat):Int):=by rw [IntWalk.i64_in _ (by omega)];omega
def ErrK (w0:World) (a:Addr):Prop:=∀w,Ext (·=a.block) w0 w→ErrV w
theorem ErrK.ext {w0 w1:World} {a:Addr} (h:ErrK w0 a) (E:Ext (·=a.block) w0 w1):ErrK w1 a:=fun w E'=>h w (E.trans E')
theorem jFP (x:ByteArray) (i k:Nat) (h:i+k≤(bts x).length) (w:World):(Instr.sliceAt 9 (.string x) (some (.int .i64 (i:Int))) (some (.int .i64 ((i+k:Nat):Int))) none).run prog w=.ok (.string ⟨(((bts x).drop i).take k).toArray⟩) w:=by
 have hl:=lB x;rw [run_sliceAt_string _ _ _ _ _ _ underlying9,run_slice_string_if _ _ _ _ _ _ _ underlying9,if_pos ⟨by omega,by omega⟩,if_pos ⟨by omega,by omega⟩];have:x.extract (i:Int).toNat ((i+k:Nat):Int).toNat=⟨(((bts x).drop i).take k).toArray⟩:=by
  simp only [Int.toNat_natCast];apply ByteArray.ext;rw [ByteArray.data_extract];apply Array.toList_inj.1;rw [Array.toList_extract];simp [bts,List.extract_eq_take_drop]
 rw [this]
theorem jNB (w:World):(Go.binOp .neq 87 (.nilIface:Value) (.nilIface:Value)).run prog w=.ok (.bool false) w:=by kernel_rfl
theorem jTJ (T:TypeId) (v:Value) (w:World):(Go.binOp .neq 87 (.iface T v) (.nilIface:Value)).run prog w=.ok (.bool true) w:=by kernel_rfl
end
end Go.Proofs
end
