import Derived.Test.YtodiipjdnnnieaaGreatPa6
import Derived.Test.YtodiipjdnnnieaaGreatProg
import Derived.KernelRfl
import Derived.Test.YtodiipjdnnnieaaGreatPa3
import Derived.Test.YtodiipjdnnnieaaGreatPa4
section
namespace Go.Sp
def IsL (x:Tree) (l:Letter):Prop:=letErr l=0∧∃a b:Bool,(l.kind=4→l.fake=(a || b))∧x=letterT l a b
theorem letErr_inv {k f c:Int} {x:ByteArray} {g:Bool} (h:letErr ⟨k,f,c,x,g⟩=0):(k=1∨k=2∨k=3∨k=4∨k=5∨k=6∨k=7)∧(f=0∨f=1)∧(isSigned k=false→f=0)∧(isTexted k=false→x=⟨#[]⟩)∧(g=true→k=1∨k=4)∧x.size≤64:=by
 unfold letErr at h
 simp only at h
 split at h
 ·cases h
 rename_i hh
 split at h
 ·cases h
 simp only [not_or,not_and,Classical.not_not] at hh
 obtain ⟨h1,h2,h3,h4,h5,h6⟩:=hh
 refine ⟨by omega,?_,h4,h5,?_,by omega⟩
 ·by_cases h0:f=0
  ·exact .inl h0
  ·exact .inr (h3 h0)
 ·intro hg
  by_cases h1:k=1
  ·exact .inl h1
  ·exact .inr (h6 hg h1)
theorem letErr_of {k f c:Int} {x:ByteArray} {g:Bool} (hk:1≤k∧k≤7) (hf:f=0∨f=1) (h1:isSigned k=false→f=0) (h2:isTexted k=false→x=⟨#[]⟩) (h3:g=true→k=1∨k=4) (hx:x.size≤64):letErr ⟨k,f,c,x,g⟩=0:=by
 unfold letErr
 simp only
 rw [if_neg,if_neg (by omega)]
 simp only [not_or,not_and,Classical.not_not]
 refine ⟨by omega,by omega,fun h0=>hf.resolve_left h0,h1,h2,fun hg h1=>(h3 hg).resolve_left h1⟩
section
variable {L:Pool} (hW:Wf L) {t:Int}
include hW
theorem rdResolve_ok {who:Int} (h:(rdResolve L who t).2=false):∃c x a b,(rdResolve L who t).1=⟨4,who,c,x,a || b⟩∧x.size≤64∧treeOf L t=pairT (promT 0 (dealT c x) a) (promT 1 (dealT c x) b):=by
 unfold rdResolve at h ⊢
 simp only [Bool.or_eq_false_iff,Bool.not_eq_false',decide_eq_true_eq,bne_eq_false_iff_eq] at h
 obtain ⟨⟨⟨⟨⟨⟨h1,h2⟩,h3⟩,h4⟩,h5⟩,h6⟩,h7⟩:=h
 obtain ⟨ht,hk,e⟩:=rdNode_ok h1
 simp only
 rw [e] at h2 h3 h4 h5 h6 h7 ⊢
 simp only at h2 h3 h4 h5 h6 h7 ⊢
 obtain ⟨ha,hb,hT⟩:=nd4 hW ht hk
 obtain ⟨_,_,ea,hx⟩:=rdPromise_ok hW ha h2
 obtain ⟨_,_,eb,_⟩:=rdPromise_ok hW hb h3
 refine ⟨_,_,_,_,rfl,hx,?_⟩
 rw [hT,ea,eb,h4,h5,h6,h7]
theorem rdResolve_of (ht:inP L t=true) {who c:Int} {x:ByteArray} {a b:Bool} (h:treeOf L t=pairT (promT 0 (dealT c x) a) (promT 1 (dealT c x) b)):rdResolve L who t=(⟨4,who,c,x,a || b⟩,false):=by
 have hk:=(nd_kind hW ht (h.trans rfl)).1
 obtain ⟨h1,h2,h3⟩:=nd4 hW ht hk
 rw [h] at h3
 have q1:=(List.cons.inj (Tree.mk.inj h3).2.2.2.2.2).1
 have q2:=(List.cons.inj (List.cons.inj (Tree.mk.inj h3).2.2.2.2.2).2).1
 unfold rdResolve
 simp only
 rw [rdNode_of ht hk]
 simp only
 rw [rdPromise_of hW h1 (.inl rfl) q1.symm,rdPromise_of hW h2 (.inr rfl) q2.symm]
 simp
theorem rdSigned_ok {who:Int} (hw:0≤who) (h:(rdSigned L who t).2=false):IsL (signT who (treeOf L t)) (rdSigned L who t).1:=by
 unfold rdSigned at h ⊢
 simp only at h ⊢
 by_cases c1:(rdTagged L t).1.1=wAbort∧who=0
 ·rw [if_pos c1] at h ⊢
  simp only [Bool.or_eq_false_iff] at h
  obtain ⟨ht,hn,e⟩:=rdTagged_ok hW h.1
  show IsL _ ⟨3,0,_,⟨#[]⟩,false⟩
  refine ⟨letErr_of (by omega) (.inl rfl) (fun _=>rfl) (fun _=>rfl) (fun h=>nomatch h) (Nat.zero_le _),false,false,by simp,?_⟩
  rw [e,c1.1,c1.2,(rdNum_ok hW h.2).2];rfl
 rw [if_neg c1] at h ⊢
 by_cases c2:(rdTagged L t).1.1=wAborted∧who=2
 ·rw [if_pos c2] at h ⊢
  simp only [Bool.or_eq_false_iff] at h
  obtain ⟨ht,hn,e⟩:=rdTagged_ok hW h.1
  show IsL _ ⟨5,0,_,⟨#[]⟩,false⟩
  refine ⟨letErr_of (by omega) (.inl rfl) (fun _=>rfl) (fun _=>rfl) (fun h=>nomatch h) (Nat.zero_le _),false,false,by simp,?_⟩
  rw [e,c2.1,c2.2,(rdNum_ok hW h.2).2];rfl
 rw [if_neg c2] at h ⊢
 by_cases c3:(rdTagged L t).1.1=wInstead∧who=2
 ·rw [if_pos c3] at h ⊢
  simp only [Bool.or_eq_false_iff] at h
  obtain ⟨ht,hn,e⟩:=rdTagged_ok hW h.1
  obtain ⟨_,e2,hx⟩:=rdDeal_ok hW h.2
  refine ⟨letErr_of (by omega) (.inl rfl) (fun _=>rfl) (by simp [isTexted]) (by simp) hx,false,false,by simp,?_⟩
  rw [e,c3.1,c3.2,e2];rfl
 rw [if_neg c3] at h ⊢
 by_cases c4:(rdTagged L t).1.1=wDeal∧who≤1
 ·rw [if_pos c4] at h ⊢
  simp only [Bool.or_eq_false_iff] at h
  obtain ⟨_,e2,hx⟩:=rdDeal_ok hW h.2
  refine ⟨letErr_of (by omega) (by omega) (by simp [isSigned]) (by simp [isTexted,isSigned]) (by simp) hx,false,false,by simp,?_⟩
  rw [e2];rfl
 rw [if_neg c4] at h ⊢
 by_cases c5:(rdTagged L t).1.1=wResolve∧who≤1
 ·rw [if_pos c5] at h ⊢
  simp only [Bool.or_eq_false_iff] at h
  obtain ⟨ht,hn,e⟩:=rdTagged_ok hW h.1
  obtain ⟨c,x,a,b,e2,hx,e3⟩:=rdResolve_ok hW h.2
  rw [e2]
  refine ⟨letErr_of (by omega) (by omega) (by simp [isSigned]) (by simp [isTexted,isSigned]) (by simp) hx,a,b,by simp,?_⟩
  rw [e,c5.1,e3]
  cases a <;> cases b <;> rfl
 rw [if_neg c5] at h
 cases h
theorem readQ_ok (ht:inP L t=true) (h:(readQ L t).2=false):IsL (treeOf L t) (readQ L t).1:=by
 unfold readQ at h ⊢
 simp only at h ⊢
 by_cases c1:(nodeOf L t).kind=7
 ·rw [if_pos c1] at h ⊢
  obtain ⟨h1,h2,h3⟩:=nd7 hW ht c1
  rw [h3]
  exact rdSigned_ok hW h2 h
 rw [if_neg c1] at h ⊢
 by_cases c2:(nodeOf L t).kind=8∨(nodeOf L t).kind=9
 ·rw [if_pos c2] at h ⊢
  obtain ⟨h1,h2,h3,h4⟩:=rdPromise_ok hW ht h
  generalize rdPromise L t=r at *
  obtain ⟨⟨k,f,c,x,g⟩,b⟩:=r
  simp only at h1 h2 h3 h4 ⊢
  subst h1
  exact ⟨letErr_of (by omega) h2 (by simp [isSigned]) (by simp [isTexted,isSigned]) (by simp) h4,false,false,by simp,h3⟩
 rw [if_neg c2] at h ⊢
 split at h
 ·cases h
 rename_i c3
 rw [if_neg c3]
 simp only [Bool.or_eq_true,Bool.not_eq_true',decide_eq_false_iff_not,not_or,Classical.not_not,Bool.not_eq_true] at c3
 obtain ⟨_,hn,e⟩:=rdTagged_ok hW c3.1
 show IsL _ ⟨7,0,_,⟨#[]⟩,false⟩
 refine ⟨letErr_of (by omega) (.inl rfl) (fun _=>rfl) (fun _=>rfl) (fun h=>nomatch h) (Nat.zero_le _),false,false,by simp,?_⟩
 rw [e,c3.2,(rdNum_ok hW h).2];rfl
theorem readQ_of (ht:inP L t=true) {l:Letter} (h:IsL (treeOf L t) l):readQ L t=(l,false):=by
 obtain ⟨k,f,c,x,g⟩:=l
 obtain ⟨h1,a,b,h4,hT⟩:=h
 obtain ⟨hk,hf,hs,hx,hg,_⟩:=letErr_inv h1
 have tagged:∀{who:Int} {gg:ByteArray} {y:Tree},treeOf L t=signT who (pairT (dataT gg) y)→(nodeOf L t).kind=7∧(nodeOf L t).frm=who∧inP L (nodeOf L t).a=true∧treeOf L (nodeOf L t).a=pairT (dataT gg) y∧∃n,rdTagged L (nodeOf L t).a=((gg,n),false)∧inP L n=true∧treeOf L n=y:=by
  intro who gg y e
  have k:=nd_kind hW ht (e.trans rfl)
  obtain ⟨q1,_,q3⟩:=nd7 hW ht k.1
  rw [e] at q3
  have q:=(List.cons.inj (Tree.mk.inj q3).2.2.2.2.2).1
  exact ⟨k.1,k.2.1,q1,q.symm,rdTagged_of hW q1 q.symm⟩
 rcases hk with rfl | rfl | rfl | rfl | rfl | rfl | rfl
 ·have e:treeOf L t=promT f (dealT c x) g:=hT
  have k:=nd_kind hW ht (e.trans rfl)
  unfold readQ
  simp only
  rw [if_neg (by rw [k.1];cases g <;> decide),if_pos (by rw [k.1];cases g <;> decide),rdPromise_of hW ht hf e]
 ·have e:treeOf L t=signT f (dealT c x):=hT
  have:g=false:=by cases g with
   | false=>rfl
   | true=>exact absurd (hg rfl) (by omega)
  subst this
  obtain ⟨k,kf,h1,h2,n,e1,hn,e2⟩:=tagged e
  unfold readQ rdSigned
  simp only
  rw [if_pos k,e1,kf]
  simp only
  rw [if_neg (fun q=>absurd q.1 (by decide)),if_neg (fun q=>absurd q.1 (by decide)),if_neg (fun q=>absurd q.1 (by decide)),if_pos ⟨trivial,by omega⟩,rdDeal_of hW h1 h2]
  rfl
 ·obtain rfl:f=0:=hs rfl
  obtain rfl:x=⟨#[]⟩:=hx rfl
  have:g=false:=by cases g with
   | false=>rfl
   | true=>exact absurd (hg rfl) (by omega)
  subst this
  have e:treeOf L t=signT 0 (pairT (dataT wAbort) (numT c)):=hT
  obtain ⟨k,kf,h1,h2,n,e1,hn,e2⟩:=tagged e
  obtain ⟨u1,u2⟩:=rdNum_of hW hn e2
  unfold readQ rdSigned
  simp only
  rw [if_pos k,e1,kf]
  simp only
  rw [if_pos ⟨trivial,trivial⟩,u1,u2]
  rfl
 ·have e:treeOf L t=signT f (pairT (dataT wResolve) (pairT (promT 0 (dealT c x) (g && a)) (promT 1 (dealT c x) (g && b)))):=hT
  obtain ⟨k,kf,h1,h2,n,e1,hn,e2⟩:=tagged e
  have hgg:((g && a) || (g && b))=g:=by
   have:=h4 rfl
   simp only at this
   subst this
   cases a <;> cases b <;> rfl
  unfold readQ rdSigned
  simp only
  rw [if_pos k,e1,kf]
  simp only
  rw [if_neg (fun q=>absurd q.1 (by decide)),if_neg (fun q=>absurd q.1 (by decide)),if_neg (fun q=>absurd q.1 (by decide)),if_neg (fun q=>absurd q.1 (by decide)),if_pos ⟨trivial,by omega⟩,rdResolve_of hW hn e2,hgg]
  rfl
 ·obtain rfl:f=0:=hs rfl
  obtain rfl:x=⟨#[]⟩:=hx rfl
  have:g=false:=by cases g with
   | false=>rfl
   | true=>exact absurd (hg rfl) (by omega)
  subst this
  have e:treeOf L t=signT 2 (pairT (dataT wAborted) (numT c)):=hT
  obtain ⟨k,kf,h1,h2,n,e1,hn,e2⟩:=tagged e
  obtain ⟨u1,u2⟩:=rdNum_of hW hn e2
  unfold readQ rdSigned
  simp only
  rw [if_pos k,e1,kf]
  simp only
  rw [if_neg (fun q=>absurd q.1 (by decide)),if_pos ⟨trivial,trivial⟩,u1,u2]
  rfl
 ·obtain rfl:f=0:=hs rfl
  have:g=false:=by cases g with
   | false=>rfl
   | true=>exact absurd (hg rfl) (by omega)
  subst this
  have e:treeOf L t=signT 2 (pairT (dataT wInstead) (dealT c x)):=hT
  obtain ⟨k,kf,h1,h2,n,e1,hn,e2⟩:=tagged e
  unfold readQ rdSigned
  simp only
  rw [if_pos k,e1,kf]
  simp only
  rw [if_neg (fun q=>absurd q.1 (by decide)),if_neg (fun q=>absurd q.1 (by decide)),if_pos ⟨trivial,trivial⟩,rdDeal_of hW hn e2]
  rfl
 ·obtain rfl:f=0:=hs rfl
  obtain rfl:x=⟨#[]⟩:=hx rfl
  have:g=false:=by cases g with
   | false=>rfl
   | true=>exact absurd (hg rfl) (by omega)
  subst this
  have e:treeOf L t=pairT (dataT wFull) (numT c):=hT
  have k:=nd_kind hW ht (e.trans rfl)
  obtain ⟨n,e1,hn,e2⟩:=rdTagged_of hW ht e
  obtain ⟨u1,u2⟩:=rdNum_of hW hn e2
  unfold readQ
  simp only
  rw [if_neg (by rw [k.1];decide),if_neg (by rw [k.1];decide),e1]
  simp only
  rw [if_neg (by simp),u1,u2]
end
theorem cnt_letter (l:Letter) (a b:Bool):cnt (letterT l a b)≤40:=by
 unfold letterT
 simp only [promT,dealT,signT,pairT,dataT,numT]
 split
 ·simp [cnt,cntAll]
 split
 ·simp [cnt,cntAll]
 split
 ·simp [cnt,cntAll]
 split
 ·simp [cnt,cntAll]
 split
 ·simp [cnt,cntAll]
 split
 ·simp [cnt,cntAll]
 ·simp [cnt,cntAll]
theorem tryFakes_some {x:Tree} {l:Letter}:∀{n i:Nat} {l':Letter},tryFakes x l n i=some l'→∃f,i≤f∧f<i+n∧fits x l f=true∧l'=withFake l f
 | 0,i,l',h=>by cases h
 | n+1,i,l',h=>by
  unfold tryFakes at h
  split at h
  ·rename_i hf;cases h;exact ⟨i,by omega,by omega,hf,rfl⟩
  ·obtain ⟨f,h1,h2,h3,h4⟩:=tryFakes_some h
   exact ⟨f,by omega,by omega,h3,h4⟩
theorem tryFakes_of {x:Tree} {l:Letter} {f:Nat} (hf:fits x l f=true):∀{n i:Nat},i≤f→f<i+n→tryFakes x l n i≠none
 | 0,i,h1,h2=>by omega
 | n+1,i,h1,h2=>by
  unfold tryFakes
  split
  ·simp
  ·rename_i h
   by_cases e:i=f
   ·subst e;exact absurd hf h
   ·exact tryFakes_of hf (by omega) (by omega)
theorem tryDeals_some {x:Tree} {k:Int}:∀{ps:List (List Nat)} {l:Letter},tryDeals x k ps=some l→∃p∈ps,∃f,f<4∧fits x (cand x k p) f=true∧l=withFake (cand x k p) f
 | [],l,h=>by cases h
 | p :: ps,l,h=>by
  unfold tryDeals at h
  split at h
  ·rename_i l' he
   cases h
   obtain ⟨f,_,h2,h3,h4⟩:=tryFakes_some he
   exact ⟨p,by simp,f,by omega,h3,h4⟩
  ·obtain ⟨p',h1,h2⟩:=tryDeals_some h
   exact ⟨p',by simp [h1],h2⟩
theorem tryDeals_of {x:Tree} {k:Int} {p:List Nat} {f:Nat} (hf:f<4) (h:fits x (cand x k p) f=true):∀{ps:List (List Nat)},p∈ps→tryDeals x k ps≠none
 | [],hp=>by cases hp
 | q :: ps,hp=>by
  unfold tryDeals
  split
  ·simp
  ·rename_i he
   rcases List.mem_cons.1 hp with e | e
   ·subst e;exact absurd he (tryFakes_of h (Nat.zero_le _) (by omega))
   ·exact tryDeals_of hf h e
theorem tryKinds_some {x:Tree}:∀{n:Nat} {i:Int} {l:Letter},tryKinds x n i=some l→∃k p f,i≤k∧k<i+n∧f<4∧fits x (cand x k p) f=true∧l=withFake (cand x k p) f
 | 0,i,l,h=>by cases h
 | n+1,i,l,h=>by
  unfold tryKinds at h
  split at h
  ·rename_i l' he
   cases h
   obtain ⟨p,_,f,h1,h2,h3⟩:=tryDeals_some he
   exact ⟨i,p,f,by omega,by omega,h1,h2,h3⟩
  ·obtain ⟨k,p,f,h1,h2,h3⟩:=tryKinds_some h
   exact ⟨k,p,f,by omega,by omega,h3⟩
theorem tryKinds_of {x:Tree} {k:Int} {p:List Nat} {f:Nat} (hp:p∈deals) (hf:f<4) (h:fits x (cand x k p) f=true):∀{n:Nat} {i:Int},i≤k→k<i+n→tryKinds x n i≠none
 | 0,i,h1,h2=>by omega
 | n+1,i,h1,h2=>by
  unfold tryKinds
  split
  ·simp
  ·rename_i he
   by_cases e:i=k
   ·subst e;exact absurd he (tryDeals_of hf h hp)
   ·exact tryKinds_of hp hf h (by omega) (by omega)
theorem fits_ok {x:Tree} {l:Letter} {f:Nat} (hf:f<4) (h:fits x l f=true):IsL x (withFake l f):=by
 unfold fits at h
 simp only [Bool.and_eq_true,decide_eq_true_eq] at h
 obtain ⟨⟨h1,h2⟩,h3⟩:=h
 refine ⟨h1,f % 2 == 1,f / 2 == 1,fun _=>?_,((same_iff _ _).1 h3).symm⟩
 have:f=0∨f=1∨f=2∨f=3:=by omega
 rcases this with rfl | rfl | rfl | rfl <;> rfl
theorem readTree_ok {x:Tree} {l:Letter} (h:readTree x=(l,true)):IsL x l:=by
 unfold readTree at h
 split at h
 ·rename_i l' he
  cases h
  obtain ⟨k,p,f,_,_,h1,h2,rfl⟩:=tryKinds_some he
  exact fits_ok h1 h2
 ·cases h
theorem readTree_no {x:Tree} (h:(readTree x).2=false):readTree x=(noLetter,false)∧tryKinds x 7 1=none:=by
 unfold readTree at h ⊢
 split at h
 ·cases h
 ·rename_i he;simp only [he];exact ⟨trivial,trivial⟩
theorem fits_of {x:Tree} {l l0:Letter} {f:Nat} (hl:letErr l=0) (h1:withFake l0 f=l) (h2:l0.kind=4∨f≠2) (h3:letterT l (f % 2 == 1) (f / 2 == 1)=x):fits x l0 f=true:=by
 unfold fits
 rw [h1,(same_iff _ _).2 h3]
 simp [hl]
 exact h2
theorem readTree_of {x:Tree} {l:Letter} (h:IsL x l):(readTree x).2=true:=by
 cases hr:(readTree x).2 with
 | true=>rfl
 | false =>
  exfalso
  have hno:=(readTree_no hr).2
  obtain ⟨k,f,c,tx,g⟩:=l
  obtain ⟨h1,a,b,h4,hT⟩:=h
  obtain ⟨hk,hf,hs,hx,hg,_⟩:=letErr_inv h1
  have go:∀(p:List Nat) (fk:Nat),p∈deals→fk<4→withFake (cand x k p) fk=⟨k,f,c,tx,g⟩→(k=4∨fk≠2)→letterT ⟨k,f,c,tx,g⟩ (fk % 2 == 1) (fk / 2 == 1)=x→False:=by
   intro p fk hp hfk e1 e2 e3
   exact tryKinds_of (x:=x) (k:=k) hp hfk (fits_of h1 e1 (by simpa [cand] using e2) e3) (n:=7) (i:=1) (by omega) (by omega) hno
  have nog:k≠1→k≠4→g=false:=by
   intro n1 n4
   cases g with
   | false=>rfl
   | true=>exact absurd (hg rfl) (by omega)
  rcases hk with rfl | rfl | rfl | rfl | rfl | rfl | rfl
  ·subst hT
   cases g with
   | false=>exact go [0] 0 (by simp [deals]) (by omega) rfl (by omega) rfl
   | true=>exact go [0] 1 (by simp [deals]) (by omega) rfl (by omega) rfl
  ·obtain rfl:=nog (by omega) (by omega)
   subst hT
   exact go [0] 0 (by simp [deals]) (by omega) rfl (by omega) rfl
  ·obtain rfl:=nog (by omega) (by omega)
   obtain rfl:f=0:=hs rfl
   obtain rfl:tx=⟨#[]⟩:=hx rfl
   subst hT
   exact go [0] 0 (by simp [deals]) (by omega) rfl (by omega) rfl
  ·have:=h4 rfl
   simp only at this
   subst this
   subst hT
   cases a <;> cases b
   ·exact go [0,1,0,0] 0 (by simp [deals]) (by omega) rfl (by omega) rfl
   ·exact go [0,1,0,0] 2 (by simp [deals]) (by omega) rfl (by omega) rfl
   ·exact go [0,1,0,0] 1 (by simp [deals]) (by omega) rfl (by omega) rfl
   ·exact go [0,1,0,0] 3 (by simp [deals]) (by omega) rfl (by omega) rfl
  ·obtain rfl:=nog (by omega) (by omega)
   obtain rfl:f=0:=hs rfl
   obtain rfl:tx=⟨#[]⟩:=hx rfl
   subst hT
   exact go [0] 0 (by simp [deals]) (by omega) rfl (by omega) rfl
  ·obtain rfl:=nog (by omega) (by omega)
   obtain rfl:f=0:=hs rfl
   subst hT
   exact go [0,1] 0 (by simp [deals]) (by omega) rfl (by omega) rfl
  ·obtain rfl:=nog (by omega) (by omega)
   obtain rfl:f=0:=hs rfl
   obtain rfl:tx=⟨#[]⟩:=hx rfl
   subst hT
   exact go [0] 0 (by simp [deals]) (by omega) rfl (by omega) rfl
theorem read_out {L:Pool} {t:Int} (h:inP L t=false):read L t=(noLetter,false):=by
 have e:nodeOf L t=noNode:=by simp [nodeOf,get_none h]
 have e2:rdTagged L t=((⟨#[]⟩,0),true)∨(rdTagged L t).2=true:=by
  right
  unfold rdTagged
  have:rdNode L t 4=(noNode,true):=by unfold rdNode;rw [if_neg (by rw [h];simp)]
  rw [this]
  rfl
 have e3:(rdTagged L t).2=true:=by rcases e2 with e2 | e2 <;> simp [e2]
 have:(readQ L t).2=true:=by
  unfold readQ
  simp only
  rw [e,if_neg (by decide),if_neg (by decide),if_pos (by simp [e3])]
 unfold read
 rw [if_pos this]
theorem read_ref {L:Pool} (hW:Wf L) (t:Int):read L t=refRead L t:=by
 cases hi:inP L t with
 | false =>
  rw [read_out hi]
  unfold refRead
  rw [if_neg (by simp [hi])]
 | true =>
  have hsz:=size_cnt hW _ t rfl hi
  cases hq:(readQ L t).2 with
  | false =>
   have h:=readQ_ok hW hi hq
   have hle:¬ sizeOf L t>40:=by
    obtain ⟨_,a,b,_,e⟩:=h
    have:=cnt_letter (readQ L t).1 a b
    rw [← e] at this;omega
   have hr:=readTree_of h
   have e:readTree (treeOf L t)=((readTree (treeOf L t)).1,true):=Prod.ext rfl hr
   have:=readQ_of hW hi (readTree_ok e)
   unfold read refRead
   rw [if_neg (by simp [hq]),if_pos ⟨hi,hle⟩,e,this]
  | true =>
   unfold read
   rw [if_pos hq]
   unfold refRead
   split
   ·cases hr:(readTree (treeOf L t)).2 with
    | false=>exact (readTree_no hr).1.symm
    | true =>
     have e:readTree (treeOf L t)=((readTree (treeOf L t)).1,true):=Prod.ext rfl hr
     have:=readQ_of hW hi (readTree_ok e)
     rw [this] at hq;cases hq
   ·rfl
theorem read_app {L M:Pool} (hW:Wf (L++M)) {t:Int} (h:inP L t=true):read (L++M) t=read L t:=by
 rw [read_ref hW,read_ref hW.first]
 unfold refRead
 rw [inP_app h,h,sizeOf_app h,treeOf_app hW _ t rfl h]
end Go.Sp
end
section
open Go Go.SE
namespace Go.Sp
def twoE (L:Pool) (a b:Int) (fk:Bool):Int :=
 if inP L a=false∨inP L b=false then 51
 else if (read L a).1.kind≠1∨(read L b).1.kind≠1 then 120
 else if fk=false∧((read L a).1.fake || (read L b).1.fake)=true then 121
 else if (read L a).1.frm≠0∨(read L b).1.frm≠1∨(read L a).1.c≠(read L b).1.c∨(read L a).1.text≠(read L b).1.text then 122 else 0
theorem size_zero {L:Pool} (hok:Ok L) (t:Int):sizeOf L t=0↔inP L t=false:=by
 cases h:inP L t with
 | true =>
  obtain ⟨i,hi,rfl⟩:=inP_at h
  have:=hok.size L[i] (List.getElem_mem hi)
  have e:sizeOf L ((i:Int)+1)=L[i].size:=by simp [sizeOf,get_at hi]
  constructor
  ·intro h';omega
  ·intro h';cases h'
 | false =>
  refine ⟨fun _=>rfl,fun _=>?_⟩
  unfold sizeOf get;rw [if_neg (by rw [h];simp)];rfl
theorem both_two {L:Pool} (hok:Ok L) (a b:Int):(bothS L a b).2.2=twoE L a b true:=by
 unfold bothS twoE
 simp only [size_zero hok]
 split
 ·rfl
 ·split
  ·rfl
  ·exact (if_neg (fun h=>by cases h.1)).symm
def convL (L:Pool) (a:Int):Letter:=⟨6,0,(read L a).1.c,(read L a).1.text,false⟩
theorem conv_two {L:Pool} (hok:Ok L) (a b:Int):convS L a b=if twoE L a b false≠0 then (0,twoE L a b false,L) else Go.Proofs.buildS L (convL L a):=by
 unfold convS bothS twoE convL
 simp only [size_zero hok]
 split
 ·rfl
 ·split
  ·rfl
  ·by_cases hf:((read L a).1.fake || (read L b).1.fake)=true
   ·simp [hf]
   ·simp only [Bool.not_eq_true] at hf
    simp only [hf]
    split <;> simp_all
def reqR (L:Pool) (who a b:Int):Int×Int×Pool :=
 if who≠0∧who≠1 then (0,2,L) else if twoE L a b true≠0 then (0,twoE L a b true,L) else of L (reqT L who a b)
theorem twoE_in {L:Pool} {a b:Int} {fk:Bool} (h:twoE L a b fk=0):inP L a=true∧inP L b=true:=by
 unfold twoE at h
 split at h
 ·cases h
 ·rename_i h'
  constructor
  ·cases e:inP L a;exact absurd (.inl e) h';rfl
  ·cases e:inP L b;exact absurd (.inr e) h';rfl
theorem req_same {L : Pool} (hW : Wf L) (hl : L.length < 60000) (who a b : Int) : (reqS L who a b).2.1 = (reqR L who a b).2.1 ∧ treeOf (reqS L who a b).2.2 (reqS L who a b).1 = treeOf (reqR L who a b).2.2 (reqR L who a b).1 ∧
  ((reqS L who a b).2.1=0→(who=0∨who=1)∧twoE L a b true=0∧inP (reqS L who a b).2.2 (reqS L who a b).1=true∧treeOf (reqS L who a b).2.2 (reqS L who a b).1=reqT L who a b):=by
 have none:∀M:Pool,treeOf M 0=noTree:=fun M=>treeOf_none (by cases h:inP M 0;rfl;have:=inP_iff.1 h;omega)
 by_cases hw:who≠0∧who≠1
 ·have e1:reqS L who a b=(0,2,L):=by unfold reqS;rw [if_pos hw]
  have e2:reqR L who a b=(0,2,L):=by unfold reqR;rw [if_pos hw]
  rw [e1,e2];exact ⟨rfl,rfl,fun h=>by cases h⟩
 by_cases ht:twoE L a b true≠0
 ·have e1:reqS L who a b=(0,twoE L a b true,L):=by unfold reqS;rw [if_neg hw,both_two hW.ok,if_pos ht]
  have e2:reqR L who a b=(0,twoE L a b true,L):=by unfold reqR;rw [if_neg hw,if_pos ht]
  rw [e1,e2];exact ⟨rfl,rfl,fun h=>absurd h ht⟩
 have ht:twoE L a b true=0:=by omega
 have hw:who=0∨who=1:=by omega
 obtain ⟨ia,ib⟩:=twoE_in ht
 have e1:=chain_ok hW hl hw ia ib (R:=reqS L who a b) (by unfold reqS;rw [if_neg (by omega),both_two hW.ok,if_neg (by omega)])
 have e2:reqR L who a b=of L (reqT L who a b):=by unfold reqR;rw [if_neg (by omega),if_neg (by omega)]
 have e3:=of_req hW hl hw ia ib
 rw [e2]
 by_cases hb:reqBig L a b
 ·obtain ⟨h1,h2⟩:=e1.1 hb
  have h3:=e3.1 hb
  rw [h3,h2,h1,none]
  exact ⟨rfl,(none _).symm,fun h=>by cases h⟩
 ·obtain ⟨h1,h2,h3⟩:=e1.2 hb
  have h4:=e3.2 hb
  rw [h1,h4,h3,(of_tree hW h4).2.1]
  exact ⟨rfl,rfl,fun _=>⟨hw,ht,h2,rfl⟩⟩
end Go.Sp
end
section
open Go Go.SE
namespace Go.Sp
theorem read_is {L:Pool} (hW:Wf L) {t:Int} (ht:inP L t=true) {l:Letter} (h:IsL (treeOf L t) l):read L t=(l,true):=by
 unfold read
 rw [readQ_of hW ht h,if_neg (by simp)]
theorem is_read {L:Pool} (hW:Wf L) {t:Int} (h:(read L t).1.kind≠0):inP L t=true∧(read L t).2=true∧IsL (treeOf L t) (read L t).1:=by
 have hi:inP L t=true:=by
  cases hi:inP L t with
  | true=>rfl
  | false=>rw [read_out hi] at h;exact absurd rfl h
 cases hq:(readQ L t).2 with
 | true=>unfold read at h;rw [if_pos hq] at h;exact absurd rfl h
 | false =>
  have e:read L t=((readQ L t).1,true):=by unfold read;rw [if_neg (by simp [hq])]
  rw [e]
  exact ⟨hi,rfl,readQ_ok hW hi hq⟩
theorem LP.depth {T:Tree} {s d s' d':Int} (h:LP T s d) (h':LP T s' d') (hs:s≤4096) (hs':s'≤4096) (hd:d≤64) (hd':d'≤64):d=d':=by
 have a1:=h.d1;have a2:=h'.d1
 by_cases e:d<d'
 ·have h1:=h.yes (64 - d) 0 (by omega) (by omega) (by omega) (by omega)
  have h2:=h'.no (64 - d) 0 (by omega) (by omega) (by omega)
  rw [h1] at h2;cases h2
 ·by_cases e2:d'<d
  ·have h1:=h'.yes (64 - d') 0 (by omega) (by omega) (by omega) (by omega)
   have h2:=h.no (64 - d') 0 (by omega) (by omega) (by omega)
   rw [h1] at h2;cases h2
  ·omega
theorem prom_deal {L:Pool} (hW:Wf L) {a:Int} (h:(read L a).1.kind=1):∃dl,inP L dl=true∧treeOf L dl=dealT (read L a).1.c (read L a).1.text∧treeOf L a=promT (read L a).1.frm (dealT (read L a).1.c (read L a).1.text) (read L a).1.fake∧sizeOf L dl=5∧depthOf L dl=3∧letErr (read L a).1=0:=by
 obtain ⟨hi,_,hl,p,q,_,e⟩:=is_read hW (t:=a) (by omega)
 generalize read L a=r at *
 have e1:treeOf L a=promT r.1.frm (dealT r.1.c r.1.text) r.1.fake:=by rw [e];unfold letterT;rw [if_pos h]
 have hx:r.1.text.size≤64:=by
  obtain ⟨⟨k,f,c,x,g⟩,ok⟩:=r
  exact (letErr_inv hl).2.2.2.2.2
 have e2:=e1
 rw [treeOf_in hW hi] at e2
 unfold promT at e2
 injection e2 with _ _ _ _ _ e3
 have hn:=(hW.node hi).2.2.2.2.1
 obtain ⟨dl,hdl⟩:∃dl,kidsOf (nodeOf L a)=[dl]:=by
  cases hk:kidsOf (nodeOf L a) with
  | nil=>rw [hk] at e3;simp at e3
  | cons x l =>
   cases l with
   | nil=>exact ⟨x,rfl⟩
   | cons y l=>rw [hk] at e3;simp at e3
 rw [hdl] at e3 hn
 have hdi:=(hn dl (by simp)).1
 have ht:treeOf L dl=dealT r.1.c r.1.text:=by simpa using e3
 have hsz:sizeOf L dl=5:=by
  have:=size_cnt hW _ dl rfl hdi
  rw [ht] at this
  rw [this];rfl
 have lp:=looks_old hW _ dl rfl hdi
 have lp2:LP (dealT r.1.c r.1.text) 5 3:=by
  have h1:LP (dataT r.1.text) 1 1:=LP0 (by show (if (0:Int)=0 then (if false=true then (50:Int) else if r.1.text.size>64 then 1 else 0) else 0)=0;rw [if_pos rfl,if_neg (by simp),if_neg (by omega)])
  have h2:LP (numT r.1.c) 1 1:=LP0 (by kernel_rfl)
  have h3:LP (dataT wDeal) 1 1:=LP0 (by kernel_rfl)
  have h4:LP (pairT (numT r.1.c) (dataT r.1.text)) (1+(1+1)) (max 1 1+1):=LP2 (by kernel_rfl) h2 h1
  exact LP2 (by kernel_rfl) h3 h4
 rw [ht,hsz] at lp
 have hdp:depthOf L dl≤64:=by
  obtain ⟨i,hi',rfl⟩:=inP_at hdi
  have:=hW.ok.depth L[i] (List.getElem_mem hi')
  have e:depthOf L ((i:Int)+1)=L[i].depth:=by simp [depthOf,get_at hi']
  omega
 exact ⟨dl,hdi,ht,e1,hsz,lp.depth lp2 (by omega) (by omega) hdp (by omega),hl⟩
theorem conv_ok {L:Pool} (hW:Wf L) (hl:L.length<60000) {a b:Int} (h:twoE L a b false=0):(convS L a b).2.1=0∧convS L a b=Go.Proofs.buildS L (convL L a)∧inP (convS L a b).2.2 (convS L a b).1=true∧read (convS L a b).2.2 (convS L a b).1=(convL L a,true)∧∃M,(convS L a b).2.2=L++M:=by
 have e:=conv_two hW.ok a b
 rw [if_neg (by omega)] at e
 have hk:(read L a).1.kind=1:=by
  unfold twoE at h
  split at h
  ·cases h
  ·split at h
   ·cases h
   ·rename_i h';exact Classical.byContradiction fun hn=>h' (.inl hn)
 obtain ⟨dl,i1,t1,_,s1,d1,hle⟩:=prom_deal hW hk
 have hx:letErr (convL L a)=0:=by
  unfold convL
  generalize (read L a).1=r at *
  obtain ⟨k,f,c,x,g⟩:=r
  exact letErr_of ⟨by omega,by omega⟩ (.inl rfl) (fun _=>rfl) (fun h=>by cases h) (fun h=>by cases h) (letErr_inv hle).2.2.2.2.2
 have hT:letterT (convL L a) true true=signT 2 (pairT (dataT wInstead) (dealT (read L a).1.c (read L a).1.text)):=rfl
 have eb:Go.Proofs.buildS L (convL L a)=of L (letterT (convL L a) true true):=by unfold Go.Proofs.buildS;rw [if_neg (by omega)]
 have ho:(of L (letterT (convL L a) true true)).2.1=0:=by
  rw [hT]
  have lp:=looks_old hW _ dl rfl i1
  rw [t1,s1,d1] at lp
  have h2:LP (dataT wInstead) 1 1:=LP0 (by kernel_rfl)
  have h3:LP (pairT (dataT wInstead) (dealT (read L a).1.c (read L a).1.text)) (1+(1+5)) (max 1 3+1):=LP2 (by kernel_rfl) h2 lp
  have h4:LP (signT 2 (pairT (dataT wInstead) (dealT (read L a).1.c (read L a).1.text))) (1+(1+(1+5))) (max 1 3+1+1):=LP1 (by kernel_rfl) h3
  have hk:=h4.yes 0 0 (by omega) (by omega) (by omega) (by omega)
  obtain ⟨t2,M2,e2,i2,x2,w2,s2,d2,l2⟩:=data_ok (x:=wInstead) (by decide) hW (by omega)
  have id:inP (L++M2) dl=true:=inP_app i1
  have gd:grow (L++M2) (dealT (read L a).1.c (read L a).1.text)=(dl,0,L++M2):=by rw [← t1,← treeOf_app w2 _ dl rfl i1];exact grow_old w2 _ dl rfl id
  obtain ⟨_,p4⟩:=pair_ok w2 (by omega) i2 id (sz:=7) (d:=4) (by rw [s2,sizeOf_app i1,s1];rfl) (by rw [d2,depthOf_app i1,d1];rfl)
  obtain ⟨t3,M3,e3,i3,x3,w3,s3,d3,l3⟩:=p4 (by omega)
  obtain ⟨_,p6⟩:=sign_ok (who:=2) w3 (by omega) (by omega) i3 (sz:=8) (d:=5) (by rw [s3];rfl) (by rw [d3];rfl)
  obtain ⟨t4,M4,e4,i4,x4,w4,s4,d4,l4⟩:=p6 (by omega)
  have hg:grow L (signT 2 (pairT (dataT wInstead) (dealT (read L a).1.c (read L a).1.text)))=(t4,0,L++M2++M3++M4):=by
   unfold signT pairT dataT
   simp [-List.append_assoc,grow,growAll,e2,gd,e3,e4]
  unfold of
  rw [hk,if_neg (by simp),hg];simp
 rw [e,eb]
 obtain ⟨j1,j2,_⟩:=of_tree hW ho
 exact ⟨ho,rfl,j1,read_is (of_wf hW _) j1 (by rw [j2];exact ⟨hx,true,true,fun h=>(by cases h),rfl⟩),of_grows hW.ok _⟩
theorem conv_no {L:Pool} (hW:Wf L) {a b:Int} (h:twoE L a b false≠0):convS L a b=(0,twoE L a b false,L):=by rw [conv_two hW.ok,if_pos h]
theorem req_reads {L M : Pool} (hW : Wf L) (hM : Wf M) {who a b q : Int} (hw : who = 0 ∨ who = 1) (h : twoE L a b true = 0) (hq : inP M q = true) (ht : treeOf M q = reqT L who a b) :
  read M q=(⟨4,who,(read L a).1.c,(read L a).1.text,(read L a).1.fake || (read L b).1.fake⟩,true):=by
 unfold twoE at h
 split at h
 ·cases h
 split at h
 ·cases h
 split at h
 ·cases h
 split at h
 ·cases h
 rename_i _ hk _ hp
 have ka:(read L a).1.kind=1:=Classical.byContradiction fun hn=>hk (.inl hn)
 have kb:(read L b).1.kind=1:=Classical.byContradiction fun hn=>hk (.inr hn)
 obtain ⟨_,_,_,ta,_,_,la⟩:=prom_deal hW ka
 obtain ⟨_,_,_,tb,_,_,_⟩:=prom_deal hW kb
 have p1:(read L a).1.frm=0:=Classical.byContradiction fun hn=>hp (.inl hn)
 have p2:(read L b).1.frm=1:=Classical.byContradiction fun hn=>hp (.inr (.inl hn))
 have p3:(read L a).1.c=(read L b).1.c:=Classical.byContradiction fun hn=>hp (.inr (.inr (.inl hn)))
 have p4:(read L a).1.text=(read L b).1.text:=Classical.byContradiction fun hn=>hp (.inr (.inr (.inr hn)))
 rw [← p3,← p4,p2] at tb
 rw [p1] at ta
 refine read_is hM hq ?_
 rw [ht]
 unfold reqT
 rw [ta,tb]
 generalize (read L a).1=r at *
 generalize (read L b).1.fake=g2 at *
 obtain ⟨k,f,c,x,g⟩:=r
 refine ⟨letErr_of ⟨by omega,by omega⟩ hw (fun h=>by cases h) (fun h=>by cases h) (fun _=>.inr rfl) (letErr_inv la).2.2.2.2.2,g,g2,fun _=>rfl,?_⟩
 cases g <;> cases g2 <;> rfl
theorem reqS_grows {L:Pool} (who a b:Int):∃M,(reqS L who a b).2.2=L++M:=by
 have th:∀{L:Pool} {m:Int×Int×Pool} {f:Int→Pool→Int×Int×Pool},(∃M,m.2.2=L++M)→(∀t N,∃M,(f t N).2.2=N++M)→∃M,(thenS m f).2.2=L++M:=by
  intro L m f h hf
  obtain ⟨M,e⟩:=h
  unfold thenS;split
  ·exact ⟨M,e⟩
  ·obtain ⟨M',e'⟩:=hf m.1 m.2.2
   exact ⟨M++M',by rw [e',e,List.append_assoc]⟩
 unfold reqS
 split
 ·exact ⟨[],by simp⟩
 ·split
  ·exact ⟨[],by simp⟩
  ·exact th (make_app _ _) fun t N=>th (make_app _ _) fun d N=>th (make_app _ _) fun t N=>make_app _ _
theorem reqR_grows {L:Pool} (hok:Ok L) (who a b:Int):∃M,(reqR L who a b).2.2=L++M:=by
 unfold reqR
 split
 ·exact ⟨[],by simp⟩
 ·split
  ·exact ⟨[],by simp⟩
  ·exact of_grows hok _
end Go.Sp
end
section
open Go Go.SE
open Go.IntKind renaming i64 → q6
namespace Go.Proofs
open Tryz
set_option maxRecDepth 100000
set_option maxHeartbeats 4000000
attribute [local irreducible] wpL wpX opE wpE Calls
def m_L1_l1 (bB bH:Sl) (i1:Int) (Hl1:NP) (wl1:World) (Kc1:Int→NP→WP) (K:Bool→WP):Prop :=
 Br (decide (i1<(bB.len:Int)))
  (∃C1:WP,C1 wl1.drew∧∀w12,w12=wl1.drew →
  ∃a1:Addr,At bB i1 6 a1 ∧
  ∃aO aP:Int,∃aQ aR:Int,∃aS:ByteArray,∃bI:Sl,(∀w',C1 w'→Row w' a1 [(vi aO),(vi aP),(vi aQ),(vu aR),(vs aS),bI.v]) ∧
  ∃a2:Addr,At bH i1 6 a2 ∧
  ∃bO bP:Int,∃bQ bR:Int,∃bS:ByteArray,∃bT:Sl,(∀w',C1 w'→Row w' a2 [(vi bO),(vi bP),(vi bQ),(vu bR),(vs bS),bT.v]) ∧
  Calls prog 47 #[(.agg #[(vi aO),(vi aP),(vi aQ),(vu aR),(vs aS),bI.v]),(.agg #[(vi bO),(vi bP),(vi bQ),(vu bR),(vs bS),bT.v])] w12 (fun e w13=>∃r1:Bool,e=.returned (vb r1)∧C1 w13∧
   Kept Hl1 w12 w13 ∧
   Br (!r1)
    (K false w13)
    (Kc1 (q6.wrap (i1+1)) Hl1 w13)))
  (K true wl1)
def m_L1 (aX aZ:Int) (bC bF:Int) (bK:ByteArray) (bB:Sl) (aY bA:Int) (bD bG:Int) (bL:ByteArray) (bH:Sl) (w0:World) (K:Bool→WP):Prop :=
 ∀y1:Bool,y1=((((((aX != aY) || (aZ != bA)) || (bC != bD)) || (bF != bG)) || (!(decide (bK=bL)))) || (((bB.len:Int):Int) != (bH.len:Int))) →
 Br y1
  (∀(H7:NP) (w7:World),Hst w0 None w0 H7 w7 →
  K false w7)
  (∀(H7:NP) (w7:World),Hst w0 None w0 H7 w7 →
  ∃(I1:Int→NP→WP) (mu1:Int→World→Nat),I1 0 H7 w7 ∧
   ∀(i1:Int) (Hl1:NP) (wl1:World),Hst w0 Hl1 wl1 Hl1 wl1→I1 i1 Hl1 wl1→m_L1_l1 bB bH i1 Hl1 wl1 (fun y'0 H' w'=>I1 y'0 H' w'∧mu1 y'0 w'<mu1 i1 wl1) K)
theorem w_L1 (aX aZ : Int) (bC bF : Int) (bK : ByteArray) (bB : Sl) (aY bA : Int) (bD bG : Int) (bL : ByteArray) (bH : Sl) (w0 : World) (K : Bool → WP) (h : m_L1 aX aZ bC bF bK bB aY bA bD bG bL bH w0 K) :
  Calls prog 47 #[(.agg #[(vi aX),(vi aZ),(vi bC),(vu bF),(vs bK),bB.v]),(.agg #[(vi aY),(vi bA),(vi bD),(vu bG),(vs bL),bH.v])] w0 (fun e w'=>∃r2:Bool,e=.returned (vb r2)∧K r2 w'):=by
 unfold m_L1 at h
 refine cw (args:=[(.agg #[(vi aX),(vi aZ),(vi bC),(vu bF),(vs bK),bB.v]),(.agg #[(vi aY),(vi bA),(vi bD),(vu bG),(vs bL),bH.v])]) func47 ntmps47 ?_
 have hs:=Hst.start w0
 have hb:=HB.nil None w0
 refine eg (sn (O:=(.cells #[(vi aX),(vi aZ),(vi bC),(vu bF),(vs bK),bB.v] 107)) xb ?_)
 intro p1 w1 hn1
 obtain ⟨H1,hs,hb⟩:=hs.alloc hb hn1
 refine sn (O:=(.cells #[(vi aY),(vi bA),(vi bD),(vu bG),(vs bL),bH.v] 107)) xb ?_
 intro p2 w2 hn2
 obtain ⟨H2,hs,hb⟩:=hs.alloc hb hn2
 refine q0 (vb false) (ln (wpE_seq (wpE_seq ?_)))
 refine wpE_via (fun ρ wJ=>∃b5'0 y1:Bool,∃HJ:NP,((((((aX != aY) || (aZ != bA)) || (bC != bD)) || (bF != bG)) || (!(decide (bK=bL))))=b5'0)∧(y1=(b5'0 || (((bB.len:Int):Int) != (bH.len:Int))))∧Hst w0 None w0 HJ wJ∧HB HJ wJ [(p2,[(vi aY),(vi bA),(vi bD),(vu bG),(vs bL),bH.v],107),(p1,[(vi aX),(vi aZ),(vi bC),(vu bF),(vs bK),bB.v],107)]∧Has ρ [(2,(vp (some p1))),(3,(vp (some p2))),(47,(vb y1))]) ?_ ?_
 refine rg (q0 (vp (some p1)) (q2 (vi aX) (xl (isAgg3 _) (hb.c0 1 (gS gZ))) (q0 (vp (some p2)) (q2 (vi aY) (xl (isAgg3 _) (hb.c0 0 gZ)) (q0 (vb (aX != aY)) (q0 (vb (aX != aY)) ?_))))))
 refine wpL_join 6 (fun ρ wJ=>∃b6'0:Bool,∃HJ:NP,((aX != aY)=b6'0)∧Hst w0 None w0 HJ wJ∧HB HJ wJ [(p2,[(vi aY),(vi bA),(vi bD),(vu bG),(vs bL),bH.v],107),(p1,[(vi aX),(vi aZ),(vi bC),(vu bF),(vs bK),bB.v],107)]∧Has ρ [(2,(vp (some p1))),(3,(vp (some p2))),(17,(vb (b6'0 || (aZ != bA))))]) ?_ ?_
 rintro ρ w8 ⟨b6'0,H8,he0,hs,hb,hH⟩
 subst he0
 refine wpL_has hH ?_
 refine q0 (vb ((aX != aY) || (aZ != bA))) ?_
 refine wpL_join 6 (fun ρ wJ=>∃b7'0:Bool,∃HJ:NP,(((aX != aY) || (aZ != bA))=b7'0)∧Hst w0 None w0 HJ wJ∧HB HJ wJ [(p2,[(vi aY),(vi bA),(vi bD),(vu bG),(vs bL),bH.v],107),(p1,[(vi aX),(vi aZ),(vi bC),(vu bF),(vs bK),bB.v],107)]∧Has ρ [(2,(vp (some p1))),(3,(vp (some p2))),(24,(vb (b7'0 || (bC != bD))))]) ?_ ?_
 rintro ρ w9 ⟨b7'0,H9,he0,hs,hb,hH⟩
 subst he0
 refine wpL_has hH ?_
 refine q0 (vb (((aX != aY) || (aZ != bA)) || (bC != bD))) ?_
 refine wpL_join 6 (fun ρ wJ=>∃b8'0:Bool,∃HJ:NP,((((aX != aY) || (aZ != bA)) || (bC != bD))=b8'0)∧Hst w0 None w0 HJ wJ∧HB HJ wJ [(p2,[(vi aY),(vi bA),(vi bD),(vu bG),(vs bL),bH.v],107),(p1,[(vi aX),(vi aZ),(vi bC),(vu bF),(vs bK),bB.v],107)]∧Has ρ [(2,(vp (some p1))),(3,(vp (some p2))),(31,(vb (b8'0 || (bF != bG))))]) ?_ ?_
 rintro ρ w10 ⟨b8'0,H10,he0,hs,hb,hH⟩
 subst he0
 refine wpL_has hH ?_
 refine q0 (vb ((((aX != aY) || (aZ != bA)) || (bC != bD)) || (bF != bG))) ?_
 refine wpL_join 6 (fun ρ wJ=>∃b9'0:Bool,∃HJ:NP,(((((aX != aY) || (aZ != bA)) || (bC != bD)) || (bF != bG))=b9'0)∧Hst w0 None w0 HJ wJ∧HB HJ wJ [(p2,[(vi aY),(vi bA),(vi bD),(vu bG),(vs bL),bH.v],107),(p1,[(vi aX),(vi aZ),(vi bC),(vu bF),(vs bK),bB.v],107)]∧Has ρ [(2,(vp (some p1))),(3,(vp (some p2))),(38,(vb (b9'0 || (!(decide (bK=bL))))))]) ?_ ?_
 rintro ρ w11 ⟨b9'0,H11,he0,hs,hb,hH⟩
 subst he0
 refine wpL_has hH ?_
 refine q0 (vb (((((aX != aY) || (aZ != bA)) || (bC != bD)) || (bF != bG)) || (!(decide (bK=bL))))) ?_
 rcases bte (((((aX != aY) || (aZ != bA)) || (bC != bD)) || (bF != bG)) || (!(decide (bK=bL)))) with hg18 | hg18
 refine sk (yD 39 hg18) (sk (yD 39 hg18) (sk (yD 39 hg18) (sk (yD 39 hg18) (sk (yD 39 hg18) (sk (yD 39 hg18) (sk (yD 39 hg18) (q2 (vb true) (xT hg18) (ln ?_))))))))
 exact ⟨true,_,_,hg18,rfl,hs,hb,hm⟩
 refine q1 (vp (some (p1.add 5))) (wy 39 hg18) (stp (v:=bB.v) (wy 39 hg18) (xl (isAgg66 _) (hb.c 1 5 (gS gZ))) (q1 (vi (bB.len:Int)) (wy 39 hg18) (q1 (vp (some (p2.add 5))) (wy 39 hg18) (stp (v:=bH.v) (wy 39 hg18) (xl (isAgg66 _) (hb.c 0 5 gZ)) (q1 (vi (bH.len:Int)) (wy 39 hg18) (q1 (vb (((bB.len:Int):Int) != (bH.len:Int))) (wy 39 hg18) (q2 (vb (((bB.len:Int):Int) != (bH.len:Int))) (xF hg18) (ln ?_))))))))
 exact ⟨false,_,_,hg18,rfl,hs,hb,hm⟩
 rcases bte ((((aX != aY) || (aZ != bA)) || (bC != bD)) || (bF != bG)) with hg17 | hg17
 refine sk (yD 32 hg17) (sk (yD 32 hg17) (sk (yD 32 hg17) (sk (yD 32 hg17) (sk (yD 32 hg17) (q2 (vb true) (xT hg17) (wpL_nil ?_))))))
 exact ⟨true,_,hg17,hs,hb,hm⟩
 refine q1 (vp (some (p1.add 4))) (wy 32 hg17) (stp (v:=(vs bK)) (wy 32 hg17) (xl (isAgg9 _) (hb.c 1 4 (gS gZ))) (q1 (vp (some (p2.add 4))) (wy 32 hg17) (stp (v:=(vs bL)) (wy 32 hg17) (xl (isAgg9 _) (hb.c 0 4 gZ)) (stp (v:=(vb (!(decide (bK=bL))))) (wy 32 hg17) (x_strneq (by kernel_rfl) (by kernel_rfl)) (q2 (vb (!(decide (bK=bL)))) (xF hg17) (wpL_nil ?_))))))
 exact ⟨false,_,hg17,hs,hb,hm⟩
 rcases bte (((aX != aY) || (aZ != bA)) || (bC != bD)) with hg15 | hg15
 refine sk (yD 25 hg15) (sk (yD 25 hg15) (sk (yD 25 hg15) (sk (yD 25 hg15) (sk (yD 25 hg15) (q2 (vb true) (xT hg15) (wpL_nil ?_))))))
 exact ⟨true,_,hg15,hs,hb,hm⟩
 refine q1 (vp (some (p1.add 3))) (wy 25 hg15) (stp (v:=(vu bF)) (wy 25 hg15) (xl (isAgg23 _) (hb.c 1 3 (gS gZ))) (q1 (vp (some (p2.add 3))) (wy 25 hg15) (stp (v:=(vu bG)) (wy 25 hg15) (xl (isAgg23 _) (hb.c 0 3 gZ)) (q1 (vb (bF != bG)) (wy 25 hg15) (q2 (vb (bF != bG)) (xF hg15) (wpL_nil ?_))))))
 exact ⟨false,_,hg15,hs,hb,hm⟩
 rcases bte ((aX != aY) || (aZ != bA)) with hg13 | hg13
 refine sk (yD 18 hg13) (sk (yD 18 hg13) (sk (yD 18 hg13) (sk (yD 18 hg13) (sk (yD 18 hg13) (q2 (vb true) (xT hg13) (wpL_nil ?_))))))
 exact ⟨true,_,hg13,hs,hb,hm⟩
 refine q1 (vp (some (p1.add 2))) (wy 18 hg13) (stp (v:=(vi bC)) (wy 18 hg13) (xl (isAgg3 _) (hb.c 1 2 (gS gZ))) (q1 (vp (some (p2.add 2))) (wy 18 hg13) (stp (v:=(vi bD)) (wy 18 hg13) (xl (isAgg3 _) (hb.c 0 2 gZ)) (q1 (vb (bC != bD)) (wy 18 hg13) (q2 (vb (bC != bD)) (xF hg13) (wpL_nil ?_))))))
 exact ⟨false,_,hg13,hs,hb,hm⟩
 rcases bte (aX != aY) with hg11 | hg11
 refine sk (yD 11 hg11) (sk (yD 11 hg11) (sk (yD 11 hg11) (sk (yD 11 hg11) (sk (yD 11 hg11) (q2 (vb true) (xT hg11) (wpL_nil ?_))))))
 exact ⟨true,_,hg11,hs,hb,hm⟩
 refine q1 (vp (some (p1.add 1))) (wy 11 hg11) (stp (v:=(vi aZ)) (wy 11 hg11) (xl (isAgg3 _) (hb.c 1 1 (gS gZ))) (q1 (vp (some (p2.add 1))) (wy 11 hg11) (stp (v:=(vi bA)) (wy 11 hg11) (xl (isAgg3 _) (hb.c 0 1 gZ)) (q1 (vb (aZ != bA)) (wy 11 hg11) (q2 (vb (aZ != bA)) (xF hg11) (wpL_nil ?_))))))
 exact ⟨false,_,hg11,hs,hb,hm⟩
 rintro ρ w7 ⟨b5'0,y1,H7,he0,hy1,hs,hb,hH⟩
 subst he0
 have h:=h y1 hy1
 refine norm_has hH ?_
 refine th_n ?_
 refine wpE_cond (t:=y1) (by kernel_rfl) (fun hc1=>?_) (fun hc1=>?_)
 have h:=h.1 hc1
 refine eg (q0 (vb false) (ln (er (th_r ?_))))
 have h:=h H7 w7 hs
 have hs:=hs.here
 refine rs1 results47 (v:=(vb false)) ?_
 exact ⟨false,rfl,h⟩
 have h:=h.2 hc1
 refine wpE_skip (th_n (wpE_seq (eg (q0 (vi 0) (ln (wpE_block ?_))))))
 have h:=h H7 w7 hs
 have hs:=hs.here
 obtain ⟨I1,mu1,h0,hr⟩:=h
 refine wpE_loop (σ:=Int×NP×World) (fun s ρ w=>w=s.2.2∧Has ρ [(2,(vp (some p1))),(3,(vp (some p2))),(5,(vi s.1))]∧Hst w0 s.2.1 w s.2.1 w∧HB s.2.1 w [(p2,[(vi aY),(vi bA),(vi bD),(vu bG),(vs bL),bH.v],107),(p1,[(vi aX),(vi aZ),(vi bC),(vu bF),(vs bK),bB.v],107)]∧I1 s.1 s.2.1 s.2.2) (fun s=>mu1 s.1 s.2.2) (0,H7,w7) ⟨rfl,hm,hs,hb,h0⟩ ?_
 rintro ⟨i1,Hl1,wl1⟩ ρ w ⟨hw,hH,hs,hb,hI⟩
 obtain rfl:wl1=w:=(show w=wl1 from hw).symm
 have hH:Has ρ [(2,(vp (some p1))),(3,(vp (some p2))),(5,(vi i1))]:=hH
 have hs:Hst w0 Hl1 wl1 Hl1 wl1:=hs
 have hb:HB Hl1 wl1 [(p2,[(vi aY),(vi bA),(vi bD),(vu bG),(vs bL),bH.v],107),(p1,[(vi aX),(vi aZ),(vi bC),(vu bF),(vs bK),bB.v],107)]:=hb
 have h:=hr i1 Hl1 wl1 hs hI
 unfold m_L1_l1 at h
 refine wpE_has hH ?_
 refine wpE_seq (eg (q0 (vi i1) (q0 (vp (some (p1.add 5))) (q2 bB.v (xl (isAgg66 _) (hb.c 1 5 (gS gZ))) (q0 (vi (bB.len:Int)) (q0 (vb (decide (i1<(bB.len:Int)))) (ln ?_)))))))
 refine wpE_cond (t:=(decide (i1<(bB.len:Int)))) (by kernel_rfl) (fun hc2=>?_) (fun hc2=>?_)
 have h:=h.1 hc2
 refine wpE_skip (th_n (wpE_seq (wpE_block (wpE_seq ?_))))
 obtain ⟨C1,hC,h⟩:=h
 refine wpE_drawnC (fun x=>C1 x∧HB Hl1 x [(p2,[(vi aY),(vi bA),(vi bD),(vu bG),(vs bL),bH.v],107),(p1,[(vi aX),(vi aZ),(vi bC),(vu bF),(vs bK),bB.v],107)]) [10] [] (by kernel_rfl) (by kernel_rfl) (by kernel_rfl) (by kernel_rfl) ⟨hC,hb.drew⟩ ?_
 intro w12 hw12
 have h:=h w12 hw12
 have hs:Hst w0 Hl1 wl1 Hl1 w12:=by rw [hw12];exact hs.drew
 have hb:HB Hl1 w12 [(p2,[(vi aY),(vi bA),(vi bD),(vu bG),(vs bL),bH.v],107),(p1,[(vi aX),(vi aZ),(vi bC),(vu bF),(vs bK),bB.v],107)]:=by rw [hw12];exact hb.drew
 have hs:=hs.here
 refine qx 0 (vp (some (p1.add 5))) Kp0 (qz 1 bB.v Kp1 (fun w' hw'=>(xl (isAgg66 _) (hw'.2.cell 1 5 (gS gZ) (by kernel_rfl)))) (qx 2 (vi i1) Kp2 (qg 3 ?_)))
 obtain ⟨a1,hv4,h⟩:=h
 refine sy (v:=(vp (some a1))) Kp3 (fun _ _=>(xi (runUnderlying66 _) (sizeOf107 _) hv4)) (qg 4 ?_)
 obtain ⟨aO,aP,aQ,aR,aS,bI,hv3,h⟩:=h
 refine sy (v:=(.agg #[(vi aO),(vi aP),(vi aQ),(vu aR),(vs aS),bI.v])) Kp4 (fun w' hw'=>(xa a1 [(vi aO),(vi aP),(vi aQ),(vu aR),(vs aS),bI.v] (isAgg107 _) (sizeOf107 _) (hv3 w' hw'.1))) (qx 5 (vp (some (p2.add 5))) Kp5 (qz 6 bH.v Kp6 (fun w' hw'=>(xl (isAgg66 _) (hw'.2.cell 0 5 gZ (by kernel_rfl)))) (qx 7 (vi i1) Kp7 (qg 8 ?_))))
 obtain ⟨a2,hv2,h⟩:=h
 refine sy (v:=(vp (some a2))) Kp8 (fun _ _=>(xi (runUnderlying66 _) (sizeOf107 _) hv2)) (qg 9 ?_)
 obtain ⟨bO,bP,bQ,bR,bS,bT,hv1,h⟩:=h
 refine sy (v:=(.agg #[(vi bO),(vi bP),(vi bQ),(vu bR),(vs bS),bT.v])) Kp9 (fun w' hw'=>(xa a2 [(vi bO),(vi bP),(vi bQ),(vu bR),(vs bS),bT.v] (isAgg107 _) (sizeOf107 _) (hv1 w' hw'.1))) (lg 10 ?_)
 refine slc (pickA (S8 (pickS (pickS pickZ)))) call47 (h.mono ?_)
 rintro e w13 ⟨r1,rfl,hC,hk,h⟩
 refine ⟨_,rfl,.inr ⟨hC,hb.kept hk⟩,?_⟩
 obtain ⟨hs,hb⟩:=hk.hh hs hb
 refine qx 11 (vb (!r1)) (pickA (S8 (pickS (pickS (pickS pickZ))))) (wn (th_n ?_))
 refine wpE_cond (t:=(!r1)) (by kernel_rfl) (fun hc3=>?_) (fun hc3=>?_)
 have h:=h.1 hc3
 refine eg (q0 (vb false) (ln (er (bl_r (th_r (th_r (bl_r (th_r (rs1 results47 (v:=(vb false)) ?_)))))))))
 exact ⟨false,rfl,h⟩
 have h:=h.2 hc3
 refine wpE_skip (bl_n (th_n (rg (q0 (vi i1) (q0 (vi (q6.wrap (i1+1))) (q0 (vi (q6.wrap (i1+1))) (ln ?_)))))))
 exact ⟨((q6.wrap (i1+1)),Hl1,w13),⟨rfl,hm,hs,hb,h.1⟩,h.2⟩
 have h:=h.2 hc2
 refine wpE_exit (th_x (th_x (bl_eq (th_n (eg (q0 (vb true) (ln (er (rs1 results47 (v:=(vb true)) ?_)))))))))
 exact ⟨true,rfl,h⟩
def m_B4 (p1:Option Addr) (t1:Int) (w0:World) (K:Bool→WP):Prop :=
 Br (decide (t1≥1))
  (∃a1:Addr,p1=some a1 ∧
  ∃v1:Sl,w0.cell? a1=some v1.v ∧
  K (decide (t1≤(v1.len:Int))) w0)
  (K false w0)
theorem w_B4 (p1 : Option Addr) (t1 : Int) (w0 : World) (K : Bool → WP) (h : m_B4 p1 t1 w0 K) :
  Calls prog 87 #[(vp p1),(vi t1)] w0 (fun e w'=>∃r1:Bool,e=.returned (vb r1)∧K r1 w'):=by
 unfold m_B4 at h
 refine cw (args:=[(vp p1),(vi t1)]) func87 ntmps87 (eg (q0 (vb false) (ln (eg (q0 (vi t1) (q0 (vb (decide (t1≥1))) (q0 (vb (decide (t1≥1))) ?_)))))))
 rcases bte (decide (t1≥1)) with hg1 | hg1
 have h:=h.1 hg1
 refine q1 (vi t1) (wy 7 hg1) (q1 (vp p1) (wy 7 hg1) ?_)
 obtain ⟨a1,hp1,h⟩:=h
 refine stp (v:=(vp (some a1))) (wy 7 hg1) (xn hp1) (q1 (vp (some a1)) (wy 7 hg1) ?_)
 obtain ⟨v1,hv1,h⟩:=h
 refine stp (v:=v1.v) (wy 7 hg1) (xl (isAgg41 _) hv1) (q1 (vi (v1.len:Int)) (wy 7 hg1) (q1 (vb (decide (t1≤(v1.len:Int)))) (wy 7 hg1) (q2 (vb (decide (t1≤(v1.len:Int)))) (xT hg1) (q0 (vb (decide (t1≤(v1.len:Int)))) (ln (er (rs1 results87 (v:=(vb (decide (t1≤(v1.len:Int))))) ?_)))))))
 exact ⟨(decide (t1≤(v1.len:Int))),rfl,h⟩
 have h:=h.2 hg1
 refine sk (yD 7 hg1) (sk (yD 7 hg1) (sk (yD 7 hg1) (sk (yD 7 hg1) (sk (yD 7 hg1) (sk (yD 7 hg1) (sk (yD 7 hg1) (q2 (vb false) (xF hg1) (q0 (vb false) (ln (er ?_))))))))))
 refine rs1 results87 (v:=(vb false)) ?_
 exact ⟨false,rfl,h⟩
def m_C4 (p1:Option Addr) (t1:Int) (w0:World) (K:Int→Int→Int→Int→ByteArray→Int→Int→Bool→WP):Prop :=
 ∀(H1:NP) (w1:World),Hst w0 None w0 H1 w1 →
 Calls prog 87 #[(vp p1),(vi t1)] w1 (fun e w2=>∃r1:Bool,e=.returned (vb r1)∧
  Kept H1 w1 w2 ∧
  Br (!r1)
   (∀(w3:World),Hst w0 H1 w2 H1 w3 →
   K 0 0 0 0 ⟨#[]⟩ 0 0 false w3)
   (∃a1:Addr,p1=some a1 ∧
   ∃v1:Sl,w2.cell? a1=some v1.v ∧
   ∃a2:Addr,At v1 (q6.wrap (t1 - 1)) 7 a2 ∧
   ∃aO aP:Int,∃aQ aR:Int,∃aS:ByteArray,∃bM bN:Int,Row w2 a2 [(vi aO),(vi aP),(vi aQ),(vu aR),(vs aS),(vi bM),(vi bN)] ∧
   ∀(w4:World),Hst w0 H1 w2 H1 w4 →
   K aO aP aQ aR aS bM bN true w4))
theorem w_C4 (p1 : Option Addr) (t1 : Int) (w0 : World) (K : Int → Int → Int → Int → ByteArray → Int → Int → Bool → WP) (h : m_C4 p1 t1 w0 K) :
  Calls prog 104 #[(vp p1),(vi t1)] w0 (fun e w'=>∃aN aT:Int,∃aU aV:Int,∃aW:ByteArray,∃bJ bE:Int,∃r2:Bool,e=.returned (.tuple #[(.agg #[(vi aN),(vi aT),(vi aU),(vu aV),(vs aW),(vi bJ),(vi bE)]),(vb r2)])∧K aN aT aU aV aW bJ bE r2 w'):=by
 unfold m_C4 at h
 refine cw (args:=[(vp p1),(vi t1)]) func104 ntmps104 ?_
 have hs:=Hst.start w0
 have hb:=HB.nil None w0
 refine eg (sn (O:=(.cells #[(vi 0),(vi 0),(vi 0),(vu 0),ve,(vi 0),(vi 0)] 176)) (x_alloc (zeroValue176 _) rfl) ?_)
 intro p2 w1 hn1
 obtain ⟨H1,hs,hb⟩:=hs.alloc hb hn1
 refine q0 (vb false) (ln (wpE_seq (eg (q0 (vp p1) (q0 (vi t1) ?_)))))
 have h:=h H1 w1 hs
 have hs:=hs.here
 refine sc call87 (h.mono ?_)
 rintro e w2 ⟨r1,rfl,hk,h⟩
 refine ⟨_,rfl,?_⟩
 obtain ⟨hs,hb⟩:=hk.hh hs hb
 refine q0 (vb (!r1)) (ln ?_)
 refine wpE_cond (t:=(!r1)) (by kernel_rfl) (fun hc1=>?_) (fun hc1=>?_)
 have h:=h.1 hc1
 refine eg (q0 (.agg #[(vi 0),(vi 0),(vi 0),(vu 0),ve,(vi 0),(vi 0)]) (st_set (want0 rfl) (xo p2 [(vi 0),(vi 0),(vi 0),(vu 0),ve,(vi 0),(vi 0)] (sizeOf176 _) (hb.k0 0 7 gZ)) ?_))
 intro w3 hn2
 obtain ⟨hs,hb⟩:=hb.s0 (l':=[(p2,[(vi 0),(vi 0),(vi 0),(vu 0),ve,(vi 0),(vi 0)],176)]) 0 [(vi 0),(vi 0),(vi 0),(vu 0),ve,(vi 0),(vi 0)] hs hn2 gZ
 refine q0 (vb false) (ln (er (th_r ?_)))
 have h:=h w3 hs
 have hs:=hs.here
 refine resG (.inl rfl) (vs:=[(.agg #[(vi 0),(vi 0),(vi 0),(vu 0),ve,(vi 0),(vi 0)]),(vb false)]) (v:=(.tuple #[(.agg #[(vi 0),(vi 0),(vi 0),(vu 0),ve,(vi 0),(vi 0)]),(vb false)])) results104 ⟨(rva (isAgg176 _) (sizeOf176 _) (hb.r0 0 7 gZ)),(rvT (by kernel_rfl)),trivial⟩ (by kernel_rfl) ?_
 exact ⟨0,0,0,0,⟨#[]⟩,0,0,false,rfl,h⟩
 have h:=h.2 hc1
 refine wpE_skip (th_n (eg (q0 (vp p1) ?_)))
 obtain ⟨a1,hp1,h⟩:=h
 refine q2 (vp (some a1)) (xn hp1) (q0 (vp (some a1)) ?_)
 obtain ⟨v1,hv3,h⟩:=h
 refine q2 v1.v (xl (isAgg41 _) hv3) (q0 (vi t1) (q0 (vi (q6.wrap (t1 - 1))) ?_))
 obtain ⟨a2,hv2,h⟩:=h
 refine q2 (vp (some a2)) (xi (runUnderlying41 _) (sizeOf176 _) hv2) ?_
 obtain ⟨aO,aP,aQ,aR,aS,bM,bN,hv1,h⟩:=h
 refine q2 (.agg #[(vi aO),(vi aP),(vi aQ),(vu aR),(vs aS),(vi bM),(vi bN)]) (xa a2 [(vi aO),(vi aP),(vi aQ),(vu aR),(vs aS),(vi bM),(vi bN)] (isAgg176 _) (sizeOf176 _) hv1) (st_set (want0 rfl) (xo p2 [(vi aO),(vi aP),(vi aQ),(vu aR),(vs aS),(vi bM),(vi bN)] (sizeOf176 _) (hb.k0 0 7 gZ)) ?_)
 intro w4 hn3
 obtain ⟨hs,hb⟩:=hb.s0 (l':=[(p2,[(vi aO),(vi aP),(vi aQ),(vu aR),(vs aS),(vi bM),(vi bN)],176)]) 0 [(vi aO),(vi aP),(vi aQ),(vu aR),(vs aS),(vi bM),(vi bN)] hs hn3 gZ
 refine q0 (vb true) (ln (er ?_))
 have h:=h w4 hs
 have hs:=hs.here
 refine resG (.inl rfl) (vs:=[(.agg #[(vi aO),(vi aP),(vi aQ),(vu aR),(vs aS),(vi bM),(vi bN)]),(vb true)]) (v:=(.tuple #[(.agg #[(vi aO),(vi aP),(vi aQ),(vu aR),(vs aS),(vi bM),(vi bN)]),(vb true)])) results104 ⟨(rva (isAgg176 _) (sizeOf176 _) (hb.r0 0 7 gZ)),(rvT (by kernel_rfl)),trivial⟩ (by kernel_rfl) ?_
 exact ⟨aO,aP,aQ,aR,aS,bM,bN,true,rfl,h⟩
def s_C (kind1:Int):Int :=
 (cond (kind1 == 4) 2 (cond (cond (kind1 == 5) (kind1 == 5) (cond (kind1 == 7) (kind1 == 7) (cond (kind1 == 8) (kind1 == 8) (kind1 == 9)))) 1 0))
theorem pw_C (kind1 : Int) (w0 : World) :
  Calls prog 105 #[(vi kind1)] w0 (fun e w'=>∃b'0 b'1:Bool,((kind1 == 4)=b'0∧(cond (kind1 == 5) (kind1 == 5) (cond (kind1 == 7) (kind1 == 7) (cond (kind1 == 8) (kind1 == 8) (kind1 == 9))))=b'1)∧(e=.returned (vi (cond b'0 2 (cond b'1 1 0))))∧Pure w0 w'):=by
 refine cw (args:=[(vi kind1)]) func105 ntmps105 (eg (q0 (vi 0) (ln (wpE_seq (eg (q0 (vi kind1) (ln ?_)))))))
 refine wpE_block (eg (q0 (vb (kind1 == 4)) (q0 (vb (kind1 == 4)) (ln ?_))))
 refine wpE_cond (t:=(kind1 == 4)) (by kernel_rfl) (fun hc1=>?_) (fun hc1=>?_)
 refine eg (q0 (vi 2) (ln (er (bl_r (th_r (rs1 results105 (v:=(vi 2)) ?_))))))
 exact ⟨true,_,⟨hc1,rfl⟩,by kernel_rfl,Ext.refl _⟩
 refine wpE_seq (eg (q0 (vb (kind1 == 5)) (q0 (vb (kind1 == 5)) (ln ?_))))
 refine wpE_via (fun ρ wJ=>∃b1'0 b1'1 b1'2:Bool,((kind1 == 5)=b1'0)∧((kind1 == 7)=b1'1)∧((kind1 == 8)=b1'2)∧w0=wJ∧Has ρ [(6,(vb (cond b1'0 (kind1 == 5) (cond b1'1 (kind1 == 7) (cond b1'2 (kind1 == 8) (kind1 == 9))))))]) ?_ ?_
 refine wpE_cond (t:=(kind1 == 5)) (by kernel_rfl) (fun hc5=>?_) (fun hc5=>?_)
 refine wpE_skip (th_n ?_)
 exact ⟨true,_,_,hc5,rfl,rfl,rfl,hm⟩
 refine eg (q0 (vb (kind1 == 7)) (q0 (vb (kind1 == 7)) (ln ?_)))
 refine wpE_cond (t:=(kind1 == 7)) (by kernel_rfl) (fun hc6=>?_) (fun hc6=>?_)
 refine wpE_skip (th_n ?_)
 exact ⟨false,true,_,hc5,hc6,rfl,rfl,hm⟩
 refine eg (q0 (vb (kind1 == 8)) (q0 (vb (kind1 == 8)) (ln ?_)))
 refine wpE_cond (t:=(kind1 == 8)) (by kernel_rfl) (fun hc7=>?_) (fun hc7=>?_)
 refine wpE_skip (th_n ?_)
 exact ⟨false,false,true,hc5,hc6,hc7,rfl,hm⟩
 refine rg (q0 (vb (kind1 == 9)) (q0 (vb (kind1 == 9)) (ln ?_)))
 exact ⟨false,false,false,hc5,hc6,hc7,rfl,hm⟩
 rintro ρ w1 ⟨b1'0,b1'1,b1'2,he0,he1,he2,hw,hH⟩
 subst he0
 subst he1
 subst he2
 subst hw
 refine norm_has hH ?_
 refine th_n ?_
 refine wpE_cond (t:=(cond (kind1 == 5) (kind1 == 5) (cond (kind1 == 7) (kind1 == 7) (cond (kind1 == 8) (kind1 == 8) (kind1 == 9))))) (by kernel_rfl) (fun hc8=>?_) (fun hc8=>?_)
 refine eg (q0 (vi 1) (ln (er (bl_r (th_r (rs1 results105 (v:=(vi 1)) ?_))))))
 exact ⟨false,true,⟨hc1,hc8⟩,by kernel_rfl,Ext.refl _⟩
 refine wpE_skip (bl_n (th_n (eg (q0 (vi 0) (ln (er (rs1 results105 (v:=(vi 0)) ?_)))))))
 exact ⟨false,false,⟨hc1,hc8⟩,by kernel_rfl,Ext.refl _⟩
theorem p_C (kind1:Int) (w0:World):Calls prog 105 #[(.int .i64 kind1)] w0 (fun e w'=>e=.returned (.int .i64 (s_C kind1))∧Pure w0 w'):=by
 refine (pw_C kind1 w0).mono ?_
 rintro e w' ⟨b'0,b'1,⟨e0,e1⟩,h,E⟩
 subst e0
 subst e1
 exact ⟨h,E⟩
def m_A1_j1 (p1:Option Addr) (aN bE:Int) (aE aI:Int) (aJ aK:Int) (aL:ByteArray) (aH:Sl) (w0:World) (H:NP) (w:World) (K:Int→Int→Int→Int→ByteArray→Sl→WP):Prop :=
 Br (((s_C aN):Int) == 2)
  (∀(w9:World),Hst w0 H w H w9 →
  ∃C1:WP,C1 w9.drew∧∀w10,w10=w9.drew →
  Calls prog 49 #[(vp p1),(vi bE)] w10 (fun e w11=>∃bU bV:Int,∃bW bX:Int,∃bY:ByteArray,∃bZ:Sl,e=.returned (.agg #[(vi bU),(vi bV),(vi bW),(vu bX),(vs bY),bZ.v])∧C1 w11∧
   Kept H w10 w11 ∧
   ∀(p5:Addr) (w12:World),New w11 (.cells #[(vi bU),(vi bV),(vi bW),(vu bX),(vs bY),bZ.v] 107) p5 w12→C1 w12 ∧
   ∃s1:Sl,∃w13:World,(Builtin.append_ #[66,66] 66 #[aH.v,(Sl.mk (some p5) 1 1).v]).run prog w12=.ok s1.v w13∧C1 w13 ∧
   Kept H w12 w13 ∧
   ∀(w15:World),Hst w0 H w13 H w15 →
   K aE aI aJ aK aL s1 w15))
  (∀(w16:World),Hst w0 H w H w16 →
  K aE aI aJ aK aL aH w16)
def m_A1 (p1:Option Addr) (t1:Int) (w0:World) (K:Int→Int→Int→Int→ByteArray→Sl→WP):Prop :=
 ∀(H1:NP) (w1:World),Hst w0 None w0 H1 w1 →
 Calls prog 104 #[(vp p1),(vi t1)] w1 (fun e w2=>∃aN aT:Int,∃aU aV:Int,∃aW:ByteArray,∃bJ bE:Int,∃r1:Bool,e=.returned (.tuple #[(.agg #[(vi aN),(vi aT),(vi aU),(vu aV),(vs aW),(vi bJ),(vi bE)]),(vb r1)])∧
  Kept H1 w1 w2 ∧
  Br (!r1)
   (∀(H2:NP) (w5:World),Hst w0 H1 w2 H2 w5 →
   K 0 0 0 0 ⟨#[]⟩ Sl.nil w5)
   (Br (decide ((s_C aN)≥1))
    (∀(H3:NP) (w8:World),Hst w0 H1 w2 H3 w8 →
    ∃C2:WP,C2 w8.drew∧∀w17,w17=w8.drew →
    Calls prog 49 #[(vp p1),(vi bJ)] w17 (fun e w18=>∃cA cB:Int,∃cC cD:Int,∃cE:ByteArray,∃cF:Sl,e=.returned (.agg #[(vi cA),(vi cB),(vi cC),(vu cD),(vs cE),cF.v])∧C2 w18∧
     Kept H3 w17 w18 ∧
     ∀(p6:Addr) (w19:World),New w18 (.cells #[(vi cA),(vi cB),(vi cC),(vu cD),(vs cE),cF.v] 107) p6 w19→C2 w19 ∧
     ∃s2:Sl,∃w20:World,(Builtin.append_ #[66,66] 66 #[Sl.nil.v,(Sl.mk (some p6) 1 1).v]).run prog w19=.ok s2.v w20∧C2 w20 ∧
     Kept H3 w19 w20 ∧
     ∀(w21:World),Hst w0 H3 w20 H3 w21 →
     m_A1_j1 p1 aN bE aN aT aU aV aW s2 w0 H3 w21 K))
    (∀(H3:NP) (w8:World),Hst w0 H1 w2 H3 w8 →
    m_A1_j1 p1 aN bE aN aT aU aV aW Sl.nil w0 H3 w8 K)))
theorem w_A1 (p1 : Option Addr) (t1 : Int) (w0 : World) (K : Int → Int → Int → Int → ByteArray → Sl → WP) (h : m_A1 p1 t1 w0 K) :
  Calls prog 49 #[(vp p1),(vi t1)] w0 (fun e w'=>∃cG cH:Int,∃cI cJ:Int,∃cK:ByteArray,∃cL:Sl,e=.returned (.agg #[(vi cG),(vi cH),(vi cI),(vu cJ),(vs cK),cL.v])∧K cG cH cI cJ cK cL w'):=by
 unfold m_A1 at h
 refine cw (args:=[(vp p1),(vi t1)]) func49 ntmps49 ?_
 have hs:=Hst.start w0
 have hb:=HB.nil None w0
 refine eg (sn (O:=(.cells #[(vi 0),(vi 0),(vi 0),(vu 0),ve,Sl.nil.v] 107)) (x_alloc (zeroValue107 _) rfl) ?_)
 intro p2 w1 hn1
 obtain ⟨H1,hs,hb⟩:=hs.alloc hb hn1
 refine ln (eg (q0 (vp p1) (q0 (vi t1) ?_)))
 have h:=h H1 w1 hs
 have hs:=hs.here
 refine sc call104 (h.mono ?_)
 rintro e w2 ⟨aN,aT,aU,aV,aW,bJ,bE,r1,rfl,hk,h⟩
 refine ⟨_,rfl,?_⟩
 obtain ⟨hs,hb⟩:=hk.hh hs hb
 refine q0 (.tuple #[(.agg #[(vi aN),(vi aT),(vi aU),(vu aV),(vs aW),(vi bJ),(vi bE)]),(vb r1)]) (q0 (.agg #[(vi aN),(vi aT),(vi aU),(vu aV),(vs aW),(vi bJ),(vi bE)]) (q0 (vb r1) (sn (O:=(.cells #[(vi 0),(vi 0),(vi 0),(vu 0),ve,(vi 0),(vi 0)] 176)) (x_alloc (zeroValue176 _) rfl) ?_)))
 intro p3 w3 hn2
 obtain ⟨H2,hs,hb⟩:=hs.alloc hb hn2
 refine ss (xo p3 [(vi aN),(vi aT),(vi aU),(vu aV),(vs aW),(vi bJ),(vi bE)] (sizeOf176 _) (hb.k0 0 7 gZ)) ?_
 intro w4 hn3
 obtain ⟨hs,hb⟩:=hb.s0 (l':=[(p3,[(vi aN),(vi aT),(vi aU),(vu aV),(vs aW),(vi bJ),(vi bE)],176),(p2,[(vi 0),(vi 0),(vi 0),(vu 0),ve,Sl.nil.v],107)]) 0 [(vi aN),(vi aT),(vi aU),(vu aV),(vs aW),(vi bJ),(vi bE)] hs hn3 gZ
 refine q0 (vb r1) (ln (wpE_seq (eg (q0 (vb r1) (q0 (vb (!r1)) (ln ?_))))))
 refine wpE_cond (t:=(!r1)) (by kernel_rfl) (fun hc1=>?_) (fun hc1=>?_)
 have h:=h.1 hc1
 refine eg (q0 (.agg #[(vi 0),(vi 0),(vi 0),(vu 0),ve,Sl.nil.v]) (st_set (want0 rfl) (xo p2 [(vi 0),(vi 0),(vi 0),(vu 0),ve,Sl.nil.v] (sizeOf107 _) (hb.k0 1 6 (gS gZ))) ?_))
 intro w5 hn4
 obtain ⟨hs,hb⟩:=hb.s0 (l':=[(p3,[(vi aN),(vi aT),(vi aU),(vu aV),(vs aW),(vi bJ),(vi bE)],176),(p2,[(vi 0),(vi 0),(vi 0),(vu 0),ve,Sl.nil.v],107)]) 1 [(vi 0),(vi 0),(vi 0),(vu 0),ve,Sl.nil.v] hs hn4 (gS gZ)
 refine ln (er (th_r ?_))
 have h:=h H2 w5 hs
 have hs:=hs.here
 refine resG (.inl rfl) (vs:=[(.agg #[(vi 0),(vi 0),(vi 0),(vu 0),ve,Sl.nil.v])]) (v:=(.agg #[(vi 0),(vi 0),(vi 0),(vu 0),ve,Sl.nil.v])) results49 ⟨(rva (isAgg107 _) (sizeOf107 _) (hb.r0 1 6 (gS gZ))),trivial⟩ (by kernel_rfl) ?_
 exact ⟨0,0,0,0,⟨#[]⟩,Sl.nil,rfl,h⟩
 have h:=h.2 hc1
 refine wpE_skip (th_n (eg (q0 (vp (some p3)) (q2 (vi aN) (xl (isAgg3 _) (hb.c0 0 gZ)) (q0 (vp (some (p3.add 1))) (q2 (vi aT) (xl (isAgg3 _) (hb.c 0 1 gZ)) (q0 (vp (some (p3.add 2))) (q2 (vi aU) (xl (isAgg3 _) (hb.c 0 2 gZ)) (q0 (vp (some (p3.add 3))) (q2 (vu aV) (xl (isAgg23 _) (hb.c 0 3 gZ)) ?_))))))))))
 refine q0 (vp (some (p3.add 4))) (q2 (vs aW) (xl (isAgg9 _) (hb.c 0 4 gZ)) (q0 (.agg #[(vi aN),(vi aT),(vi aU),(vu aV),(vs aW),Sl.nil.v]) (sn (O:=(.cells #[(vi 0),(vi 0),(vi 0),(vu 0),ve,Sl.nil.v] 107)) (x_alloc (zeroValue107 _) rfl) ?_)))
 intro p4 w6 hn5
 obtain ⟨H3,hs,hb⟩:=hs.alloc hb hn5
 refine ss (xo p4 [(vi aN),(vi aT),(vi aU),(vu aV),(vs aW),Sl.nil.v] (sizeOf107 _) (hb.k0 0 6 gZ)) ?_
 intro w7 hn6
 obtain ⟨hs,hb⟩:=hb.s0 (l':=[(p4,[(vi aN),(vi aT),(vi aU),(vu aV),(vs aW),Sl.nil.v],107),(p3,[(vi aN),(vi aT),(vi aU),(vu aV),(vs aW),(vi bJ),(vi bE)],176),(p2,[(vi 0),(vi 0),(vi 0),(vu 0),ve,Sl.nil.v],107)]) 0 [(vi aN),(vi aT),(vi aU),(vu aV),(vs aW),Sl.nil.v] hs hn6 gZ
 refine ln (wpE_seq (eg (q0 (vp (some p3)) (q2 (vi aN) (xl (isAgg3 _) (hb.c0 1 (gS gZ))) ?_))))
 refine sc call105 ((p_C aN w7).mono ?_)
 rintro e w8 ⟨he,hE⟩
 refine ⟨(vi (s_C aN)),he.trans (by kernel_rfl),?_⟩
 have hs:=hs.pure hE
 have hb:=hb.pure hE
 refine q0 (vb (decide ((s_C aN)≥1))) (ln ?_)
 refine wpE_joinT (fun ρ w=>∃aE aI:Int,∃aJ aK:Int,∃aL:ByteArray,∃aH:Sl,∃H:NP,Has ρ [(0,(vp p1)),(4,(vp (some p2))),(5,(vp (some p3))),(7,(vp (some p4)))]∧Hst w0 H w H w∧HB H w [(p4,[(vi aE),(vi aI),(vi aJ),(vu aK),(vs aL),aH.v],107),(p3,[(vi aN),(vi aT),(vi aU),(vu aV),(vs aW),(vi bJ),(vi bE)],176),(p2,[(vi 0),(vi 0),(vi 0),(vu 0),ve,Sl.nil.v],107)]∧m_A1_j1 p1 aN bE aE aI aJ aK aL aH w0 H w K) ?_ ?_
 rintro ρ w ⟨aE,aI,aJ,aK,aL,aH,H,hH,hs,hb,h⟩
 unfold m_A1_j1 at h
 refine wpE_has hH ?_
 refine wpE_seq (eg (q0 (vp (some p3)) (q2 (vi aN) (xl (isAgg3 _) (hb.c0 1 (gS gZ))) ?_)))
 refine sc call105 ((p_C aN w).mono ?_)
 rintro e w9 ⟨he,hE⟩
 refine ⟨(vi (s_C aN)),he.trans (by kernel_rfl),?_⟩
 have hs:=hs.pure hE
 have hb:=hb.pure hE
 refine q0 (vb (((s_C aN):Int) == 2)) (ln ?_)
 refine wpE_cond (t:=(((s_C aN):Int) == 2)) (by kernel_rfl) (fun hc2=>?_) (fun hc2=>?_)
 have h:=h.1 hc2
 have h:=h w9 hs
 have hs:=hs.here
 obtain ⟨C1,hC,h⟩:=h
 refine wpE_drawnC (fun x=>C1 x∧HB H x [(p4,[(vi aE),(vi aI),(vi aJ),(vu aK),(vs aL),aH.v],107),(p3,[(vi aN),(vi aT),(vi aU),(vu aV),(vs aW),(vi bJ),(vi bE)],176),(p2,[(vi 0),(vi 0),(vi 0),(vu 0),ve,Sl.nil.v],107)]) [5,6,7,9] [9] (by kernel_rfl) (by kernel_rfl) (by kernel_rfl) (by kernel_rfl) ⟨hC,hb.drew⟩ ?_
 intro w10 hw10
 have h:=h w10 hw10
 have hs:Hst w0 H w9 H w10:=by rw [hw10];exact hs.drew
 have hb:HB H w10 [(p4,[(vi aE),(vi aI),(vi aJ),(vu aK),(vs aL),aH.v],107),(p3,[(vi aN),(vi aT),(vi aU),(vu aV),(vs aW),(vi bJ),(vi bE)],176),(p2,[(vi 0),(vi 0),(vi 0),(vu 0),ve,Sl.nil.v],107)]:=by rw [hw10];exact hb.drew
 have hs:=hs.here
 refine qx 0 (vp (some (p4.add 5))) Kp0 (qz 1 aH.v Kp1 (fun w' hw'=>(xl (isAgg66 _) (hw'.2.cell 0 5 gZ (by kernel_rfl)))) (qx 2 (vp p1) Kp2 (qx 3 (vp (some (p3.add 6))) Kp3 (qz 4 (vi bE) Kp4 (fun w' hw'=>(xl (isAgg78 _) (hw'.2.cell 1 6 (gS gZ) (by kernel_rfl)))) (lg 5 ?_)))))
 refine slc Kp5 call49 (h.mono ?_)
 rintro e w11 ⟨bU,bV,bW,bX,bY,bZ,rfl,hC,hk,h⟩
 refine ⟨_,rfl,.inr ⟨hC,hb.kept hk⟩,?_⟩
 obtain ⟨hs,hb⟩:=hk.hh hs hb
 refine lg 6 (sl_new (O:=(.cells #[(vi bU),(vi bV),(vi bW),(vu bX),(vs bY),bZ.v] 107)) (fun p=>(Sl.mk (some p) 1 1).v) Kp6 (want0 rfl) (by kernel_rfl) (x_buildSlice (vs:=#[(0,(.agg #[(vi bU),(vi bV),(vi bW),(vu bX),(vs bY),bZ.v]))]) (by kernel_rfl) (by kernel_rfl)) ?_)
 intro p5 w12 hn9
 have h:=h p5 w12 hn9
 refine ⟨.inr ⟨h.1,hb.kept (Ext.new (F:=None) hn9).keptP⟩,?_⟩
 have h:=h.2
 have hs:=hs.again (Ext.new (F:=None) hn9).keptP
 have hb:=hb.kept (Ext.new (F:=None) hn9).keptP
 refine lg 7 ?_
 obtain ⟨s1,w13,hv1,hC,hk,h⟩:=h
 refine sl (v:=s1.v) Kp7 (want0 rfl) (by kernel_rfl) (x_builtin (args:=#[aH.v,(Sl.mk (some p5) 1 1).v]) (by kernel_rfl) (fun _=>rfl) hv1) (.inr ⟨hC,hb.kept hk⟩) ?_
 obtain ⟨hs,hb⟩:=hk.hh hs hb
 refine qx 8 (vp (some (p4.add 5))) Kp8 (lg 9 (sl_t Kp9 (xs (v:=s1.v) (sizeOf66 _) (hb.canW 0 5 gZ (by kernel_rfl))) ?_))
 intro w14 hn7
 have hsb:Hst w0 H w13 H w14∧HB H w14 [(p4,[(vi aE),(vi aI),(vi aJ),(vu aK),(vs aL),s1.v],107),(p3,[(vi aN),(vi aT),(vi aU),(vu aV),(vs aW),(vi bJ),(vi bE)],176),(p2,[(vi 0),(vi 0),(vi 0),(vu 0),ve,Sl.nil.v],107)]:=by
  rw [hn7]
  exact hb.set (i:=0) 5 (v:=s1.v) hs gZ (by kernel_rfl)
 obtain ⟨hs,hb⟩:=hsb
 refine ⟨.inl (by kernel_rfl),?_⟩
 refine wn (th_n (eg (q2 (.agg #[(vi aE),(vi aI),(vi aJ),(vu aK),(vs aL),s1.v]) (xa p4 [(vi aE),(vi aI),(vi aJ),(vu aK),(vs aL),s1.v] (isAgg107 _) (sizeOf107 _) (hb.r0 0 6 gZ)) (st_set (want0 rfl) (xo p2 [(vi aE),(vi aI),(vi aJ),(vu aK),(vs aL),s1.v] (sizeOf107 _) (hb.k0 2 6 (gS (gS gZ)))) ?_))))
 intro w15 hn8
 obtain ⟨hs,hb⟩:=hb.s0 (l':=[(p4,[(vi aE),(vi aI),(vi aJ),(vu aK),(vs aL),s1.v],107),(p3,[(vi aN),(vi aT),(vi aU),(vu aV),(vs aW),(vi bJ),(vi bE)],176),(p2,[(vi aE),(vi aI),(vi aJ),(vu aK),(vs aL),s1.v],107)]) 2 [(vi aE),(vi aI),(vi aJ),(vu aK),(vs aL),s1.v] hs hn8 (gS (gS gZ))
 refine ln (er ?_)
 have h:=h w15 hs
 have hs:=hs.here
 refine resG (.inl rfl) (vs:=[(.agg #[(vi aE),(vi aI),(vi aJ),(vu aK),(vs aL),s1.v])]) (v:=(.agg #[(vi aE),(vi aI),(vi aJ),(vu aK),(vs aL),s1.v])) results49 ⟨(rva (isAgg107 _) (sizeOf107 _) (hb.r0 2 6 (gS (gS gZ)))),trivial⟩ (by kernel_rfl) ?_
 exact ⟨aE,aI,aJ,aK,aL,s1,rfl,h⟩
 have h:=h.2 hc2
 refine wpE_skip (th_n (eg (q2 (.agg #[(vi aE),(vi aI),(vi aJ),(vu aK),(vs aL),aH.v]) (xa p4 [(vi aE),(vi aI),(vi aJ),(vu aK),(vs aL),aH.v] (isAgg107 _) (sizeOf107 _) (hb.r0 0 6 gZ)) (st_set (want0 rfl) (xo p2 [(vi aE),(vi aI),(vi aJ),(vu aK),(vs aL),aH.v] (sizeOf107 _) (hb.k0 2 6 (gS (gS gZ)))) ?_))))
 intro w16 hn10
 obtain ⟨hs,hb⟩:=hb.s0 (l':=[(p4,[(vi aE),(vi aI),(vi aJ),(vu aK),(vs aL),aH.v],107),(p3,[(vi aN),(vi aT),(vi aU),(vu aV),(vs aW),(vi bJ),(vi bE)],176),(p2,[(vi aE),(vi aI),(vi aJ),(vu aK),(vs aL),aH.v],107)]) 2 [(vi aE),(vi aI),(vi aJ),(vu aK),(vs aL),aH.v] hs hn10 (gS (gS gZ))
 refine ln (er ?_)
 have h:=h w16 hs
 have hs:=hs.here
 refine resG (.inl rfl) (vs:=[(.agg #[(vi aE),(vi aI),(vi aJ),(vu aK),(vs aL),aH.v])]) (v:=(.agg #[(vi aE),(vi aI),(vi aJ),(vu aK),(vs aL),aH.v])) results49 ⟨(rva (isAgg107 _) (sizeOf107 _) (hb.r0 2 6 (gS (gS gZ)))),trivial⟩ (by kernel_rfl) ?_
 exact ⟨aE,aI,aJ,aK,aL,aH,rfl,h⟩
 refine wpE_cond (t:=(decide ((s_C aN)≥1))) (by kernel_rfl) (fun hc3=>?_) (fun hc3=>?_)
 have h:=h.1 hc3
 have h:=h H3 w8 hs
 have hs:=hs.here
 obtain ⟨C2,hC,h⟩:=h
 refine wpE_drawnC (fun x=>C2 x∧HB H3 x [(p4,[(vi aN),(vi aT),(vi aU),(vu aV),(vs aW),Sl.nil.v],107),(p3,[(vi aN),(vi aT),(vi aU),(vu aV),(vs aW),(vi bJ),(vi bE)],176),(p2,[(vi 0),(vi 0),(vi 0),(vu 0),ve,Sl.nil.v],107)]) [5,6,7,9] [9] (by kernel_rfl) (by kernel_rfl) (by kernel_rfl) (by kernel_rfl) ⟨hC,hb.drew⟩ ?_
 intro w17 hw17
 have h:=h w17 hw17
 have hs:Hst w0 H3 w8 H3 w17:=by rw [hw17];exact hs.drew
 have hb:HB H3 w17 [(p4,[(vi aN),(vi aT),(vi aU),(vu aV),(vs aW),Sl.nil.v],107),(p3,[(vi aN),(vi aT),(vi aU),(vu aV),(vs aW),(vi bJ),(vi bE)],176),(p2,[(vi 0),(vi 0),(vi 0),(vu 0),ve,Sl.nil.v],107)]:=by rw [hw17];exact hb.drew
 have hs:=hs.here
 refine qx 0 (vp (some (p4.add 5))) Kp0 (qz 1 Sl.nil.v Kp1 (fun w' hw'=>(xl (isAgg66 _) (hw'.2.cell 0 5 gZ (by kernel_rfl)))) (qx 2 (vp p1) Kp2 (qx 3 (vp (some (p3.add 5))) Kp3 (qz 4 (vi bJ) Kp4 (fun w' hw'=>(xl (isAgg78 _) (hw'.2.cell 1 5 (gS gZ) (by kernel_rfl)))) (lg 5 ?_)))))
 refine slc Kp5 call49 (h.mono ?_)
 rintro e w18 ⟨cA,cB,cC,cD,cE,cF,rfl,hC,hk,h⟩
 refine ⟨_,rfl,.inr ⟨hC,hb.kept hk⟩,?_⟩
 obtain ⟨hs,hb⟩:=hk.hh hs hb
 refine lg 6 (sl_new (O:=(.cells #[(vi cA),(vi cB),(vi cC),(vu cD),(vs cE),cF.v] 107)) (fun p=>(Sl.mk (some p) 1 1).v) Kp6 (want0 rfl) (by kernel_rfl) (x_buildSlice (vs:=#[(0,(.agg #[(vi cA),(vi cB),(vi cC),(vu cD),(vs cE),cF.v]))]) (by kernel_rfl) (by kernel_rfl)) ?_)
 intro p6 w19 hn12
 have h:=h p6 w19 hn12
 refine ⟨.inr ⟨h.1,hb.kept (Ext.new (F:=None) hn12).keptP⟩,?_⟩
 have h:=h.2
 have hs:=hs.again (Ext.new (F:=None) hn12).keptP
 have hb:=hb.kept (Ext.new (F:=None) hn12).keptP
 refine lg 7 ?_
 obtain ⟨s2,w20,hv2,hC,hk,h⟩:=h
 refine sl (v:=s2.v) Kp7 (want0 rfl) (by kernel_rfl) (x_builtin (args:=#[Sl.nil.v,(Sl.mk (some p6) 1 1).v]) (by kernel_rfl) (fun _=>rfl) hv2) (.inr ⟨hC,hb.kept hk⟩) ?_
 obtain ⟨hs,hb⟩:=hk.hh hs hb
 refine qx 8 (vp (some (p4.add 5))) Kp8 (lg 9 (sl_t Kp9 (xs (v:=s2.v) (sizeOf66 _) (hb.canW 0 5 gZ (by kernel_rfl))) ?_))
 intro w21 hn11
 have hsb:Hst w0 H3 w20 H3 w21∧HB H3 w21 [(p4,[(vi aN),(vi aT),(vi aU),(vu aV),(vs aW),s2.v],107),(p3,[(vi aN),(vi aT),(vi aU),(vu aV),(vs aW),(vi bJ),(vi bE)],176),(p2,[(vi 0),(vi 0),(vi 0),(vu 0),ve,Sl.nil.v],107)]:=by
  rw [hn11]
  exact hb.set (i:=0) 5 (v:=s2.v) hs gZ (by kernel_rfl)
 obtain ⟨hs,hb⟩:=hsb
 refine ⟨.inl (by kernel_rfl),?_⟩
 refine wn ?_
 have h:=h w21 hs
 have hs:=hs.here
 refine th_n ?_
 exact ⟨aN,aT,aU,aV,aW,s2,H3,hm,hs,hb,h⟩
 have h:=h.2 hc3
 refine wpE_skip ?_
 have h:=h H3 w8 hs
 have hs:=hs.here
 refine th_n ?_
 exact ⟨aN,aT,aU,aV,aW,Sl.nil,H3,hm,hs,hb,h⟩
def m_D4  (w0:World) (K:(Option Addr)→WP):Prop :=
 ∀(p1:Addr) (w1:World),New w0 (.cells #[Sl.nil.v,Sl.nil.v,Sl.nil.v] 44) p1 w1 →
 K (some p1) w1
theorem w_D4  (w0 : World) (K : (Option Addr) → WP) (h : m_D4  w0 K) :
  Calls prog 63 #[] w0 (fun e w'=>∃r1:Option Addr,e=.returned (vp r1)∧K r1 w'):=by
 unfold m_D4 at h
 refine cw (args:=[]) func63 ntmps63 (eg (q0 (vp none) (ln (eg (q0 (.agg #[Sl.nil.v,Sl.nil.v,Sl.nil.v]) (sn (O:=(.cells #[Sl.nil.v,Sl.nil.v,Sl.nil.v] 44)) xb ?_))))))
 intro p1 w1 hn1
 have h:=h p1 w1 hn1
 refine q0 (vp (some p1)) (ln (er (rs1 results63 (v:=(vp (some p1))) ?_)))
 exact ⟨(some p1),rfl,h⟩
def m_M1_l1 (aH:Sl) (most1 n1 i1:Int) (w0:World) (Hl1:NP) (wl1:World) (Kc1:Int→Int→NP→WP) (K:Int→WP):Prop :=
 Br ((decide (i1<(aH.len:Int))) && (decide (n1≤most1)))
  (∃a1:Addr,At aH i1 6 a1 ∧
  ∀(H2:NP) (w2:World),Hst w0 Hl1 wl1 H2 w2 →
  ∃aO aP:Int,∃aQ aR:Int,∃aS:ByteArray,∃bI:Sl,Row w2 a1 [(vi aO),(vi aP),(vi aQ),(vu aR),(vs aS),bI.v] ∧
  Calls prog 75 #[(.agg #[(vi aO),(vi aP),(vi aQ),(vu aR),(vs aS),bI.v]),(vi (q6.wrap (most1 - n1)))] w2 (fun e w3=>∃r1:Int,e=.returned (vi r1)∧
   Kept H2 w2 w3 ∧
   Kc1 (q6.wrap (n1+r1)) (q6.wrap (i1+1)) H2 w3))
  (∀(H2:NP) (w2:World),Hst w0 Hl1 wl1 H2 w2 →
  K n1 w2)
def m_M1 (aE aI:Int) (aJ aK:Int) (aL:ByteArray) (aH:Sl) (most1:Int) (w0:World) (K:Int→WP):Prop :=
 ∀(H1:NP) (w1:World),Hst w0 None w0 H1 w1 →
 ∃(I1:Int→Int→NP→WP) (mu1:Int→Int→World→Nat),I1 1 0 H1 w1 ∧
  ∀(n1 i1:Int) (Hl1:NP) (wl1:World),Hst w0 Hl1 wl1 Hl1 wl1→I1 n1 i1 Hl1 wl1→m_M1_l1 aH most1 n1 i1 w0 Hl1 wl1 (fun y'0 y'1 H' w'=>I1 y'0 y'1 H' w'∧mu1 y'0 y'1 w'<mu1 n1 i1 wl1) K
theorem w_M1 (aE aI : Int) (aJ aK : Int) (aL : ByteArray) (aH : Sl) (most1 : Int) (w0 : World) (K : Int → WP) (h : m_M1 aE aI aJ aK aL aH most1 w0 K) :
  Calls prog 75 #[(.agg #[(vi aE),(vi aI),(vi aJ),(vu aK),(vs aL),aH.v]),(vi most1)] w0 (fun e w'=>∃r2:Int,e=.returned (vi r2)∧K r2 w'):=by
 unfold m_M1 at h
 refine cw (args:=[(.agg #[(vi aE),(vi aI),(vi aJ),(vu aK),(vs aL),aH.v]),(vi most1)]) func75 ntmps75 ?_
 have hs:=Hst.start w0
 have hb:=HB.nil None w0
 refine eg (sn (O:=(.cells #[(vi aE),(vi aI),(vi aJ),(vu aK),(vs aL),aH.v] 107)) xb ?_)
 intro p1 w1 hn1
 obtain ⟨H1,hs,hb⟩:=hs.alloc hb hn1
 refine q0 (vi 0) (ln (eg (q0 (vi 1) (ln (wpE_seq (eg (q0 (vi 0) ?_)))))))
 refine ln (wpE_block ?_)
 have h:=h H1 w1 hs
 have hs:=hs.here
 obtain ⟨I1,mu1,h0,hr⟩:=h
 refine wpE_loop (σ:=Int×Int×NP×World) (fun s ρ w=>w=s.2.2.2∧Has ρ [(1,(vi most1)),(2,(vp (some p1))),(5,(vi s.1)),(6,(vi s.2.1))]∧Hst w0 s.2.2.1 w s.2.2.1 w∧HB s.2.2.1 w [(p1,[(vi aE),(vi aI),(vi aJ),(vu aK),(vs aL),aH.v],107)]∧I1 s.1 s.2.1 s.2.2.1 s.2.2.2) (fun s=>mu1 s.1 s.2.1 s.2.2.2) (1,0,H1,w1) ⟨rfl,hm,hs,hb,h0⟩ ?_
 rintro ⟨n1,i1,Hl1,wl1⟩ ρ w ⟨hw,hH,hs,hb,hI⟩
 obtain rfl:wl1=w:=(show w=wl1 from hw).symm
 have hH:Has ρ [(1,(vi most1)),(2,(vp (some p1))),(5,(vi n1)),(6,(vi i1))]:=hH
 have hs:Hst w0 Hl1 wl1 Hl1 wl1:=hs
 have hb:HB Hl1 wl1 [(p1,[(vi aE),(vi aI),(vi aJ),(vu aK),(vs aL),aH.v],107)]:=hb
 have h:=hr n1 i1 Hl1 wl1 hs hI
 unfold m_M1_l1 at h
 refine wpE_has hH ?_
 refine wpE_seq (wpE_seq ?_)
 refine wpE_via (fun ρ wJ=>∃b1'0:Bool,∃HJ:NP,((decide (i1<(aH.len:Int)))=b1'0)∧Hst w0 Hl1 wl1 HJ wJ∧HB HJ wJ [(p1,[(vi aE),(vi aI),(vi aJ),(vu aK),(vs aL),aH.v],107)]∧Has ρ [(1,(vi most1)),(2,(vp (some p1))),(5,(vi n1)),(6,(vi i1)),(16,(vb (b1'0 && (decide (n1≤most1)))))]) ?_ ?_
 refine rg (q0 (vi i1) (q0 (vp (some (p1.add 5))) (q2 aH.v (xl (isAgg66 _) (hb.c 0 5 gZ)) (q0 (vi (aH.len:Int)) (q0 (vb (decide (i1<(aH.len:Int)))) (q0 (vb (decide (i1<(aH.len:Int)))) ?_))))))
 rcases bte (decide (i1<(aH.len:Int))) with hg2 | hg2
 refine q1 (vi n1) (wy 12 hg2) (q1 (vi most1) (wy 12 hg2) (q1 (vb (decide (n1≤most1))) (wy 12 hg2) (q2 (vb (decide (n1≤most1))) (xT hg2) (ln ?_))))
 exact ⟨true,_,hg2,hs,hb,hm⟩
 refine sk (yD 12 hg2) (sk (yD 12 hg2) (sk (yD 12 hg2) (q2 (vb false) (xF hg2) (ln ?_))))
 exact ⟨false,_,hg2,hs,hb,hm⟩
 rintro ρ w2 ⟨b1'0,H2,he0,hs,hb,hH⟩
 subst he0
 refine norm_has hH ?_
 refine th_n ?_
 refine wpE_cond (t:=((decide (i1<(aH.len:Int))) && (decide (n1≤most1)))) (by kernel_rfl) (fun hc1=>?_) (fun hc1=>?_)
 have h:=h.1 hc1
 refine wpE_skip (th_n (wpE_seq (wpE_block (rg (q0 (vi n1) (q0 (vp (some (p1.add 5))) (q2 aH.v (xl (isAgg66 _) (hb.c 0 5 gZ)) (q0 (vi i1) ?_))))))))
 obtain ⟨a1,hv2,h⟩:=h
 refine q2 (vp (some a1)) (xi (runUnderlying66 _) (sizeOf107 _) hv2) ?_
 have h:=h H2 w2 hs
 have hs:=hs.here
 obtain ⟨aO,aP,aQ,aR,aS,bI,hv1,h⟩:=h
 refine q2 (.agg #[(vi aO),(vi aP),(vi aQ),(vu aR),(vs aS),bI.v]) (xa a1 [(vi aO),(vi aP),(vi aQ),(vu aR),(vs aS),bI.v] (isAgg107 _) (sizeOf107 _) hv1) (q0 (vi most1) (q0 (vi n1) (q0 (vi (q6.wrap (most1 - n1))) ?_)))
 refine sc call75 (h.mono ?_)
 rintro e w3 ⟨r1,rfl,hk,h⟩
 refine ⟨_,rfl,?_⟩
 obtain ⟨hs,hb⟩:=hk.hh hs hb
 refine q0 (vi (q6.wrap (n1+r1))) (q0 (vi (q6.wrap (n1+r1))) (wpL_nil (bl_n (th_n (rg (q0 (vi i1) (q0 (vi (q6.wrap (i1+1))) (q0 (vi (q6.wrap (i1+1))) (ln ?_)))))))))
 exact ⟨((q6.wrap (n1+r1)),(q6.wrap (i1+1)),H2,w3),⟨rfl,hm,hs,hb,h.1⟩,h.2⟩
 have h:=h.2 hc1
 refine wpE_exit (th_x (th_x (bl_eq (th_n (eg (q0 (vi n1) (q0 (vi n1) (ln (er ?_)))))))))
 have h:=h H2 w2 hs
 have hs:=hs.here
 refine rs1 results75 (v:=(vi n1)) ?_
 exact ⟨n1,rfl,h⟩
def s_C1 (aE aI:Int) (aJ aK:Int) (aL:ByteArray) (aH:Sl):Int×Int×Int×Int×ByteArray×Int×Int :=
 (aE,aI,aJ,aK,aL,0,0)
theorem pw_C1 (aE aI : Int) (aJ aK : Int) (aL : ByteArray) (aH : Sl) (w0 : World) :
  Calls prog 204 #[(.agg #[(vi aE),(vi aI),(vi aJ),(vu aK),(vs aL),aH.v])] w0 (fun e w'=>(e=.returned (.agg #[(vi aE),(vi aI),(vi aJ),(vu aK),(vs aL),(vi 0),(vi 0)]))∧Pure w0 w'):=by
 refine cw (args:=[(.agg #[(vi aE),(vi aI),(vi aJ),(vu aK),(vs aL),aH.v])]) func204 ntmps204 ?_
 have hs:=Hst.start w0
 have hb:=HB.nil None w0
 refine eg (sn (O:=(.cells #[(vi aE),(vi aI),(vi aJ),(vu aK),(vs aL),aH.v] 107)) xb ?_)
 intro p1 w1 hn1
 obtain ⟨H1,hs,hb⟩:=hs.alloc hb hn1
 refine sn (O:=(.cells #[(vi 0),(vi 0),(vi 0),(vu 0),ve,(vi 0),(vi 0)] 176)) (x_alloc (zeroValue176 _) rfl) ?_
 intro p2 w2 hn2
 obtain ⟨H2,hs,hb⟩:=hs.alloc hb hn2
 refine ln (eg (q0 (vp (some p1)) (q2 (vi aE) (xl (isAgg3 _) (hb.c0 1 (gS gZ))) (q0 (vp (some (p1.add 1))) (q2 (vi aI) (xl (isAgg3 _) (hb.c 1 1 (gS gZ))) (q0 (vp (some (p1.add 2))) (q2 (vi aJ) (xl (isAgg3 _) (hb.c 1 2 (gS gZ))) (q0 (vp (some (p1.add 3))) (q2 (vu aK) (xl (isAgg23 _) (hb.c 1 3 (gS gZ))) ?_)))))))))
 refine q0 (vp (some (p1.add 4))) (q2 (vs aL) (xl (isAgg9 _) (hb.c 1 4 (gS gZ))) (q0 (.agg #[(vi aE),(vi aI),(vi aJ),(vu aK),(vs aL),(vi 0),(vi 0)]) (st_set (want0 rfl) (xo p2 [(vi aE),(vi aI),(vi aJ),(vu aK),(vs aL),(vi 0),(vi 0)] (sizeOf176 _) (hb.k0 0 7 gZ)) ?_)))
 intro w3 hn3
 obtain ⟨hs,hb⟩:=hb.s0 (l':=[(p2,[(vi aE),(vi aI),(vi aJ),(vu aK),(vs aL),(vi 0),(vi 0)],176),(p1,[(vi aE),(vi aI),(vi aJ),(vu aK),(vs aL),aH.v],107)]) 0 [(vi aE),(vi aI),(vi aJ),(vu aK),(vs aL),(vi 0),(vi 0)] hs hn3 gZ
 refine ln (er (resG (.inl rfl) (vs:=[(.agg #[(vi aE),(vi aI),(vi aJ),(vu aK),(vs aL),(vi 0),(vi 0)])]) (v:=(.agg #[(vi aE),(vi aI),(vi aJ),(vu aK),(vs aL),(vi 0),(vi 0)])) results204 ⟨(rva (isAgg176 _) (sizeOf176 _) (hb.r0 0 7 gZ)),trivial⟩ (by kernel_rfl) ?_))
 exact ⟨by kernel_rfl,(Ext.refl (F:=None) _).hst hs⟩
theorem p_C1 (aE aI:Int) (aJ aK:Int) (aL:ByteArray) (aH:Sl) (w0:World):Calls prog 204 #[(.agg #[(.int .i64 aE),(.int .i64 aI),(.int .i64 aJ),(.int .u64 aK),(.string aL),aH.v])] w0 (fun e w'=>e=.returned (.agg #[(.int .i64 (s_C1 aE aI aJ aK aL aH).1),(.int .i64 (s_C1 aE aI aJ aK aL aH).2.1),(.int .i64 (s_C1 aE aI aJ aK aL aH).2.2.1),(.int .u64 (s_C1 aE aI aJ aK aL aH).2.2.2.1),(.string (s_C1 aE aI aJ aK aL aH).2.2.2.2.1),(.int .i64 (s_C1 aE aI aJ aK aL aH).2.2.2.2.2.1),(.int .i64 (s_C1 aE aI aJ aK aL aH).2.2.2.2.2.2)])∧Pure w0 w'):=pw_C1 aE aI aJ aK aL aH w0
def s_W1 (kind1:Int):Bool :=
 ((kind1 == 8) || (kind1 == 9))
theorem pw_W1 (kind1 : Int) (w0 : World) :
  Calls prog 225 #[(vi kind1)] w0 (fun e w'=>(e=.returned (vb ((kind1 == 8) || (kind1 == 9))))∧Pure w0 w'):=by
 refine cw (args:=[(vi kind1)]) func225 ntmps225 (eg (q0 (vb false) (ln (wpE_seq ?_))))
 refine wpE_via (fun ρ wJ=>w0=wJ∧Has ρ [(2,(vb ((kind1 == 8) || (kind1 == 9))))]) ?_ ?_
 refine rg (q0 (vi kind1) (q0 (vb (kind1 == 8)) (q0 (vb (kind1 == 8)) ?_)))
 refine wpL_join 3 (fun ρ wJ=>∃b3'0:Bool,((kind1 == 8)=b3'0)∧w0=wJ∧Has ρ [(8,(vb (b3'0 || (kind1 == 9))))]) ?_ ?_
 rintro ρ w3 ⟨b3'0,he0,hw,hH⟩
 subst he0
 subst hw
 refine wpL_has hH ?_
 refine q0 (vb ((kind1 == 8) || (kind1 == 9))) (ln ?_)
 exact ⟨rfl,hm⟩
 rcases bte (kind1 == 8) with hg4 | hg4
 refine sk (yD 5 hg4) (sk (yD 5 hg4) (q2 (vb true) (xT hg4) (wpL_nil ?_)))
 exact ⟨true,hg4,rfl,hm⟩
 refine q1 (vi kind1) (wy 5 hg4) (q1 (vb (kind1 == 9)) (wy 5 hg4) (q2 (vb (kind1 == 9)) (xF hg4) (wpL_nil ?_)))
 exact ⟨false,hg4,rfl,hm⟩
 rintro ρ w2 ⟨hw,hH⟩
 subst hw
 refine norm_has hH ?_
 refine th_n (er (rs1 results225 (v:=(vb ((kind1 == 8) || (kind1 == 9)))) ?_))
 exact ⟨by kernel_rfl,Ext.refl _⟩
theorem p_W1 (kind1:Int) (w0:World):Calls prog 225 #[(.int .i64 kind1)] w0 (fun e w'=>e=.returned (.bool (s_W1 kind1))∧Pure w0 w'):=pw_W1 kind1 w0
def s_D (kind1:Int):Bool :=
 ((((kind1 == 1) || (kind1 == 6)) || (kind1 == 7)) || ((kind1 == 8) || (kind1 == 9)))
theorem pw_D (kind1 : Int) (w0 : World) :
  Calls prog 223 #[(vi kind1)] w0 (fun e w'=>(e=.returned (vb ((((kind1 == 1) || (kind1 == 6)) || (kind1 == 7)) || ((kind1 == 8) || (kind1 == 9)))))∧Pure w0 w'):=by
 refine cw (args:=[(vi kind1)]) func223 ntmps223 ?_
 have hs:=Hst.start w0
 have hb:=HB.nil None w0
 refine eg (q0 (vb false) (ln (wpE_seq ?_)))
 refine wpE_via (fun ρ wJ=>∃HJ:NP,Hst w0 None w0 HJ wJ∧HB HJ wJ []∧Has ρ [(2,(vb ((((kind1 == 1) || (kind1 == 6)) || (kind1 == 7)) || ((kind1 == 8) || (kind1 == 9)))))]) ?_ ?_
 refine rg (q0 (vi kind1) (q0 (vb (kind1 == 1)) (q0 (vb (kind1 == 1)) ?_)))
 refine wpL_join 3 (fun ρ wJ=>∃b5'0:Bool,∃HJ:NP,((kind1 == 1)=b5'0)∧Hst w0 None w0 HJ wJ∧HB HJ wJ []∧Has ρ [(0,(vi kind1)),(8,(vb (b5'0 || (kind1 == 6))))]) ?_ ?_
 rintro ρ w7 ⟨b5'0,H5,he0,hs,hb,hH⟩
 subst he0
 refine wpL_has hH ?_
 refine q0 (vb ((kind1 == 1) || (kind1 == 6))) ?_
 refine wpL_join 3 (fun ρ wJ=>∃b6'0:Bool,∃HJ:NP,(((kind1 == 1) || (kind1 == 6))=b6'0)∧Hst w0 None w0 HJ wJ∧HB HJ wJ []∧Has ρ [(0,(vi kind1)),(12,(vb (b6'0 || (kind1 == 7))))]) ?_ ?_
 rintro ρ w8 ⟨b6'0,H6,he0,hs,hb,hH⟩
 subst he0
 refine wpL_has hH ?_
 refine q0 (vb (((kind1 == 1) || (kind1 == 6)) || (kind1 == 7))) ?_
 refine wpL_join 3 (fun ρ wJ=>∃b7'0:Bool,∃HJ:NP,((((kind1 == 1) || (kind1 == 6)) || (kind1 == 7))=b7'0)∧Hst w0 None w0 HJ wJ∧HB HJ wJ []∧Has ρ [(16,(vb (b7'0 || ((kind1 == 8) || (kind1 == 9)))))]) ?_ ?_
 rintro ρ w10 ⟨b7'0,H7,he0,hs,hb,hH⟩
 subst he0
 refine wpL_has hH ?_
 refine q0 (vb ((((kind1 == 1) || (kind1 == 6)) || (kind1 == 7)) || ((kind1 == 8) || (kind1 == 9)))) (ln ?_)
 exact ⟨_,hs,hb,hm⟩
 rcases bte (((kind1 == 1) || (kind1 == 6)) || (kind1 == 7)) with hg12 | hg12
 refine sk (yD 13 hg12) (sk (yD 13 hg12) (q2 (vb true) (xT hg12) (wpL_nil ?_)))
 exact ⟨true,_,hg12,hs,hb,hm⟩
 refine q1 (vi kind1) (wy 13 hg12) ?_
 refine st_call (wy 13 hg12) (xc call225) ((p_W1 kind1 w8).mono ?_)
 rintro e w11 ⟨he,hE⟩
 refine ⟨(vb ((kind1 == 8) || (kind1 == 9))),he.trans (by kernel_rfl),?_⟩
 have hs:=hs.pure hE
 have hb:=hb.pure hE
 refine q2 (vb ((kind1 == 8) || (kind1 == 9))) (xF hg12) (wpL_nil ?_)
 exact ⟨false,_,hg12,hs,hb,hm⟩
 rcases bte ((kind1 == 1) || (kind1 == 6)) with hg10 | hg10
 refine sk (yD 9 hg10) (sk (yD 9 hg10) (q2 (vb true) (xT hg10) (wpL_nil ?_)))
 exact ⟨true,_,hg10,hs,hb,hm⟩
 refine q1 (vi kind1) (wy 9 hg10) (q1 (vb (kind1 == 7)) (wy 9 hg10) (q2 (vb (kind1 == 7)) (xF hg10) (wpL_nil ?_)))
 exact ⟨false,_,hg10,hs,hb,hm⟩
 rcases bte (kind1 == 1) with hg8 | hg8
 refine sk (yD 5 hg8) (sk (yD 5 hg8) (q2 (vb true) (xT hg8) (wpL_nil ?_)))
 exact ⟨true,_,hg8,hs,hb,hm⟩
 refine q1 (vi kind1) (wy 5 hg8) (q1 (vb (kind1 == 6)) (wy 5 hg8) (q2 (vb (kind1 == 6)) (xF hg8) (wpL_nil ?_)))
 exact ⟨false,_,hg8,hs,hb,hm⟩
 rintro ρ w6 ⟨H4,hs,hb,hH⟩
 refine norm_has hH ?_
 refine th_n (er (rs1 results223 (v:=(vb ((((kind1 == 1) || (kind1 == 6)) || (kind1 == 7)) || ((kind1 == 8) || (kind1 == 9))))) ?_))
 exact ⟨by kernel_rfl,(Ext.refl (F:=None) _).hst hs⟩
theorem p_D (kind1:Int) (w0:World):Calls prog 223 #[(.int .i64 kind1)] w0 (fun e w'=>e=.returned (.bool (s_D kind1))∧Pure w0 w'):=pw_D kind1 w0
def s_D1 (aA aB:Int) (aC aF:Int) (aD:ByteArray) (aG aM:Int):Bool :=
 (!((decide (aA<1)) || (decide (aA>9))) && (((((((s_D aA) || (aB == 0)) && (((aA == 8) || (aA == 9)) || (aC == 0))) && ((aA == 2) || (aF == 0))) && ((aA == 3) || (decide (aD=⟨#[]⟩)))) && ((decide ((s_C aA)≥1)) || (aG == 0))) && ((((s_C aA):Int) == 2) || (aM == 0))))
theorem pw_D1 (aA aB : Int) (aC aF : Int) (aD : ByteArray) (aG aM : Int) (w0 : World) :
  Calls prog 222 #[(.agg #[(vi aA),(vi aB),(vi aC),(vu aF),(vs aD),(vi aG),(vi aM)])] w0 (fun e w'=>∃b'0:Bool,(((decide (aA<1)) || (decide (aA>9)))=b'0)∧(e=.returned (vb (!b'0 && (((((((s_D aA) || (aB == 0)) && (((aA == 8) || (aA == 9)) || (aC == 0))) && ((aA == 2) || (aF == 0))) && ((aA == 3) || (decide (aD=⟨#[]⟩)))) && ((decide ((s_C aA)≥1)) || (aG == 0))) && ((((s_C aA):Int) == 2) || (aM == 0))))))∧Pure w0 w'):=by
 refine cw (args:=[(.agg #[(vi aA),(vi aB),(vi aC),(vu aF),(vs aD),(vi aG),(vi aM)])]) func222 ntmps222 ?_
 have hs:=Hst.start w0
 have hb:=HB.nil None w0
 refine eg (sn (O:=(.cells #[(vi aA),(vi aB),(vi aC),(vu aF),(vs aD),(vi aG),(vi aM)] 176)) xb ?_)
 intro p1 w1 hn1
 obtain ⟨H1,hs,hb⟩:=hs.alloc hb hn1
 refine q0 (vb false) (ln (wpE_seq (wpE_seq ?_)))
 refine wpE_via (fun ρ wJ=>∃b1'0:Bool,∃HJ:NP,((decide (aA<1))=b1'0)∧Hst w0 None w0 HJ wJ∧HB HJ wJ [(p1,[(vi aA),(vi aB),(vi aC),(vu aF),(vs aD),(vi aG),(vi aM)],176)]∧Has ρ [(1,(vp (some p1))),(10,(vb (b1'0 || (decide (aA>9)))))]) ?_ ?_
 refine rg (q0 (vp (some p1)) (q2 (vi aA) (xl (isAgg3 _) (hb.c0 0 gZ)) (q0 (vb (decide (aA<1))) (q0 (vb (decide (aA<1))) ?_))))
 rcases bte (decide (aA<1)) with hg2 | hg2
 refine sk (yD 6 hg2) (sk (yD 6 hg2) (sk (yD 6 hg2) (q2 (vb true) (xT hg2) (ln ?_))))
 exact ⟨true,_,hg2,hs,hb,hm⟩
 refine q1 (vp (some p1)) (wy 6 hg2) (stp (v:=(vi aA)) (wy 6 hg2) (xl (isAgg3 _) (hb.c0 0 gZ)) (q1 (vb (decide (aA>9))) (wy 6 hg2) (q2 (vb (decide (aA>9))) (xF hg2) (ln ?_))))
 exact ⟨false,_,hg2,hs,hb,hm⟩
 rintro ρ w2 ⟨b1'0,H2,he0,hs,hb,hH⟩
 subst he0
 refine norm_has hH ?_
 refine th_n ?_
 refine wpE_cond (t:=((decide (aA<1)) || (decide (aA>9)))) (by kernel_rfl) (fun hc1=>?_) (fun hc1=>?_)
 refine eg (q0 (vb false) (ln (er (th_r (rs1 results222 (v:=(vb false)) ?_)))))
 exact ⟨true,hc1,by kernel_rfl,(Ext.refl (F:=None) _).hst hs⟩
 refine wpE_skip (th_n (wpE_seq ?_))
 refine wpE_via (fun ρ wJ=>∃HJ:NP,Hst w0 None w0 HJ wJ∧HB HJ wJ [(p1,[(vi aA),(vi aB),(vi aC),(vu aF),(vs aD),(vi aG),(vi aM)],176)]∧Has ρ [(2,(vb (((((((s_D aA) || (aB == 0)) && (((aA == 8) || (aA == 9)) || (aC == 0))) && ((aA == 2) || (aF == 0))) && ((aA == 3) || (decide (aD=⟨#[]⟩)))) && ((decide ((s_C aA)≥1)) || (aG == 0))) && ((((s_C aA):Int) == 2) || (aM == 0)))))]) ?_ ?_
 refine rg (q0 (vp (some p1)) (q2 (vi aA) (xl (isAgg3 _) (hb.c0 0 gZ)) ?_))
 refine sc call223 ((p_D aA w2).mono ?_)
 rintro e w27 ⟨he,hE⟩
 refine ⟨(vb (s_D aA)),he.trans (by kernel_rfl),?_⟩
 have hs:=hs.pure hE
 have hb:=hb.pure hE
 refine q0 (vb (s_D aA)) ?_
 refine wpL_join 4 (fun ρ wJ=>∃b19'0:Bool,∃HJ:NP,((s_D aA)=b19'0)∧Hst w0 None w0 HJ wJ∧HB HJ wJ [(p1,[(vi aA),(vi aB),(vi aC),(vu aF),(vs aD),(vi aG),(vi aM)],176)]∧Has ρ [(1,(vp (some p1))),(18,(vb (b19'0 || (aB == 0))))]) ?_ ?_
 rintro ρ w28 ⟨b19'0,H20,he0,hs,hb,hH⟩
 subst he0
 refine wpL_has hH ?_
 refine q0 (vb ((s_D aA) || (aB == 0))) ?_
 refine wpL_join 9 (fun ρ wJ=>∃b21'0:Bool,∃HJ:NP,(((s_D aA) || (aB == 0))=b21'0)∧Hst w0 None w0 HJ wJ∧HB HJ wJ [(p1,[(vi aA),(vi aB),(vi aC),(vu aF),(vs aD),(vi aG),(vi aM)],176)]∧Has ρ [(1,(vp (some p1))),(28,(vb (b21'0 && (((aA == 8) || (aA == 9)) || (aC == 0)))))]) ?_ ?_
 rintro ρ w31 ⟨b21'0,H22,he0,hs,hb,hH⟩
 subst he0
 refine wpL_has hH ?_
 refine q0 (vb (((s_D aA) || (aB == 0)) && (((aA == 8) || (aA == 9)) || (aC == 0)))) ?_
 refine wpL_join 9 (fun ρ wJ=>∃b24'0:Bool,∃HJ:NP,((((s_D aA) || (aB == 0)) && (((aA == 8) || (aA == 9)) || (aC == 0)))=b24'0)∧Hst w0 None w0 HJ wJ∧HB HJ wJ [(p1,[(vi aA),(vi aB),(vi aC),(vu aF),(vs aD),(vi aG),(vi aM)],176)]∧Has ρ [(1,(vp (some p1))),(38,(vb (b24'0 && ((aA == 2) || (aF == 0)))))]) ?_ ?_
 rintro ρ w35 ⟨b24'0,H25,he0,hs,hb,hH⟩
 subst he0
 refine wpL_has hH ?_
 refine q0 (vb ((((s_D aA) || (aB == 0)) && (((aA == 8) || (aA == 9)) || (aC == 0))) && ((aA == 2) || (aF == 0)))) ?_
 refine wpL_join 9 (fun ρ wJ=>∃b27'0:Bool,∃HJ:NP,(((((s_D aA) || (aB == 0)) && (((aA == 8) || (aA == 9)) || (aC == 0))) && ((aA == 2) || (aF == 0)))=b27'0)∧Hst w0 None w0 HJ wJ∧HB HJ wJ [(p1,[(vi aA),(vi aB),(vi aC),(vu aF),(vs aD),(vi aG),(vi aM)],176)]∧Has ρ [(1,(vp (some p1))),(48,(vb (b27'0 && ((aA == 3) || (decide (aD=⟨#[]⟩))))))]) ?_ ?_
 rintro ρ w38 ⟨b27'0,H28,he0,hs,hb,hH⟩
 subst he0
 refine wpL_has hH ?_
 refine q0 (vb (((((s_D aA) || (aB == 0)) && (((aA == 8) || (aA == 9)) || (aC == 0))) && ((aA == 2) || (aF == 0))) && ((aA == 3) || (decide (aD=⟨#[]⟩))))) ?_
 refine wpL_join 10 (fun ρ wJ=>∃b30'0:Bool,∃HJ:NP,((((((s_D aA) || (aB == 0)) && (((aA == 8) || (aA == 9)) || (aC == 0))) && ((aA == 2) || (aF == 0))) && ((aA == 3) || (decide (aD=⟨#[]⟩))))=b30'0)∧Hst w0 None w0 HJ wJ∧HB HJ wJ [(p1,[(vi aA),(vi aB),(vi aC),(vu aF),(vs aD),(vi aG),(vi aM)],176)]∧Has ρ [(1,(vp (some p1))),(59,(vb (b30'0 && ((decide ((s_C aA)≥1)) || (aG == 0)))))]) ?_ ?_
 rintro ρ w42 ⟨b30'0,H31,he0,hs,hb,hH⟩
 subst he0
 refine wpL_has hH ?_
 refine q0 (vb ((((((s_D aA) || (aB == 0)) && (((aA == 8) || (aA == 9)) || (aC == 0))) && ((aA == 2) || (aF == 0))) && ((aA == 3) || (decide (aD=⟨#[]⟩)))) && ((decide ((s_C aA)≥1)) || (aG == 0)))) ?_
 refine wpL_join 10 (fun ρ wJ=>∃b33'0:Bool,∃HJ:NP,(((((((s_D aA) || (aB == 0)) && (((aA == 8) || (aA == 9)) || (aC == 0))) && ((aA == 2) || (aF == 0))) && ((aA == 3) || (decide (aD=⟨#[]⟩)))) && ((decide ((s_C aA)≥1)) || (aG == 0)))=b33'0)∧Hst w0 None w0 HJ wJ∧HB HJ wJ [(p1,[(vi aA),(vi aB),(vi aC),(vu aF),(vs aD),(vi aG),(vi aM)],176)]∧Has ρ [(70,(vb (b33'0 && ((((s_C aA):Int) == 2) || (aM == 0)))))]) ?_ ?_
 rintro ρ w47 ⟨b33'0,H34,he0,hs,hb,hH⟩
 subst he0
 refine wpL_has hH ?_
 refine q0 (vb (((((((s_D aA) || (aB == 0)) && (((aA == 8) || (aA == 9)) || (aC == 0))) && ((aA == 2) || (aF == 0))) && ((aA == 3) || (decide (aD=⟨#[]⟩)))) && ((decide ((s_C aA)≥1)) || (aG == 0))) && ((((s_C aA):Int) == 2) || (aM == 0)))) (ln ?_)
 exact ⟨_,hs,hb,hm⟩
 rcases bte ((((((s_D aA) || (aB == 0)) && (((aA == 8) || (aA == 9)) || (aC == 0))) && ((aA == 2) || (aF == 0))) && ((aA == 3) || (decide (aD=⟨#[]⟩)))) && ((decide ((s_C aA)≥1)) || (aG == 0))) with hg64 | hg64
 refine q1 (vp (some p1)) (wy 60 hg64) (stp (v:=(vi aA)) (wy 60 hg64) (xl (isAgg3 _) (hb.c0 0 gZ)) ?_)
 refine st_call (wy 60 hg64) (xc call105) ((p_C aA w42).mono ?_)
 rintro e w48 ⟨he,hE⟩
 refine ⟨(vi (s_C aA)),he.trans (by kernel_rfl),?_⟩
 have hs:=hs.pure hE
 have hb:=hb.pure hE
 refine q1 (vb (((s_C aA):Int) == 2)) (wy 60 hg64) (q1 (vb (((s_C aA):Int) == 2)) (wy 60 hg64) ?_)
 refine wpL_join 4 (fun ρ wJ=>∃b34'0:Bool,∃HJ:NP,((((s_C aA):Int) == 2)=b34'0)∧Hst w0 None w0 HJ wJ∧HB HJ wJ [(p1,[(vi aA),(vi aB),(vi aC),(vu aF),(vs aD),(vi aG),(vi aM)],176)]∧Has ρ [(60,(vb ((((((s_D aA) || (aB == 0)) && (((aA == 8) || (aA == 9)) || (aC == 0))) && ((aA == 2) || (aF == 0))) && ((aA == 3) || (decide (aD=⟨#[]⟩)))) && ((decide ((s_C aA)≥1)) || (aG == 0))))),(69,(vb (b34'0 || (aM == 0))))]) ?_ ?_
 rintro ρ w49 ⟨b34'0,H35,he0,hs,hb,hH⟩
 subst he0
 refine wpL_has hH ?_
 refine q2 (vb ((((s_C aA):Int) == 2) || (aM == 0))) (xT hg64) (wpL_nil ?_)
 exact ⟨true,_,hg64,hs,hb,hm⟩
 rcases bte (((s_C aA):Int) == 2) with hg66 | hg66
 refine sk (yD 65 hg66) (sk (yD 65 hg66) (sk (yD 65 hg66) (stp (v:=(vb true)) (wy 60 hg64) (xT hg66) (wpL_nil ?_))))
 exact ⟨true,_,hg66,hs,hb,hm⟩
 refine q1 (vp (some (p1.add 6))) (wy 65 hg66) (stp (v:=(vi aM)) (wy 65 hg66) (xl (isAgg78 _) (hb.c 0 6 gZ)) (q1 (vb (aM == 0)) (wy 65 hg66) (stp (v:=(vb (aM == 0))) (wy 60 hg64) (xF hg66) (wpL_nil ?_))))
 exact ⟨false,_,hg66,hs,hb,hm⟩
 refine sk (yD 60 hg64) (sk (yD 60 hg64) (sk (yD 60 hg64) (sk (yD 60 hg64) (sk (yD 60 hg64) (sm (sm (sm (sk (yD 60 hg64) (q2 (vb false) (xF hg64) (wpL_nil ?_))))))))))
 exact ⟨false,_,hg64,hs,hb,hm⟩
 rcases bte (((((s_D aA) || (aB == 0)) && (((aA == 8) || (aA == 9)) || (aC == 0))) && ((aA == 2) || (aF == 0))) && ((aA == 3) || (decide (aD=⟨#[]⟩)))) with hg58 | hg58
 refine q1 (vp (some p1)) (wy 49 hg58) (stp (v:=(vi aA)) (wy 49 hg58) (xl (isAgg3 _) (hb.c0 0 gZ)) ?_)
 refine st_call (wy 49 hg58) (xc call105) ((p_C aA w38).mono ?_)
 rintro e w43 ⟨he,hE⟩
 refine ⟨(vi (s_C aA)),he.trans (by kernel_rfl),?_⟩
 have hs:=hs.pure hE
 have hb:=hb.pure hE
 refine q1 (vb (decide ((s_C aA)≥1))) (wy 49 hg58) (q1 (vb (decide ((s_C aA)≥1))) (wy 49 hg58) ?_)
 refine wpL_join 4 (fun ρ wJ=>∃b31'0:Bool,∃HJ:NP,((decide ((s_C aA)≥1))=b31'0)∧Hst w0 None w0 HJ wJ∧HB HJ wJ [(p1,[(vi aA),(vi aB),(vi aC),(vu aF),(vs aD),(vi aG),(vi aM)],176)]∧Has ρ [(1,(vp (some p1))),(49,(vb (((((s_D aA) || (aB == 0)) && (((aA == 8) || (aA == 9)) || (aC == 0))) && ((aA == 2) || (aF == 0))) && ((aA == 3) || (decide (aD=⟨#[]⟩)))))),(58,(vb (b31'0 || (aG == 0))))]) ?_ ?_
 rintro ρ w44 ⟨b31'0,H32,he0,hs,hb,hH⟩
 subst he0
 refine wpL_has hH ?_
 refine q2 (vb ((decide ((s_C aA)≥1)) || (aG == 0))) (xT hg58) (wpL_nil ?_)
 exact ⟨true,_,hg58,hs,hb,hm⟩
 rcases bte (decide ((s_C aA)≥1)) with hg60 | hg60
 refine sk (yD 54 hg60) (sk (yD 54 hg60) (sk (yD 54 hg60) (stp (v:=(vb true)) (wy 49 hg58) (xT hg60) (wpL_nil ?_))))
 exact ⟨true,_,hg60,hs,hb,hm⟩
 refine q1 (vp (some (p1.add 5))) (wy 54 hg60) (stp (v:=(vi aG)) (wy 54 hg60) (xl (isAgg78 _) (hb.c 0 5 gZ)) (q1 (vb (aG == 0)) (wy 54 hg60) (stp (v:=(vb (aG == 0))) (wy 49 hg58) (xF hg60) (wpL_nil ?_))))
 exact ⟨false,_,hg60,hs,hb,hm⟩
 refine sk (yD 49 hg58) (sk (yD 49 hg58) (sk (yD 49 hg58) (sk (yD 49 hg58) (sk (yD 49 hg58) (sm (sm (sm (sk (yD 49 hg58) (q2 (vb false) (xF hg58) (wpL_nil ?_))))))))))
 exact ⟨false,_,hg58,hs,hb,hm⟩
 rcases bte ((((s_D aA) || (aB == 0)) && (((aA == 8) || (aA == 9)) || (aC == 0))) && ((aA == 2) || (aF == 0))) with hg52 | hg52
 refine q1 (vp (some p1)) (wy 39 hg52) (stp (v:=(vi aA)) (wy 39 hg52) (xl (isAgg3 _) (hb.c0 0 gZ)) (q1 (vb (aA == 3)) (wy 39 hg52) (q1 (vb (aA == 3)) (wy 39 hg52) ?_)))
 refine wpL_join 4 (fun ρ wJ=>∃b28'0:Bool,∃HJ:NP,((aA == 3)=b28'0)∧Hst w0 None w0 HJ wJ∧HB HJ wJ [(p1,[(vi aA),(vi aB),(vi aC),(vu aF),(vs aD),(vi aG),(vi aM)],176)]∧Has ρ [(1,(vp (some p1))),(39,(vb ((((s_D aA) || (aB == 0)) && (((aA == 8) || (aA == 9)) || (aC == 0))) && ((aA == 2) || (aF == 0))))),(47,(vb (b28'0 || (decide (aD=⟨#[]⟩)))))]) ?_ ?_
 rintro ρ w39 ⟨b28'0,H29,he0,hs,hb,hH⟩
 subst he0
 refine wpL_has hH ?_
 refine q2 (vb ((aA == 3) || (decide (aD=⟨#[]⟩)))) (xT hg52) (wpL_nil ?_)
 exact ⟨true,_,hg52,hs,hb,hm⟩
 rcases bte (aA == 3) with hg54 | hg54
 refine sk (yD 43 hg54) (sk (yD 43 hg54) (sk (yD 43 hg54) (stp (v:=(vb true)) (wy 39 hg52) (xT hg54) (wpL_nil ?_))))
 exact ⟨true,_,hg54,hs,hb,hm⟩
 refine q1 (vp (some (p1.add 4))) (wy 43 hg54) (stp (v:=(vs aD)) (wy 43 hg54) (xl (isAgg9 _) (hb.c 0 4 gZ)) (stp (v:=(vb (decide (aD=⟨#[]⟩)))) (wy 43 hg54) (x_streq (by kernel_rfl) (by kernel_rfl)) (stp (v:=(vb (decide (aD=⟨#[]⟩)))) (wy 39 hg52) (xF hg54) (wpL_nil ?_))))
 exact ⟨false,_,hg54,hs,hb,hm⟩
 refine sk (yD 39 hg52) (sk (yD 39 hg52) (sk (yD 39 hg52) (sk (yD 39 hg52) (sm (sm (sm (sk (yD 39 hg52) (q2 (vb false) (xF hg52) (wpL_nil ?_)))))))))
 exact ⟨false,_,hg52,hs,hb,hm⟩
 rcases bte (((s_D aA) || (aB == 0)) && (((aA == 8) || (aA == 9)) || (aC == 0))) with hg46 | hg46
 refine q1 (vp (some p1)) (wy 29 hg46) (stp (v:=(vi aA)) (wy 29 hg46) (xl (isAgg3 _) (hb.c0 0 gZ)) (q1 (vb (aA == 2)) (wy 29 hg46) (q1 (vb (aA == 2)) (wy 29 hg46) ?_)))
 refine wpL_join 4 (fun ρ wJ=>∃b25'0:Bool,∃HJ:NP,((aA == 2)=b25'0)∧Hst w0 None w0 HJ wJ∧HB HJ wJ [(p1,[(vi aA),(vi aB),(vi aC),(vu aF),(vs aD),(vi aG),(vi aM)],176)]∧Has ρ [(1,(vp (some p1))),(29,(vb (((s_D aA) || (aB == 0)) && (((aA == 8) || (aA == 9)) || (aC == 0))))),(37,(vb (b25'0 || (aF == 0))))]) ?_ ?_
 rintro ρ w36 ⟨b25'0,H26,he0,hs,hb,hH⟩
 subst he0
 refine wpL_has hH ?_
 refine q2 (vb ((aA == 2) || (aF == 0))) (xT hg46) (wpL_nil ?_)
 exact ⟨true,_,hg46,hs,hb,hm⟩
 rcases bte (aA == 2) with hg48 | hg48
 refine sk (yD 33 hg48) (sk (yD 33 hg48) (sk (yD 33 hg48) (stp (v:=(vb true)) (wy 29 hg46) (xT hg48) (wpL_nil ?_))))
 exact ⟨true,_,hg48,hs,hb,hm⟩
 refine q1 (vp (some (p1.add 3))) (wy 33 hg48) (stp (v:=(vu aF)) (wy 33 hg48) (xl (isAgg23 _) (hb.c 0 3 gZ)) (q1 (vb (aF == 0)) (wy 33 hg48) (stp (v:=(vb (aF == 0))) (wy 29 hg46) (xF hg48) (wpL_nil ?_))))
 exact ⟨false,_,hg48,hs,hb,hm⟩
 refine sk (yD 29 hg46) (sk (yD 29 hg46) (sk (yD 29 hg46) (sk (yD 29 hg46) (sm (sm (sm (sk (yD 29 hg46) (q2 (vb false) (xF hg46) (wpL_nil ?_)))))))))
 exact ⟨false,_,hg46,hs,hb,hm⟩
 rcases bte ((s_D aA) || (aB == 0)) with hg40 | hg40
 refine q1 (vp (some p1)) (wy 19 hg40) (stp (v:=(vi aA)) (wy 19 hg40) (xl (isAgg3 _) (hb.c0 0 gZ)) ?_)
 refine st_call (wy 19 hg40) (xc call225) ((p_W1 aA w28).mono ?_)
 rintro e w32 ⟨he,hE⟩
 refine ⟨(vb ((aA == 8) || (aA == 9))),he.trans (by kernel_rfl),?_⟩
 have hs:=hs.pure hE
 have hb:=hb.pure hE
 refine q1 (vb ((aA == 8) || (aA == 9))) (wy 19 hg40) ?_
 refine wpL_join 4 (fun ρ wJ=>∃b22'0:Bool,∃HJ:NP,(((aA == 8) || (aA == 9))=b22'0)∧Hst w0 None w0 HJ wJ∧HB HJ wJ [(p1,[(vi aA),(vi aB),(vi aC),(vu aF),(vs aD),(vi aG),(vi aM)],176)]∧Has ρ [(1,(vp (some p1))),(19,(vb ((s_D aA) || (aB == 0)))),(27,(vb (b22'0 || (aC == 0))))]) ?_ ?_
 rintro ρ w33 ⟨b22'0,H23,he0,hs,hb,hH⟩
 subst he0
 refine wpL_has hH ?_
 refine q2 (vb (((aA == 8) || (aA == 9)) || (aC == 0))) (xT hg40) (wpL_nil ?_)
 exact ⟨true,_,hg40,hs,hb,hm⟩
 rcases bte ((aA == 8) || (aA == 9)) with hg42 | hg42
 refine sk (yD 23 hg42) (sk (yD 23 hg42) (sk (yD 23 hg42) (stp (v:=(vb true)) (wy 19 hg40) (xT hg42) (wpL_nil ?_))))
 exact ⟨true,_,hg42,hs,hb,hm⟩
 refine q1 (vp (some (p1.add 2))) (wy 23 hg42) (stp (v:=(vi aC)) (wy 23 hg42) (xl (isAgg3 _) (hb.c 0 2 gZ)) (q1 (vb (aC == 0)) (wy 23 hg42) (stp (v:=(vb (aC == 0))) (wy 19 hg40) (xF hg42) (wpL_nil ?_))))
 exact ⟨false,_,hg42,hs,hb,hm⟩
 refine sk (yD 19 hg40) (sk (yD 19 hg40) (sk (yD 19 hg40) (sk (yD 19 hg40) (sm (sm (sm (sk (yD 19 hg40) (q2 (vb false) (xF hg40) (wpL_nil ?_)))))))))
 exact ⟨false,_,hg40,hs,hb,hm⟩
 rcases bte (s_D aA) with hg36 | hg36
 refine sk (yD 14 hg36) (sk (yD 14 hg36) (sk (yD 14 hg36) (q2 (vb true) (xT hg36) (wpL_nil ?_))))
 exact ⟨true,_,hg36,hs,hb,hm⟩
 refine q1 (vp (some (p1.add 1))) (wy 14 hg36) (stp (v:=(vi aB)) (wy 14 hg36) (xl (isAgg3 _) (hb.c 0 1 gZ)) (q1 (vb (aB == 0)) (wy 14 hg36) (q2 (vb (aB == 0)) (xF hg36) (wpL_nil ?_))))
 exact ⟨false,_,hg36,hs,hb,hm⟩
 rintro ρ w26 ⟨H19,hs,hb,hH⟩
 refine norm_has hH ?_
 refine th_n (er (rs1 results222 (v:=(vb (((((((s_D aA) || (aB == 0)) && (((aA == 8) || (aA == 9)) || (aC == 0))) && ((aA == 2) || (aF == 0))) && ((aA == 3) || (decide (aD=⟨#[]⟩)))) && ((decide ((s_C aA)≥1)) || (aG == 0))) && ((((s_C aA):Int) == 2) || (aM == 0))))) ?_))
 exact ⟨false,hc1,by kernel_rfl,(Ext.refl (F:=None) _).hst hs⟩
theorem p_D1 (aA aB:Int) (aC aF:Int) (aD:ByteArray) (aG aM:Int) (w0:World):Calls prog 222 #[(.agg #[(.int .i64 aA),(.int .i64 aB),(.int .i64 aC),(.int .u64 aF),(.string aD),(.int .i64 aG),(.int .i64 aM)])] w0 (fun e w'=>e=.returned (.bool (s_D1 aA aB aC aF aD aG aM))∧Pure w0 w'):=by
 refine (pw_D1 aA aB aC aF aD aG aM w0).mono ?_
 rintro e w' ⟨b'0,e0,h,E⟩
 subst e0
 exact ⟨h,E⟩
def s_H2 (n1:Int):Bool :=
 ((decide (n1≥0)) && (decide (n1<16)))
theorem pw_H2 (n1 : Int) (w0 : World) :
  Calls prog 224 #[(vi n1)] w0 (fun e w'=>(e=.returned (vb ((decide (n1≥0)) && (decide (n1<16)))))∧Pure w0 w'):=by
 refine cw (args:=[(vi n1)]) func224 ntmps224 (eg (q0 (vb false) (ln (wpE_seq ?_))))
 refine wpE_via (fun ρ wJ=>w0=wJ∧Has ρ [(2,(vb ((decide (n1≥0)) && (decide (n1<16)))))]) ?_ ?_
 refine rg (q0 (vi n1) (q0 (vb (decide (n1≥0))) (q0 (vb (decide (n1≥0))) ?_)))
 refine wpL_join 3 (fun ρ wJ=>∃b3'0:Bool,((decide (n1≥0))=b3'0)∧w0=wJ∧Has ρ [(8,(vb (b3'0 && (decide (n1<16)))))]) ?_ ?_
 rintro ρ w3 ⟨b3'0,he0,hw,hH⟩
 subst he0
 subst hw
 refine wpL_has hH ?_
 refine q0 (vb ((decide (n1≥0)) && (decide (n1<16)))) (ln ?_)
 exact ⟨rfl,hm⟩
 rcases bte (decide (n1≥0)) with hg4 | hg4
 refine q1 (vi n1) (wy 5 hg4) (q1 (vb (decide (n1<16))) (wy 5 hg4) (q2 (vb (decide (n1<16))) (xT hg4) (wpL_nil ?_)))
 exact ⟨true,hg4,rfl,hm⟩
 refine sk (yD 5 hg4) (sk (yD 5 hg4) (q2 (vb false) (xF hg4) (wpL_nil ?_)))
 exact ⟨false,hg4,rfl,hm⟩
 rintro ρ w2 ⟨hw,hH⟩
 subst hw
 refine norm_has hH ?_
 refine th_n (er (rs1 results224 (v:=(vb ((decide (n1≥0)) && (decide (n1<16))))) ?_))
 exact ⟨by kernel_rfl,Ext.refl _⟩
theorem p_H2 (n1:Int) (w0:World):Calls prog 224 #[(.int .i64 n1)] w0 (fun e w'=>e=.returned (.bool (s_H2 n1))∧Pure w0 w'):=pw_H2 n1 w0
def s_H (aA aB:Int) (aC aF:Int) (aD:ByteArray) (aG aM:Int):Int :=
 (cond (!(s_D1 aA aB aC aF aD aG aM)) 53 (cond (((s_D aA) && (!((decide (aB≥0)) && (decide (aB<16))))) || (((aA == 8) || (aA == 9)) && ((!((decide (aC≥0)) && (decide (aC<16)))) || (aB == aC)))) 50 (cond (decide ((aD.size:Int)>64)) 1 0)))
theorem pw_H (aA aB : Int) (aC aF : Int) (aD : ByteArray) (aG aM : Int) (w0 : World) :
  Calls prog 176 #[(.agg #[(vi aA),(vi aB),(vi aC),(vu aF),(vs aD),(vi aG),(vi aM)])] w0 (fun e w'=>∃b'0 b'1 b'2:Bool,((!(s_D1 aA aB aC aF aD aG aM))=b'0∧(((s_D aA) && (!((decide (aB≥0)) && (decide (aB<16))))) || (((aA == 8) || (aA == 9)) && ((!((decide (aC≥0)) && (decide (aC<16)))) || (aB == aC))))=b'1∧(decide ((aD.size:Int)>64))=b'2)∧(e=.returned (vi (cond b'0 53 (cond b'1 50 (cond b'2 1 0)))))∧Pure w0 w'):=by
 refine cw (args:=[(.agg #[(vi aA),(vi aB),(vi aC),(vu aF),(vs aD),(vi aG),(vi aM)])]) func176 ntmps176 ?_
 have hs:=Hst.start w0
 have hb:=HB.nil None w0
 refine eg (sn (O:=(.cells #[(vi aA),(vi aB),(vi aC),(vu aF),(vs aD),(vi aG),(vi aM)] 176)) xb ?_)
 intro p1 w1 hn1
 obtain ⟨H1,hs,hb⟩:=hs.alloc hb hn1
 refine q0 (vi 0) (ln (wpE_seq (eg (q2 (.agg #[(vi aA),(vi aB),(vi aC),(vu aF),(vs aD),(vi aG),(vi aM)]) (xa p1 [(vi aA),(vi aB),(vi aC),(vu aF),(vs aD),(vi aG),(vi aM)] (isAgg176 _) (sizeOf176 _) (hb.r0 0 7 gZ)) ?_))))
 refine sc call222 ((p_D1 aA aB aC aF aD aG aM w1).mono ?_)
 rintro e w2 ⟨he,hE⟩
 refine ⟨(vb (s_D1 aA aB aC aF aD aG aM)),he.trans (by kernel_rfl),?_⟩
 have hs:=hs.pure hE
 have hb:=hb.pure hE
 refine q0 (vb (!(s_D1 aA aB aC aF aD aG aM))) (ln ?_)
 refine wpE_cond (t:=(!(s_D1 aA aB aC aF aD aG aM))) (by kernel_rfl) (fun hc1=>?_) (fun hc1=>?_)
 refine eg (q0 (vi 53) (ln (er (th_r (rs1 results176 (v:=(vi 53)) ?_)))))
 exact ⟨true,_,_,⟨hc1,rfl,rfl⟩,by kernel_rfl,(Ext.refl (F:=None) _).hst hs⟩
 refine wpE_skip (th_n (wpE_seq (wpE_seq ?_)))
 refine wpE_via (fun ρ wJ=>∃b5'0:Bool,∃HJ:NP,(((s_D aA) && (!((decide (aB≥0)) && (decide (aB<16)))))=b5'0)∧Hst w0 None w0 HJ wJ∧HB HJ wJ [(p1,[(vi aA),(vi aB),(vi aC),(vu aF),(vs aD),(vi aG),(vi aM)],176)]∧Has ρ [(1,(vp (some p1))),(32,(vb (b5'0 || (((aA == 8) || (aA == 9)) && ((!((decide (aC≥0)) && (decide (aC<16)))) || (aB == aC))))))]) ?_ ?_
 refine rg (q0 (vp (some p1)) (q2 (vi aA) (xl (isAgg3 _) (hb.c0 0 gZ)) ?_))
 refine sc call223 ((p_D aA w2).mono ?_)
 rintro e w14 ⟨he,hE⟩
 refine ⟨(vb (s_D aA)),he.trans (by kernel_rfl),?_⟩
 have hs:=hs.pure hE
 have hb:=hb.pure hE
 refine q0 (vb (s_D aA)) ?_
 refine wpL_join 5 (fun ρ wJ=>∃b6'0:Bool,∃HJ:NP,((s_D aA)=b6'0)∧Hst w0 None w0 HJ wJ∧HB HJ wJ [(p1,[(vi aA),(vi aB),(vi aC),(vu aF),(vs aD),(vi aG),(vi aM)],176)]∧Has ρ [(1,(vp (some p1))),(14,(vb (b6'0 && (!((decide (aB≥0)) && (decide (aB<16)))))))]) ?_ ?_
 rintro ρ w16 ⟨b6'0,H7,he0,hs,hb,hH⟩
 subst he0
 refine wpL_has hH ?_
 refine q0 (vb ((s_D aA) && (!((decide (aB≥0)) && (decide (aB<16)))))) ?_
 rcases bte ((s_D aA) && (!((decide (aB≥0)) && (decide (aB<16))))) with hg12 | hg12
 refine sk (yD 15 hg12) (sk (yD 15 hg12) (sk (yD 15 hg12) (sk (yD 15 hg12) (sm (sm (sm (sm (sm (sm (sm (sm ?_)))))))))))
 refine sm (sm (sm (sk (yD 15 hg12) (q2 (vb true) (xT hg12) (ln ?_)))))
 exact ⟨true,_,hg12,hs,hb,hm⟩
 refine q1 (vp (some p1)) (wy 15 hg12) (stp (v:=(vi aA)) (wy 15 hg12) (xl (isAgg3 _) (hb.c0 0 gZ)) ?_)
 refine st_call (wy 15 hg12) (xc call225) ((p_W1 aA w16).mono ?_)
 rintro e w18 ⟨he,hE⟩
 refine ⟨(vb ((aA == 8) || (aA == 9))),he.trans (by kernel_rfl),?_⟩
 have hs:=hs.pure hE
 have hb:=hb.pure hE
 refine q1 (vb ((aA == 8) || (aA == 9))) (wy 15 hg12) ?_
 refine wpL_join 12 (fun ρ wJ=>∃b8'0:Bool,∃HJ:NP,(((aA == 8) || (aA == 9))=b8'0)∧Hst w0 None w0 HJ wJ∧HB HJ wJ [(p1,[(vi aA),(vi aB),(vi aC),(vu aF),(vs aD),(vi aG),(vi aM)],176)]∧Has ρ [(1,(vp (some p1))),(15,(vb ((s_D aA) && (!((decide (aB≥0)) && (decide (aB<16))))))),(31,(vb (b8'0 && ((!((decide (aC≥0)) && (decide (aC<16)))) || (aB == aC)))))]) ?_ ?_
 rintro ρ w21 ⟨b8'0,H9,he0,hs,hb,hH⟩
 subst he0
 refine wpL_has hH ?_
 refine q2 (vb (((aA == 8) || (aA == 9)) && ((!((decide (aC≥0)) && (decide (aC<16)))) || (aB == aC)))) (xF hg12) (ln ?_)
 exact ⟨false,_,hg12,hs,hb,hm⟩
 rcases bte ((aA == 8) || (aA == 9)) with hg16 | hg16
 refine q1 (vp (some (p1.add 2))) (wy 19 hg16) (stp (v:=(vi aC)) (wy 19 hg16) (xl (isAgg3 _) (hb.c 0 2 gZ)) ?_)
 refine st_call (wy 19 hg16) (xc call224) ((p_H2 aC w18).mono ?_)
 rintro e w22 ⟨he,hE⟩
 refine ⟨(vb ((decide (aC≥0)) && (decide (aC<16)))),he.trans (by kernel_rfl),?_⟩
 have hs:=hs.pure hE
 have hb:=hb.pure hE
 refine q1 (vb (!((decide (aC≥0)) && (decide (aC<16))))) (wy 19 hg16) (q1 (vb (!((decide (aC≥0)) && (decide (aC<16))))) (wy 19 hg16) ?_)
 refine wpL_join 6 (fun ρ wJ=>∃b9'0:Bool,∃HJ:NP,((!((decide (aC≥0)) && (decide (aC<16))))=b9'0)∧Hst w0 None w0 HJ wJ∧HB HJ wJ [(p1,[(vi aA),(vi aB),(vi aC),(vu aF),(vs aD),(vi aG),(vi aM)],176)]∧Has ρ [(1,(vp (some p1))),(15,(vb ((s_D aA) && (!((decide (aB≥0)) && (decide (aB<16))))))),(19,(vb ((aA == 8) || (aA == 9)))),(30,(vb (b9'0 || (aB == aC))))]) ?_ ?_
 rintro ρ w23 ⟨b9'0,H10,he0,hs,hb,hH⟩
 subst he0
 refine wpL_has hH ?_
 refine stp (v:=(vb ((!((decide (aC≥0)) && (decide (aC<16)))) || (aB == aC)))) (wy 15 hg12) (xT hg16) (wpL_nil ?_)
 exact ⟨true,_,hg16,hs,hb,hm⟩
 rcases bte (!((decide (aC≥0)) && (decide (aC<16)))) with hg18 | hg18
 refine sk (yD 24 hg18) (sk (yD 24 hg18) (sk (yD 24 hg18) (sk (yD 24 hg18) (sk (yD 24 hg18) (stp (v:=(vb true)) (wy 19 hg16) (xT hg18) (wpL_nil ?_))))))
 exact ⟨true,_,hg18,hs,hb,hm⟩
 refine q1 (vp (some (p1.add 1))) (wy 24 hg18) (stp (v:=(vi aB)) (wy 24 hg18) (xl (isAgg3 _) (hb.c 0 1 gZ)) (q1 (vp (some (p1.add 2))) (wy 24 hg18) (stp (v:=(vi aC)) (wy 24 hg18) (xl (isAgg3 _) (hb.c 0 2 gZ)) (q1 (vb (aB == aC)) (wy 24 hg18) (stp (v:=(vb (aB == aC))) (wy 19 hg16) (xF hg18) (wpL_nil ?_))))))
 exact ⟨false,_,hg18,hs,hb,hm⟩
 refine sk (yD 19 hg16) (sk (yD 19 hg16) (sk (yD 19 hg16) (sk (yD 19 hg16) (sk (yD 19 hg16) (sm (sm (sm (sm (sm (sk (yD 19 hg16) (stp (v:=(vb false)) (wy 15 hg12) (xF hg16) ?_)))))))))))
 refine wpL_nil ?_
 exact ⟨false,_,hg16,hs,hb,hm⟩
 rcases bte (s_D aA) with hg11 | hg11
 refine q1 (vp (some (p1.add 1))) (wy 9 hg11) (stp (v:=(vi aB)) (wy 9 hg11) (xl (isAgg3 _) (hb.c 0 1 gZ)) ?_)
 refine st_call (wy 9 hg11) (xc call224) ((p_H2 aB w14).mono ?_)
 rintro e w17 ⟨he,hE⟩
 refine ⟨(vb ((decide (aB≥0)) && (decide (aB<16)))),he.trans (by kernel_rfl),?_⟩
 have hs:=hs.pure hE
 have hb:=hb.pure hE
 refine q1 (vb (!((decide (aB≥0)) && (decide (aB<16))))) (wy 9 hg11) (q2 (vb (!((decide (aB≥0)) && (decide (aB<16))))) (xT hg11) (wpL_nil ?_))
 exact ⟨true,_,hg11,hs,hb,hm⟩
 refine sk (yD 9 hg11) (sk (yD 9 hg11) (sk (yD 9 hg11) (sk (yD 9 hg11) (q2 (vb false) (xF hg11) (wpL_nil ?_)))))
 exact ⟨false,_,hg11,hs,hb,hm⟩
 rintro ρ w13 ⟨b5'0,H6,he0,hs,hb,hH⟩
 subst he0
 refine norm_has hH ?_
 refine th_n ?_
 refine wpE_cond (t:=(((s_D aA) && (!((decide (aB≥0)) && (decide (aB<16))))) || (((aA == 8) || (aA == 9)) && ((!((decide (aC≥0)) && (decide (aC<16)))) || (aB == aC))))) (by kernel_rfl) (fun hc2=>?_) (fun hc2=>?_)
 refine eg (q0 (vi 50) (ln (er (th_r (rs1 results176 (v:=(vi 50)) ?_)))))
 exact ⟨false,true,_,⟨hc1,hc2,rfl⟩,by kernel_rfl,(Ext.refl (F:=None) _).hst hs⟩
 refine wpE_skip (th_n (wpE_seq (eg (q0 (vp (some (p1.add 4))) (q2 (vs aD) (xl (isAgg9 _) (hb.c 0 4 gZ)) (q0 (vi (aD.size:Int)) (q0 (vb (decide ((aD.size:Int)>64))) (ln ?_))))))))
 refine wpE_cond (t:=(decide ((aD.size:Int)>64))) (by kernel_rfl) (fun hc3=>?_) (fun hc3=>?_)
 refine eg (q0 (vi 1) (ln (er (th_r (rs1 results176 (v:=(vi 1)) ?_)))))
 exact ⟨false,false,true,⟨hc1,hc2,hc3⟩,by kernel_rfl,(Ext.refl (F:=None) _).hst hs⟩
 refine wpE_skip (th_n (eg (q0 (vi 0) (ln (er (rs1 results176 (v:=(vi 0)) ?_))))))
 exact ⟨false,false,false,⟨hc1,hc2,hc3⟩,by kernel_rfl,(Ext.refl (F:=None) _).hst hs⟩
theorem p_H (aA aB:Int) (aC aF:Int) (aD:ByteArray) (aG aM:Int) (w0:World):Calls prog 176 #[(.agg #[(.int .i64 aA),(.int .i64 aB),(.int .i64 aC),(.int .u64 aF),(.string aD),(.int .i64 aG),(.int .i64 aM)])] w0 (fun e w'=>e=.returned (.int .i64 (s_H aA aB aC aF aD aG aM))∧Pure w0 w'):=by
 refine (pw_H aA aB aC aF aD aG aM w0).mono ?_
 rintro e w' ⟨b'0,b'1,b'2,⟨e0,e1,e2⟩,h,E⟩
 subst e0
 subst e1
 subst e2
 exact ⟨h,E⟩
def m_T_l2 (aH:Sl) (deep1:Int) (seen1:Option Addr) (e1 i1:Int) (w0:World) (Hl1:NP) (wl1:World) (Kc2:Int→Int→NP→WP) (K:Int→WP):Prop :=
 Br ((e1 == 0) && (decide (i1<(aH.len:Int))))
  (∃a3:Addr,At aH i1 6 a3 ∧
  ∀(H4:NP) (w11:World),Hst w0 Hl1 wl1 H4 w11 →
  ∃aO aP:Int,∃aQ aR:Int,∃aS:ByteArray,∃bI:Sl,Row w11 a3 [(vi aO),(vi aP),(vi aQ),(vu aR),(vs aS),bI.v] ∧
  Calls prog 203 #[(.agg #[(vi aO),(vi aP),(vi aQ),(vu aR),(vs aS),bI.v]),(vi (q6.wrap (deep1+1))),(vp seen1)] w11 (fun e w12=>∃r1:Int,e=.returned (vi r1)∧
   Kept H4 w11 w12 ∧
   Kc2 r1 (q6.wrap (i1+1)) H4 w12))
  (∀(H4:NP) (w11:World),Hst w0 Hl1 wl1 H4 w11 →
  K e1 w11)
def m_T_j1 (aE aI:Int) (aJ aK:Int) (aL:ByteArray) (aH:Sl) (deep1:Int) (seen1:Option Addr) (x1:Bool) (w0:World) (H:NP) (w:World) (K:Int→WP):Prop :=
 Br x1
  (K 52 w)
  (∃a1:Addr,seen1=some a1 ∧
  ∃v1:Int,w.cell? a1=some (vi v1) ∧
  ∃a2:Addr,seen1=some a2 ∧
  CanW w a2∧¬ H a2.block∧∀w2:World,w2=w.setCell a2 (vi (q6.wrap (v1+1))) →
  ∀y1:Bool,y1=((((s_H aE aI aJ aK aL 0 0):Int) != 53) && (((aH.len:Int):Int) != (s_C aE))) →
  ∀(H3:NP) (w10:World),Hst w0 H w2 H3 w10 →
  ∃(I1:Int→Int→NP→WP) (mu1:Int→Int→World→Nat),I1 (cond y1 53 (s_H aE aI aJ aK aL 0 0)) 0 H3 w10 ∧
   ∀(e1 i1:Int) (Hl1:NP) (wl1:World),Hst w0 Hl1 wl1 Hl1 wl1→I1 e1 i1 Hl1 wl1→m_T_l2 aH deep1 seen1 e1 i1 w0 Hl1 wl1 (fun y'0 y'1 H' w'=>I1 y'0 y'1 H' w'∧mu1 y'0 y'1 w'<mu1 e1 i1 wl1) K)
def m_T (aE aI:Int) (aJ aK:Int) (aL:ByteArray) (aH:Sl) (deep1:Int) (seen1:Option Addr) (w0:World) (K:Int→WP):Prop :=
 ∃a4:Addr,seen1=some a4 ∧
 ∀(H1:NP) (w1:World),Hst w0 None w0 H1 w1 →
 ∃v2:Int,w1.cell? a4=some (vi v2) ∧
 ∀(H5:NP) (w13:World),Hst w0 H1 w1 H5 w13 →
 m_T_j1 aE aI aJ aK aL aH deep1 seen1 ((decide (v2≥4096)) || (decide (deep1≥64))) w0 H5 w13 K
theorem w_T (aE aI : Int) (aJ aK : Int) (aL : ByteArray) (aH : Sl) (deep1 : Int) (seen1 : Option Addr) (w0 : World) (K : Int → WP) (h : m_T aE aI aJ aK aL aH deep1 seen1 w0 K) :
  Calls prog 203 #[(.agg #[(vi aE),(vi aI),(vi aJ),(vu aK),(vs aL),aH.v]),(vi deep1),(vp seen1)] w0 (fun e w'=>∃r2:Int,e=.returned (vi r2)∧K r2 w'):=by
 unfold m_T at h
 refine cw (args:=[(.agg #[(vi aE),(vi aI),(vi aJ),(vu aK),(vs aL),aH.v]),(vi deep1),(vp seen1)]) func203 ntmps203 ?_
 have hs:=Hst.start w0
 have hb:=HB.nil None w0
 refine eg (sn (O:=(.cells #[(vi aE),(vi aI),(vi aJ),(vu aK),(vs aL),aH.v] 107)) xb ?_)
 intro p1 w1 hn1
 obtain ⟨H1,hs,hb⟩:=hs.alloc hb hn1
 refine q0 (vi 0) (ln (wpE_seq (wpE_seq ?_)))
 refine wpE_joinT (fun ρ w=>∃x1:Bool,∃H:NP,Has ρ [(1,(vi deep1)),(2,(vp seen1)),(3,(vp (some p1))),(16,(vb x1))]∧Hst w0 H w H w∧HB H w [(p1,[(vi aE),(vi aI),(vi aJ),(vu aK),(vs aL),aH.v],107)]∧m_T_j1 aE aI aJ aK aL aH deep1 seen1 x1 w0 H w K) ?_ ?_
 rintro ρ w ⟨x1,H,hH,hs,hb,h⟩
 unfold m_T_j1 at h
 refine wpE_has hH ?_
 refine wpE_cond (t:=x1) (by kernel_rfl) (fun hc1=>?_) (fun hc1=>?_)
 have h:=h.1 hc1
 refine eg (q0 (vi 52) (ln (er (th_r (rs1 results203 (v:=(vi 52)) ?_)))))
 exact ⟨52,rfl,h⟩
 have h:=h.2 hc1
 refine wpE_skip (th_n (eg (q0 (vp seen1) (q0 (vp seen1) ?_))))
 obtain ⟨a1,hp1,h⟩:=h
 refine q2 (vp (some a1)) (xn hp1) ?_
 obtain ⟨v1,hv3,h⟩:=h
 refine q2 (vi v1) (xl (isAgg3 _) hv3) (q0 (vi (q6.wrap (v1+1))) ?_)
 obtain ⟨a2,hp2,h⟩:=h
 refine q2 (vp (some a2)) (xn hp2) ?_
 obtain ⟨hp3,hnh,h⟩:=h
 refine ss (x_store (a:=a2) (v:=(vi (q6.wrap (v1+1)))) (by kernel_rfl) (by kernel_rfl) rfl (sizeOf3 _) hp3) ?_
 intro w2 hn2
 have h:=h w2 hn2
 have hk:=Kept.sc hnh hn2
 obtain ⟨hs,hb⟩:=hk.hh hs hb
 refine ln (eg (q2 (.agg #[(vi aE),(vi aI),(vi aJ),(vu aK),(vs aL),aH.v]) (xa p1 [(vi aE),(vi aI),(vi aJ),(vu aK),(vs aL),aH.v] (isAgg107 _) (sizeOf107 _) (hb.r0 0 6 gZ)) ?_))
 refine sc call204 ((p_C1 aE aI aJ aK aL aH w2).mono ?_)
 rintro e w3 ⟨he,hE⟩
 refine ⟨(.agg #[(vi aE),(vi aI),(vi aJ),(vu aK),(vs aL),(vi 0),(vi 0)]),he.trans (by kernel_rfl),?_⟩
 have hs:=hs.pure hE
 have hb:=hb.pure hE
 refine sc call176 ((p_H aE aI aJ aK aL 0 0 w3).mono ?_)
 rintro e w4 ⟨he,hE⟩
 refine ⟨(vi (s_H aE aI aJ aK aL 0 0)),he.trans (by kernel_rfl),?_⟩
 have hs:=hs.pure hE
 have hb:=hb.pure hE
 refine q0 (vi (s_H aE aI aJ aK aL 0 0)) (ln (wpE_seq (wpE_seq ?_)))
 refine wpE_via (fun ρ wJ=>∃b1'0 y1:Bool,∃HJ:NP,((((s_H aE aI aJ aK aL 0 0):Int) != 53)=b1'0)∧(y1=(b1'0 && (((aH.len:Int):Int) != (s_C aE))))∧Hst w0 H w2 HJ wJ∧HB HJ wJ [(p1,[(vi aE),(vi aI),(vi aJ),(vu aK),(vs aL),aH.v],107)]∧Has ρ [(1,(vi deep1)),(2,(vp seen1)),(3,(vp (some p1))),(7,(vi (s_H aE aI aJ aK aL 0 0))),(36,(vb y1))]) ?_ ?_
 refine wpE_drawnC (fun x=>∃H',Hst w0 H w2 H' x∧HB H' x [(p1,[(vi aE),(vi aI),(vi aJ),(vu aK),(vs aL),aH.v],107)]) [8] [] (by kernel_rfl) (by kernel_rfl) (by kernel_rfl) (by kernel_rfl) ⟨_,hs.drew,hb.drew⟩ ?_
 intro w8 hw8
 have hs:Hst w0 H w2 H w8:=by rw [hw8];exact hs.drew
 have hb:HB H w8 [(p1,[(vi aE),(vi aI),(vi aJ),(vu aK),(vs aL),aH.v],107)]:=by rw [hw8];exact hb.drew
 refine qx 0 (vi (s_H aE aI aJ aK aL 0 0)) Kp0 (qx 1 (vb (((s_H aE aI aJ aK aL 0 0):Int) != 53)) Kp1 (qx 2 (vb (((s_H aE aI aJ aK aL 0 0):Int) != 53)) Kp2 (qg 3 ?_)))
 rcases bte (((s_H aE aI aJ aK aL 0 0):Int) != 53) with hg2 | hg2
 refine sz (v:=(vp (some (p1.add 5)))) Kp3 (wy 28 hg2) (fun _ _=>(by kernel_rfl)) (qg 4 (sz (v:=aH.v) Kp4 (wy 28 hg2) (fun w' hw'=>(by obtain ⟨H',hs',hb'⟩:=hw';exact (xl (isAgg66 _) (hb'.cell 0 5 gZ (by kernel_rfl))))) (qw 5 (vi (aH.len:Int)) Kp5 (wy 28 hg2) (qw 6 (vp (some p1)) Kp6 (wy 28 hg2) (qg 7 (sz (v:=(vi aE)) Kp7 (wy 28 hg2) (fun w' hw'=>(by obtain ⟨H',hs',hb'⟩:=hw';exact (xl (isAgg3 _) (hb'.cell0 0 gZ (by kernel_rfl))))) (lg 8 ?_)))))))
 refine sl_call Kp8 (wy 28 hg2) (by kernel_rfl) (xc call105) ((p_C aE w8).mono ?_)
 rintro e w9 ⟨he,hE⟩
 have hs:=hs.pure hE
 have hb:=hb.pure hE
 refine ⟨(vi (s_C aE)),he.trans (by kernel_rfl),.inr ⟨_,hs,hb⟩,?_⟩
 refine qw 9 (vb (((aH.len:Int):Int) != (s_C aE))) Kp9 (wy 28 hg2) (qz 10 (vb (((aH.len:Int):Int) != (s_C aE))) (pickA (S8 (pickS (pickS pickZ)))) (fun _ _=>(xT hg2)) (wn (th_n ?_)))
 exact ⟨true,_,_,hg2,rfl,hs,hb,hm⟩
 refine sx_not Kp3 (unwant rfl (yD 28 hg2) rfl) (qn 4 Kp4 (unwant rfl (yD 28 hg2) rfl) (qn 5 Kp5 (unwant rfl (yD 28 hg2) rfl) (qn 6 Kp6 (unwant rfl (yD 28 hg2) rfl) (qn 7 Kp7 (unwant rfl (yD 28 hg2) rfl) (lg 8 (sx_not Kp8 (unwant rfl (yD 28 hg2) rfl) (qn 9 Kp9 (unwant rfl (yD 28 hg2) rfl) (qz 10 (vb false) (pickA (S8 (pickS (pickS pickZ)))) (fun _ _=>(xF hg2)) (wn (th_n ?_))))))))))
 exact ⟨false,_,_,hg2,rfl,hs,hb,hm⟩
 rintro ρ w7 ⟨b1'0,y1,H2,he0,hy1,hs,hb,hH⟩
 subst he0
 have h:=h y1 hy1
 refine norm_has hH ?_
 refine th_n ?_
 refine wpE_via (fun ρ wJ=>∃b2'0:Bool,∃HJ:NP,(y1=b2'0)∧Hst w0 H w2 HJ wJ∧HB HJ wJ [(p1,[(vi aE),(vi aI),(vi aJ),(vu aK),(vs aL),aH.v],107)]∧Has ρ [(1,(vi deep1)),(2,(vp seen1)),(3,(vp (some p1))),(7,(vi (cond b2'0 53 (s_H aE aI aJ aK aL 0 0))))]) ?_ ?_
 refine wpE_cond (t:=y1) (by kernel_rfl) (fun hc3=>?_) (fun hc3=>?_)
 refine rg (q0 (vi 53) (ln ?_))
 exact ⟨true,_,hc3,hs,hb,hm⟩
 refine wpE_skip (th_n ?_)
 exact ⟨false,_,hc3,hs,hb,hm⟩
 rintro ρ w10 ⟨b2'0,H3,he0,hs,hb,hH⟩
 subst he0
 refine norm_has hH ?_
 refine th_n (wpE_seq (eg (q0 (vi 0) (ln (wpE_block ?_)))))
 have h:=h H3 w10 hs
 have hs:=hs.here
 obtain ⟨I1,mu1,h0,hr⟩:=h
 refine wpE_loop (σ:=Int×Int×NP×World) (fun s ρ w=>w=s.2.2.2∧Has ρ [(1,(vi deep1)),(2,(vp seen1)),(3,(vp (some p1))),(7,(vi s.1)),(8,(vi s.2.1))]∧Hst w0 s.2.2.1 w s.2.2.1 w∧HB s.2.2.1 w [(p1,[(vi aE),(vi aI),(vi aJ),(vu aK),(vs aL),aH.v],107)]∧I1 s.1 s.2.1 s.2.2.1 s.2.2.2) (fun s=>mu1 s.1 s.2.1 s.2.2.2) ((cond y1 53 (s_H aE aI aJ aK aL 0 0)),0,H3,w10) ⟨rfl,hm,hs,hb,h0⟩ ?_
 rintro ⟨e1,i1,Hl1,wl1⟩ ρ w ⟨hw,hH,hs,hb,hI⟩
 obtain rfl:wl1=w:=(show w=wl1 from hw).symm
 have hH:Has ρ [(1,(vi deep1)),(2,(vp seen1)),(3,(vp (some p1))),(7,(vi e1)),(8,(vi i1))]:=hH
 have hs:Hst w0 Hl1 wl1 Hl1 wl1:=hs
 have hb:HB Hl1 wl1 [(p1,[(vi aE),(vi aI),(vi aJ),(vu aK),(vs aL),aH.v],107)]:=hb
 have h:=hr e1 i1 Hl1 wl1 hs hI
 unfold m_T_l2 at h
 refine wpE_has hH ?_
 refine wpE_seq (wpE_seq ?_)
 refine wpE_via (fun ρ wJ=>∃b3'0:Bool,∃HJ:NP,((e1 == 0)=b3'0)∧Hst w0 Hl1 wl1 HJ wJ∧HB HJ wJ [(p1,[(vi aE),(vi aI),(vi aJ),(vu aK),(vs aL),aH.v],107)]∧Has ρ [(1,(vi deep1)),(2,(vp seen1)),(3,(vp (some p1))),(7,(vi e1)),(8,(vi i1)),(45,(vb (b3'0 && (decide (i1<(aH.len:Int))))))]) ?_ ?_
 refine rg (q0 (vi e1) (q0 (vb (e1 == 0)) (q0 (vb (e1 == 0)) ?_)))
 rcases bte (e1 == 0) with hg4 | hg4
 refine q1 (vi i1) (wy 39 hg4) (q1 (vp (some (p1.add 5))) (wy 39 hg4) (stp (v:=aH.v) (wy 39 hg4) (xl (isAgg66 _) (hb.c 0 5 gZ)) (q1 (vi (aH.len:Int)) (wy 39 hg4) (q1 (vb (decide (i1<(aH.len:Int)))) (wy 39 hg4) (q2 (vb (decide (i1<(aH.len:Int)))) (xT hg4) (ln ?_))))))
 exact ⟨true,_,hg4,hs,hb,hm⟩
 refine sk (yD 39 hg4) (sk (yD 39 hg4) (sk (yD 39 hg4) (sk (yD 39 hg4) (sk (yD 39 hg4) (q2 (vb false) (xF hg4) (ln ?_))))))
 exact ⟨false,_,hg4,hs,hb,hm⟩
 rintro ρ w11 ⟨b3'0,H4,he0,hs,hb,hH⟩
 subst he0
 refine norm_has hH ?_
 refine th_n ?_
 refine wpE_cond (t:=((e1 == 0) && (decide (i1<(aH.len:Int))))) (by kernel_rfl) (fun hc4=>?_) (fun hc4=>?_)
 have h:=h.1 hc4
 refine wpE_skip (th_n (wpE_seq (wpE_block (rg (q0 (vp (some (p1.add 5))) (q2 aH.v (xl (isAgg66 _) (hb.c 0 5 gZ)) (q0 (vi i1) ?_)))))))
 obtain ⟨a3,hv2,h⟩:=h
 refine q2 (vp (some a3)) (xi (runUnderlying66 _) (sizeOf107 _) hv2) ?_
 have h:=h H4 w11 hs
 have hs:=hs.here
 obtain ⟨aO,aP,aQ,aR,aS,bI,hv1,h⟩:=h
 refine q2 (.agg #[(vi aO),(vi aP),(vi aQ),(vu aR),(vs aS),bI.v]) (xa a3 [(vi aO),(vi aP),(vi aQ),(vu aR),(vs aS),bI.v] (isAgg107 _) (sizeOf107 _) hv1) (q0 (vi deep1) (q0 (vi (q6.wrap (deep1+1))) (q0 (vp seen1) ?_)))
 refine sc call203 (h.mono ?_)
 rintro e w12 ⟨r1,rfl,hk,h⟩
 refine ⟨_,rfl,?_⟩
 obtain ⟨hs,hb⟩:=hk.hh hs hb
 refine q0 (vi r1) (wpL_nil (bl_n (th_n (rg (q0 (vi i1) (q0 (vi (q6.wrap (i1+1))) (q0 (vi (q6.wrap (i1+1))) (ln ?_))))))))
 exact ⟨(r1,(q6.wrap (i1+1)),H4,w12),⟨rfl,hm,hs,hb,h.1⟩,h.2⟩
 have h:=h.2 hc4
 refine wpE_exit (th_x (th_x (bl_eq (th_n (eg (q0 (vi e1) (q0 (vi e1) (ln (er ?_)))))))))
 have h:=h H4 w11 hs
 have hs:=hs.here
 refine rs1 results203 (v:=(vi e1)) ?_
 exact ⟨e1,rfl,h⟩
 refine rg (q0 (vp seen1) ?_)
 obtain ⟨a4,hp4,h⟩:=h
 refine q2 (vp (some a4)) (xn hp4) ?_
 have h:=h H1 w1 hs
 have hs:=hs.here
 obtain ⟨v2,hv4,h⟩:=h
 refine q2 (vi v2) (xl (isAgg3 _) hv4) (q0 (vb (decide (v2≥4096))) (q0 (vb (decide (v2≥4096))) ?_))
 refine wpL_join 3 (fun ρ wJ=>∃b4'0:Bool,∃HJ:NP,((decide (v2≥4096))=b4'0)∧Hst w0 H1 w1 HJ wJ∧HB HJ wJ [(p1,[(vi aE),(vi aI),(vi aJ),(vu aK),(vs aL),aH.v],107)]∧Has ρ [(1,(vi deep1)),(2,(vp seen1)),(3,(vp (some p1))),(16,(vb (b4'0 || (decide (deep1≥64)))))]) ?_ ?_
 rintro ρ w13 ⟨b4'0,H5,he0,hs,hb,hH⟩
 subst he0
 refine wpL_has hH ?_
 refine wpL_nil ?_
 have h:=h H5 w13 hs
 have hs:=hs.here
 refine th_n ?_
 exact ⟨((decide (v2≥4096)) || (decide (deep1≥64))),H5,hm,hs,hb,h⟩
 rcases bte (decide (v2≥4096)) with hg6 | hg6
 refine sk (yD 13 hg6) (sk (yD 13 hg6) (q2 (vb true) (xT hg6) (wpL_nil ?_)))
 exact ⟨true,_,hg6,hs,hb,hm⟩
 refine q1 (vi deep1) (wy 13 hg6) (q1 (vb (decide (deep1≥64))) (wy 13 hg6) (q2 (vb (decide (deep1≥64))) (xF hg6) (wpL_nil ?_)))
 exact ⟨false,_,hg6,hs,hb,hm⟩
def m_E4 (aE aI:Int) (aJ aK:Int) (aL:ByteArray) (aH:Sl) (w0:World) (K:Int→WP):Prop :=
 ∀(H1:NP) (w1:World),Hst w0 None w0 H1 w1 →
 ∀(p2:Addr) (w2:World),New w1 (.cells #[(vi 0)] 3) p2 w2 →
 CanW w2 p2∧¬ H1 p2.block∧∀w3:World,w3=w2.setCell p2 (vi 0) →
 Calls prog 203 #[(.agg #[(vi aE),(vi aI),(vi aJ),(vu aK),(vs aL),aH.v]),(vi 0),(vp (some p2))] w3 (fun e w4=>∃r1:Int,e=.returned (vi r1)∧
  Kept H1 w3 w4 ∧
  K r1 w4)
theorem w_E4 (aE aI : Int) (aJ aK : Int) (aL : ByteArray) (aH : Sl) (w0 : World) (K : Int → WP) (h : m_E4 aE aI aJ aK aL aH w0 K) :
  Calls prog 147 #[(.agg #[(vi aE),(vi aI),(vi aJ),(vu aK),(vs aL),aH.v])] w0 (fun e w'=>∃r2:Int,e=.returned (vi r2)∧K r2 w'):=by
 unfold m_E4 at h
 refine cw (args:=[(.agg #[(vi aE),(vi aI),(vi aJ),(vu aK),(vs aL),aH.v])]) func147 ntmps147 ?_
 have hs:=Hst.start w0
 have hb:=HB.nil None w0
 refine eg (sn (O:=(.cells #[(vi aE),(vi aI),(vi aJ),(vu aK),(vs aL),aH.v] 107)) xb ?_)
 intro p1 w1 hn1
 obtain ⟨H1,hs,hb⟩:=hs.alloc hb hn1
 refine q0 (vi 0) (ln (eg ?_))
 have h:=h H1 w1 hs
 have hs:=hs.here
 refine sn (O:=(.cells #[(vi 0)] 3)) (x_alloc (zeroValue3 _) rfl) ?_
 intro p2 w2 hn3
 have h:=h p2 w2 hn3
 have hs:=hs.again (Ext.new (F:=None) hn3).keptP
 have hb:=hb.kept (Ext.new (F:=None) hn3).keptP
 obtain ⟨hp1,hnh,h⟩:=h
 refine ss (x_store (a:=p2) (v:=(vi 0)) (by kernel_rfl) (by kernel_rfl) rfl (sizeOf3 _) hp1) ?_
 intro w3 hn2
 have h:=h w3 hn2
 have hk:=Kept.sc hnh hn2
 obtain ⟨hs,hb⟩:=hk.hh hs hb
 refine ln (eg (q2 (.agg #[(vi aE),(vi aI),(vi aJ),(vu aK),(vs aL),aH.v]) (xa p1 [(vi aE),(vi aI),(vi aJ),(vu aK),(vs aL),aH.v] (isAgg107 _) (sizeOf107 _) (hb.r0 0 6 gZ)) ?_))
 refine sc call203 (h.mono ?_)
 rintro e w4 ⟨r1,rfl,hk,h⟩
 refine ⟨_,rfl,?_⟩
 obtain ⟨hs,hb⟩:=hk.hh hs hb
 refine q0 (vi r1) (ln (er (rs1 results147 (v:=(vi r1)) ?_)))
 exact ⟨r1,rfl,h⟩
def m_F4 (p1:Option Addr) (t1:Int) (w0:World) (K:Int→WP):Prop :=
 Calls prog 87 #[(vp p1),(vi t1)] w0 (fun e w1=>∃r1:Bool,e=.returned (vb r1)∧
  Br (!r1)
   (K 0 w1)
   (∃a1:Addr,p1=some a1 ∧
   ∃v1:Sl,w1.cell? (a1.add 1)=some v1.v ∧
   ∃a2:Addr,At v1 (q6.wrap (t1 - 1)) 1 a2 ∧
   ∃v2:Int,w1.cell? a2=some (vi v2) ∧
   K v2 w1))
theorem w_F4 (p1 : Option Addr) (t1 : Int) (w0 : World) (K : Int → WP) (h : m_F4 p1 t1 w0 K) :
  Calls prog 97 #[(vp p1),(vi t1)] w0 (fun e w'=>∃r2:Int,e=.returned (vi r2)∧K r2 w'):=by
 unfold m_F4 at h
 refine cw (args:=[(vp p1),(vi t1)]) func97 ntmps97 (eg (q0 (vi 0) (ln (wpE_seq (eg (q0 (vp p1) (q0 (vi t1) ?_)))))))
 refine sc call87 (h.mono ?_)
 rintro e w1 ⟨r1,rfl,h⟩
 refine ⟨_,rfl,?_⟩
 refine q0 (vb (!r1)) (ln ?_)
 refine wpE_cond (t:=(!r1)) (by kernel_rfl) (fun hc1=>?_) (fun hc1=>?_)
 have h:=h.1 hc1
 refine eg (q0 (vi 0) (ln (er (th_r (rs1 results97 (v:=(vi 0)) ?_)))))
 exact ⟨0,rfl,h⟩
 have h:=h.2 hc1
 refine wpE_skip (th_n (eg (q0 (vp p1) ?_)))
 obtain ⟨a1,hp1,h⟩:=h
 refine q2 (vp (some a1)) (xn hp1) (q0 (vp (some (a1.add 1))) ?_)
 obtain ⟨v1,hv3,h⟩:=h
 refine q2 v1.v (xl (isAgg42 _) hv3) (q0 (vi t1) (q0 (vi (q6.wrap (t1 - 1))) ?_))
 obtain ⟨a2,hv2,h⟩:=h
 refine q2 (vp (some a2)) (xi (runUnderlying42 _) (sizeOf3 _) hv2) ?_
 obtain ⟨v2,hv1,h⟩:=h
 refine q2 (vi v2) (xl (isAgg3 _) hv1) (q0 (vi v2) (ln (er (rs1 results97 (v:=(vi v2)) ?_))))
 exact ⟨v2,rfl,h⟩
def m_G4 (p1:Option Addr) (t1:Int) (w0:World) (K:Int→WP):Prop :=
 Calls prog 87 #[(vp p1),(vi t1)] w0 (fun e w1=>∃r1:Bool,e=.returned (vb r1)∧
  Br (!r1)
   (K 0 w1)
   (∃a1:Addr,p1=some a1 ∧
   ∃v1:Sl,w1.cell? (a1.add 2)=some v1.v ∧
   ∃a2:Addr,At v1 (q6.wrap (t1 - 1)) 1 a2 ∧
   ∃v2:Int,w1.cell? a2=some (vi v2) ∧
   K v2 w1))
theorem w_G4 (p1 : Option Addr) (t1 : Int) (w0 : World) (K : Int → WP) (h : m_G4 p1 t1 w0 K) :
  Calls prog 177 #[(vp p1),(vi t1)] w0 (fun e w'=>∃r2:Int,e=.returned (vi r2)∧K r2 w'):=by
 unfold m_G4 at h
 refine cw (args:=[(vp p1),(vi t1)]) func177 ntmps177 (eg (q0 (vi 0) (ln (wpE_seq (eg (q0 (vp p1) (q0 (vi t1) ?_)))))))
 refine sc call87 (h.mono ?_)
 rintro e w1 ⟨r1,rfl,h⟩
 refine ⟨_,rfl,?_⟩
 refine q0 (vb (!r1)) (ln ?_)
 refine wpE_cond (t:=(!r1)) (by kernel_rfl) (fun hc1=>?_) (fun hc1=>?_)
 have h:=h.1 hc1
 refine eg (q0 (vi 0) (ln (er (th_r (rs1 results177 (v:=(vi 0)) ?_)))))
 exact ⟨0,rfl,h⟩
 have h:=h.2 hc1
 refine wpE_skip (th_n (eg (q0 (vp p1) ?_)))
 obtain ⟨a1,hp1,h⟩:=h
 refine q2 (vp (some a1)) (xn hp1) (q0 (vp (some (a1.add 2))) ?_)
 obtain ⟨v1,hv3,h⟩:=h
 refine q2 v1.v (xl (isAgg42 _) hv3) (q0 (vi t1) (q0 (vi (q6.wrap (t1 - 1))) ?_))
 obtain ⟨a2,hv2,h⟩:=h
 refine q2 (vp (some a2)) (xi (runUnderlying42 _) (sizeOf3 _) hv2) ?_
 obtain ⟨v2,hv1,h⟩:=h
 refine q2 (vi v2) (xl (isAgg3 _) hv1) (q0 (vi v2) (ln (er (rs1 results177 (v:=(vi v2)) ?_))))
 exact ⟨v2,rfl,h⟩
theorem eqt_ref05_Pool_Has_eql_176 (a0 a1:Int) (a2 a3:Int) (a4:ByteArray) (a5 a6:Int) (b0 b1:Int) (b2 b3:Int) (b4:ByteArray) (b5 b6:Int) (w:World):(Go.binOp .eql 176 (.agg #[(.int .i64 a0),(.int .i64 a1),(.int .i64 a2),(.int .u64 a3),(.string a4),(.int .i64 a5),(.int .i64 a6)]) (.agg #[(.int .i64 b0),(.int .i64 b1),(.int .i64 b2),(.int .u64 b3),(.string b4),(.int .i64 b5),(.int .i64 b6)])).run prog w=.ok (.bool ((a0 == b0) && ((a1 == b1) && ((a2 == b2) && ((a3 == b3) && ((decide (a4=b4)) && ((a5 == b5) && (a6 == b6)))))))) w:=by
 simp [Go.binOp,Op.equal,Op.maxDepth,go_sem,streq,bne]
 repeat' split
 all_goals simp_all
def m_N1_l1 (p1:Option Addr) (aA aB:Int) (aC aF:Int) (aD:ByteArray) (aG aM i1:Int) (w0:World) (Hl1:NP) (wl1:World) (Kc1:Int→NP→WP) (K:Int→Bool→WP):Prop :=
 ∃a1:Addr,p1=some a1 ∧
 ∃v1:Sl,wl1.cell? a1=some v1.v ∧
 Br (decide (i1<(v1.len:Int)))
  (∃a2:Addr,p1=some a2 ∧
  ∀(w2:World),Hst w0 Hl1 wl1 Hl1 w2 →
  ∃v2:Sl,w2.cell? a2=some v2.v ∧
  ∃a3:Addr,At v2 i1 7 a3 ∧
  ∃aO aP:Int,∃aQ aR:Int,∃aS:ByteArray,∃bM bN:Int,Row w2 a3 [(vi aO),(vi aP),(vi aQ),(vu aR),(vs aS),(vi bM),(vi bN)] ∧
  Br ((aO == aA) && ((aP == aB) && ((aQ == aC) && ((aR == aF) && ((decide (aS=aD)) && ((bM == aG) && (bN == aM)))))))
   (K (q6.wrap (i1+1)) true w2)
   (Kc1 (q6.wrap (i1+1)) Hl1 w2))
  (K 0 false wl1)
def m_N1 (p1:Option Addr) (aA aB:Int) (aC aF:Int) (aD:ByteArray) (aG aM:Int) (w0:World) (K:Int→Bool→WP):Prop :=
 ∀(H1:NP) (w1:World),Hst w0 None w0 H1 w1 →
 ∃(I1:Int→NP→WP) (mu1:Int→World→Nat),I1 0 H1 w1 ∧
  ∀(i1:Int) (Hl1:NP) (wl1:World),Hst w0 Hl1 wl1 Hl1 wl1→I1 i1 Hl1 wl1→m_N1_l1 p1 aA aB aC aF aD aG aM i1 w0 Hl1 wl1 (fun y'0 H' w'=>I1 y'0 H' w'∧mu1 y'0 w'<mu1 i1 wl1) K
theorem w_N1 (p1 : Option Addr) (aA aB : Int) (aC aF : Int) (aD : ByteArray) (aG aM : Int) (w0 : World) (K : Int → Bool → WP) (h : m_N1 p1 aA aB aC aF aD aG aM w0 K) :
  Calls prog 178 #[(vp p1),(.agg #[(vi aA),(vi aB),(vi aC),(vu aF),(vs aD),(vi aG),(vi aM)])] w0 (fun e w'=>∃r1:Int,∃r2:Bool,e=.returned (.tuple #[(vi r1),(vb r2)])∧K r1 r2 w'):=by
 unfold m_N1 at h
 refine cw (args:=[(vp p1),(.agg #[(vi aA),(vi aB),(vi aC),(vu aF),(vs aD),(vi aG),(vi aM)])]) func178 ntmps178 ?_
 have hs:=Hst.start w0
 have hb:=HB.nil None w0
 refine eg (sn (O:=(.cells #[(vi aA),(vi aB),(vi aC),(vu aF),(vs aD),(vi aG),(vi aM)] 176)) xb ?_)
 intro p2 w1 hn1
 obtain ⟨H1,hs,hb⟩:=hs.alloc hb hn1
 refine q0 (vi 0) (q0 (vb false) (ln (wpE_seq (eg (q0 (vi 0) (ln (wpE_block ?_)))))))
 have h:=h H1 w1 hs
 have hs:=hs.here
 obtain ⟨I1,mu1,h0,hr⟩:=h
 refine wpE_loop (σ:=Int×NP×World) (fun s ρ w=>w=s.2.2∧Has ρ [(0,(vp p1)),(3,(vp (some p2))),(6,(vi s.1))]∧Hst w0 s.2.1 w s.2.1 w∧HB s.2.1 w [(p2,[(vi aA),(vi aB),(vi aC),(vu aF),(vs aD),(vi aG),(vi aM)],176)]∧I1 s.1 s.2.1 s.2.2) (fun s=>mu1 s.1 s.2.2) (0,H1,w1) ⟨rfl,hm,hs,hb,h0⟩ ?_
 rintro ⟨i1,Hl1,wl1⟩ ρ w ⟨hw,hH,hs,hb,hI⟩
 obtain rfl:wl1=w:=(show w=wl1 from hw).symm
 have hH:Has ρ [(0,(vp p1)),(3,(vp (some p2))),(6,(vi i1))]:=hH
 have hs:Hst w0 Hl1 wl1 Hl1 wl1:=hs
 have hb:HB Hl1 wl1 [(p2,[(vi aA),(vi aB),(vi aC),(vu aF),(vs aD),(vi aG),(vi aM)],176)]:=hb
 have h:=hr i1 Hl1 wl1 hs hI
 unfold m_N1_l1 at h
 refine wpE_has hH ?_
 refine wpE_seq (eg (q0 (vi i1) (q0 (vp p1) ?_)))
 obtain ⟨a1,hp1,h⟩:=h
 refine q2 (vp (some a1)) (xn hp1) (q0 (vp (some a1)) ?_)
 obtain ⟨v1,hv4,h⟩:=h
 refine q2 v1.v (xl (isAgg41 _) hv4) (q0 (vi (v1.len:Int)) (q0 (vb (decide (i1<(v1.len:Int)))) (ln ?_)))
 refine wpE_cond (t:=(decide (i1<(v1.len:Int)))) (by kernel_rfl) (fun hc1=>?_) (fun hc1=>?_)
 have h:=h.1 hc1
 refine wpE_skip (th_n (wpE_seq (wpE_block (wpE_seq (wpE_drawnQ (by kernel_rfl) (by kernel_rfl) (by kernel_rfl) (by kernel_rfl) ?_)))))
 intro w2 hw2
 have hs:Hst w0 Hl1 wl1 Hl1 w2:=by rw [hw2];exact hs.drew
 have hb:HB Hl1 w2 [(p2,[(vi aA),(vi aB),(vi aC),(vu aF),(vs aD),(vi aG),(vi aM)],176)]:=by rw [hw2];exact hb.drew
 refine qq 0 (vp p1) Kp0 (qg 1 ?_)
 obtain ⟨a2,hp2,h⟩:=h
 refine sxQ (v:=(vp (some a2))) Kp1 (want0 rfl) rfl (xn hp2) (qq 2 (vp (some a2)) Kp2 (qg 3 ?_))
 have h:=h w2 hs
 have hs:=hs.here
 obtain ⟨v2,hv3,h⟩:=h
 refine sxQ (v:=v2.v) Kp3 (want0 rfl) rfl (xl (isAgg41 _) hv3) (qq 4 (vi i1) Kp4 (qg 5 ?_))
 obtain ⟨a3,hv2,h⟩:=h
 refine sxQ (v:=(vp (some a3))) Kp5 (want0 rfl) rfl (xi (runUnderlying41 _) (sizeOf176 _) hv2) (qg 6 ?_)
 obtain ⟨aO,aP,aQ,aR,aS,bM,bN,hv1,h⟩:=h
 refine sxQ (v:=(.agg #[(vi aO),(vi aP),(vi aQ),(vu aR),(vs aS),(vi bM),(vi bN)])) Kp6 (want0 rfl) rfl (xa a3 [(vi aO),(vi aP),(vi aQ),(vu aR),(vs aS),(vi bM),(vi bN)] (isAgg176 _) (sizeOf176 _) hv1) (qr 7 (.agg #[(vi aA),(vi aB),(vi aC),(vu aF),(vs aD),(vi aG),(vi aM)]) Kp7 (xa p2 [(vi aA),(vi aB),(vi aC),(vu aF),(vs aD),(vi aG),(vi aM)] (isAgg176 _) (sizeOf176 _) (hb.r0 0 7 gZ)) (qr 8 (vb ((aO == aA) && ((aP == aB) && ((aQ == aC) && ((aR == aF) && ((decide (aS=aD)) && ((bM == aG) && (bN == aM)))))))) Kp8 (x_aggeq (by kernel_rfl) (by kernel_rfl) (by kernel_rfl) (eqt_ref05_Pool_Has_eql_176 aO aP aQ aR aS bM bN aA aB aC aF aD aG aM _)) (wn (th_n ?_))))
 refine wpE_cond (t:=((aO == aA) && ((aP == aB) && ((aQ == aC) && ((aR == aF) && ((decide (aS=aD)) && ((bM == aG) && (bN == aM)))))))) (by kernel_rfl) (fun hc2=>?_) (fun hc2=>?_)
 have h:=h.1 hc2
 refine eg (q0 (vi i1) (q0 (vi (q6.wrap (i1+1))) (q0 (vi (q6.wrap (i1+1))) (q0 (vb true) (ln (er (bl_r (th_r (th_r ?_)))))))))
 refine bl_r (th_r (res2 (.inl rfl) results178 (v:=(vi (q6.wrap (i1+1)))) (by kernel_rfl) (v':=(vb true)) (by kernel_rfl) ?_))
 exact ⟨(q6.wrap (i1+1)),true,rfl,h⟩
 have h:=h.2 hc2
 refine wpE_skip (bl_n (th_n (rg (q0 (vi i1) (q0 (vi (q6.wrap (i1+1))) (q0 (vi (q6.wrap (i1+1))) (ln ?_)))))))
 exact ⟨((q6.wrap (i1+1)),Hl1,w2),⟨rfl,hm,hs,hb,h.1⟩,h.2⟩
 have h:=h.2 hc1
 refine wpE_exit (th_x (th_x (bl_eq (th_n (eg (q0 (vi 0) (q0 (vb false) (ln (er ?_)))))))))
 refine res2 (.inl rfl) results178 (v:=(vi 0)) (by kernel_rfl) (v':=(vb false)) (by kernel_rfl) ?_
 exact ⟨0,false,rfl,h⟩
def m_O_j1 (p1:Option Addr) (aA aB:Int) (aC aF:Int) (aD:ByteArray) (aG aM:Int) (x1:Bool) (w0:World) (H:NP) (w:World) (K:Int→Int→WP):Prop :=
 Br x1
  (K 0 51 w)
  (∃C1:WP,C1 w.drew∧∀w4,w4=w.drew →
  Calls prog 97 #[(vp p1),(vi aG)] w4 (fun e w5=>∃r1:Int,e=.returned (vi r1)∧C1 w5∧
   Kept H w4 w5 ∧
   Calls prog 97 #[(vp p1),(vi aM)] w5 (fun e w6=>∃r2:Int,e=.returned (vi r2)∧C1 w6∧
    Kept H w5 w6 ∧
    ∃C2:WP,C2 w6.drew∧∀w7,w7=w6.drew →
    Calls prog 177 #[(vp p1),(vi aG)] w7 (fun e w8=>∃r3:Int,e=.returned (vi r3)∧C2 w8∧
     Kept H w7 w8 ∧
     Calls prog 177 #[(vp p1),(vi aM)] w8 (fun e w9=>∃r4:Int,e=.returned (vi r4)∧C2 w9∧
      Kept H w8 w9 ∧
      ∃z1:Int,(∀w',C2 w'→(Builtin.max_ #[3,3] 3 #[(vi r3),(vi r4)]).run prog w'=.ok (vi z1) w') ∧
      ∀y1:Bool,y1=((decide ((q6.wrap ((q6.wrap (1+r1))+r2))>4096)) || (decide ((q6.wrap (1+z1))>64))) →
      Br y1
       (∀(H2:NP) (w10:World),Hst w0 H w9 H2 w10 →
       K 0 52 w10)
       (∀(H2:NP) (w10:World),Hst w0 H w9 H2 w10 →
       Calls prog 178 #[(vp p1),(.agg #[(vi aA),(vi aB),(vi aC),(vu aF),(vs aD),(vi aG),(vi aM)])] w10 (fun e w11=>∃r5:Int,∃r6:Bool,e=.returned (.tuple #[(vi r5),(vb r6)])∧
        Kept H2 w10 w11 ∧
        Br r6
         (K r5 0 w11)
         (∃a1:Addr,p1=some a1 ∧
         ∃v1:Sl,w11.cell? a1=some v1.v ∧
         Br (decide ((v1.len:Int)≥65536))
          (K 0 6 w11)
          (∃C3:WP,C3 w11.drew∧∀w12,w12=w11.drew →
          ∃a2:Addr,p1=some a2 ∧
          ∃v2:Sl,(∀w',C3 w'→w'.cell? a2=some v2.v) ∧
          ∀(p3:Addr) (w13:World),New w12 (.cells #[(vi aA),(vi aB),(vi aC),(vu aF),(vs aD),(vi aG),(vi aM)] 176) p3 w13→C3 w13 ∧
          ∃s1:Sl,∃w14:World,(Builtin.append_ #[41,41] 41 #[v2.v,(Sl.mk (some p3) 1 1).v]).run prog w13=.ok s1.v w14∧C3 w14 ∧
          Kept H2 w13 w14 ∧
          ∃a3:Addr,p1=some a3 ∧
          CanW w14 a3∧¬ H2 a3.block∧∀w15:World,w15=w14.setCell a3 s1.v →
          ∃a4:Addr,p1=some a4 ∧
          ∃v3:Sl,w15.cell? (a4.add 1)=some v3.v ∧
          ∀(p4:Addr) (w16:World),New w15 (.cells #[(vi (q6.wrap ((q6.wrap (1+r1))+r2)))] 3) p4 w16 →
          ∃s2:Sl,∃w17:World,(Builtin.append_ #[42,42] 42 #[v3.v,(Sl.mk (some p4) 1 1).v]).run prog w16=.ok s2.v w17 ∧
          Kept H2 w16 w17 ∧
          ∃a5:Addr,p1=some a5 ∧
          CanW w17 (a5.add 1)∧¬ H2 (a5.add 1).block∧∀w18:World,w18=w17.setCell (a5.add 1) s2.v →
          ∃a6:Addr,p1=some a6 ∧
          ∃v4:Sl,w18.cell? (a6.add 2)=some v4.v ∧
          ∀(p5:Addr) (w19:World),New w18 (.cells #[(vi (q6.wrap (1+z1)))] 3) p5 w19 →
          ∃s3:Sl,∃w20:World,(Builtin.append_ #[42,42] 42 #[v4.v,(Sl.mk (some p5) 1 1).v]).run prog w19=.ok s3.v w20 ∧
          Kept H2 w19 w20 ∧
          ∃a7:Addr,p1=some a7 ∧
          CanW w20 (a7.add 2)∧¬ H2 (a7.add 2).block∧∀w21:World,w21=w20.setCell (a7.add 2) s3.v →
          ∃a8:Addr,p1=some a8 ∧
          ∃v5:Sl,w21.cell? a8=some v5.v ∧
          K (v5.len:Int) 0 w21)))))))))
def m_O_j2 (p1:Option Addr) (aA aB:Int) (aC aF:Int) (aD:ByteArray) (aG aM:Int) (x2:Bool) (w0:World) (H:NP) (w:World) (K:Int→Int→WP):Prop :=
 Br x2
  (m_O_j1 p1 aA aB aC aF aD aG aM true w0 H w K)
  (Br (((s_C aA):Int) == 2)
   (Calls prog 87 #[(vp p1),(vi aM)] w (fun e w22=>∃r7:Bool,e=.returned (vb r7)∧
    Kept H w w22 ∧
    m_O_j1 p1 aA aB aC aF aD aG aM (!r7) w0 H w22 K))
   (m_O_j1 p1 aA aB aC aF aD aG aM false w0 H w K))
def m_O (p1:Option Addr) (aA aB:Int) (aC aF:Int) (aD:ByteArray) (aG aM:Int) (w0:World) (K:Int→Int→WP):Prop :=
 Br (((s_H aA aB aC aF aD aG aM):Int) != 0)
  (∀(H1:NP) (w2:World),Hst w0 None w0 H1 w2 →
  K 0 (s_H aA aB aC aF aD aG aM) w2)
  (Br (decide ((s_C aA)≥1))
   (∀(H1:NP) (w3:World),Hst w0 None w0 H1 w3 →
   Calls prog 87 #[(vp p1),(vi aG)] w3 (fun e w23=>∃r8:Bool,e=.returned (vb r8)∧
    Kept H1 w3 w23 ∧
    m_O_j2 p1 aA aB aC aF aD aG aM (!r8) w0 H1 w23 K))
   (∀(H1:NP) (w3:World),Hst w0 None w0 H1 w3 →
   m_O_j2 p1 aA aB aC aF aD aG aM false w0 H1 w3 K))
theorem w_O (p1 : Option Addr) (aA aB : Int) (aC aF : Int) (aD : ByteArray) (aG aM : Int) (w0 : World) (K : Int → Int → WP) (h : m_O p1 aA aB aC aF aD aG aM w0 K) :
  Calls prog 113 #[(vp p1),(.agg #[(vi aA),(vi aB),(vi aC),(vu aF),(vs aD),(vi aG),(vi aM)])] w0 (fun e w'=>∃r9 r10:Int,e=.returned (.tuple #[(vi r9),(vi r10)])∧K r9 r10 w'):=by
 unfold m_O at h
 refine cw (args:=[(vp p1),(.agg #[(vi aA),(vi aB),(vi aC),(vu aF),(vs aD),(vi aG),(vi aM)])]) func113 ntmps113 ?_
 have hs:=Hst.start w0
 have hb:=HB.nil None w0
 refine eg (sn (O:=(.cells #[(vi aA),(vi aB),(vi aC),(vu aF),(vs aD),(vi aG),(vi aM)] 176)) xb ?_)
 intro p2 w1 hn1
 obtain ⟨H1,hs,hb⟩:=hs.alloc hb hn1
 refine q0 (vi 0) (q0 (vi 0) (ln (eg (q2 (.agg #[(vi aA),(vi aB),(vi aC),(vu aF),(vs aD),(vi aG),(vi aM)]) (xa p2 [(vi aA),(vi aB),(vi aC),(vu aF),(vs aD),(vi aG),(vi aM)] (isAgg176 _) (sizeOf176 _) (hb.r0 0 7 gZ)) ?_))))
 refine sc call176 ((p_H aA aB aC aF aD aG aM w1).mono ?_)
 rintro e w2 ⟨he,hE⟩
 refine ⟨(vi (s_H aA aB aC aF aD aG aM)),he.trans (by kernel_rfl),?_⟩
 have hs:=hs.pure hE
 have hb:=hb.pure hE
 refine q0 (vi (s_H aA aB aC aF aD aG aM)) (ln (wpE_seq (eg (q0 (vi (s_H aA aB aC aF aD aG aM)) (q0 (vb (((s_H aA aB aC aF aD aG aM):Int) != 0)) (ln ?_))))))
 refine wpE_cond (t:=(((s_H aA aB aC aF aD aG aM):Int) != 0)) (by kernel_rfl) (fun hc1=>?_) (fun hc1=>?_)
 have h:=h.1 hc1
 refine eg (q0 (vi (s_H aA aB aC aF aD aG aM)) (q0 (vi 0) (q0 (vi (s_H aA aB aC aF aD aG aM)) (ln (er (th_r ?_))))))
 have h:=h H1 w2 hs
 have hs:=hs.here
 refine res2 (.inl rfl) results113 (v:=(vi 0)) (by kernel_rfl) (v':=(vi (s_H aA aB aC aF aD aG aM))) (by kernel_rfl) ?_
 exact ⟨0,(s_H aA aB aC aF aD aG aM),rfl,h⟩
 have h:=h.2 hc1
 refine wpE_skip (th_n (eg (q0 (vp (some p2)) (q2 (vi aA) (xl (isAgg3 _) (hb.c0 0 gZ)) ?_))))
 refine sc call105 ((p_C aA w2).mono ?_)
 rintro e w3 ⟨he,hE⟩
 refine ⟨(vi (s_C aA)),he.trans (by kernel_rfl),?_⟩
 have hs:=hs.pure hE
 have hb:=hb.pure hE
 refine q0 (vi (s_C aA)) (ln (wpE_seq (wpE_seq ?_)))
 refine wpE_joinT (fun ρ w=>∃x1:Bool,∃H:NP,Has ρ [(0,(vp p1)),(3,(vp (some p2))),(39,(vb x1))]∧Hst w0 H w H w∧HB H w [(p2,[(vi aA),(vi aB),(vi aC),(vu aF),(vs aD),(vi aG),(vi aM)],176)]∧m_O_j1 p1 aA aB aC aF aD aG aM x1 w0 H w K) ?_ ?_
 rintro ρ w ⟨x1,H,hH,hs,hb,h⟩
 unfold m_O_j1 at h
 refine wpE_has hH ?_
 refine wpE_cond (t:=x1) (by kernel_rfl) (fun hc2=>?_) (fun hc2=>?_)
 have h:=h.1 hc2
 refine eg (q0 (vi 0) (q0 (vi 51) (ln (er (th_r (res2 (.inl rfl) results113 (v:=(vi 0)) (by kernel_rfl) (v':=(vi 51)) (by kernel_rfl) ?_))))))
 exact ⟨0,51,rfl,h⟩
 have h:=h.2 hc2
 refine wpE_skip (th_n (wpE_seq ?_))
 obtain ⟨C1,hC,h⟩:=h
 refine wpE_drawnC (fun x=>C1 x∧HB H x [(p2,[(vi aA),(vi aB),(vi aC),(vu aF),(vs aD),(vi aG),(vi aM)],176)]) [3,8] [] (by kernel_rfl) (by kernel_rfl) (by kernel_rfl) (by kernel_rfl) ⟨hC,hb.drew⟩ ?_
 intro w4 hw4
 have h:=h w4 hw4
 have hs:Hst w0 H w H w4:=by rw [hw4];exact hs.drew
 have hb:HB H w4 [(p2,[(vi aA),(vi aB),(vi aC),(vu aF),(vs aD),(vi aG),(vi aM)],176)]:=by rw [hw4];exact hb.drew
 have hs:=hs.here
 refine qx 0 (vp p1) Kp0 (qx 1 (vp (some (p2.add 5))) Kp1 (qz 2 (vi aG) Kp2 (fun w' hw'=>(xl (isAgg78 _) (hw'.2.cell 0 5 gZ (by kernel_rfl)))) (qx 5 (vp p1) Kp5 (qx 6 (vp (some (p2.add 6))) Kp6 (qz 7 (vi aM) Kp7 (fun w' hw'=>(xl (isAgg78 _) (hw'.2.cell 0 6 gZ (by kernel_rfl)))) (lg 3 ?_))))))
 refine slc Kp3 call97 (h.mono ?_)
 rintro e w5 ⟨r1,rfl,hC,hk,h⟩
 refine ⟨_,rfl,.inr ⟨hC,hb.kept hk⟩,?_⟩
 obtain ⟨hs,hb⟩:=hk.hh hs hb
 refine qx 4 (vi (q6.wrap (1+r1))) Kp4 (lg 8 ?_)
 refine slc Kp8 call97 (h.mono ?_)
 rintro e w6 ⟨r2,rfl,hC,hk,h⟩
 refine ⟨_,rfl,.inr ⟨hC,hb.kept hk⟩,?_⟩
 obtain ⟨hs,hb⟩:=hk.hh hs hb
 refine qx 9 (vi (q6.wrap ((q6.wrap (1+r1))+r2))) Kp9 (qx 10 (vi (q6.wrap ((q6.wrap (1+r1))+r2))) (pickA (S8 (pickS (pickS pickZ)))) (wn (th_n (wpE_seq ?_))))
 obtain ⟨C2,hC,h⟩:=h
 refine wpE_drawnC (fun x=>C2 x∧HB H x [(p2,[(vi aA),(vi aB),(vi aC),(vu aF),(vs aD),(vi aG),(vi aM)],176)]) [3,7] [] (by kernel_rfl) (by kernel_rfl) (by kernel_rfl) (by kernel_rfl) ⟨hC,hb.drew⟩ ?_
 intro w7 hw7
 have h:=h w7 hw7
 have hs:Hst w0 H w6 H w7:=by rw [hw7];exact hs.drew
 have hb:HB H w7 [(p2,[(vi aA),(vi aB),(vi aC),(vu aF),(vs aD),(vi aG),(vi aM)],176)]:=by rw [hw7];exact hb.drew
 have hs:=hs.here
 refine qx 0 (vp p1) Kp0 (qx 1 (vp (some (p2.add 5))) Kp1 (qz 2 (vi aG) Kp2 (fun w' hw'=>(xl (isAgg78 _) (hw'.2.cell 0 5 gZ (by kernel_rfl)))) (qx 4 (vp p1) Kp4 (qx 5 (vp (some (p2.add 6))) Kp5 (qz 6 (vi aM) Kp6 (fun w' hw'=>(xl (isAgg78 _) (hw'.2.cell 0 6 gZ (by kernel_rfl)))) (lg 3 ?_))))))
 refine slc Kp3 call177 (h.mono ?_)
 rintro e w8 ⟨r3,rfl,hC,hk,h⟩
 refine ⟨_,rfl,.inr ⟨hC,hb.kept hk⟩,?_⟩
 obtain ⟨hs,hb⟩:=hk.hh hs hb
 refine lg 7 ?_
 refine slc Kp7 call177 (h.mono ?_)
 rintro e w9 ⟨r4,rfl,hC,hk,h⟩
 refine ⟨_,rfl,.inr ⟨hC,hb.kept hk⟩,?_⟩
 obtain ⟨hs,hb⟩:=hk.hh hs hb
 refine qg 8 ?_
 obtain ⟨z1,hv9,h⟩:=h
 refine sy (v:=(vi z1)) Kp8 (fun w' hw'=>(x_builtin (args:=#[(vi r3),(vi r4)]) (by kernel_rfl) (fun _=>rfl) (hv9 w' hw'.1))) (qx 9 (vi (q6.wrap (1+z1))) Kp9 (qx 10 (vi (q6.wrap (1+z1))) (pickA (S8 (pickS (pickS pickZ)))) (wn (th_n (wpE_seq (wpE_seq ?_))))))
 refine wpE_via (fun ρ wJ=>∃b1'0 y1:Bool,∃HJ:NP,((decide ((q6.wrap ((q6.wrap (1+r1))+r2))>4096))=b1'0)∧(y1=(b1'0 || (decide ((q6.wrap (1+z1))>64))))∧Hst w0 H w9 HJ wJ∧HB HJ wJ [(p2,[(vi aA),(vi aB),(vi aC),(vu aF),(vs aD),(vi aG),(vi aM)],176)]∧Has ρ [(0,(vp p1)),(3,(vp (some p2))),(8,(vi (q6.wrap ((q6.wrap (1+r1))+r2)))),(9,(vi (q6.wrap (1+z1)))),(65,(vb y1))]) ?_ ?_
 refine rg (q0 (vi (q6.wrap ((q6.wrap (1+r1))+r2))) (q0 (vb (decide ((q6.wrap ((q6.wrap (1+r1))+r2))>4096))) (q0 (vb (decide ((q6.wrap ((q6.wrap (1+r1))+r2))>4096))) ?_)))
 rcases bte (decide ((q6.wrap ((q6.wrap (1+r1))+r2))>4096)) with hg2 | hg2
 refine sk (yD 62 hg2) (sk (yD 62 hg2) (q2 (vb true) (xT hg2) (ln ?_)))
 exact ⟨true,_,_,hg2,rfl,hs,hb,hm⟩
 refine q1 (vi (q6.wrap (1+z1))) (wy 62 hg2) (q1 (vb (decide ((q6.wrap (1+z1))>64))) (wy 62 hg2) (q2 (vb (decide ((q6.wrap (1+z1))>64))) (xF hg2) (ln ?_)))
 exact ⟨false,_,_,hg2,rfl,hs,hb,hm⟩
 rintro ρ w10 ⟨b1'0,y1,H2,he0,hy1,hs,hb,hH⟩
 subst he0
 have h:=h y1 hy1
 refine norm_has hH ?_
 refine th_n ?_
 refine wpE_cond (t:=y1) (by kernel_rfl) (fun hc3=>?_) (fun hc3=>?_)
 have h:=h.1 hc3
 refine eg (q0 (vi 0) (q0 (vi 52) (ln (er (th_r ?_)))))
 have h:=h H2 w10 hs
 have hs:=hs.here
 refine res2 (.inl rfl) results113 (v:=(vi 0)) (by kernel_rfl) (v':=(vi 52)) (by kernel_rfl) ?_
 exact ⟨0,52,rfl,h⟩
 have h:=h.2 hc3
 refine wpE_skip (th_n (eg (q0 (vp p1) (q2 (.agg #[(vi aA),(vi aB),(vi aC),(vu aF),(vs aD),(vi aG),(vi aM)]) (xa p2 [(vi aA),(vi aB),(vi aC),(vu aF),(vs aD),(vi aG),(vi aM)] (isAgg176 _) (sizeOf176 _) (hb.r0 0 7 gZ)) ?_))))
 have h:=h H2 w10 hs
 have hs:=hs.here
 refine sc call178 (h.mono ?_)
 rintro e w11 ⟨r5,r6,rfl,hk,h⟩
 refine ⟨_,rfl,?_⟩
 obtain ⟨hs,hb⟩:=hk.hh hs hb
 refine q0 (.tuple #[(vi r5),(vb r6)]) (q0 (vi r5) (q0 (vb r6) (q0 (vi r5) (q0 (vb r6) (ln (wpE_seq (eg (q0 (vb r6) (wpL_nil ?_)))))))))
 refine th_n ?_
 refine wpE_cond (t:=r6) (by kernel_rfl) (fun hc4=>?_) (fun hc4=>?_)
 have h:=h.1 hc4
 refine eg (q0 (vi r5) (q0 (vi r5) (q0 (vi 0) (ln (er (th_r (res2 (.inl rfl) results113 (v:=(vi r5)) (by kernel_rfl) (v':=(vi 0)) (by kernel_rfl) ?_)))))))
 exact ⟨r5,0,rfl,h⟩
 have h:=h.2 hc4
 refine wpE_skip (th_n (wpE_seq (eg (q0 (vp p1) ?_))))
 obtain ⟨a1,hp1,h⟩:=h
 refine q2 (vp (some a1)) (xn hp1) (q0 (vp (some a1)) ?_)
 obtain ⟨v1,hv8,h⟩:=h
 refine q2 v1.v (xl (isAgg41 _) hv8) (q0 (vi (v1.len:Int)) (q0 (vb (decide ((v1.len:Int)≥65536))) (ln ?_)))
 refine wpE_cond (t:=(decide ((v1.len:Int)≥65536))) (by kernel_rfl) (fun hc5=>?_) (fun hc5=>?_)
 have h:=h.1 hc5
 refine eg (q0 (vi 0) (q0 (vi 6) (ln (er (th_r (res2 (.inl rfl) results113 (v:=(vi 0)) (by kernel_rfl) (v':=(vi 6)) (by kernel_rfl) ?_))))))
 exact ⟨0,6,rfl,h⟩
 have h:=h.2 hc5
 refine wpE_skip (th_n (wpE_seq ?_))
 obtain ⟨C3,hC,h⟩:=h
 refine wpE_drawnC (fun x=>C3 x∧HB H2 x [(p2,[(vi aA),(vi aB),(vi aC),(vu aF),(vs aD),(vi aG),(vi aM)],176)]) [6,7,10] [10] (by kernel_rfl) (by kernel_rfl) (by kernel_rfl) (by kernel_rfl) ⟨hC,hb.drew⟩ ?_
 intro w12 hw12
 have h:=h w12 hw12
 have hs:Hst w0 H2 w11 H2 w12:=by rw [hw12];exact hs.drew
 have hb:HB H2 w12 [(p2,[(vi aA),(vi aB),(vi aC),(vu aF),(vs aD),(vi aG),(vi aM)],176)]:=by rw [hw12];exact hb.drew
 have hs:=hs.here
 refine qx 0 (vp p1) Kp0 (qx 1 (vp p1) Kp1 (qg 2 ?_))
 obtain ⟨a2,hp2,h⟩:=h
 refine sy (v:=(vp (some a2))) Kp2 (fun _ _=>(xn hp2)) (qx 3 (vp (some a2)) Kp3 (qg 4 ?_))
 obtain ⟨v2,hv7,h⟩:=h
 refine sy (v:=v2.v) Kp4 (fun w' hw'=>(xl (isAgg41 _) (hv7 w' hw'.1))) (qz 5 (.agg #[(vi aA),(vi aB),(vi aC),(vu aF),(vs aD),(vi aG),(vi aM)]) Kp5 (fun w' hw'=>(xa p2 [(vi aA),(vi aB),(vi aC),(vu aF),(vs aD),(vi aG),(vi aM)] (isAgg176 _) (sizeOf176 _) (hw'.2.r0 0 7 gZ))) (lg 6 (sl_new (O:=(.cells #[(vi aA),(vi aB),(vi aC),(vu aF),(vs aD),(vi aG),(vi aM)] 176)) (fun p=>(Sl.mk (some p) 1 1).v) Kp6 (want0 rfl) (by kernel_rfl) (x_buildSlice (vs:=#[(0,(.agg #[(vi aA),(vi aB),(vi aC),(vu aF),(vs aD),(vi aG),(vi aM)]))]) (by kernel_rfl) (by kernel_rfl)) ?_)))
 intro p3 w13 hn7
 have h:=h p3 w13 hn7
 refine ⟨.inr ⟨h.1,hb.kept (Ext.new (F:=None) hn7).keptP⟩,?_⟩
 have h:=h.2
 have hs:=hs.again (Ext.new (F:=None) hn7).keptP
 have hb:=hb.kept (Ext.new (F:=None) hn7).keptP
 refine lg 7 ?_
 obtain ⟨s1,w14,hv6,hC,hk,h⟩:=h
 refine sl (v:=s1.v) Kp7 (want0 rfl) (by kernel_rfl) (x_builtin (args:=#[v2.v,(Sl.mk (some p3) 1 1).v]) (by kernel_rfl) (fun _=>rfl) hv6) (.inr ⟨hC,hb.kept hk⟩) ?_
 obtain ⟨hs,hb⟩:=hk.hh hs hb
 refine qg 8 ?_
 obtain ⟨a3,hp3,h⟩:=h
 refine sy (v:=(vp (some a3))) Kp8 (fun _ _=>(xn hp3)) (qx 9 (vp (some a3)) Kp9 (lg 10 ?_))
 obtain ⟨hp4,hnh,h⟩:=h
 refine sl_t (pickA (S8 (pickS (pickS pickZ)))) (xs (v:=s1.v) (sizeOf41 _) hp4) ?_
 intro w15 hn2
 have h:=h w15 hn2
 refine ⟨.inl (by kernel_rfl),?_⟩
 have hk:=Kept.sc hnh hn2
 obtain ⟨hs,hb⟩:=hk.hh hs hb
 refine wn (th_n (eg (q0 (vp p1) (q0 (vp p1) ?_))))
 obtain ⟨a4,hp5,h⟩:=h
 refine q2 (vp (some a4)) (xn hp5) (q0 (vp (some (a4.add 1))) ?_)
 obtain ⟨v3,hv5,h⟩:=h
 refine q2 v3.v (xl (isAgg42 _) hv5) (q0 (vi (q6.wrap ((q6.wrap (1+r1))+r2))) (st_new (O:=(.cells #[(vi (q6.wrap ((q6.wrap (1+r1))+r2)))] 3)) (fun p=>(Sl.mk (some p) 1 1).v) (want0 rfl) (x_buildSlice (vs:=#[(0,(vi (q6.wrap ((q6.wrap (1+r1))+r2))))]) (by kernel_rfl) (by kernel_rfl)) ?_))
 intro p4 w16 hn6
 have h:=h p4 w16 hn6
 have hs:=hs.again (Ext.new (F:=None) hn6).keptP
 have hb:=hb.kept (Ext.new (F:=None) hn6).keptP
 obtain ⟨s2,w17,hv4,hk,h⟩:=h
 refine st (v:=s2.v) (want0 rfl) (x_builtin (args:=#[v3.v,(Sl.mk (some p4) 1 1).v]) (by kernel_rfl) (fun _=>rfl) hv4) ?_
 obtain ⟨hs,hb⟩:=hk.hh hs hb
 obtain ⟨a5,hp6,h⟩:=h
 refine q2 (vp (some a5)) (xn hp6) (q0 (vp (some (a5.add 1))) ?_)
 obtain ⟨hp7,hnh,h⟩:=h
 refine ss (x_store (a:=(a5.add 1)) (v:=s2.v) (by kernel_rfl) (by kernel_rfl) rfl (sizeOf42 _) hp7) ?_
 intro w18 hn3
 have h:=h w18 hn3
 have hk:=Kept.sc hnh hn3
 obtain ⟨hs,hb⟩:=hk.hh hs hb
 refine ln (eg (q0 (vp p1) (q0 (vp p1) ?_)))
 obtain ⟨a6,hp8,h⟩:=h
 refine q2 (vp (some a6)) (xn hp8) (q0 (vp (some (a6.add 2))) ?_)
 obtain ⟨v4,hv3,h⟩:=h
 refine q2 v4.v (xl (isAgg42 _) hv3) (q0 (vi (q6.wrap (1+z1))) (st_new (O:=(.cells #[(vi (q6.wrap (1+z1)))] 3)) (fun p=>(Sl.mk (some p) 1 1).v) (want0 rfl) (x_buildSlice (vs:=#[(0,(vi (q6.wrap (1+z1))))]) (by kernel_rfl) (by kernel_rfl)) ?_))
 intro p5 w19 hn5
 have h:=h p5 w19 hn5
 have hs:=hs.again (Ext.new (F:=None) hn5).keptP
 have hb:=hb.kept (Ext.new (F:=None) hn5).keptP
 obtain ⟨s3,w20,hv2,hk,h⟩:=h
 refine st (v:=s3.v) (want0 rfl) (x_builtin (args:=#[v4.v,(Sl.mk (some p5) 1 1).v]) (by kernel_rfl) (fun _=>rfl) hv2) ?_
 obtain ⟨hs,hb⟩:=hk.hh hs hb
 obtain ⟨a7,hp9,h⟩:=h
 refine q2 (vp (some a7)) (xn hp9) (q0 (vp (some (a7.add 2))) ?_)
 obtain ⟨hp10,hnh,h⟩:=h
 refine ss (x_store (a:=(a7.add 2)) (v:=s3.v) (by kernel_rfl) (by kernel_rfl) rfl (sizeOf42 _) hp10) ?_
 intro w21 hn4
 have h:=h w21 hn4
 have hk:=Kept.sc hnh hn4
 obtain ⟨hs,hb⟩:=hk.hh hs hb
 refine ln (eg (q0 (vp p1) ?_))
 obtain ⟨a8,hp11,h⟩:=h
 refine q2 (vp (some a8)) (xn hp11) (q0 (vp (some a8)) ?_)
 obtain ⟨v5,hv1,h⟩:=h
 refine q2 v5.v (xl (isAgg41 _) hv1) (q0 (vi (v5.len:Int)) (q0 (vi (v5.len:Int)) (q0 (vi 0) (ln (er (res2 (.inl rfl) results113 (v:=(vi (v5.len:Int))) (by kernel_rfl) (v':=(vi 0)) (by kernel_rfl) ?_))))))
 exact ⟨(v5.len:Int),0,rfl,h⟩
 refine rg (q0 (vi (s_C aA)) (q0 (vb (decide ((s_C aA)≥1))) (q0 (vb (decide ((s_C aA)≥1))) ?_)))
 refine wpL_join 6 (fun ρ w=>∃x2:Bool,∃H:NP,Has ρ [(0,(vp p1)),(3,(vp (some p2))),(7,(vi (s_C aA))),(28,(vb x2))]∧Hst w0 H w H w∧HB H w [(p2,[(vi aA),(vi aB),(vi aC),(vu aF),(vs aD),(vi aG),(vi aM)],176)]∧m_O_j2 p1 aA aB aC aF aD aG aM x2 w0 H w K) ?_ ?_
 rintro ρ w ⟨x2,H,hH,hs,hb,h⟩
 unfold m_O_j2 at h
 refine wpL_has hH ?_
 refine q0 (vb x2) ?_
 rcases bte x2 with hg3 | hg3
 have h:=h.1 hg3
 refine sk (yD 29 hg3) (sk (yD 29 hg3) (sk (yD 29 hg3) (sm (sm (sm (sm (sm (sk (yD 29 hg3) (q2 (vb true) (xT hg3) (ln ?_))))))))))
 exact ⟨true,H,hm,hs,hb,h⟩
 have h:=h.2 hg3
 refine q1 (vi (s_C aA)) (wy 29 hg3) (q1 (vb (((s_C aA):Int) == 2)) (wy 29 hg3) (q1 (vb (((s_C aA):Int) == 2)) (wy 29 hg3) ?_))
 rcases bte (((s_C aA):Int) == 2) with hg4 | hg4
 have h:=h.1 hg4
 refine q1 (vp p1) (wy 32 hg4) (q1 (vp (some (p2.add 6))) (wy 32 hg4) (stp (v:=(vi aM)) (wy 32 hg4) (xl (isAgg78 _) (hb.c 0 6 gZ)) ?_))
 refine st_call (wy 32 hg4) (xc call87) (h.mono ?_)
 rintro e w22 ⟨r7,rfl,hk,h⟩
 refine ⟨_,rfl,?_⟩
 obtain ⟨hs,hb⟩:=hk.hh hs hb
 refine q1 (vb (!r7)) (wy 32 hg4) (stp (v:=(vb (!r7))) (wy 29 hg3) (xT hg4) (q2 (vb (!r7)) (xF hg3) (ln ?_)))
 exact ⟨(!r7),H,hm,hs,hb,h⟩
 have h:=h.2 hg4
 refine sk (yD 32 hg4) (sk (yD 32 hg4) (sk (yD 32 hg4) (sk (yD 32 hg4) (sk (yD 32 hg4) (stp (v:=(vb false)) (wy 29 hg3) (xF hg4) (q2 (vb false) (xF hg3) (ln ?_)))))))
 exact ⟨false,H,hm,hs,hb,h⟩
 rcases bte (decide ((s_C aA)≥1)) with hg5 | hg5
 have h:=h.1 hg5
 refine q1 (vp p1) (wy 22 hg5) (q1 (vp (some (p2.add 5))) (wy 22 hg5) (stp (v:=(vi aG)) (wy 22 hg5) (xl (isAgg78 _) (hb.c 0 5 gZ)) ?_))
 have h:=h H1 w3 hs
 have hs:=hs.here
 refine st_call (wy 22 hg5) (xc call87) (h.mono ?_)
 rintro e w23 ⟨r8,rfl,hk,h⟩
 refine ⟨_,rfl,?_⟩
 obtain ⟨hs,hb⟩:=hk.hh hs hb
 refine q1 (vb (!r8)) (wy 22 hg5) (q2 (vb (!r8)) (xT hg5) (wpL_nil ?_))
 exact ⟨(!r8),H1,hm,hs,hb,h⟩
 have h:=h.2 hg5
 refine sk (yD 22 hg5) (sk (yD 22 hg5) (sk (yD 22 hg5) (sk (yD 22 hg5) (sk (yD 22 hg5) (q2 (vb false) (xF hg5) (wpL_nil ?_))))))
 have h:=h H1 w3 hs
 have hs:=hs.here
 exact ⟨false,H1,hm,hs,hb,h⟩
def m_O1_l1 (p1:Option Addr) (aH:Sl) (i1 aA:Int) (aB aC aF:Int) (aD:ByteArray) (aG aM:Int) (w0:World) (Hl1:NP) (wl1:World) (Kc1:Int→Int→Int→Int→Int→ByteArray→Int→Int→NP→WP) (K:Int→Int→WP):Prop :=
 Br (decide (i1<(aH.len:Int)))
  (∃a1:Addr,At aH i1 6 a1 ∧
  ∃aO aP:Int,∃aQ aR:Int,∃aS:ByteArray,∃bI:Sl,Row wl1 a1 [(vi aO),(vi aP),(vi aQ),(vu aR),(vs aS),bI.v] ∧
  Calls prog 148 #[(vp p1),(.agg #[(vi aO),(vi aP),(vi aQ),(vu aR),(vs aS),bI.v])] wl1 (fun e w5=>∃r1 r2:Int,e=.returned (.tuple #[(vi r1),(vi r2)])∧
   Kept Hl1 wl1 w5 ∧
   Br (r2 != 0)
    (K 0 r2 w5)
    (∀(H3:NP) (w8:World),Hst w0 Hl1 w5 H3 w8 →
    Kc1 (q6.wrap (i1+1)) aA aB aC aF aD (cond (i1 == 0) r1 aG) (cond (i1 == 0) aM r1) H3 w8)))
  (Calls prog 113 #[(vp p1),(.agg #[(vi aA),(vi aB),(vi aC),(vu aF),(vs aD),(vi aG),(vi aM)])] wl1 (fun e w11=>∃r3 r4:Int,e=.returned (.tuple #[(vi r3),(vi r4)])∧
   Kept Hl1 wl1 w11 ∧
   K r3 r4 w11))
def m_O1 (p1:Option Addr) (aE aI:Int) (aJ aK:Int) (aL:ByteArray) (aH:Sl) (w0:World) (K:Int→Int→WP):Prop :=
 ∀(H2:NP) (w4:World),Hst w0 None w0 H2 w4 →
 ∃(I1:Int→Int→Int→Int→Int→ByteArray→Int→Int→NP→WP) (mu1:Int→Int→Int→Int→Int→ByteArray→Int→Int→World→Nat),I1 0 aE aI aJ aK aL 0 0 H2 w4 ∧
  ∀(i1 aA:Int) (aB aC aF:Int) (aD:ByteArray) (aG aM:Int) (Hl1:NP) (wl1:World),Hst w0 Hl1 wl1 Hl1 wl1→I1 i1 aA aB aC aF aD aG aM Hl1 wl1→m_O1_l1 p1 aH i1 aA aB aC aF aD aG aM w0 Hl1 wl1 (fun y'0 y'1 y'2 y'3 y'4 y'5 y'6 y'7 H' w'=>I1 y'0 y'1 y'2 y'3 y'4 y'5 y'6 y'7 H' w'∧mu1 y'0 y'1 y'2 y'3 y'4 y'5 y'6 y'7 w'<mu1 i1 aA aB aC aF aD aG aM wl1) K
theorem w_O1 (p1 : Option Addr) (aE aI : Int) (aJ aK : Int) (aL : ByteArray) (aH : Sl) (w0 : World) (K : Int → Int → WP) (h : m_O1 p1 aE aI aJ aK aL aH w0 K) :
  Calls prog 148 #[(vp p1),(.agg #[(vi aE),(vi aI),(vi aJ),(vu aK),(vs aL),aH.v])] w0 (fun e w'=>∃r5 r6:Int,e=.returned (.tuple #[(vi r5),(vi r6)])∧K r5 r6 w'):=by
 unfold m_O1 at h
 refine cw (args:=[(vp p1),(.agg #[(vi aE),(vi aI),(vi aJ),(vu aK),(vs aL),aH.v])]) func148 ntmps148 ?_
 have hs:=Hst.start w0
 have hb:=HB.nil None w0
 refine eg (sn (O:=(.cells #[(vi aE),(vi aI),(vi aJ),(vu aK),(vs aL),aH.v] 107)) xb ?_)
 intro p2 w1 hn1
 obtain ⟨H1,hs,hb⟩:=hs.alloc hb hn1
 refine q0 (vi 0) (q0 (vi 0) (ln (eg (q2 (.agg #[(vi aE),(vi aI),(vi aJ),(vu aK),(vs aL),aH.v]) (xa p2 [(vi aE),(vi aI),(vi aJ),(vu aK),(vs aL),aH.v] (isAgg107 _) (sizeOf107 _) (hb.r0 0 6 gZ)) ?_))))
 refine sc call204 ((p_C1 aE aI aJ aK aL aH w1).mono ?_)
 rintro e w2 ⟨he,hE⟩
 refine ⟨(.agg #[(vi aE),(vi aI),(vi aJ),(vu aK),(vs aL),(vi 0),(vi 0)]),he.trans (by kernel_rfl),?_⟩
 have hs:=hs.pure hE
 have hb:=hb.pure hE
 refine sn (O:=(.cells #[(vi 0),(vi 0),(vi 0),(vu 0),ve,(vi 0),(vi 0)] 176)) (x_alloc (zeroValue176 _) rfl) ?_
 intro p3 w3 hn2
 obtain ⟨H2,hs,hb⟩:=hs.alloc hb hn2
 refine ss (xo p3 [(vi aE),(vi aI),(vi aJ),(vu aK),(vs aL),(vi 0),(vi 0)] (sizeOf176 _) (hb.k0 0 7 gZ)) ?_
 intro w4 hn3
 obtain ⟨hs,hb⟩:=hb.s0 (l':=[(p3,[(vi aE),(vi aI),(vi aJ),(vu aK),(vs aL),(vi 0),(vi 0)],176),(p2,[(vi aE),(vi aI),(vi aJ),(vu aK),(vs aL),aH.v],107)]) 0 [(vi aE),(vi aI),(vi aJ),(vu aK),(vs aL),(vi 0),(vi 0)] hs hn3 gZ
 refine ln (wpE_seq (eg (q0 (vi 0) (ln (wpE_block ?_)))))
 have h:=h H2 w4 hs
 have hs:=hs.here
 obtain ⟨I1,mu1,h0,hr⟩:=h
 refine wpE_loop (σ:=Int×Int×Int×Int×Int×ByteArray×Int×Int×NP×World) (fun s ρ w=>w=s.2.2.2.2.2.2.2.2.2∧Has ρ [(0,(vp p1)),(3,(vp (some p2))),(6,(vp (some p3))),(7,(vi s.1))]∧Hst w0 s.2.2.2.2.2.2.2.2.1 w s.2.2.2.2.2.2.2.2.1 w∧HB s.2.2.2.2.2.2.2.2.1 w [(p3,[(vi s.2.1),(vi s.2.2.1),(vi s.2.2.2.1),(vu s.2.2.2.2.1),(vs s.2.2.2.2.2.1),(vi s.2.2.2.2.2.2.1),(vi s.2.2.2.2.2.2.2.1)],176),(p2,[(vi aE),(vi aI),(vi aJ),(vu aK),(vs aL),aH.v],107)]∧I1 s.1 s.2.1 s.2.2.1 s.2.2.2.1 s.2.2.2.2.1 s.2.2.2.2.2.1 s.2.2.2.2.2.2.1 s.2.2.2.2.2.2.2.1 s.2.2.2.2.2.2.2.2.1 s.2.2.2.2.2.2.2.2.2) (fun s=>mu1 s.1 s.2.1 s.2.2.1 s.2.2.2.1 s.2.2.2.2.1 s.2.2.2.2.2.1 s.2.2.2.2.2.2.1 s.2.2.2.2.2.2.2.1 s.2.2.2.2.2.2.2.2.2) (0,aE,aI,aJ,aK,aL,0,0,H2,w4) ⟨rfl,hm,hs,hb,h0⟩ ?_
 rintro ⟨i1,aA,aB,aC,aF,aD,aG,aM,Hl1,wl1⟩ ρ w ⟨hw,hH,hs,hb,hI⟩
 obtain rfl:wl1=w:=(show w=wl1 from hw).symm
 have hH:Has ρ [(0,(vp p1)),(3,(vp (some p2))),(6,(vp (some p3))),(7,(vi i1))]:=hH
 have hs:Hst w0 Hl1 wl1 Hl1 wl1:=hs
 have hb:HB Hl1 wl1 [(p3,[(vi aA),(vi aB),(vi aC),(vu aF),(vs aD),(vi aG),(vi aM)],176),(p2,[(vi aE),(vi aI),(vi aJ),(vu aK),(vs aL),aH.v],107)]:=hb
 have h:=hr i1 aA aB aC aF aD aG aM Hl1 wl1 hs hI
 unfold m_O1_l1 at h
 refine wpE_has hH ?_
 refine wpE_seq (eg (q0 (vi i1) (q0 (vp (some (p2.add 5))) (q2 aH.v (xl (isAgg66 _) (hb.c 1 5 (gS gZ))) (q0 (vi (aH.len:Int)) (q0 (vb (decide (i1<(aH.len:Int)))) (ln ?_)))))))
 refine wpE_cond (t:=(decide (i1<(aH.len:Int)))) (by kernel_rfl) (fun hc1=>?_) (fun hc1=>?_)
 have h:=h.1 hc1
 refine wpE_skip (th_n (wpE_seq (wpE_block (eg (q0 (vp p1) (q0 (vp (some (p2.add 5))) (q2 aH.v (xl (isAgg66 _) (hb.c 1 5 (gS gZ))) (q0 (vi i1) ?_))))))))
 obtain ⟨a1,hv2,h⟩:=h
 refine q2 (vp (some a1)) (xi (runUnderlying66 _) (sizeOf107 _) hv2) ?_
 obtain ⟨aO,aP,aQ,aR,aS,bI,hv1,h⟩:=h
 refine q2 (.agg #[(vi aO),(vi aP),(vi aQ),(vu aR),(vs aS),bI.v]) (xa a1 [(vi aO),(vi aP),(vi aQ),(vu aR),(vs aS),bI.v] (isAgg107 _) (sizeOf107 _) hv1) ?_
 refine sc call148 (h.mono ?_)
 rintro e w5 ⟨r1,r2,rfl,hk,h⟩
 refine ⟨_,rfl,?_⟩
 obtain ⟨hs,hb⟩:=hk.hh hs hb
 refine q0 (.tuple #[(vi r1),(vi r2)]) (q0 (vi r1) (q0 (vi r2) (q0 (vi r1) (q0 (vi r2) (ln (wpE_seq (eg (q0 (vi r2) (q0 (vb (r2 != 0)) ?_)))))))))
 refine ln ?_
 refine wpE_cond (t:=(r2 != 0)) (by kernel_rfl) (fun hc2=>?_) (fun hc2=>?_)
 have h:=h.1 hc2
 refine eg (q0 (vi r2) (q0 (vi 0) (q0 (vi r2) (ln (er (th_r (bl_r (th_r (th_r ?_)))))))))
 refine bl_r (th_r (res2 (.inl rfl) results148 (v:=(vi 0)) (by kernel_rfl) (v':=(vi r2)) (by kernel_rfl) ?_))
 exact ⟨0,r2,rfl,h⟩
 have h:=h.2 hc2
 refine wpE_skip (th_n (eg (q0 (vi i1) (q0 (vb (i1 == 0)) (ln ?_)))))
 refine wpE_via (fun ρ wJ=>∃b1'0:Bool,∃HJ:NP,((i1 == 0)=b1'0)∧Hst w0 Hl1 w5 HJ wJ∧HB HJ wJ [(p3,[(vi aA),(vi aB),(vi aC),(vu aF),(vs aD),(vi (cond b1'0 r1 aG)),(vi (cond b1'0 aM r1))],176),(p2,[(vi aE),(vi aI),(vi aJ),(vu aK),(vs aL),aH.v],107)]∧Has ρ [(0,(vp p1)),(3,(vp (some p2))),(6,(vp (some p3))),(7,(vi i1))]) ?_ ?_
 refine wpE_cond (t:=(i1 == 0)) (by kernel_rfl) (fun hc4=>?_) (fun hc4=>?_)
 refine rg (q0 (vi r1) (q0 (vp (some (p3.add 5))) (st_set (want0 rfl) (x_store (a:=(p3.add 5)) (v:=(vi r1)) (by kernel_rfl) (by kernel_rfl) rfl (sizeOf78 _) (hb.canW 0 5 gZ (by kernel_rfl))) ?_)))
 intro w9 hn6
 have hsb:Hst w0 Hl1 w5 Hl1 w9∧HB Hl1 w9 [(p3,[(vi aA),(vi aB),(vi aC),(vu aF),(vs aD),(vi r1),(vi aM)],176),(p2,[(vi aE),(vi aI),(vi aJ),(vu aK),(vs aL),aH.v],107)]:=by
  rw [hn6]
  exact hb.set (i:=0) 5 (v:=(vi r1)) hs gZ (by kernel_rfl)
 obtain ⟨hs,hb⟩:=hsb
 refine ln ?_
 exact ⟨true,_,hc4,hs,hb,hm⟩
 refine rg (q0 (vi r1) (q0 (vp (some (p3.add 6))) (st_set (want0 rfl) (x_store (a:=(p3.add 6)) (v:=(vi r1)) (by kernel_rfl) (by kernel_rfl) rfl (sizeOf78 _) (hb.canW 0 6 gZ (by kernel_rfl))) ?_)))
 intro w10 hn7
 have hsb:Hst w0 Hl1 w5 Hl1 w10∧HB Hl1 w10 [(p3,[(vi aA),(vi aB),(vi aC),(vu aF),(vs aD),(vi aG),(vi r1)],176),(p2,[(vi aE),(vi aI),(vi aJ),(vu aK),(vs aL),aH.v],107)]:=by
  rw [hn7]
  exact hb.set (i:=0) 6 (v:=(vi r1)) hs gZ (by kernel_rfl)
 obtain ⟨hs,hb⟩:=hsb
 refine ln ?_
 exact ⟨false,_,hc4,hs,hb,hm⟩
 rintro ρ w8 ⟨b1'0,H3,he0,hs,hb,hH⟩
 subst he0
 refine norm_has hH ?_
 refine bl_n (th_n (rg (q0 (vi i1) (q0 (vi (q6.wrap (i1+1))) (q0 (vi (q6.wrap (i1+1))) (wpL_nil ?_))))))
 have h:=h H3 w8 hs
 have hs:=hs.here
 refine th_n ?_
 exact ⟨((q6.wrap (i1+1)),aA,aB,aC,aF,aD,(cond (i1 == 0) r1 aG),(cond (i1 == 0) aM r1),H3,w8),⟨rfl,hm,hs,hb,h.1⟩,h.2⟩
 have h:=h.2 hc1
 refine wpE_exit (th_x (th_x (bl_eq (th_n (eg (q0 (vp p1) (q2 (.agg #[(vi aA),(vi aB),(vi aC),(vu aF),(vs aD),(vi aG),(vi aM)]) (xa p3 [(vi aA),(vi aB),(vi aC),(vu aF),(vs aD),(vi aG),(vi aM)] (isAgg176 _) (sizeOf176 _) (hb.r0 0 7 gZ)) ?_)))))))
 refine sc call113 (h.mono ?_)
 rintro e w11 ⟨r3,r4,rfl,hk,h⟩
 refine ⟨_,rfl,?_⟩
 obtain ⟨hs,hb⟩:=hk.hh hs hb
 refine q0 (vi r3) (q0 (vi r4) (q0 (vi r3) (q0 (vi r4) (ln (er (res2 (.inl rfl) results148 (v:=(vi r3)) (by kernel_rfl) (v':=(vi r4)) (by kernel_rfl) ?_))))))
 exact ⟨r3,r4,rfl,h⟩
def m_I2 (p1:Option Addr) (n1:Int) (w0:World) (K:WP):Prop :=
 ∃a1:Addr,p1=some a1 ∧
 ∃v1:Sl,w0.cell? a1=some v1.v ∧
 ∃s1:Sl,(Instr.sliceAt 41 v1.v none (some (vi n1)) none).run prog w0=.ok s1.v w0 ∧
 ∃a2:Addr,p1=some a2 ∧
 CanW w0 a2∧∀w1:World,w1=w0.setCell a2 s1.v →
 ∃a3:Addr,p1=some a3 ∧
 ∃v2:Sl,w1.cell? (a3.add 1)=some v2.v ∧
 ∃s2:Sl,(Instr.sliceAt 42 v2.v none (some (vi n1)) none).run prog w1=.ok s2.v w1 ∧
 ∃a4:Addr,p1=some a4 ∧
 CanW w1 (a4.add 1)∧∀w2:World,w2=w1.setCell (a4.add 1) s2.v →
 ∃a5:Addr,p1=some a5 ∧
 ∃v3:Sl,w2.cell? (a5.add 2)=some v3.v ∧
 ∃s3:Sl,(Instr.sliceAt 42 v3.v none (some (vi n1)) none).run prog w2=.ok s3.v w2 ∧
 ∃a6:Addr,p1=some a6 ∧
 CanW w2 (a6.add 2)∧∀w3:World,w3=w2.setCell (a6.add 2) s3.v →
 K w3
theorem w_I2 (p1 : Option Addr) (n1 : Int) (w0 : World) (K : WP) (h : m_I2 p1 n1 w0 K) :
  Calls prog 149 #[(vp p1),(vi n1)] w0 (fun e w'=>e=.returned (.tuple #[])∧K  w'):=by
 unfold m_I2 at h
 refine cw (args:=[(vp p1),(vi n1)]) func149 ntmps149 (eg (q0 (vp p1) (q0 (vp p1) ?_)))
 obtain ⟨a1,hp1,h⟩:=h
 refine q2 (vp (some a1)) (xn hp1) (q0 (vp (some a1)) ?_)
 obtain ⟨v1,hv6,h⟩:=h
 refine q2 v1.v (xl (isAgg41 _) hv6) (q0 (vi n1) ?_)
 obtain ⟨s1,hv5,h⟩:=h
 refine q2 s1.v (x_slice (by kernel_rfl) (by kernel_rfl) (by kernel_rfl) (by kernel_rfl) hv5) ?_
 obtain ⟨a2,hp2,h⟩:=h
 refine q2 (vp (some a2)) (xn hp2) (q0 (vp (some a2)) ?_)
 obtain ⟨hp3,h⟩:=h
 refine ss (x_store (a:=a2) (v:=s1.v) (by kernel_rfl) (by kernel_rfl) rfl (sizeOf41 _) hp3) ?_
 intro w1 hn1
 have h:=h w1 hn1
 refine ln (eg (q0 (vp p1) (q0 (vp p1) ?_)))
 obtain ⟨a3,hp4,h⟩:=h
 refine q2 (vp (some a3)) (xn hp4) (q0 (vp (some (a3.add 1))) ?_)
 obtain ⟨v2,hv4,h⟩:=h
 refine q2 v2.v (xl (isAgg42 _) hv4) (q0 (vi n1) ?_)
 obtain ⟨s2,hv3,h⟩:=h
 refine q2 s2.v (x_slice (by kernel_rfl) (by kernel_rfl) (by kernel_rfl) (by kernel_rfl) hv3) ?_
 obtain ⟨a4,hp5,h⟩:=h
 refine q2 (vp (some a4)) (xn hp5) (q0 (vp (some (a4.add 1))) ?_)
 obtain ⟨hp6,h⟩:=h
 refine ss (x_store (a:=(a4.add 1)) (v:=s2.v) (by kernel_rfl) (by kernel_rfl) rfl (sizeOf42 _) hp6) ?_
 intro w2 hn2
 have h:=h w2 hn2
 refine ln (rg (q0 (vp p1) (q0 (vp p1) ?_)))
 obtain ⟨a5,hp7,h⟩:=h
 refine q2 (vp (some a5)) (xn hp7) (q0 (vp (some (a5.add 2))) ?_)
 obtain ⟨v3,hv2,h⟩:=h
 refine q2 v3.v (xl (isAgg42 _) hv2) (q0 (vi n1) ?_)
 obtain ⟨s3,hv1,h⟩:=h
 refine q2 s3.v (x_slice (by kernel_rfl) (by kernel_rfl) (by kernel_rfl) (by kernel_rfl) hv1) ?_
 obtain ⟨a6,hp8,h⟩:=h
 refine q2 (vp (some a6)) (xn hp8) (q0 (vp (some (a6.add 2))) ?_)
 obtain ⟨hp9,h⟩:=h
 refine ss (x_store (a:=(a6.add 2)) (v:=s3.v) (by kernel_rfl) (by kernel_rfl) rfl (sizeOf42 _) hp9) ?_
 intro w3 hn3
 have h:=h w3 hn3
 refine wpL_nil (res0 (.inr rfl) results149 ?_)
 exact ⟨rfl,h⟩
def m_J2 (p1:Option Addr) (aE aI:Int) (aJ aK:Int) (aL:ByteArray) (aH:Sl) (w0:World) (K:Int→Int→WP):Prop :=
 ∀(H1:NP) (w1:World),Hst w0 None w0 H1 w1 →
 Calls prog 147 #[(.agg #[(vi aE),(vi aI),(vi aJ),(vu aK),(vs aL),aH.v])] w1 (fun e w2=>∃r1:Int,e=.returned (vi r1)∧
  Kept H1 w1 w2 ∧
  Br (r1 != 0)
   (K 0 r1 w2)
   (∃a1:Addr,p1=some a1 ∧
   ∃v1:Sl,w2.cell? a1=some v1.v ∧
   Calls prog 148 #[(vp p1),(.agg #[(vi aE),(vi aI),(vi aJ),(vu aK),(vs aL),aH.v])] w2 (fun e w3=>∃r2 r3:Int,e=.returned (.tuple #[(vi r2),(vi r3)])∧
    Kept H1 w2 w3 ∧
    Br (r3 != 0)
     (Calls prog 149 #[(vp p1),(vi (v1.len:Int))] w3 (fun e w4=>e=.returned (.tuple #[])∧
      Kept H1 w3 w4 ∧
      K r2 r3 w4))
     (K r2 r3 w3))))
theorem w_J2 (p1 : Option Addr) (aE aI : Int) (aJ aK : Int) (aL : ByteArray) (aH : Sl) (w0 : World) (K : Int → Int → WP) (h : m_J2 p1 aE aI aJ aK aL aH w0 K) :
  Calls prog 78 #[(vp p1),(.agg #[(vi aE),(vi aI),(vi aJ),(vu aK),(vs aL),aH.v])] w0 (fun e w'=>∃r4 r5:Int,e=.returned (.tuple #[(vi r4),(vi r5)])∧K r4 r5 w'):=by
 unfold m_J2 at h
 refine cw (args:=[(vp p1),(.agg #[(vi aE),(vi aI),(vi aJ),(vu aK),(vs aL),aH.v])]) func78 ntmps78 ?_
 have hs:=Hst.start w0
 have hb:=HB.nil None w0
 refine eg (sn (O:=(.cells #[(vi aE),(vi aI),(vi aJ),(vu aK),(vs aL),aH.v] 107)) xb ?_)
 intro p2 w1 hn1
 obtain ⟨H1,hs,hb⟩:=hs.alloc hb hn1
 refine q0 (vi 0) (q0 (vi 0) (ln (eg (q2 (.agg #[(vi aE),(vi aI),(vi aJ),(vu aK),(vs aL),aH.v]) (xa p2 [(vi aE),(vi aI),(vi aJ),(vu aK),(vs aL),aH.v] (isAgg107 _) (sizeOf107 _) (hb.r0 0 6 gZ)) ?_))))
 have h:=h H1 w1 hs
 have hs:=hs.here
 refine sc call147 (h.mono ?_)
 rintro e w2 ⟨r1,rfl,hk,h⟩
 refine ⟨_,rfl,?_⟩
 obtain ⟨hs,hb⟩:=hk.hh hs hb
 refine q0 (vi r1) (ln (wpE_seq (eg (q0 (vi r1) (q0 (vb (r1 != 0)) (ln ?_))))))
 refine wpE_cond (t:=(r1 != 0)) (by kernel_rfl) (fun hc1=>?_) (fun hc1=>?_)
 have h:=h.1 hc1
 refine eg (q0 (vi r1) (q0 (vi 0) (q0 (vi r1) (ln (er (th_r (res2 (.inl rfl) results78 (v:=(vi 0)) (by kernel_rfl) (v':=(vi r1)) (by kernel_rfl) ?_)))))))
 exact ⟨0,r1,rfl,h⟩
 have h:=h.2 hc1
 refine wpE_skip (th_n (eg (q0 (vp p1) ?_)))
 obtain ⟨a1,hp1,h⟩:=h
 refine q2 (vp (some a1)) (xn hp1) (q0 (vp (some a1)) ?_)
 obtain ⟨v1,hv1,h⟩:=h
 refine q2 v1.v (xl (isAgg41 _) hv1) (q0 (vi (v1.len:Int)) (q0 (vi (v1.len:Int)) (ln (eg (q0 (vp p1) (q2 (.agg #[(vi aE),(vi aI),(vi aJ),(vu aK),(vs aL),aH.v]) (xa p2 [(vi aE),(vi aI),(vi aJ),(vu aK),(vs aL),aH.v] (isAgg107 _) (sizeOf107 _) (hb.r0 0 6 gZ)) ?_))))))
 refine sc call148 (h.mono ?_)
 rintro e w3 ⟨r2,r3,rfl,hk,h⟩
 refine ⟨_,rfl,?_⟩
 obtain ⟨hs,hb⟩:=hk.hh hs hb
 refine q0 (.tuple #[(vi r2),(vi r3)]) (q0 (vi r2) (q0 (vi r3) (q0 (vi r2) (q0 (vi r3) (ln (wpE_seq (eg (q0 (vi r3) (q0 (vb (r3 != 0)) ?_)))))))))
 refine ln ?_
 refine wpE_cond (t:=(r3 != 0)) (by kernel_rfl) (fun hc2=>?_) (fun hc2=>?_)
 have h:=h.1 hc2
 refine rg (q0 (vp p1) (q0 (vi (v1.len:Int)) ?_))
 refine sc call149 (h.mono ?_)
 rintro e w4 ⟨rfl,hk,h⟩
 refine ⟨_,rfl,?_⟩
 obtain ⟨hs,hb⟩:=hk.hh hs hb
 refine ln (eg (q0 (vi r2) (q0 (vi r3) (q0 (vi r2) (q0 (vi r3) (ln (er (res2 (.inl rfl) results78 (v:=(vi r2)) (by kernel_rfl) (v':=(vi r3)) (by kernel_rfl) ?_))))))))
 exact ⟨r2,r3,rfl,h⟩
 have h:=h.2 hc2
 refine wpE_skip (th_n (eg (q0 (vi r2) (q0 (vi r3) (q0 (vi r2) (q0 (vi r3) (ln (er (res2 (.inl rfl) results78 (v:=(vi r2)) (by kernel_rfl) (v':=(vi r3)) (by kernel_rfl) ?_)))))))))
 exact ⟨r2,r3,rfl,h⟩
end Go.Proofs
end
section
open Go Go.SE
namespace Go.Proofs
attribute [local irreducible] Calls
theorem kind_cases (k:Int):(k=1∨k=2∨k=3∨k=4∨k=5∨k=6∨k=7∨k=8∨k=9)∨(Sp.shapeOf k=Sp.noShape∧Sp.isKind k=false∧∀m:Int,1≤m→m≤9→(k == m)=false):=by
 by_cases h:k=1∨k=2∨k=3∨k=4∨k=5∨k=6∨k=7∨k=8∨k=9
 ·exact .inl h
 ·right
  refine ⟨?_,?_,fun m h1 h2=>?_⟩
  ·unfold Sp.shapeOf;repeat rw [if_neg (by omega)]
  ·unfold Sp.isKind;apply Bool.eq_false_iff.2;intro h3;simp at h3;omega
  ·rw [beq_eq_false_iff_ne];omega
theorem ref05_kids (k:Int):s_C k=(Sp.shapeOf k).kids:=by
 rcases kind_cases k with h | ⟨h,_,hm⟩
 ·rcases h with rfl | rfl | rfl | rfl | rfl | rfl | rfl | rfl | rfl <;> decide
 ·rw [h];unfold s_C;simp [hm,Sp.noShape]
theorem ref05_named (k:Int):s_D k=(Sp.shapeOf k).frm:=by
 rcases kind_cases k with h | ⟨h,_,hm⟩
 ·rcases h with rfl | rfl | rfl | rfl | rfl | rfl | rfl | rfl | rfl <;> decide
 ·rw [h];unfold s_D;simp [hm,Sp.noShape]
theorem shape_two (k:Int):((k == 8) || (k == 9))=(Sp.shapeOf k).to:=by
 rcases kind_cases k with h | ⟨h,_,hm⟩
 ·rcases h with rfl | rfl | rfl | rfl | rfl | rfl | rfl | rfl | rfl <;> decide
 ·rw [h];simp [hm,Sp.noShape]
theorem shape_num (k:Int):(k == 2)=(Sp.shapeOf k).num:=by
 rcases kind_cases k with h | ⟨h,_,hm⟩
 ·rcases h with rfl | rfl | rfl | rfl | rfl | rfl | rfl | rfl | rfl <;> decide
 ·rw [h];simp [hm,Sp.noShape]
theorem shape_text (k:Int):(k == 3)=(Sp.shapeOf k).text:=by
 rcases kind_cases k with h | ⟨h,_,hm⟩
 ·rcases h with rfl | rfl | rfl | rfl | rfl | rfl | rfl | rfl | rfl <;> decide
 ·rw [h];simp [hm,Sp.noShape]
theorem shape_kind (k:Int):(!(decide (k<1) || decide (k>9)))=Sp.isKind k:=by
 unfold Sp.isKind
 by_cases h1:k<1 <;> by_cases h2:k>9 <;> simp [h1,h2] <;> omega
theorem ite53 (q:Bool):decide ((if q=true then (53:Int) else 0)=0)=!q:=by cases q <;> rfl
def Sp.nodeErr (n:Sp.Node):Int :=
 if Sp.plainErr n≠0 then 53 else if (decide ((Sp.shapeOf n.kind).kids<1) && n.a != 0) || (decide ((Sp.shapeOf n.kind).kids<2) && n.b != 0) then 53 else Sp.fieldsErr (Sp.shapeOf n.kind) n
theorem ref05_plain (n:Sp.Node):s_D1 n.kind n.frm n.to n.num n.text n.a n.b=(decide (Sp.plainErr n=0) && !((decide ((Sp.shapeOf n.kind).kids<1) && n.a != 0) || (decide ((Sp.shapeOf n.kind).kids<2) && n.b != 0))):=by
 obtain ⟨k,f,t,u,x,a,b⟩:=n
 unfold s_D1 Sp.plainErr
 simp only [ref05_kids,ref05_named,shape_two k,shape_num k,shape_text k,shape_kind]
 have hk:=Sp.kids_le k
 generalize Sp.shapeOf k=s at *
 obtain ⟨s1,s2,s3,s4,s5⟩:=s
 generalize Sp.isKind k=i
 have e1:decide (s5≥1)=!decide (s5<1):=by by_cases h:s5<1 <;> simp [h] <;> omega
 have e2:(s5 == 2)=!decide (s5<2):=by
  by_cases h:s5<2
  ·simp [h];omega
  ·simp [h];simp at hk;omega
 simp only [e1,e2,bne,ite53]
 generalize (f == 0)=c1;generalize (t == 0)=c2;generalize (u == 0)=c3;generalize decide (x=⟨#[]⟩)=c4;generalize (a == 0)=c5;generalize (b == 0)=c6;generalize decide (s5<1)=c7;generalize decide (s5<2)=c8
 cases i <;> cases s1 <;> cases s2 <;> cases s3 <;> cases s4 <;> cases c1 <;> cases c2 <;> cases c3 <;> cases c4 <;> simp
theorem ref05_shape (n:Sp.Node):s_H n.kind n.frm n.to n.num n.text n.a n.b=Sp.nodeErr n:=by
 unfold s_H Sp.nodeErr
 rw [ref05_plain,ref05_named,shape_two]
 by_cases h1:Sp.plainErr n=0
 ·by_cases h2:((decide ((Sp.shapeOf n.kind).kids<1) && n.a != 0) || (decide ((Sp.shapeOf n.kind).kids<2) && n.b != 0))=true
  ·rw [h2];simp [h1]
  ·have h2:((decide ((Sp.shapeOf n.kind).kids<1) && n.a != 0) || (decide ((Sp.shapeOf n.kind).kids<2) && n.b != 0))=false:=by simpa using h2
   rw [h2]
   simp only [h1,ne_eq,not_true_eq_false,if_false,Bool.false_eq_true,decide_true,Bool.not_false,Bool.and_true,Bool.not_true,cond_false]
   unfold Sp.fieldsErr Sp.isName
   have e1:(decide (n.frm≥0) && decide (n.frm<16))=(decide (0≤n.frm) && decide (n.frm<16)):=rfl
   have e2:(decide (n.to≥0) && decide (n.to<16))=(decide (0≤n.to) && decide (n.to<16)):=rfl
   have e3:(n.frm == n.to)=(n.to == n.frm):=by rw [Bool.eq_iff_iff];simp only [beq_iff_eq];exact eq_comm
   rw [e1,e2,e3]
   have e4:decide (((n.text.size:Int))>64)=decide (n.text.size>64):=decide_eq_decide.2 (by omega)
   rw [e4]
   generalize ((Sp.shapeOf n.kind).frm && !(decide (0≤n.frm) && decide (n.frm<16)) || (Sp.shapeOf n.kind).to && (!(decide (0≤n.to) && decide (n.to<16)) || n.to == n.frm))=c
   cases c
   ·by_cases h:n.text.size>64 <;> simp [h]
   ·rfl
 ·simp [h1]
end Go.Proofs
end
section
open Go Go.SE
namespace Go.Proofs
open Tryz
attribute [local irreducible] Calls
theorem slT_node:SlType prog 41 176 7 64:=by
 refine ⟨underlying41,⟨t176,_,by kernel_rfl,(by kernel_rfl:t176.zero=some (.agg #[.int .i64 0,.int .i64 0,.int .i64 0,.int .u64 0,.string ⟨#[]⟩,.int .i64 0,.int .i64 0])),by kernel_rfl,by kernel_rfl,rfl⟩,by omega⟩
theorem slT_int:SlType prog 42 3 1 8:=by
 refine ⟨underlying42,⟨t3,_,by kernel_rfl,(by kernel_rfl:t3.zero=some (.int .i64 0)),by kernel_rfl,by kernel_rfl,rfl⟩,by omega⟩
def rnode (e:Sp.Ent):List Value:=nrow e.node
def rsize (e:Sp.Ent):List Value:=[.int .i64 e.size]
def rdepth (e:Sp.Ent):List Value:=[.int .i64 e.depth]
structure PoolRS (w:World) (p:Addr) (L:Sp.Pool) (s1 s2 s3:Sl):Prop where
 box:Box w p [s1.v,s2.v,s3.v] 44
 r1:Rws w 176 7 s1 (L.map rnode)
 r2:Rws w 3 1 s2 (L.map rsize)
 r3:Rws w 3 1 s3 (L.map rdepth)
 n1:¬ s1.blk p.block
 n2:¬ s2.blk p.block
 n3:¬ s3.blk p.block
 d12:∀b,s1.blk b→¬ s2.blk b
 d13:∀b,s1.blk b→¬ s3.blk b
 d23:∀b,s2.blk b→¬ s3.blk b
def PoolR (w:World) (p:Addr) (L:Sp.Pool) (F:NP):Prop:=∃s1 s2 s3,PoolRS w p L s1 s2 s3∧∀b,F b↔(b=p.block∨s1.blk b∨s2.blk b∨s3.blk b)
theorem PoolR.ext {G:NP} {w w':World} {p:Addr} {L:Sp.Pool} {F:NP} (h:PoolR w p L F) (hE:Ext G w w') (hd:∀b,F b→¬ G b):PoolR w' p L F:=by
 obtain ⟨s1,s2,s3,h,hF⟩:=h
 exact ⟨s1,s2,s3,⟨h.box.ext hE (hd _ ((hF _).2 (.inl rfl))),h.r1.ext hE (fun b hb=>hd _ ((hF _).2 (.inr (.inl hb)))),h.r2.ext hE (fun b hb=>hd _ ((hF _).2 (.inr (.inr (.inl hb))))),h.r3.ext hE (fun b hb=>hd _ ((hF _).2 (.inr (.inr (.inr hb))))),h.n1,h.n2,h.n3,h.d12,h.d13,h.d23⟩,hF⟩
theorem PoolR.pure {w w':World} {p:Addr} {L:Sp.Pool} {F:NP} (h:PoolR w p L F) (hE:Pure w w'):PoolR w' p L F:=h.ext hE (fun _ _ h=>h)
theorem PoolR.lt {w:World} {p:Addr} {L:Sp.Pool} {F:NP} (h:PoolR w p L F) {b:Nat} (hb:F b):b<w.heap.size:=by
 obtain ⟨s1,s2,s3,h,hF⟩:=h
 rcases (hF b).1 hb with rfl | hb | hb | hb
 ·exact h.box.lt
 ·exact h.r1.lt hb
 ·exact h.r2.lt hb
 ·exact h.r3.lt hb
theorem c_ref05_New (w0:World):Calls prog 63 #[] w0 (fun e w'=>∃r:Option Addr,e=.returned (.pointer r)∧∃p F,r=some p∧PoolR w' p [] F∧Pure w0 w'∧∀b,F b→w0.heap.size≤b):=by
 refine w_D4 w0 (fun r w'=>∃p F,r=some p∧PoolR w' p [] F∧Pure w0 w'∧∀b,F b→w0.heap.size≤b) ?_
 unfold m_D4
 have hnil:∀b,¬ Sl.nil.blk b:=fun b hb=>by obtain ⟨a,h,_⟩:=hb;cases h
 intro p w1 h1
 have b1:=Box.of_new h1
 have E1:Pure w0 w1:=Ext.new h1
 first
  | exact ⟨p,(·=p.block),rfl,⟨Sl.nil,Sl.nil,Sl.nil,⟨b1,Rws.nil _ _ _,Rws.nil _ _ _,Rws.nil _ _ _,hnil _,hnil _,hnil _,fun b h=>(hnil b h).elim,fun b h=>(hnil b h).elim,fun b h=>(hnil b h).elim⟩,fun b=>by simp [hnil]⟩,E1,fun b hb=>by subst hb;exact New.own (Ext.refl w0) h1⟩
  | skip
theorem c_ref05_In (p:Addr) (t:Int) (w0:World) {L:Sp.Pool} {F:NP} (hP:PoolR w0 p L F):Calls prog 87 #[.pointer (some p),.int .i64 t] w0 (fun e w'=>∃r:Bool,e=.returned (.bool r)∧(r=Sp.inP L t∧w'=w0)):=by
 refine w_B4 _ _ w0 (fun r w'=>r=Sp.inP L t∧w'=w0) ?_
 unfold m_B4
 obtain ⟨s1,s2,s3,h,hF⟩:=hP
 have hl:s1.len=L.length:=by rw [h.r1.len];simp
 refine ⟨fun hc=>⟨p,rfl,s1,h.box.cell0,?_,rfl⟩,fun hc=>⟨?_,rfl⟩⟩
 ·have:=of_decide_eq_true hc
  rw [hl];simp [Sp.inP,this]
 ·have:=of_decide_eq_false hc
  simp [Sp.inP];omega
theorem PoolRS.at1 {w : World} {p : Addr} {L : Sp.Pool} {s1 s2 s3 : Sl} (h : PoolRS w p L s1 s2 s3) {t : Int} (ht : Sp.inP L t = true) (hok : Sp.Ok L) : ∃ e, Sp.get L t = some e ∧
  (∃a,At s1 (IntKind.i64.wrap (t - 1)) 7 a∧Row w a (rnode e))∧(∃a,At s2 (IntKind.i64.wrap (t - 1)) 1 a∧Row w a (rsize e))∧(∃a,At s3 (IntKind.i64.wrap (t - 1)) 1 a∧Row w a (rdepth e)):=by
 obtain ⟨e,he,_,hi,hLe⟩:=Sp.get_some ht
 have hin:=Sp.inP_iff.1 ht
 have hf:=hok.few
 have hw:IntKind.i64.wrap (t - 1)=((t - 1).toNat:Int):=by rw [i64 (by omega) (by omega)];omega
 obtain ⟨a1,h1,g1⟩:=h.r1.nth (j:=(t - 1).toNat) hi
 obtain ⟨a2,h2,g2⟩:=h.r2.nth (j:=(t - 1).toNat) hi
 obtain ⟨a3,h3,g3⟩:=h.r3.nth (j:=(t - 1).toNat) hi
 rw [hLe] at g1 g2 g3
 rw [hw]
 exact ⟨e,he,⟨a1,h1,g1⟩,⟨a2,h2,g2⟩,⟨a3,h3,g3⟩⟩
theorem c_ref05_Size (p:Addr) (t:Int) (w0:World) {L:Sp.Pool} {F:NP} (hP:PoolR w0 p L F) (hok:Sp.Ok L):Calls prog 97 #[.pointer (some p),.int .i64 t] w0 (fun e w'=>∃r:Int,e=.returned (.int .i64 r)∧(r=Sp.sizeOf L t∧w'=w0)):=by
 refine w_F4 _ _ w0 (fun r w'=>r=Sp.sizeOf L t∧w'=w0) ?_
 unfold m_F4
 refine (c_ref05_In p t w0 hP).mono ?_
 rintro _ _ ⟨_,rfl,rfl,rfl⟩
 refine ⟨_,rfl,fun h=>⟨?_,rfl⟩,fun h=>?_⟩
 ·have h:Sp.inP L t=false:=by simpa using h
  simp [Sp.sizeOf,Sp.get_none h]
 ·have h:Sp.inP L t=true:=by simpa using h
  obtain ⟨s1,s2,s3,hS,hF⟩:=hP
  obtain ⟨e,he,_,⟨a,hat,hr⟩,_⟩:=hS.at1 h hok
  exact ⟨p,rfl,s2,hS.box.cell rfl,a,hat,_,row_cell hr,by simp [Sp.sizeOf,he],rfl⟩
theorem c_ref05_Depth (p:Addr) (t:Int) (w0:World) {L:Sp.Pool} {F:NP} (hP:PoolR w0 p L F) (hok:Sp.Ok L):Calls prog 177 #[.pointer (some p),.int .i64 t] w0 (fun e w'=>∃r:Int,e=.returned (.int .i64 r)∧(r=Sp.depthOf L t∧w'=w0)):=by
 refine w_G4 _ _ w0 (fun r w'=>r=Sp.depthOf L t∧w'=w0) ?_
 unfold m_G4
 refine (c_ref05_In p t w0 hP).mono ?_
 rintro _ _ ⟨_,rfl,rfl,rfl⟩
 refine ⟨_,rfl,fun h=>⟨?_,rfl⟩,fun h=>?_⟩
 ·have h:Sp.inP L t=false:=by simpa using h
  simp [Sp.depthOf,Sp.get_none h]
 ·have h:Sp.inP L t=true:=by simpa using h
  obtain ⟨s1,s2,s3,hS,hF⟩:=hP
  obtain ⟨e,he,_,_,⟨a,hat,hr⟩⟩:=hS.at1 h hok
  exact ⟨p,rfl,s3,hS.box.cell rfl,a,hat,_,row_cell hr,by simp [Sp.depthOf,he],rfl⟩
theorem c_ref05_Node (p : Addr) (t : Int) (w0 : World) {L : Sp.Pool} {F : NP} (hP : PoolR w0 p L F) (hok : Sp.Ok L) : Calls prog 104 #[.pointer (some p), .int .i64 t] w0
  (fun e w'=>∃k f t' u:Int,∃x:ByteArray,∃a b:Int,∃r:Bool,e=.returned (.tuple #[.agg #[.int .i64 k,.int .i64 f,.int .i64 t',.int .u64 u,.string x,.int .i64 a,.int .i64 b],.bool r])∧(((⟨k,f,t',u,x,a,b⟩:Sp.Node)=Sp.nodeOf L t∧r=Sp.inP L t)∧Pure w0 w')):=by
 refine w_C4 _ _ w0 (fun k f t' u x a b r w'=>((⟨k,f,t',u,x,a,b⟩:Sp.Node)=Sp.nodeOf L t∧r=Sp.inP L t)∧Pure w0 w') ?_
 unfold m_C4
 intro H1 w1 hs1
 have hP1:=hP.pure hs1.first
 refine (c_ref05_In p t w1 hP1).mono ?_
 rintro _ _ ⟨_,rfl,rfl,rfl⟩
 refine ⟨_,rfl,Kept.refl _,fun h=>?_,fun h=>?_⟩
 ·intro w3 hs3
  have h:Sp.inP L t=false:=by simpa using h
  exact ⟨⟨by simp [Sp.nodeOf,Sp.get_none h,Sp.noNode],h.symm⟩,hs1.first.hst hs3⟩
 ·have h:Sp.inP L t=true:=by simpa using h
  obtain ⟨s1,s2,s3,hS,hF⟩:=hP1
  obtain ⟨e,he,⟨a,hat,hr⟩,_,_⟩:=hS.at1 h hok
  refine ⟨p,rfl,s1,hS.box.cell0,a,hat,_,_,_,_,_,_,_,hr,?_⟩
  intro w4 hs4
  exact ⟨⟨by simp [Sp.nodeOf,he],h.symm⟩,hs1.first.hst hs4⟩
theorem node_eqB (m n:Sp.Node):((m.kind == n.kind) && ((m.frm == n.frm) && ((m.to == n.to) && ((m.num == n.num) && ((decide (m.text=n.text)) && ((m.a == n.a) && (m.b == n.b)))))))=decide (m=n):=by
 obtain ⟨k,f,t,u,x,a,b⟩:=m;obtain ⟨k',f',t',u',x',a',b'⟩:=n
 rw [Bool.eq_iff_iff];simp
theorem c_ref05_Has (p : Addr) (n : Sp.Node) (w0 : World) {L : Sp.Pool} {F : NP} (hP : PoolR w0 p L F) (hok : Sp.Ok L) : Calls prog 178 #[.pointer (some p), nkey n] w0
  (fun e w'=>∃r:Int,∃ok:Bool,e=.returned (.tuple #[.int .i64 r,.bool ok])∧((match Sp.find L n with | some i=>r=(i:Int)+1∧ok=true | none=>r=0∧ok=false)∧Pure w0 w')):=by
 obtain ⟨k,f,t,u,x,a,b⟩:=n
 generalize hn:(⟨k,f,t,u,x,a,b⟩:Sp.Node)=n
 have hnk:nkey n=.agg #[.int .i64 k,.int .i64 f,.int .i64 t,.int .u64 u,.string x,.int .i64 a,.int .i64 b]:=by rw [← hn];rfl
 rw [hnk]
 suffices key:∀K:Int→Bool→WP,(∀r ok w',((match Sp.find L n with | some i=>r=(i:Int)+1∧ok=true | none=>r=0∧ok=false)∧Pure w0 w')→K r ok w')→m_N1 (some p) k f t u x a b w0 K from
  w_N1 _ _ _ _ _ _ _ _ w0 _ (key _ (fun _ _ _ h=>h))
 intro K hK
 unfold m_N1
 intro H1 w1 hs1
 refine ⟨fun i H w'=>∃j:Nat,i=j∧j≤L.length∧Pure w0 w'∧∀q,q<j→∀e,L[q]?=some e→e.node≠n,fun i _=>((L.length:Int) - i).toNat,⟨0,rfl,Nat.zero_le _,hs1.first,fun q hq=>absurd hq (by omega)⟩,?_⟩
 rintro _ Hl wl hl ⟨j,rfl,hj,El,hno⟩
 unfold m_N1_l1
 obtain ⟨s1,s2,s3,hS,hF⟩:=hP.pure El
 have hf:=hok.few
 have hlen:s1.len=L.length:=by rw [hS.r1.len];simp
 refine ⟨p,rfl,s1,hS.box.cell0,fun h=>?_,fun h=>?_⟩
 ·have hlt:=lt_of_dec hlen h
  refine ⟨p,rfl,?_⟩
  intro w2 hs2
  have E2:=El.hst hs2
  obtain ⟨s1',s2',s3',hS',_⟩:=hP.pure E2
  obtain ⟨a',hat,hr⟩:=hS'.r1.nth hlt
  refine ⟨s1',hS'.box.cell0,a',hat,_,_,_,_,_,_,_,hr,?_⟩
  have hB:=node_eqB L[j].node n
  rw [← hn] at hB
  simp only at hB
  rw [hB,hn]
  refine ⟨fun h=>?_,fun h=>?_⟩
  ·have h:=of_decide_eq_true h
   rw [wrap_succ hlt (by omega)]
   refine hK _ _ _ ⟨?_,E2⟩
   have hfd:Sp.find L n=some j:=by
    unfold Sp.find
    rw [List.findIdx?_eq_some_iff_getElem]
    exact ⟨hlt,by simp [h],fun q hq=>by simpa using hno q hq _ (List.getElem?_eq_getElem (by omega))⟩
   rw [hfd];exact ⟨by omega,rfl⟩
  ·have h:=of_decide_eq_false h
   rw [wrap_succ hlt (by omega)]
   refine ⟨⟨j+1,rfl,hlt,E2,fun q hq e he=>?_⟩,lt_dec hlt⟩
   by_cases hqj:q=j
   ·subst hqj;rw [List.getElem?_eq_getElem hlt] at he;cases he;exact h
   ·exact hno q (by omega) e he
 ·have hge:=eq_of_dec hlen hj h
  subst hge
  refine hK _ _ _ ⟨?_,El⟩
  have hfd:Sp.find L n=none:=find_none (fun e he=>by
   obtain ⟨q,hq,rfl⟩:=List.mem_iff_getElem.1 he
   exact hno q hq _ (List.getElem?_eq_getElem hq))
  rw [hfd];exact ⟨rfl,rfl⟩
end Go.Proofs
end
section
open Go Go.SE
namespace Go.Proofs
open Tryz
attribute [local irreducible] Calls
theorem append_in {P : Program} {t ty e : TypeId} {sz bytes : Nat} (T : SlType P t e sz bytes) {w : World} {p : Addr} {c : List Value} {Tp : TypeId} (hB : Box w p c Tp) {s : Sl} {rs : List (List Value)} (hR : Rws w e sz s rs) (hp : ¬ s.blk p.block) {a : Addr} {r : List Value} (hr : Row w a r) (hl : r.length = sz) (h1 : r.all oneCell = true) (hb : (rs.length + 1) * bytes ≤ 140737488355328) (hm : rs.length + 1 ≤ maxLen) :
  ∃s' w',(Builtin.append_ #[t,t] ty #[s.v,(Sl.mk (some a) 1 1).v]).run P w=.ok s'.v w'∧Rws w' e sz s' (rs++[r])∧Box w' p c Tp∧¬ s'.blk p.block∧Ext s.blk w w'∧(∀b,s'.blk b→s.blk b∨w.heap.size≤b):=by
 obtain ⟨s',w',hr',hR',hE,hb'⟩:=hR.append T (ty:=ty) (c:=1) hr hl h1 hb hm
 exact ⟨s',w',hr',hR',hB.ext hE hp,fun h=>(hb' _ h).elim hp (fun h=>by have:=hB.lt;omega),hE,hb'⟩
theorem plainErr_val (n:Sp.Node):Sp.plainErr n=53∨Sp.plainErr n=0:=by
 unfold Sp.plainErr;simp only;split
 ·exact .inl rfl
 ·exact .inr rfl
theorem c_ref05_Make (p : Addr) (n : Sp.Node) (w0 : World) {L : Sp.Pool} {F : NP} (hP : PoolR w0 p L F) (hok : Sp.Ok L) : Calls prog 113 #[.pointer (some p), nkey n] w0
  (fun e w'=>∃r1 r2:Int,e=.returned (.tuple #[.int .i64 r1,.int .i64 r2])∧((r1,r2)=((Sp.make L n).1,(Sp.make L n).2.1)∧∃F',PoolR w' p (Sp.make L n).2.2 F'∧Ext F w0 w'∧∀b,F' b→F b∨w0.heap.size≤b)):=by
 obtain ⟨k,f,t,u,x,a,b⟩:=n
 generalize hn:(⟨k,f,t,u,x,a,b⟩:Sp.Node)=n
 have hnk:nkey n=.agg #[.int .i64 k,.int .i64 f,.int .i64 t,.int .u64 u,.string x,.int .i64 a,.int .i64 b]:=by rw [← hn];rfl
 rw [hnk]
 suffices key:∀K:Int→Int→WP,(∀r1 r2 w',((r1,r2)=((Sp.make L n).1,(Sp.make L n).2.1)∧∃F',PoolR w' p (Sp.make L n).2.2 F'∧Ext F w0 w'∧∀b,F' b→F b∨w0.heap.size≤b)→K r1 r2 w')→m_O (some p) k f t u x a b w0 K from
  w_O _ _ _ _ _ _ _ _ w0 _ (key _ (fun _ _ _ h=>h))
 intro K hK
 have hsh:=ref05_shape n
 have hkd:=ref05_kids k
 rw [← hn] at hsh
 simp only at hsh
 rw [hn] at hsh
 have hna:n.a=a:=by rw [← hn]
 have hnb:n.b=b:=by rw [← hn]
 have hnkk:n.kind=k:=by rw [← hn]
 have hk:=Sp.kids_le k
 have same:∀(r1 r2:Int) (w':World),Pure w0 w'→Sp.make L n=(r1,r2,L)→K r1 r2 w':=fun r1 r2 w' E h=>hK _ _ _ ⟨by rw [h],F,by rw [h];exact hP.pure E,E.pure,fun b h=>.inl h⟩
 have bad:∀(er:Int) (w':World),er≠0→Pure w0 w'→Sp.check L n=(0,0,er)→K 0 er w':=fun er w' h0 E h=>same 0 er w' E (by unfold Sp.make;simp [h,h0])
 unfold m_O
 rw [hsh,hkd]
 have good:Sp.nodeErr n=0→Sp.check L n=(if (Sp.kidsOf n).any (fun t=>!Sp.inP L t) then (0,0,51) else if 1+((Sp.kidsOf n).map (Sp.sizeOf L)).sum>4096∨(Sp.kidsOf n).foldl (fun d t=>max d (Sp.depthOf L t)) 0+1>64 then (0,0,52) else (1+((Sp.kidsOf n).map (Sp.sizeOf L)).sum,(Sp.kidsOf n).foldl (fun d t=>max d (Sp.depthOf L t)) 0+1,0)):=by
  intro h
  unfold Sp.nodeErr at h
  unfold Sp.check
  split at h
  ·cases h
  ·rename_i h1
   simp only
   rw [if_neg h1]
   split at h
   ·cases h
   ·rename_i h2
    rw [if_neg h2,if_neg (by simpa using h)]
 refine ⟨fun h=>?_,fun h=>?_⟩
 ·intro H1 w2 hs2
  have h:Sp.nodeErr n≠0:=by simpa using h
  refine bad _ _ h hs2.first ?_
  unfold Sp.nodeErr at h ⊢
  unfold Sp.check
  by_cases h1:Sp.plainErr n≠0
  ·rw [if_pos h1,if_pos h1]
   have:Sp.plainErr n=53:=(plainErr_val n).resolve_right h1
   rw [this]
  ·rw [if_neg h1] at h ⊢
   simp only
   rw [if_neg h1]
   by_cases h2:((decide ((Sp.shapeOf n.kind).kids<1) && n.a != 0) || (decide ((Sp.shapeOf n.kind).kids<2) && n.b != 0))=true
   ·rw [if_pos h2,if_pos h2]
   ·rw [if_neg h2] at h ⊢;rw [if_neg h2,if_pos h]
 have h0:Sp.nodeErr n=0:=by simpa using h
 have hchk:=good h0
 have hzero:((Sp.shapeOf k).kids<1→a=0)∧((Sp.shapeOf k).kids<2→b=0):=by
  unfold Sp.nodeErr at h0
  split at h0
  ·cases h0
  ·split at h0
   ·cases h0
   ·rename_i _ h2
    rw [hnkk,hna,hnb] at h2
    simp at h2
    exact h2
 have hz0:Sp.inP L 0=false:=by simp [Sp.inP]
 have hs0:Sp.sizeOf L 0=0:=by simp [Sp.sizeOf,Sp.get,hz0]
 have hd0:Sp.depthOf L 0=0:=by simp [Sp.depthOf,Sp.get,hz0]
 have hsa:=hok.sizeOf a
 have hsb:=hok.sizeOf b
 have hda:=hok.depthOf a
 have hdb:=hok.depthOf b
 have hany:(Sp.kidsOf n).any (fun t=>!Sp.inP L t)=((decide (1≤(Sp.shapeOf k).kids) && !Sp.inP L a) || (decide ((Sp.shapeOf k).kids=2) && !Sp.inP L b)):=by
  unfold Sp.kidsOf;rw [hnkk,hna,hnb]
  rcases hk with h | h | h <;> rw [h] <;> simp
 have hsum:((Sp.kidsOf n).map (Sp.sizeOf L)).sum=Sp.sizeOf L a+Sp.sizeOf L b:=by
  unfold Sp.kidsOf;rw [hnkk,hna,hnb]
  rcases hk with h | h | h <;> rw [h] <;> simp
  ·rw [hzero.1 (by omega),hzero.2 (by omega),hs0];rfl
  ·rw [hzero.2 (by omega),hs0];omega
 have hmax:(Sp.kidsOf n).foldl (fun d t=>max d (Sp.depthOf L t)) 0=max (Sp.depthOf L a) (Sp.depthOf L b):=by
  unfold Sp.kidsOf;rw [hnkk,hna,hnb]
  rcases hk with h | h | h <;> rw [h] <;> simp
  ·rw [hzero.1 (by omega),hzero.2 (by omega),hd0];omega
  ·rw [hzero.2 (by omega),hd0];omega
  ·omega
 rw [hany,hsum,hmax] at hchk
 have J1:∀(x1:Bool) (H:NP) (w:World),Hst w0 H w H w→Pure w0 w→x1=((decide (1≤(Sp.shapeOf k).kids) && !Sp.inP L a) || (decide ((Sp.shapeOf k).kids=2) && !Sp.inP L b))→m_O_j1 (some p) k f t u x a b x1 w0 H w K:=by
  intro x1 H w hs E hx
  rw [← hx] at hchk
  unfold m_O_j1
  refine ⟨fun h=>bad 51 w (by omega) E (by rw [hchk,h];rfl),fun h=>?_⟩
  rw [h,if_neg (by simp)] at hchk
  refine ⟨fun _=>True,trivial,?_⟩
  rintro _ rfl
  have Ed:Pure w0 w.drew:=E.trans (Ext.drew w)
  refine (c_ref05_Size p a w.drew (hP.pure Ed) hok).mono ?_
  rintro _ _ ⟨_,rfl,rfl,rfl⟩
  refine ⟨_,rfl,trivial,Kept.refl _,?_⟩
  refine (c_ref05_Size p b w.drew (hP.pure Ed) hok).mono ?_
  rintro _ _ ⟨_,rfl,rfl,rfl⟩
  refine ⟨_,rfl,trivial,Kept.refl _,fun _=>True,trivial,?_⟩
  rintro _ rfl
  have Ed2:Pure w0 w.drew.drew:=Ed.trans (Ext.drew w.drew)
  refine (c_ref05_Depth p a w.drew.drew (hP.pure Ed2) hok).mono ?_
  rintro _ _ ⟨_,rfl,rfl,rfl⟩
  refine ⟨_,rfl,trivial,Kept.refl _,?_⟩
  refine (c_ref05_Depth p b w.drew.drew (hP.pure Ed2) hok).mono ?_
  rintro _ _ ⟨_,rfl,rfl,rfl⟩
  refine ⟨_,rfl,trivial,Kept.refl _,_,fun w' _=>run_max_int2 _ _ _ _ _ _ _,?_⟩
  have hmx:(if Sp.depthOf L b>Sp.depthOf L a then Sp.depthOf L b else Sp.depthOf L a)=max (Sp.depthOf L a) (Sp.depthOf L b):=by
   split <;> omega
  generalize hz:(if Sp.depthOf L b>Sp.depthOf L a then Sp.depthOf L b else Sp.depthOf L a)=z at *
  have hz64:0≤z∧z≤64:=by rw [hmx];omega
  have e1:IntKind.i64.wrap (IntKind.i64.wrap (1+Sp.sizeOf L a)+Sp.sizeOf L b)=1+(Sp.sizeOf L a+Sp.sizeOf L b):=by
   rw [i64 (n:=1+Sp.sizeOf L a) (by omega) (by omega),i64 (by omega) (by omega)];omega
  have e2:IntKind.i64.wrap (1+z)=z+1:=by rw [i64 (by omega) (by omega)];omega
  rw [e1,e2]
  rw [← hmx] at hchk
  rintro y1 rfl
  have hsx:Hst w0 H w.drew.drew H w.drew.drew:=(hs.drew.here.drew).here
  refine ⟨fun h=>?_,fun h=>?_⟩
  ·intro H2 w10 hs10
   refine bad 52 w10 (by omega) (Ed2.hst hs10) ?_
   rw [hchk,if_pos (by simpa using h)]
  ·intro H2 w10 hs10
   have hck:Sp.check L n=(1+(Sp.sizeOf L a+Sp.sizeOf L b),z+1,0):=by rw [hchk,if_neg (by simp at h;omega)]
   have E10:=Ed2.hst hs10
   rw [← hnk]
   refine (c_ref05_Has p n w10 (hP.pure E10) hok).mono ?_
   rintro _ w11 ⟨r,ok,rfl,hfd,E11⟩
   refine ⟨_,_,rfl,E11.keptP,?_⟩
   have E11':=E10.trans E11
   have hs11:Hst w0 H2 w11 H2 w11:=hs10.again E11.keptP
   cases hf:Sp.find L n with
   | some i =>
    rw [hf] at hfd
    obtain ⟨rfl,rfl⟩:=hfd
    exact Br.t rfl (same _ _ _ E11' (by unfold Sp.make;simp [hck,hf]))
   | none =>
    rw [hf] at hfd
    obtain ⟨rfl,rfl⟩:=hfd
    refine Br.f rfl ?_
    obtain ⟨s1,s2,s3,hS,hF⟩:=hP.pure E11'
    have hlen:s1.len=L.length:=by rw [hS.r1.len];simp
    refine ⟨p,rfl,s1,hS.box.cell0,fun h=>?_,fun h=>?_⟩
    ·have h2:65536≤L.length:=by have h:=of_decide_eq_true h;omega
     exact same _ _ _ E11' (by unfold Sp.make;simp [hck,hf,h2])
    ·have h2:¬ 65536≤L.length:=by have h:=of_decide_eq_false h;omega
     have hmk:Sp.make L n=((L.length:Int)+1,0,L++[⟨n,1+(Sp.sizeOf L a+Sp.sizeOf L b),z+1⟩]):=by unfold Sp.make;simp [hck,hf,h2]
     have hvis:∀b,F b→¬ H2 b:=fun b hb h2=>by have:=hP.lt hb;have:=hs11.old b h2;omega
     have hpF:F p.block:=(hF _).2 (.inl rfl)
     refine ⟨fun w'=>w'.cell? p=some s1.v,hS.box.cell0,?_⟩
     rintro _ rfl
     have E12:Pure w11 w11.drew:=Ext.drew w11
     refine ⟨p,rfl,s1,fun w' h'=>h',?_⟩
     intro p3 w13 h13
     have E13:Pure w11 w13:=E12.trans (Ext.new h13)
     have B13:=hS.box.pure E13
     refine ⟨B13.cell0,?_⟩
     obtain ⟨t1,w14,hr14,R14,B14,np1,X14,nb1⟩:=append_in (P:=prog) (ty:=41) slT_node B13 (hS.r1.pure E13) hS.n1 (a:=p3) (r:=nrow n) (by rw [← hn];exact (Box.of_new h13).row) rfl rfl (by simp;omega) (by simp [maxLen];omega)
     refine ⟨t1,w14,hr14,B14.cell0,X14.kept (fun b hb h=>hvis b ((hF b).2 (.inr (.inl h))) hb),p,rfl,B14.canW0 (by simp),hvis _ hpF,?_⟩
     rintro w15 hw15
     have B15:Box w15 p [t1.v,s2.v,s3.v] 44:=by rw [hw15];exact B14.set0
     have X15:Ext (·=p.block) w14 w15:=by rw [hw15];exact Ext.setCell p _
     clear hw15
     have R15:=R14.ext X15 (fun b hb e=>np1 (e▸hb))
     have R2:=((hS.r2.pure E13).ext X14 (fun b h2 h1=>hS.d12 b h1 h2)).ext X15 (fun b hb e=>hS.n2 (e▸hb))
     have R3:=((hS.r3.pure E13).ext X14 (fun b h2 h1=>hS.d13 b h1 h2)).ext X15 (fun b hb e=>hS.n3 (e▸hb))
     have d12':∀b,t1.blk b→¬ s2.blk b:=fun b hb h2=>(nb1 b hb).elim (fun h=>hS.d12 b h h2) (fun h=>by have:=hS.r2.lt h2;have:=E13.size;omega)
     have d13':∀b,t1.blk b→¬ s3.blk b:=fun b hb h2=>(nb1 b hb).elim (fun h=>hS.d13 b h h2) (fun h=>by have:=hS.r3.lt h2;have:=E13.size;omega)
     refine ⟨p,rfl,s2,B15.cell rfl,?_⟩
     intro p4 w16 h16
     have E16:Pure w15 w16:=Ext.new h16
     have B16:=B15.pure E16
     obtain ⟨t2,w17,hr17,R17,B17,np2,X17,nb2⟩:=append_in (P:=prog) (ty:=42) slT_int B16 (R2.pure E16) hS.n2 (a:=p4) (r:=[.int .i64 (1+(Sp.sizeOf L a+Sp.sizeOf L b))]) (Box.of_new h16).row rfl rfl (by simp;omega) (by simp [maxLen];omega)
     refine ⟨t2,w17,hr17,X17.kept (fun b hb h=>hvis b ((hF b).2 (.inr (.inr (.inl h)))) hb),p,rfl,B17.canW (by simp),by rw [add_block];exact hvis _ hpF,?_⟩
     rintro w18 hw18
     have B18:Box w18 p [t1.v,t2.v,s3.v] 44:=by rw [hw18];exact B17.set 1 _
     have X18:Ext (·=p.block) w17 w18:=by rw [hw18];have:=Ext.setCell (w:=w17) (p.add 1) t2.v;rw [add_block] at this;exact this
     clear hw18
     have Q1:=((R15.pure E16).ext X17 (fun b h1 h2=>d12' b h1 h2)).ext X18 (fun b hb e=>np1 (e▸hb))
     have Q2:=R17.ext X18 (fun b hb e=>np2 (e▸hb))
     have Q3:=((R3.pure E16).ext X17 (fun b h3 h2=>hS.d23 b h2 h3)).ext X18 (fun b hb e=>hS.n3 (e▸hb))
     have d12'':∀b,t1.blk b→¬ t2.blk b:=fun b hb h2=>(nb2 b h2).elim (fun h=>d12' b hb h) (fun h=>by have:=(R15.pure E16).lt hb;omega)
     have d23':∀b,t2.blk b→¬ s3.blk b:=fun b hb h2=>(nb2 b hb).elim (fun h=>hS.d23 b h h2) (fun h=>by have:=(R3.pure E16).lt h2;omega)
     refine ⟨p,rfl,s3,B18.cell rfl,?_⟩
     intro p5 w19 h19
     have E19:Pure w18 w19:=Ext.new h19
     have B19:=B18.pure E19
     obtain ⟨t3,w20,hr20,R20,B20,np3,X20,nb3⟩:=append_in (P:=prog) (ty:=42) slT_int B19 (Q3.pure E19) hS.n3 (a:=p5) (r:=[.int .i64 (z+1)]) (Box.of_new h19).row rfl rfl (by simp;omega) (by simp [maxLen];omega)
     refine ⟨t3,w20,hr20,X20.kept (fun b hb h=>hvis b ((hF b).2 (.inr (.inr (.inr h)))) hb),p,rfl,B20.canW (by simp),by rw [add_block];exact hvis _ hpF,?_⟩
     rintro w21 hw21
     have B21:Box w21 p [t1.v,t2.v,t3.v] 44:=by rw [hw21];exact B20.set 2 _
     have X21:Ext (·=p.block) w20 w21:=by rw [hw21];have:=Ext.setCell (w:=w20) (p.add 2) t3.v;rw [add_block] at this;exact this
     clear hw21
     have d13'':∀b,t1.blk b→¬ t3.blk b:=fun b hb h2=>(nb3 b h2).elim (fun h=>d13' b hb h) (fun h=>by have:=(Q1.pure E19).lt hb;omega)
     have d23'':∀b,t2.blk b→¬ t3.blk b:=fun b hb h2=>(nb3 b h2).elim (fun h=>d23' b hb h) (fun h=>by have:=(Q2.pure E19).lt hb;omega)
     have Z1:=((Q1.pure E19).ext X20 (fun b h1 h2=>d13' b h1 h2)).ext X21 (fun b hb e=>np1 (e▸hb))
     have Z2:=((Q2.pure E19).ext X20 (fun b h1 h2=>d23' b h1 h2)).ext X21 (fun b hb e=>np2 (e▸hb))
     have Z3:=R20.ext X21 (fun b hb e=>np3 (e▸hb))
     have hl1:(t1.len:Int)=L.length+1:=by rw [R14.len];simp
     refine ⟨p,rfl,t1,B21.cell0,?_⟩
     rw [hl1]
     refine hK _ _ _ ⟨by rw [hmk],fun b=>b=p.block∨t1.blk b∨t2.blk b∨t3.blk b,?_,?_,?_⟩
     ·rw [hmk]
      exact ⟨t1,t2,t3,⟨B21,by simpa [rnode] using Z1,by simpa [rsize] using Z2,by simpa [rdepth] using Z3,np1,np2,np3,d12'',d13'',d23''⟩,fun _=>Iff.rfl⟩
     ·have a1:Ext F w0 w14:=(E11'.trans E13).pure.trans' X14 (fun i _ h=>(hF i).2 (.inr (.inl h)))
      have a2:Ext F w0 w15:=a1.trans' X15 (fun i _ h=>(hF i).2 (.inl h))
      have a3:Ext F w0 w17:=(a2.thenPure E16).trans' X17 (fun i _ h=>(hF i).2 (.inr (.inr (.inl h))))
      have a4:Ext F w0 w18:=a3.trans' X18 (fun i _ h=>(hF i).2 (.inl h))
      have a5:Ext F w0 w20:=(a4.thenPure E19).trans' X20 (fun i _ h=>(hF i).2 (.inr (.inr (.inr h))))
      exact a5.trans' X21 (fun i _ h=>(hF i).2 (.inl h))
     ·have z13:w0.heap.size≤w13.heap.size:=(E11'.trans E13).size
      have z16:w0.heap.size≤w16.heap.size:=by have:=X14.size;have:=X15.size;have:=E16.size;omega
      have z19:w0.heap.size≤w19.heap.size:=by have:=X17.size;have:=X18.size;have:=E19.size;omega
      rintro b (rfl | hb | hb | hb)
      ·exact .inl hpF
      ·exact (nb1 b hb).imp (fun h=>(hF b).2 (.inr (.inl h))) (fun h=>by omega)
      ·exact (nb2 b hb).imp (fun h=>(hF b).2 (.inr (.inr (.inl h)))) (fun h=>by omega)
      ·exact (nb3 b hb).imp (fun h=>(hF b).2 (.inr (.inr (.inr h)))) (fun h=>by omega)
 have J2:∀(x2:Bool) (H:NP) (w:World),Hst w0 H w H w→Pure w0 w→x2=(decide (1≤(Sp.shapeOf k).kids) && !Sp.inP L a)→m_O_j2 (some p) k f t u x a b x2 w0 H w K:=by
  intro x2 H w hs E hx
  unfold m_O_j2
  rw [hkd]
  refine ⟨fun h=>J1 true H w hs E (by rw [← hx,h];rfl),fun h=>⟨fun h2=>?_,fun h2=>J1 false H w hs E ?_⟩⟩
  ·refine (c_ref05_In p b w (hP.pure E)).mono ?_
   rintro _ _ ⟨_,rfl,rfl,rfl⟩
   refine ⟨_,rfl,Kept.refl _,J1 _ H _ hs E ?_⟩
   have h2:(Sp.shapeOf k).kids=2:=by simpa using h2
   rw [← hx,h];simp [h2]
  ·have h2:(Sp.shapeOf k).kids≠2:=by simpa using h2
   rw [← hx,h];simp [h2]
 refine ⟨fun h=>?_,fun h=>?_⟩
 ·intro H1 w3 hs3
  refine (c_ref05_In p a w3 (hP.pure hs3.first)).mono ?_
  rintro _ _ ⟨_,rfl,rfl,rfl⟩
  refine ⟨_,rfl,Kept.refl _,J2 _ H1 _ hs3.here hs3.first ?_⟩
  have:1≤(Sp.shapeOf k).kids:=by have:=of_decide_eq_true h;omega
  simp [this]
 ·intro H1 w3 hs3
  refine J2 _ H1 _ hs3.here hs3.first ?_
  have:¬ 1≤(Sp.shapeOf k).kids:=by have:=of_decide_eq_false h;omega
  simp [this]
end Go.Proofs
end
section
open Go Go.SE
namespace Go.Proofs
open Tryz
attribute [local irreducible] Calls
theorem fieldsErr_ne (s:Sp.Shape) (n:Sp.Node):Sp.fieldsErr s n≠53:=by
 unfold Sp.fieldsErr
 split
 ·omega
 ·split <;> omega
theorem ownErr_eq (k f t u:Int) (x:ByteArray) (len:Nat):Sp.ownErr ⟨k,f,t,u,x,0,0⟩ len=(if (Sp.nodeErr ⟨k,f,t,u,x,0,0⟩≠53∧(len:Int)≠(Sp.shapeOf k).kids) then 53 else Sp.nodeErr ⟨k,f,t,u,x,0,0⟩):=by
 unfold Sp.ownErr Sp.nodeErr
 simp only
 rcases plainErr_val ⟨k,f,t,u,x,0,0⟩ with h | h
 ·rw [h];simp
 ·rw [h]
  have:=fieldsErr_ne (Sp.shapeOf k) ⟨k,f,t,u,x,0,0⟩
  by_cases h2:(len:Int)=(Sp.shapeOf k).kids <;> simp [h2,this]
theorem c_ref05_looked {S : NP} (q : Addr) (hq : ¬ S q.block) (T : TypeId) (t : Sp.Tree) : ∀ (s : Sl) (inside seen : Int) (w0 : World), 0 ≤ inside → 0 ≤ seen → TreeAt S w0 s t → (∀ b, S b → b < w0.heap.size) → Box w0 q [.int .i64 seen] T →
  Calls prog 203 #[.agg (trow t s).toArray,.int .i64 inside,.pointer (some q)] w0
   (fun e w'=>∃r:Int,e=.returned (.int .i64 r)∧(r=(Sp.looks inside seen t).1∧Box w' q [.int .i64 (Sp.looks inside seen t).2] T∧Ext (·=q.block) w0 w')):=by
 induction t using Sp.Tree.ind with
 | h k f t u x ks ih =>
 intro s inside seen w0 hi0 hn0 hT hSw hB
 suffices key:∀K:Int→WP,(∀r w',(r=(Sp.looks inside seen (.mk k f t u x ks)).1∧Box w' q [.int .i64 (Sp.looks inside seen (.mk k f t u x ks)).2] T∧Ext (·=q.block) w0 w')→K r w')→m_T k f t u x s inside (some q) w0 K from
  w_T _ _ _ _ _ _ _ _ w0 _ (key _ (fun _ _ h=>h))
 intro K hK
 have hql:=hB.lt
 unfold m_T
 refine ⟨q,rfl,?_⟩
 intro H1 w1 hs1
 have hB1:=hB.pure hs1.first
 refine ⟨seen,hB1.cell0,?_⟩
 intro H5 w13 hs5
 have E13:=hs1.first.hst hs5
 have hB13:=hB.pure E13
 have hq0:∀{H w' H' w''},Hst w0 H w' H' w''→¬ H' q.block:=fun h hh=>by have:=h.old _ hh;omega
 unfold m_T_j1
 refine ⟨fun h=>?_,fun h=>?_⟩
 ·have : Sp.looks inside seen (.mk k f t u x ks) = (52, seen) := by
   rw [Sp.looks]
   simp only [Bool.or_eq_true,decide_eq_true_eq] at h
   by_cases h1:4096≤seen
   ·rw [if_pos h1]
   ·rw [if_neg h1,if_pos (by omega)]
  rw [this] at hK;exact hK _ _ ⟨rfl,hB13,E13.pure⟩
 ·have h1 : ¬ 4096 ≤ seen ∧ ¬ 64 ≤ inside := by
   simp only [Bool.or_eq_false_iff,decide_eq_false_iff_not] at h;omega
  have hsp:Sp.looks inside seen (.mk k f t u x ks)=Sp.looksAll (inside+1) (Sp.ownErr ⟨k,f,t,u,x,0,0⟩ ks.length) (seen+1) ks:=by rw [Sp.looks,if_neg h1.1,if_neg h1.2]
  rw [hsp] at hK
  have hlen:s.len=ks.length:=by cases hT;assumption
  have hfit:ks.length≤9223372036854775807:=by cases hT;assumption
  refine ⟨q,rfl,seen,hB13.cell0,q,rfl,hB13.canW0 (by simp),hq0 hs5,?_⟩
  rw [i64 (n:=seen+1) (by omega) (by omega)]
  rintro w2 hw2
  have hB2:Box w2 q [.int .i64 (seen+1)] T:=by rw [hw2];exact hB13.set0
  have E2:Ext (·=q.block) w0 w2:=by rw [hw2];exact E13.pure.trans (Ext.setCell q _)
  clear hw2
  rintro y1 rfl
  have hsh:=ref05_shape ⟨k,f,t,u,x,0,0⟩
  simp only at hsh
  rw [hsh,ref05_kids,hlen]
  have hown:cond ((Sp.nodeErr ⟨k,f,t,u,x,0,0⟩ != 53) && ((ks.length:Int) != (Sp.shapeOf k).kids)) 53 (Sp.nodeErr ⟨k,f,t,u,x,0,0⟩)=Sp.ownErr ⟨k,f,t,u,x,0,0⟩ ks.length:=by
   rw [ownErr_eq]
   by_cases h2:Sp.nodeErr ⟨k,f,t,u,x,0,0⟩=53
   ·simp [h2]
   ·by_cases h3:(ks.length:Int)=(Sp.shapeOf k).kids
    ·simp [h3]
    ·have e1:(Sp.nodeErr ⟨k,f,t,u,x,0,0⟩ != 53)=true:=by simpa using h2
     have e2:((ks.length:Int) != (Sp.shapeOf k).kids)=true:=by simpa using h3
     rw [e1,e2,if_pos ⟨h2,h3⟩];rfl
  rw [hown]
  intro H3 w10 hs3
  have E10:Ext (·=q.block) w0 w10:=E2.hst hs3
  have hB10:=hB2.ext hs3.ext (hq0 hs3)
  refine ⟨fun e i H w'=>∃j:Nat,i=j∧j≤ks.length∧∃n:Int,0≤n∧Ext (·=q.block) w0 w'∧Box w' q [.int .i64 n] T∧Sp.looksAll (inside+1) e n (ks.drop j)=Sp.looksAll (inside+1) (Sp.ownErr ⟨k,f,t,u,x,0,0⟩ ks.length) (seen+1) ks,fun _ i _=>((ks.length:Int) - i).toNat,⟨0,rfl,Nat.zero_le _,seen+1,by omega,E10,hB10,rfl⟩,?_⟩
  rintro e1 _ Hl wl hl ⟨j,rfl,hj,n,hn,El,hBl,heq⟩
  unfold m_T_l2
  have hTl:=hT.ext El (fun b hb e=>hq (e▸hb))
  refine ⟨fun hc=>?_,fun hc=>?_⟩
  ·simp only [Bool.and_eq_true,beq_iff_eq] at hc
   obtain ⟨he,hlt⟩:=hc
   have hlt:=lt_of_dec hlen hlt
   subst he
   cases hTl with
   | mk _ _ _ _ _ _ _ rs len fit row kid =>
   obtain ⟨a,hat,ha,hr⟩:=row j hlt
   refine ⟨a,hat,?_⟩
   intro H4 w11 hs4
   have E11:=El.hst hs4
   have hT11:=hT.ext E11 (fun b hb e=>hq (e▸hb))
   have hr11:Row w11 a (trow ks[j] (rs j)):=hs4.ext.row hr (fun hh=>by have:=hs4.old _ hh;have:=hSw _ ha;omega)
   have hk11:TreeAt S w11 (rs j) ks[j]:=(kid j hlt).ext hs4.ext (fun b hb hh=>by have:=hs4.old _ hh;have:=hSw _ hb;omega)
   have hB11:=hBl.ext hs4.ext (hq0 hs4)
   refine ⟨_,_,_,_,_,rs j,hr11,?_⟩
   rw [i64 (n:=inside+1) (by omega) (by omega)]
   refine (ih j hlt (rs j) (inside+1) n w11 (by omega) hn hk11 (fun b hb=>by have:=hSw b hb;have:=E11.size;omega) hB11).mono ?_
   rintro _ w12 ⟨r,rfl,rfl,hB12,E12⟩
   refine ⟨_,rfl,E12.kept (fun b hb e=>hq0 hs4 (e▸hb)),?_⟩
   rw [wrap_succ hlt (by omega)]
   refine ⟨⟨j+1,rfl,hlt,_,looks_mono ks[j] (inside+1) n hn,E11.trans E12,hB12,?_⟩,lt_dec hlt⟩
   rw [← heq];exact (looksAll_drop hlt (inside+1) n).symm
  ·intro H4 w11 hs4
   have hfin:Sp.looksAll (inside+1) e1 n (ks.drop j)=(e1,n):=by
    by_cases he:e1=0
    ·have hge : j = ks.length := by
      rw [he] at hc
      have hc:decide ((j:Int)<(s.len:Int))=false:=by simpa using hc
      exact eq_of_dec hlen hj hc
     rw [hge,List.drop_length];rfl
    ·exact looksAll_bad he _ _
   rw [hfin] at heq
   refine hK _ _ ⟨by rw [← heq],?_,El.hst hs4⟩
   rw [← heq];exact hBl.ext hs4.ext (hq0 hs4)
theorem c_ref05_Looks {S : NP} (t : Sp.Tree) (s : Sl) (w0 : World) (hT : TreeAt S w0 s t) (hSw : ∀ b, S b → b < w0.heap.size) :
  Calls prog 147 #[.agg (trow t s).toArray] w0 (fun e w'=>∃r:Int,e=.returned (.int .i64 r)∧(r=(Sp.looks 0 0 t).1∧Pure w0 w')):=by
 obtain ⟨k,f,to,u,x,ks⟩:=t
 refine w_E4 _ _ _ _ _ _ w0 (fun r w'=>r=(Sp.looks 0 0 (.mk k f to u x ks)).1∧Pure w0 w') ?_
 unfold m_E4
 intro H1 w1 hs1 p w2 h2
 have b2:=Box.of_new h2
 have E2:Pure w0 w2:=hs1.first.trans (Ext.new h2)
 have o2:=New.own hs1.first h2
 have hpH:¬ H1 p.block:=fun hh=>by have:=hs1.lt _ hh;have:=h2.at_size;omega
 refine ⟨b2.canW0 (by simp),hpH,?_⟩
 rintro w3 hw3
 have b3:Box w3 p [.int .i64 0] 3:=by rw [hw3];exact b2.set0
 have E3:Pure w0 w3:=by rw [hw3];exact E2.own o2 (Ext.setCell p _)
 clear hw3
 refine (c_ref05_looked p (fun h=>by have:=hSw _ h;omega) _ _ s 0 0 w3 (Int.le_refl _) (Int.le_refl _) (hT.pure E3) (fun b hb=>by have:=hSw b hb;have:=E3.size;omega) b3).mono ?_
 rintro _ w4 ⟨r,rfl,rfl,_,E4⟩
 exact ⟨_,rfl,E4.kept (fun b hb e=>hpH (e▸hb)),rfl,E3.own o2 E4⟩
end Go.Proofs
end
section
open Go Go.SE
namespace Go.Proofs
open Tryz
attribute [local irreducible] Calls
theorem c_ref05_cut (p : Addr) (n : Nat) (w0 : World) {L : Sp.Pool} {F : NP} (hP : PoolR w0 p L F) (hn : n ≤ L.length) :
  Calls prog 149 #[.pointer (some p),.int .i64 n] w0 (fun e w'=>e=.returned (.tuple #[])∧PoolR w' p (L.take n) F∧Ext F w0 w'):=by
 suffices key:∀K:WP,(∀w',PoolR w' p (L.take n) F∧Ext F w0 w'→K w')→m_I2 (some p) n w0 K from
  w_I2 _ _ w0 _ (key _ (fun _ h=>h))
 intro K hK
 unfold m_I2
 obtain ⟨s1,s2,s3,hS,hF⟩:=hP
 obtain ⟨t1,hr1,R1,hb1⟩:=Rws.hi (P:=prog) slT_node hS.r1 (k:=.i64) (n:=n) (by omega) (by simpa using hn)
 refine ⟨p,rfl,s1,hS.box.cell0,t1,hr1,p,rfl,hS.box.canW0 (by simp),?_⟩
 rintro w1 hw1
 have B1:Box w1 p [t1.v,s2.v,s3.v] 44:=by rw [hw1];exact hS.box.set0
 have X1:Ext (·=p.block) w0 w1:=by rw [hw1];exact Ext.setCell p _
 clear hw1
 obtain ⟨t2,hr2,R2,hb2⟩:=Rws.hi (P:=prog) slT_int (hS.r2.ext X1 (fun b hb e=>hS.n2 (e▸hb))) (k:=.i64) (n:=n) (by omega) (by simpa using hn)
 refine ⟨p,rfl,s2,B1.cell rfl,t2,hr2,p,rfl,B1.canW (by simp),?_⟩
 rintro w2 hw2
 have B2:Box w2 p [t1.v,t2.v,s3.v] 44:=by rw [hw2];exact B1.set 1 _
 have X2:Ext (·=p.block) w1 w2:=by rw [hw2];have:=Ext.setCell (w:=w1) (p.add 1) t2.v;rw [add_block] at this;exact this
 clear hw2
 obtain ⟨t3,hr3,R3,hb3⟩:=Rws.hi (P:=prog) slT_int (hS.r3.ext (X1.trans X2) (fun b hb e=>hS.n3 (e▸hb))) (k:=.i64) (n:=n) (by omega) (by simpa using hn)
 refine ⟨p,rfl,s3,B2.cell rfl,t3,hr3,p,rfl,B2.canW (by simp),?_⟩
 rintro w3 hw3
 have B3:Box w3 p [t1.v,t2.v,t3.v] 44:=by rw [hw3];exact B2.set 2 _
 have X3:Ext (·=p.block) w2 w3:=by rw [hw3];have:=Ext.setCell (w:=w2) (p.add 2) t3.v;rw [add_block] at this;exact this
 clear hw3
 have E:=(X1.trans X2).trans X3
 refine hK _ ⟨⟨t1,t2,t3,⟨B3,?_,?_,?_,fun h=>hS.n1 ((hb1 _).1 h),fun h=>hS.n2 ((hb2 _).1 h),fun h=>hS.n3 ((hb3 _).1 h),fun b h1 h2=>hS.d12 b ((hb1 b).1 h1) ((hb2 b).1 h2),fun b h1 h2=>hS.d13 b ((hb1 b).1 h1) ((hb3 b).1 h2),fun b h1 h2=>hS.d23 b ((hb2 b).1 h1) ((hb3 b).1 h2)⟩,fun b=>by rw [hF b,hb1 b,hb2 b,hb3 b]⟩,E.mono (fun i _ h=>(hF i).2 (.inl h))⟩
 ·have:=R1.ext E (fun b hb e=>hS.n1 ((hb1 _).1 (e▸hb)))
  rw [List.map_take];simpa using this
 ·have:=R2.ext (X2.trans X3) (fun b hb e=>hS.n2 ((hb2 _).1 (e▸hb)))
  rw [List.map_take];simpa using this
 ·have:=R3.ext X3 (fun b hb e=>hS.n3 ((hb3 _).1 (e▸hb)))
  rw [List.map_take];simpa using this
theorem c_ref05_made {S : NP} (p : Addr) (t : Sp.Tree) : ∀ (s : Sl) (w0 : World) (L : Sp.Pool) (F : NP), Sp.Tree.two t → TreeAt S w0 s t → PoolR w0 p L F → Sp.Ok L → (∀ b, F b → ¬ S b) → (∀ b, S b → b < w0.heap.size) →
  Calls prog 148 #[.pointer (some p),.agg (trow t s).toArray] w0
   (fun e w'=>∃r1:Int,∃r2:Int,e=.returned (.tuple #[.int .i64 r1,.int .i64 r2])∧((r1,r2)=((Sp.grow L t).1,(Sp.grow L t).2.1)∧∃F',PoolR w' p (Sp.grow L t).2.2 F'∧Ext F w0 w'∧∀b,F' b→F b∨w0.heap.size≤b)):=by
 induction t using Sp.Tree.ind with
 | h k f t u x ks ih =>
 intro s w0 L F h2 hT hP hok hFS hSw
 suffices key:∀K:Int→Int→WP,(∀r1 r2 w',((r1,r2)=((Sp.grow L (.mk k f t u x ks)).1,(Sp.grow L (.mk k f t u x ks)).2.1)∧∃F',PoolR w' p (Sp.grow L (.mk k f t u x ks)).2.2 F'∧Ext F w0 w'∧∀b,F' b→F b∨w0.heap.size≤b)→K r1 r2 w')→m_O1 (some p) k f t u x s w0 K from
  w_O1 _ _ _ _ _ _ _ w0 _ (key _ (fun _ _ _ h=>h))
 intro K hK
 obtain ⟨hk2,hall⟩:=two_mk.1 h2
 have hsp:Sp.grow L (.mk k f t u x ks)=Sp.growAll ⟨k,f,t,u,x,0,0⟩ 0 L ks:=by rw [Sp.grow]
 rw [hsp] at hK
 have hlen:s.len=ks.length:=by cases hT;assumption
 unfold m_O1
 intro H2 w4 hs4
 refine ⟨fun i a1 a2 a3 a4 a5 a6 a7 H w'=>∃j:Nat,i=j∧j≤ks.length∧∃(L':Sp.Pool) (F':NP),Sp.growAll ⟨k,f,t,u,x,0,0⟩ 0 L ks=Sp.growAll ⟨a1,a2,a3,a4,a5,a6,a7⟩ j L' (ks.drop j)∧Sp.Ok L'∧PoolR w' p L' F'∧(∀b,F' b→F b∨w0.heap.size≤b)∧(∀b,F' b→¬ H b)∧Ext F w0 w',fun i _ _ _ _ _ _ _ _=>((ks.length:Int) - i).toNat,
  ⟨0,rfl,Nat.zero_le _,L,F,by simp,hok,hP.pure hs4.first,fun b h=>.inl h,hs4.disj0 (fun b hb=>hP.lt hb),hs4.first.pure⟩,?_⟩
 rintro _ a1 a2 a3 a4 a5 a6 a7 Hl wl hl ⟨j,rfl,hj,L',F',heq,hok',hPl,hF',hv,El⟩
 unfold m_O1_l1
 refine ⟨fun h=>?_,fun h=>?_⟩
 ·have hlt:=lt_of_dec hlen h
  have hTl:TreeAt S wl s (.mk k f t u x ks):=hT.ext El (fun b hs hf=>hFS b hf hs)
  have hkid:∃a r,At s j 6 a∧Row wl a (trow ks[j] r)∧TreeAt S wl r ks[j]:=by
   cases hTl with
   | mk _ _ _ _ _ _ _ rs len fit row kid=>exact let ⟨a,h1,_,h3⟩:=row j hlt;⟨a,rs j,h1,h3,kid j hlt⟩
  obtain ⟨a,r,hat,hrow,hTk⟩:=hkid
  refine ⟨a,hat,_,_,_,_,_,r,hrow,?_⟩
  have hsz:w0.heap.size≤wl.heap.size:=El.size
  refine (ih j hlt r wl L' F' (twoAll_get hall hlt) hTk hPl hok' (fun b hb hs=>(hF' b hb).elim (fun h=>hFS b h hs) (fun h=>by have:=hSw b hs;omega)) (fun b hs=>by have:=hSw b hs;omega)).mono ?_
  rintro _ w8 ⟨r1,r2,rfl,hr,F8,hP8,E8,hF8⟩
  have e1:r1=(Sp.grow L' ks[j]).1:=congrArg Prod.fst hr
  have e2:r2=(Sp.grow L' ks[j]).2.1:=congrArg Prod.snd hr
  rw [List.drop_eq_getElem_cons hlt] at heq
  have hF8':∀b,F8 b→F b∨w0.heap.size≤b:=fun b hb=>(hF8 b hb).elim (hF' b) (fun h=>by right;omega)
  have Ew8:Ext F w0 w8:=El.trans' E8 (fun i hi h=>(hF' i h).elim id (fun h=>by omega))
  refine ⟨_,_,rfl,E8.kept (fun b hH hF=>hv b hF hH),fun h=>?_,fun h=>?_⟩
  ·have h:(Sp.grow L' ks[j]).2.1≠0:=by rw [← e2];simpa using h
   rw [growAll_bad h] at heq
   refine hK _ _ _ ?_
   rw [heq];exact ⟨by rw [e2],F8,hP8,Ew8,hF8'⟩
  ·have h:(Sp.grow L' ks[j]).2.1=0:=by rw [← e2];simpa using h
   rw [growAll_good h] at heq
   intro H3 w9 hs9
   have hv8:∀b,F8 b→¬ Hl b:=fun b hb hH=>(hF8 b hb).elim (fun h=>hv b h hH) (fun h=>by have:=hl.lt b hH;omega)
   have hv9:∀b,F8 b→¬ H3 b:=hs9.disj (fun b hb=>⟨hP8.lt hb,hv8 b hb⟩)
   rw [wrap_succ hlt (by omega)]
   refine ⟨⟨j+1,rfl,hlt,_,F8,?_,(Sp.grow_facts ks[j] L' hok').1,hP8.ext hs9.ext hv9,hF8',hv9,Ew8.hst hs9⟩,lt_dec hlt⟩
   rw [heq,e1]
   have hj0:(((j:Int)) == 0)=decide (j=0):=by rw [Bool.eq_iff_iff];simp
   rw [hj0]
   by_cases hj0':j=0
   ·subst hj0';rfl
   ·simp [hj0']
 ·have hge:=eq_of_dec hlen hj h
  rw [hge,List.drop_length,Sp.growAll] at heq
  refine (c_ref05_Make p ⟨a1,a2,a3,a4,a5,a6,a7⟩ wl hPl hok').mono ?_
  rintro _ w9 ⟨r1,r2,rfl,hr,F9,hP9,E9,hF9⟩
  have hsz:w0.heap.size≤wl.heap.size:=El.size
  refine ⟨_,_,rfl,E9.kept (fun b hH hF=>hv b hF hH),hK _ _ _ ?_⟩
  rw [heq]
  exact ⟨hr,F9,hP9,El.trans' E9 (fun i hi h=>(hF' i h).elim id (fun h=>by omega)),fun b hb=>(hF9 b hb).elim (hF' b) (fun h=>by right;omega)⟩
theorem grow_bad_term (t:Sp.Tree):∀L,(Sp.grow L t).2.1≠0→(Sp.grow L t).1=0:=by
 induction t using Sp.Tree.ind with
 | h k f t u x ks ih =>
  have hmk:∀L n,(Sp.make L n).2.1≠0→(Sp.make L n).1=0:=by
   intro L n h
   unfold Sp.make at h ⊢
   simp only at h ⊢
   split at h
   ·rename_i h1;rw [if_pos h1]
   ·rename_i h1
    rw [if_neg h1]
    split at h
    ·rename_i hf;exact absurd rfl h
    ·split at h
     ·rename_i h2;simp [h2]
     ·exact absurd rfl h
  have:∀(ks:List Sp.Tree),(∀i (hi:i<ks.length),∀L,(Sp.grow L ks[i]).2.1≠0→(Sp.grow L ks[i]).1=0)→∀n i L,(Sp.growAll n i L ks).2.1≠0→(Sp.growAll n i L ks).1=0:=by
   intro ks
   induction ks with
   | nil=>intro _ n i L h;unfold Sp.growAll at h ⊢;exact hmk L n h
   | cons t ts iht =>
    intro hh n i L h
    unfold Sp.growAll at h ⊢
    split at h
    ·rename_i h1;rw [if_pos h1]
    ·rename_i h1;rw [if_neg h1];exact iht (fun i hi=>hh (i+1) (by simpa using hi)) _ _ _ h
  intro L h
  unfold Sp.grow at h ⊢
  exact this ks ih _ _ L h
theorem c_ref05_Of {S : NP} (p : Addr) (t : Sp.Tree) (s : Sl) (w0 : World) {L : Sp.Pool} {F : NP} (hT : TreeAt S w0 s t) (hP : PoolR w0 p L F) (hok : Sp.Ok L) (hFS : ∀ b, F b → ¬ S b) (hSw : ∀ b, S b → b < w0.heap.size) :
  Calls prog 78 #[.pointer (some p),.agg (trow t s).toArray] w0
   (fun e w'=>∃r1:Int,∃r2:Int,e=.returned (.tuple #[.int .i64 r1,.int .i64 r2])∧((r1,r2)=((Sp.of L t).1,(Sp.of L t).2.1)∧∃F',PoolR w' p (Sp.of L t).2.2 F'∧Ext F w0 w'∧∀b,F' b→F b∨w0.heap.size≤b)):=by
 obtain ⟨k,f,to,u,x,ks⟩:=t
 suffices key:∀K:Int→Int→WP,(∀r1 r2 w',((r1,r2)=((Sp.of L (.mk k f to u x ks)).1,(Sp.of L (.mk k f to u x ks)).2.1)∧∃F',PoolR w' p (Sp.of L (.mk k f to u x ks)).2.2 F'∧Ext F w0 w'∧∀b,F' b→F b∨w0.heap.size≤b)→K r1 r2 w')→m_J2 (some p) k f to u x s w0 K from
  w_J2 _ _ _ _ _ _ _ w0 _ (key _ (fun _ _ _ h=>h))
 intro K hK
 unfold m_J2
 intro H1 w1 hs1
 have E1:=hs1.first
 generalize ht:Sp.Tree.mk k f to u x ks=t at *
 have htr:(Value.agg #[.int .i64 k,.int .i64 f,.int .i64 to,.int .u64 u,.string x,s.v])=.agg (trow t s).toArray:=by rw [← ht];rfl
 rw [htr]
 refine (c_ref05_Looks t s w1 (hT.pure E1) (fun b hb=>by have:=hSw b hb;have:=E1.size;omega)).mono ?_
 rintro _ w2 ⟨r1,rfl,rfl,E2⟩
 have E12:=E1.trans E2
 refine ⟨_,rfl,E2.keptP,fun h=>?_,fun h=>?_⟩
 ·have h:(Sp.looks 0 0 t).1≠0:=by simpa using h
  have:Sp.of L t=(0,(Sp.looks 0 0 t).1,L):=by rw [Sp.of,if_pos h]
  refine hK _ _ _ ?_
  rw [this];exact ⟨rfl,F,hP.pure E12,E12.pure,fun _ h=>.inl h⟩
 ·have h:(Sp.looks 0 0 t).1=0:=by simpa using h
  have hP2:=hP.pure E12
  have hv:∀b,F b→¬ H1 b:=hs1.disj0 (fun b hb=>hP.lt hb)
  obtain ⟨s1,s2,s3,hS,hF0⟩:=id hP2
  have hl0:s1.len=L.length:=by rw [hS.r1.len];simp
  refine ⟨p,rfl,s1,hS.box.cell0,?_⟩
  refine (c_ref05_made p t s w2 L F (looks_two t _ _ h) (hT.pure E12) hP2 hok hFS (fun b hb=>by have:=hSw b hb;have:=E12.size;omega)).mono ?_
  rintro _ w5 ⟨r1,r2,rfl,hr,F5,hP5,E5,hF5⟩
  have e1:r1=(Sp.grow L t).1:=congrArg Prod.fst hr
  have e2:r2=(Sp.grow L t).2.1:=congrArg Prod.snd hr
  have hs4:w0.heap.size≤w2.heap.size:=E12.size
  have E05:Ext F w0 w5:=E12.pure.trans E5
  have hF5':∀b,F5 b→F b∨w0.heap.size≤b:=fun b hb=>(hF5 b hb).elim .inl (fun h=>.inr (by omega))
  have hs2:=hs1.again E2.keptP
  have hv5:∀b,F5 b→¬ H1 b:=fun b hb hH=>(hF5 b hb).elim (fun h=>hv b h hH) (fun h=>by have:=hs2.lt b hH;omega)
  refine ⟨_,_,rfl,E5.kept (fun b hH hF=>hv b hF hH),fun h'=>?_,fun h'=>?_⟩
  ·have h':(Sp.grow L t).2.1≠0:=by rw [← e2];simpa using h'
   obtain ⟨hok5,M,hM⟩:=Sp.grow_facts t L hok
   rw [hl0]
   refine (c_ref05_cut p L.length w5 hP5 (by rw [hM];simp)).mono ?_
   rintro _ w6 ⟨rfl,hP6,E6⟩
   have:Sp.of L t=(0,(Sp.grow L t).2.1,L):=by rw [Sp.of,if_neg (by simp [h]),if_pos h']
   refine ⟨rfl,E6.kept (fun b hH hF=>hv5 b hF hH),hK _ _ _ ?_⟩
   rw [this]
   rw [hM,List.take_left] at hP6
   exact ⟨by rw [e1,e2,grow_bad_term t L h'],F5,hP6,E05.trans' E6 (fun i hi h=>(hF5' i h).elim id (fun h=>by omega)),hF5'⟩
  ·have h':(Sp.grow L t).2.1=0:=by rw [← e2];simpa using h'
   have:Sp.of L t=((Sp.grow L t).1,0,(Sp.grow L t).2.2):=by rw [Sp.of,if_neg (by simp [h]),if_neg (by simp [h'])]
   refine hK _ _ _ ?_
   rw [this]
   exact ⟨by rw [e1,e2,h'],F5,hP5,E05,hF5'⟩
end Go.Proofs
end
section
open Go Go.SE
namespace Go.Proofs
open Tryz
attribute [local irreducible] Calls
theorem TreeAt.hst {S:NP} {w0 w w':World} {H H':NP} {s:Sl} {t:Sp.Tree} (h:TreeAt S w s t) (hs:Hst w0 H w H' w') (hd:∀b,S b→b<w.heap.size∧¬ H b):TreeAt S w' s t :=
 h.ext hs.ext (fun b hb hh=>hs.disj (G:=S) hd b hb hh)
theorem c_ref05_Parts {S : NP} (t : Sp.Tree) : ∀ (s : Sl) (most : Int) (w0 : World), 0 ≤ most → most ≤ 1000000000 → TreeAt S w0 s t → (∀ b, S b → b < w0.heap.size) →
  Calls prog 75 #[.agg (trow t s).toArray,.int .i64 most] w0 (fun e w'=>∃r:Int,e=.returned (.int .i64 r)∧(r=Sp.parts most t∧Pure w0 w')):=by
 induction t using Sp.Tree.ind with
 | h k f t u x ks ih =>
 intro s most w0 hm0 hm hT hSw
 suffices key:∀K:Int→WP,(∀r w',(r=Sp.parts most (.mk k f t u x ks)∧Pure w0 w')→K r w')→m_M1 k f t u x s most w0 K from
  w_M1 _ _ _ _ _ _ _ w0 _ (key _ (fun _ _ h=>h))
 intro K hK
 have hlen:s.len=ks.length:=by cases hT;assumption
 have hfit:ks.length≤9223372036854775807:=by cases hT;assumption
 unfold m_M1
 intro H1 w1 hs1
 refine ⟨fun n i H w'=>∃j:Nat,i=j∧j≤ks.length∧1≤n∧n≤most+1∧Pure w0 w'∧Sp.partsAll most 1 ks=Sp.partsAll most n (ks.drop j),fun _ i _=>((ks.length:Int) - i).toNat,⟨0,rfl,Nat.zero_le _,Int.le_refl _,by omega,hs1.first,rfl⟩,?_⟩
 rintro n _ Hl wl hl ⟨j,rfl,hj,hn1,hn2,El,heq⟩
 unfold m_M1_l1
 refine ⟨fun hc=>?_,fun hc=>?_⟩
 ·simp only [Bool.and_eq_true,decide_eq_true_eq] at hc
  have hlt:j<ks.length:=by omega
  rw [List.drop_eq_getElem_cons hlt,Sp.partsAll,if_pos hc.2] at heq
  have hT1:=hT.pure El
  cases hT1 with
  | mk _ _ _ _ _ _ _ rs len fit row kid =>
  obtain ⟨a,hat,ha,hr⟩:=row j hlt
  refine ⟨a,hat,?_⟩
  intro H2 w2 hs2
  have hd:∀b,S b→¬ H2 b:=fun b hb hh=>by have:=hs2.old _ hh;have:=hSw b hb;omega
  refine ⟨_,_,_,_,_,rs j,hs2.ext.row hr (hd _ ha),?_⟩
  rw [i64 (n:=most - n) (by omega) (by omega)]
  refine (ih j hlt (rs j) (most - n) w2 (by omega) (by omega) ((kid j hlt).ext hs2.ext hd) (fun b hb=>by have:=hSw b hb;have:=(El.hst hs2).size;omega)).mono ?_
  rintro _ w3 ⟨r,rfl,rfl,E3⟩
  have hpf:=Sp.parts_facts ks[j] (most - n) (by omega)
  refine ⟨_,rfl,E3.keptP,?_⟩
  rw [wrap_succ hlt (by omega),i64 (n:=n+Sp.parts (most - n) ks[j]) (by omega) (by omega)]
  exact ⟨⟨j+1,rfl,hlt,by omega,by omega,(El.hst hs2).trans E3,heq⟩,lt_dec hlt⟩
 ·intro H2 w2 hs2
  refine hK _ _ ⟨?_,El.hst hs2⟩
  rw [Sp.parts,heq]
  by_cases hj2:j=ks.length
  ·rw [hj2,List.drop_length];rfl
  ·have hlt:j<ks.length:=by omega
   rw [List.drop_eq_getElem_cons hlt,Sp.partsAll,if_neg]
   intro h
   have:decide (n≤most)=true:=decide_eq_true h
   have h2:decide ((j:Int)<(s.len:Int))=true:=decide_eq_true (by omega)
   rw [this,h2] at hc;cases hc
theorem sameAll_drop {xs ys:List Sp.Tree} {j:Nat} (hl:xs.length=ys.length) (hj:j<xs.length):Sp.sameAll (xs.drop j) (ys.drop j)=(Sp.same xs[j] (ys[j]'(by omega)) && Sp.sameAll (xs.drop (j+1)) (ys.drop (j+1))):=by
 rw [List.drop_eq_getElem_cons hj,List.drop_eq_getElem_cons (show j<ys.length by omega),Sp.sameAll]
theorem sameAll_len:∀{xs ys:List Sp.Tree},Sp.sameAll xs ys=true→xs.length=ys.length
 | [],[],_=>rfl
 | a :: xs,b :: ys,h=>by simp only [Sp.sameAll,Bool.and_eq_true] at h;simp [sameAll_len h.2]
 | [],b :: ys,h=>by simp [Sp.sameAll] at h
 | a :: xs,[],h=>by simp [Sp.sameAll] at h
theorem c_ref05_Same {S : NP} (t : Sp.Tree) : ∀ (t' : Sp.Tree) (s s' : Sl) (w0 : World), TreeAt S w0 s t → TreeAt S w0 s' t' → (∀ b, S b → b < w0.heap.size) →
  Calls prog 47 #[.agg (trow t s).toArray,.agg (trow t' s').toArray] w0 (fun e w'=>∃r:Bool,e=.returned (.bool r)∧(r=Sp.same t t'∧Pure w0 w')):=by
 induction t using Sp.Tree.ind with
 | h k f t u x ks ih =>
 intro t' s s' w0 hT hT' hSw
 obtain ⟨k',f',tt',u',x',ks'⟩:=t'
 suffices key:∀K:Bool→WP,(∀r w',(r=Sp.same (.mk k f t u x ks) (.mk k' f' tt' u' x' ks')∧Pure w0 w')→K r w')→m_L1 k f t u x s k' f' tt' u' x' s' w0 K from
  w_L1 _ _ _ _ _ _ _ _ _ _ _ _ w0 _ (key _ (fun _ _ h=>h))
 intro K hK
 have hlen:s.len=ks.length:=by cases hT;assumption
 have hlen':s'.len=ks'.length:=by cases hT';assumption
 have hfit:ks.length≤9223372036854775807:=by cases hT;assumption
 unfold m_L1
 rintro y1 rfl
 refine ⟨fun h=>?_,fun h=>?_⟩
 ·intro H7 w7 hs7
  refine hK _ _ ⟨?_,hs7.first⟩
  symm
  apply Bool.eq_false_iff.2
  intro hs
  simp only [Sp.same,Bool.and_eq_true,decide_eq_true_eq] at hs
  obtain ⟨⟨⟨⟨⟨rfl,rfl⟩,rfl⟩,rfl⟩,rfl⟩,h6⟩:=hs
  have:=sameAll_len h6
  simp [hlen,hlen',this] at h
 ·have hne : k = k' ∧ f = f' ∧ t = tt' ∧ u = u' ∧ x = x' ∧ ks.length = ks'.length := by
   simp only [Bool.or_eq_false_iff,bne_eq_false_iff_eq,Bool.not_eq_false',decide_eq_true_eq] at h
   obtain ⟨⟨⟨⟨⟨h1,h2⟩,h3⟩,h4⟩,h5⟩,h6⟩:=h
   exact ⟨h1,h2,h3,h4,h5,by omega⟩
  obtain ⟨rfl,rfl,rfl,rfl,rfl,hll⟩:=hne
  have hsp:Sp.same (.mk k f t u x ks) (.mk k f t u x ks')=Sp.sameAll ks ks':=by simp [Sp.same]
  rw [hsp] at hK
  intro H7 w7 hs7
  refine ⟨fun i H w'=>∃j:Nat,i=j∧j≤ks.length∧Pure w0 w'∧Sp.sameAll ks ks'=Sp.sameAll (ks.drop j) (ks'.drop j),fun i _=>((ks.length:Int) - i).toNat,⟨0,rfl,Nat.zero_le _,hs7.first,rfl⟩,?_⟩
  rintro _ Hl wl hl ⟨j,rfl,hj,El,heq⟩
  unfold m_L1_l1
  refine ⟨fun hc=>?_,fun hc=>?_⟩
  ·have hlt:=lt_of_dec hlen hc
   have hlt':j<ks'.length:=by omega
   rw [sameAll_drop hll hlt] at heq
   have g1:∃a r,At s j 6 a∧S a.block∧(∀w',Pure w0 w'→Row w' a (trow ks[j] r))∧TreeAt S w0 r ks[j]:=by
    cases hT with
    | mk _ _ _ _ _ _ _ rs len fit row kid=>obtain ⟨a,h1,h2,h3⟩:=row j hlt;exact ⟨a,rs j,h1,h2,fun w' E=>E.row h3 id,kid j hlt⟩
   have g2:∃a r,At s' j 6 a∧S a.block∧(∀w',Pure w0 w'→Row w' a (trow ks'[j] r))∧TreeAt S w0 r ks'[j]:=by
    cases hT' with
    | mk _ _ _ _ _ _ _ rs len fit row kid=>obtain ⟨a,h1,h2,h3⟩:=row j hlt';exact ⟨a,rs j,h1,h2,fun w' E=>E.row h3 id,kid j hlt'⟩
   obtain ⟨a,r,hat,_,hr,hk⟩:=g1
   obtain ⟨a',r',hat',_,hr',hk'⟩:=g2
   refine ⟨fun w'=>Pure w0 w',El.trans (Ext.drew wl),?_⟩
   rintro _ rfl
   have Ed:=El.trans (Ext.drew wl)
   refine ⟨a,hat,_,_,_,_,_,r,fun w' h=>hr w' h,a',hat',_,_,_,_,_,r',fun w' h=>hr' w' h,?_⟩
   refine (ih j hlt ks'[j] r r' wl.drew (hk.pure Ed) (hk'.pure Ed) (fun b hb=>by have:=hSw b hb;have:=Ed.size;omega)).mono ?_
   rintro _ w13 ⟨q,rfl,rfl,E13⟩
   refine ⟨_,rfl,Ed.trans E13,E13.keptP,fun h=>?_,fun h=>?_⟩
   ·have h:Sp.same ks[j] ks'[j]=false:=by simpa using h
    exact hK _ _ ⟨by rw [heq,h];rfl,Ed.trans E13⟩
   ·have h:Sp.same ks[j] ks'[j]=true:=by simpa using h
    rw [h,Bool.true_and] at heq
    rw [wrap_succ hlt (by omega)]
    exact ⟨⟨j+1,rfl,hlt,Ed.trans E13,heq⟩,lt_dec hlt⟩
  ·have hge:=eq_of_dec hlen hj hc
   subst hge
   rw [List.drop_length,hll,List.drop_length] at heq
   exact hK _ _ ⟨heq.symm,El⟩
end Go.Proofs
end
section
open Go Go.SE
namespace Go.Proofs
open Tryz
attribute [local irreducible] Calls
theorem slT_tree:SlType prog 66 107 6 72:=by
 refine ⟨underlying66,⟨t107,_,by kernel_rfl,(by kernel_rfl:t107.zero=some (.agg #[.int .i64 0,.int .i64 0,.int .i64 0,.int .u64 0,.string ⟨#[]⟩,.slice none 0 0])),by kernel_rfl,by kernel_rfl,rfl⟩,by omega⟩
def prow (p:Sp.Tree×Sl):List Value:=trow p.1 p.2
theorem TreeAt.of_pairs {S:NP} {w:World} {s:Sl} {e:TypeId} {ps:List (Sp.Tree×Sl)} {k f t u:Int} {x:ByteArray} (hR:Rws w e 6 s (ps.map prow)) (hS:∀b,s.blk b→S b) (hk:∀p∈ps,TreeAt S w p.2 p.1) (fit:ps.length≤9223372036854775807):TreeAt S w s (.mk k f t u x (ps.map Prod.fst)):=by
 refine .mk k f t u x _ s (fun i=>(ps.getD i (Sp.noTree,Sl.nil)).2) (by rw [hR.len];simp) (by simpa using fit) (fun i h=>?_) (fun i h=>?_)
 ·have h':i<ps.length:=by simpa using h
  obtain ⟨a,h1,h2,h3⟩:=hR.at (i:=i) (by omega) (by simpa using h')
  refine ⟨a,h1,hS _ h3,?_⟩
  have e1:(ps.map Prod.fst)[i]=ps[i].1:=by simp
  have e2:(ps.getD i (Sp.noTree,Sl.nil)).2=ps[i].2:=by simp [List.getD_eq_getElem?_getD,h']
  rw [e1,e2];simpa [prow] using h2
 ·have h':i<ps.length:=by simpa using h
  have e1:(ps.map Prod.fst)[i]=ps[i].1:=by simp
  have e2:(ps.getD i (Sp.noTree,Sl.nil)).2=ps[i].2:=by simp [List.getD_eq_getElem?_getD,h']
  rw [e1,e2];exact hk _ (List.getElem_mem h')
theorem trow_one (t:Sp.Tree) (s:Sl):(trow t s).all oneCell=true:=by simp [trow,oneCell,Sl.v]
end Go.Proofs
end
section
open Go Go.SE
namespace Go.Proofs
open Tryz
attribute [local irreducible] Calls
theorem c_ref05_Tree (p : Addr) {L : Sp.Pool} (hW : Sp.Wf L) : ∀ (n : Nat) (t : Int) (w0 : World) (F : NP), t.toNat = n → PoolR w0 p L F →
  Calls prog 49 #[.pointer (some p),.int .i64 t] w0 (RetT w0.heap.size w0 (Sp.treeOf L t)):=by
 intro n
 induction n using Nat.strongRecOn with
 | _ n ih =>
 intro t w0 F hn hP
 suffices key:∀K:Int→Int→Int→Int→ByteArray→Sl→WP,(∀k f t' u x s' w' ks,Sp.treeOf L t=.mk k f t' u x ks→TreeAt (w0.heap.size≤·) w' s' (.mk k f t' u x ks)→Pure w0 w'→K k f t' u x s' w')→m_A1 (some p) t w0 K by
  refine (w_A1 _ _ w0 (fun k f t' u x s' w'=>∃ks,Sp.treeOf L t=.mk k f t' u x ks∧TreeAt (w0.heap.size≤·) w' s' (.mk k f t' u x ks)∧Pure w0 w') (key _ (fun k f t' u x s' w' ks h1 h2 h3=>⟨ks,h1,h2,h3⟩))).mono ?_
  rintro _ w' ⟨k,f,t',u,x,s',rfl,ks,h1,h2,h3⟩
  rw [h1]
  exact ⟨s',rfl,h2,h3⟩
 intro K hK
 have hok:=hW.ok
 have hnil:∀b,¬ Sl.nil.blk b:=fun b hb=>by obtain ⟨a,h,_⟩:=hb;cases h
 unfold m_A1
 intro H1 w1 hs1
 have E1:=hs1.first
 refine (c_ref05_Node p t w1 (hP.pure E1) hok).mono ?_
 rintro _ w2 ⟨k,f,t',u,x,a,b,r,rfl,⟨hnd,hr⟩,E2⟩
 have E02:=E1.trans E2
 have hs2:=hs1.again E2.keptP
 refine ⟨_,_,_,_,_,_,_,_,rfl,E2.keptP,fun h=>?_,fun h=>?_⟩
 ·intro H2 w5 hs5
  have hin:Sp.inP L t=false:=by rw [← hr];simpa using h
  exact hK _ _ _ _ _ _ _ [] (by rw [Sp.treeOf_none hin];rfl) TreeAt.leaf (E02.hst hs5)
 ·have hin:Sp.inP L t=true:=by rw [← hr];simpa using h
  have htr:=Sp.treeOf_in hW hin
  have hnode:=hW.node hin
  rw [← hnd] at htr hnode
  simp only at htr hnode
  obtain ⟨_,_,_,_,hkid,_,_⟩:=hnode
  have hpos:=Sp.inP_iff.1 hin
  rw [ref05_kids]
  have J1 : ∀ (xs : Sl) (H : NP) (w : World) (ps : List (Sp.Tree × Sl)) (S' : NP), Hst w0 H w H w → Pure w0 w → Own H w 107 6 xs (ps.map prow) → ps.length ≤ 1 → (∀ p ∈ ps, TreeAt S' w p.2 p.1) → (∀ b, S' b → w0.heap.size ≤ b ∧ b < w.heap.size ∧ ¬ H b ∧ ¬ xs.blk b) → (∀ b, xs.blk b → w0.heap.size ≤ b) →
    ((Sp.shapeOf k).kids=2→ps.map Prod.fst=[Sp.treeOf L a])→((Sp.shapeOf k).kids≠2→ps.map Prod.fst=(Sp.kidsOf ⟨k,f,t',u,x,a,b⟩).map (Sp.treeOf L)) →
    m_A1_j1 (some p) k b k f t' u x xs w0 H w K:=by
   intro xs H w ps S' hs E O hpl hkids hS' hxs h2 h1
   unfold m_A1_j1
   rw [ref05_kids]
   refine ⟨fun h=>?_,fun h=>?_⟩
   ·have hk2:(Sp.shapeOf k).kids=2:=by simpa using h
    have hps:=h2 hk2
    intro w9 hs9
    have E9:=E.hst hs9
    have O9:=O.hst hs9
    have E10:Pure w9 w9.drew:=Ext.drew w9
    refine ⟨fun _=>True,trivial,?_⟩
    rintro _ rfl
    have hb:=hkid b (by simp [Sp.kidsOf,hk2])
    have hbp:=Sp.inP_iff.1 hb.1
    refine (ih b.toNat (by omega) b w9.drew F rfl (hP.pure (E9.trans E10))).mono ?_
    rintro _ w11 ⟨s',rfl,hTb,E11⟩
    generalize hTt:Sp.treeOf L b=tb at *
    obtain ⟨k2,f2,t2,u2,x2,ks2⟩:=tb
    refine ⟨_,_,_,_,_,s',rfl,trivial,E11.keptP,?_⟩
    intro p5 w12 h12
    have E12:Pure w11 w12:=Ext.new h12
    refine ⟨trivial,?_⟩
    have hs12:Hst w0 H w12 H w12:=(hs9.again E10.keptP).again (E11.trans E12).keptP
    obtain ⟨s1,w13,hr13,hO13,hE13,hk13,hb13⟩:=(O9.pure ((E10.trans E11).trans E12)).append (P:=prog) (ty:=66) (c:=1) slT_tree hs12 (r:=trow (.mk k2 f2 t2 u2 x2 ks2) s') (Box.of_new h12).row rfl (trow_one _ _) (by simp;omega) (by simp [maxLen];omega)
    refine ⟨s1,w13,hr13,trivial,hk13,?_⟩
    intro w15 hs15
    have zd:w9.drew.heap.size=w9.heap.size:=rfl
    have z9:=hs9.ext.size
    have z11:=E11.size
    have z12:=E12.size
    have z13:=hE13.size
    have hS9:∀b,S' b→w0.heap.size≤b∧b<w9.heap.size∧¬ H b∧¬ xs.blk b:=fun b hb=>⟨(hS' b hb).1,by have:=(hS' b hb).2.1;omega,(hS' b hb).2.2.1,(hS' b hb).2.2.2⟩
    have hvs:∀b,s1.blk b→b<w13.heap.size∧¬ H b:=fun b hb=>⟨hO13.rows.lt hb,hO13.vis b hb⟩
    have hR15:=hO13.rows.ext hs15.ext (hs15.disj (G:=s1.blk) hvs)
    have e1:ps.map prow++[trow (.mk k2 f2 t2 u2 x2 ks2) s']=(ps++[((.mk k2 f2 t2 u2 x2 ks2:Sp.Tree),s')]).map prow:=by simp [prow]
    rw [e1] at hR15
    have hT:=TreeAt.of_pairs (S:=fun b=>w0.heap.size≤b) (k:=k) (f:=f) (t:=t') (u:=u) (x:=x) hR15 (fun b hb=>(hb13 b hb).elim (hxs b) (fun h=>by have:=E9.size;omega)) (fun q hq=>?_) (by simp;omega)
    ·have e2 : (ps ++ [((.mk k2 f2 t2 u2 x2 ks2 : Sp.Tree), s')]).map Prod.fst = (Sp.kidsOf ⟨k, f, t', u, x, a, b⟩).map (Sp.treeOf L) := by
      rw [List.map_append,hps];simp [Sp.kidsOf,hk2,hTt]
     rw [e2] at hT
     exact hK _ _ _ _ _ _ _ _ htr hT ((((E9.trans E10).trans E11).trans E12).trans' hE13 (fun i hi hb=>by have:=hxs i hb;omega) |>.hst hs15)
    ·rcases List.mem_append.1 hq with h | h
     ·have q1:=(hkids q h).hst hs9 (fun b hb=>⟨(hS' b hb).2.1,(hS' b hb).2.2.1⟩)
      have q2:=(q1.pure ((E10.trans E11).trans E12)).ext hE13 (fun b hb hy=>(hS' b hb).2.2.2 hy)
      exact (q2.hst hs15 (fun b hb=>⟨by have:=(hS9 b hb).2.1;omega,(hS' b hb).2.2.1⟩)).mono (fun b hb=>(hS' b hb).1)
     ·simp only [List.mem_singleton] at h;subst h
      have q1:=(hTb.lt.pure E12).ext hE13 (fun b hb hy=>by have:=O9.rows.lt hy;have:=hb.1;omega)
      exact (q1.hst hs15 (fun b hb=>⟨by have:=hb.2;omega,fun hh=>by have:=hs9.lt b hh;have:=hb.1;omega⟩)).mono (fun b hb=>by have:=hb.1;have:=E9.size;omega)
   ·have hk2:(Sp.shapeOf k).kids≠2:=by simpa using h
    intro w16 hs16
    have O16:=O.hst hs16
    have hT:=TreeAt.of_pairs (S:=fun b=>w0.heap.size≤b) (k:=k) (f:=f) (t:=t') (u:=u) (x:=x) O16.rows hxs (fun q hq=>((hkids q hq).hst hs16 (fun b hb=>⟨(hS' b hb).2.1,(hS' b hb).2.2.1⟩)).mono (fun b hb=>(hS' b hb).1)) (by omega)
    rw [h1 hk2] at hT
    exact hK _ _ _ _ _ _ _ _ htr hT (E.hst hs16)
  have hkk:=Sp.kids_le k
  refine ⟨fun h=>?_,fun h=>?_⟩
  ·have hk1:1≤(Sp.shapeOf k).kids:=by have:=of_decide_eq_true h;omega
   intro H3 w8 hs8
   have E8:=E02.hst hs8
   have E17:Pure w8 w8.drew:=Ext.drew w8
   refine ⟨fun _=>True,trivial,?_⟩
   rintro _ rfl
   have ha:=hkid a (by rcases hkk with h | h | h <;> simp [Sp.kidsOf,h] <;> omega)
   have hap:=Sp.inP_iff.1 ha.1
   refine (ih a.toNat (by omega) a w8.drew F rfl (hP.pure (E8.trans E17))).mono ?_
   rintro _ w18 ⟨s',rfl,hTa,E18⟩
   generalize hTt:Sp.treeOf L a=ta at *
   obtain ⟨k2,f2,t2,u2,x2,ks2⟩:=ta
   refine ⟨_,_,_,_,_,s',rfl,trivial,E18.keptP,?_⟩
   intro p6 w19 h19
   have E19:Pure w18 w19:=Ext.new h19
   refine ⟨trivial,?_⟩
   have hs19:Hst w0 H3 w19 H3 w19:=(hs8.again E17.keptP).again (E18.trans E19).keptP
   obtain ⟨s2,w20,hr20,hO20,hE20,hk20,hb20⟩:=(Own.nil (sz:=6) (e:=107) H3 w19).append (P:=prog) (ty:=66) (c:=1) slT_tree hs19 (r:=trow (.mk k2 f2 t2 u2 x2 ks2) s') (Box.of_new h19).row rfl (trow_one _ _) (by simp) (by simp [maxLen])
   refine ⟨s2,w20,hr20,trivial,hk20,?_⟩
   intro w21 hs21
   have zd:w8.drew.heap.size=w8.heap.size:=rfl
   have z18:=E18.size
   have z19:=E19.size
   have z20:=hE20.size
   have z21:=hs21.ext.size
   have E20:Pure w19 w20:=hE20.mono (fun b _ hb=>hnil b hb)
   have hs2n:∀b,s2.blk b→w19.heap.size≤b:=fun b hb=>(hb20 b hb).elim (fun h=>(hnil b h).elim) id
   refine J1 s2 H3 w21 [((.mk k2 f2 t2 u2 x2 ks2:Sp.Tree),s')] (fun b=>w8.heap.size≤b∧b<w18.heap.size) hs21.here ((((E8.trans E17).trans E18).trans E19).trans E20 |>.hst hs21) ?_ (by simp) ?_ ?_ (fun b hb=>by have:=hs2n b hb;have:=E8.size;omega) (fun _=>by simp) (fun hne=>?_)
   ·have:=hO20.hst hs21;simpa [prow] using this
   ·intro q hq
    simp only [List.mem_singleton] at hq;subst hq
    exact ((hTa.lt.pure E19).pure E20).hst hs21 (fun b hb=>⟨by have:=hb.2;omega,fun hh=>by have:=hs8.lt b hh;have:=hb.1;omega⟩)
   ·rintro b ⟨h1,h2⟩
    exact ⟨by have:=E8.size;omega,by omega,fun hh=>by have:=hs8.lt b hh;omega,fun hh=>by have:=hs2n b hh;omega⟩
   ·rcases hkk with h | h | h
    ·omega
    ·simp [Sp.kidsOf,h,hTt]
    ·exact absurd h hne
  ·have hk0:(Sp.shapeOf k).kids=0:=by have:=of_decide_eq_false h;omega
   intro H3 w8 hs8
   exact J1 Sl.nil H3 w8 [] (fun _=>False) hs8.here (E02.hst hs8) (Own.nil _ _) (by simp) (by simp) (fun b h=>h.elim) (fun b h=>(hnil b h).elim) (fun h=>by omega) (fun _=>by simp [Sp.kidsOf,hk0])
end Go.Proofs
end
