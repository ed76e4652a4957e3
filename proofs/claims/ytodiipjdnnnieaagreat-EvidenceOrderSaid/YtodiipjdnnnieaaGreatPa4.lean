import Derived.Test.YtodiipjdnnnieaaGreatPa3
import Derived.Test.YtodiipjdnnnieaaGreatProg
import Derived.KernelRfl
import Derived.RangeFuncSeq
import Derived.RangeFuncIn
import Derived.Sort.Walk0
import Derived.Sort.Statements
import Derived.Shelf.SlSortCmp.Insertion
import Init.Data.List.Lex
section
namespace Go.Sp
inductive Tree where
 | mk (k f t u:Int) (x:ByteArray) (kids:List Tree)
def Tree.kids:Tree→List Tree | .mk _ _ _ _ _ ks=>ks
def Tree.node:Tree→Node | .mk k f t u x _=>⟨k,f,t,u,x,0,0⟩
theorem Tree.ind {P:Tree→Prop} (h:∀k f t u x (ks:List Tree),(∀i (hi:i<ks.length),P ks[i])→P (.mk k f t u x ks)) (t:Tree):P t:=by
 refine Tree.rec (motive_1:=P) (motive_2:=fun ks=>∀i (hi:i<ks.length),P ks[i]) ?_ ?_ ?_ t
 ·intro k f t u x ks ih;exact h _ _ _ _ _ _ ih
 ·intro i hi;simp at hi
 ·intro t ks ht hks i hi;cases i with
  | zero=>exact ht
  | succ i=>exact hks i (by simpa using hi)
def uM (n:Node) (len:Nat):Int :=
 let e:=if zU n=0 then if (len:Int)≠(jV n.kind).kids then 53 else 0 else zU n
 if e=0 then zA (jV n.kind) n else e
mutual
def kW (inside seen:Int):Tree→Int×Int
 | .mk k f t u x ks=>if 4096≤seen then (52,seen) else if 64≤inside then (52,seen) else zM (inside+1) (uM ⟨k,f,t,u,x,0,0⟩ ks.length) (seen+1) ks
def zM (inside e seen:Int):List Tree→Int×Int
 | []=>(e,seen)
 | t :: ts=>if e=0 then zM inside (kW inside seen t).1 (kW inside seen t).2 ts else (e,seen)
end
mutual
def grow (L:Pool):Tree→Int×Int×Pool
 | .mk k f t u x ks=>zV ⟨k,f,t,u,x,0,0⟩ 0 L ks
def zV (n:Node) (i:Nat) (L:Pool):List Tree→Int×Int×Pool
 | []=>make L n
 | t :: ts=>if (grow L t).2.1≠0 then (0,(grow L t).2.1,(grow L t).2.2) else zV (if i=0 then { n with a:=(grow L t).1 } else { n with b:=(grow L t).1 }) (i+1) (grow L t).2.2 ts
end
def of (L:Pool) (t:Tree):Int×Int×Pool :=
 if (kW 0 0 t).1≠0 then (0,(kW 0 0 t).1,L)
 else if (grow L t).2.1≠0 then (0,(grow L t).2.1,L) else ((grow L t).1,0,(grow L t).2.2)
theorem jBM (L:Pool) (n:Node):∃M,(make L n).2.2=L++M:=by
 unfold make;simp only;by_cases hc:(check L n).2.2=0
 ·simp only [hc];rw [if_neg (by simp)];split
  ·exact ⟨[],by simp⟩
  ·split
   ·exact ⟨[],by simp⟩
   ·exact ⟨_,rfl⟩
 ·rw [if_pos hc];exact ⟨[],by simp⟩
theorem jEP {L:Pool} {n:Node} (hok:Ok L) (h:(check L n).2.2=0):1≤(check L n).1∧(check L n).1≤4096∧1≤(check L n).2.1∧(check L n).2.1≤64:=by
 unfold check at h ⊢;simp only at h ⊢;by_cases h1:zU n≠0
 ·rw [if_pos h1] at h;exact absurd h h1
 rw [if_neg h1] at h ⊢;split at h
 ·simp at h
 rename_i h2;rw [if_neg h2];by_cases h3:zA (jV n.kind) n≠0
 ·rw [if_pos h3] at h;exact absurd h h3
 rw [if_neg h3] at h ⊢;split at h
 ·simp at h
 rename_i h4;rw [if_neg h4];split at h
 ·simp at h
 rename_i h5;rw [if_neg h5];have hs:∀l:List Int,0≤(l.map (sizeOf L)).sum:=by
  intro l;induction l with
  | nil=>simp
  | cons y l ih=>have:=hok.sizeOf y;simp only [List.map_cons,List.sum_cons];omega
 have hd:∀(l:List Int) (d:Int),0≤d→0≤l.foldl (fun d t=>max d (depthOf L t)) d:=by
  intro l;induction l with
  | nil=>intro d h;exact h
  | cons y l ih=>intro d h;exact ih (max d (depthOf L y)) (by omega)
 have:=hs (zH n);have:=hd (zH n) 0 (by omega);simp only;omega
theorem gU {L:Pool} (hok:Ok L) (n:Node):Ok (make L n).2.2:=by
 by_cases hc:(check L n).2.2=0
 ·have:=jEP hok hc;unfold make;simp only [hc];rw [if_neg (by simp)];split
  ·exact hok
  ·rename_i hf;split
   ·exact hok
   ·rename_i hl;refine ⟨by simp;omega,?_,?_,?_⟩
    ·rw [List.map_append,List.nodup_append];refine ⟨hok.nodup,by simp,?_⟩;intro a ha b hb;simp only [List.map_cons,List.map_nil,List.mem_singleton] at hb;subst hb;obtain ⟨e,he,rfl⟩:=List.mem_map.1 ha;unfold find at hf;rw [List.findIdx?_eq_none_iff] at hf;simpa using hf e he
    ·intro e he;rcases List.mem_append.1 he with h | h
     ·exact hok.size e h
     ·simp only [List.mem_singleton] at h;subst h;simp;omega
    ·intro e he;rcases List.mem_append.1 he with h | h
     ·exact hok.depth e h
     ·simp only [List.mem_singleton] at h;subst h;simp;omega
 ·unfold make;simp only;rw [if_pos hc];exact hok
theorem xP (t:Tree):∀L,Ok L→Ok (grow L t).2.2∧∃M,(grow L t).2.2=L++M:=by
 induction t using Tree.ind with
 | h k f t u x ks ih =>
  have:∀(ks:List Tree),(∀i (hi:i<ks.length),∀L,Ok L→Ok (grow L ks[i]).2.2∧∃M,(grow L ks[i]).2.2=L++M)→∀n i L,Ok L→Ok (zV n i L ks).2.2∧∃M,(zV n i L ks).2.2=L++M:=by
   intro ks;induction ks with
   | nil=>intro _ n i L h;unfold zV;exact ⟨gU h n,jBM L n⟩
   | cons t ts iht =>
    intro hh n i L h
    have h0:=hh 0 (by simp) L h
    simp only [List.getElem_cons_zero] at h0
    unfold zV
    split
    ·exact h0
    ·obtain ⟨ho,M,hM⟩:=h0
     have:=iht (fun i hi=>hh (i+1) (by simpa using hi)) (if i=0 then { n with a:=(grow L t).1 } else { n with b:=(grow L t).1 }) (i+1) (grow L t).2.2 ho
     refine ⟨this.1,?_⟩
     obtain ⟨M2,hM2⟩:=this.2
     exact ⟨M++M2,by rw [hM2,hM,List.append_assoc]⟩
  intro L h
  unfold grow
  exact this ks ih _ _ L h
end Go.Sp
end
section
open Go Go.SE
namespace Go.Proofs
open Tryz
attribute [local irreducible] Calls
def uA (t:Sp.Tree) (s:Sl):List Value:=[.int .i64 t.node.kind,.int .i64 t.node.frm,.int .i64 t.node.to,.int .u64 t.node.num,.string t.node.text,s.v]
inductive TreeAt (S:NP) (w:World):Sl→Sp.Tree→Prop
 | mk (k f t u : Int) (x : ByteArray) (ks : List Sp.Tree) (s : Sl) (rs : Nat → Sl) (len : s.len = ks.length) (fit : ks.length ≤ 9223372036854775807)
   (row:∀i (h:i<ks.length),∃a,At s i 6 a∧S a.block∧Row w a (uA ks[i] (rs i))) (kid:∀i (h:i<ks.length),TreeAt S w (rs i) ks[i]):TreeAt S w s (.mk k f t u x ks)
theorem TreeAt.ext {S F:NP} {w w':World} {s:Sl} {t:Sp.Tree} (h:TreeAt S w s t) (hE:Ext F w w') (hd:∀b,S b→¬ F b):TreeAt S w' s t:=by
 induction h with
 | mk k f t u x ks s rs len fit row kid ih =>
  exact .mk k f t u x ks s rs len fit (fun i h=>let ⟨a,h1,h2,h3⟩:=row i h;⟨a,h1,h2,hE.row h3 (hd _ h2)⟩) ih
theorem TreeAt.pure {S:NP} {w w':World} {s:Sl} {t:Sp.Tree} (h:TreeAt S w s t) (hE:Pure w w'):TreeAt S w' s t:=h.ext hE (fun _ _ h=>h)
theorem TreeAt.mono {S S':NP} {w:World} {s:Sl} {t:Sp.Tree} (h:TreeAt S w s t) (hd:∀b,S b→S' b):TreeAt S' w s t:=by
 induction h with
 | mk k f t u x ks s rs len fit row kid ih =>
  exact .mk k f t u x ks s rs len fit (fun i h=>let ⟨a,h1,h2,h3⟩:=row i h;⟨a,h1,hd _ h2,h3⟩) ih
theorem TreeAt.lt {S:NP} {w:World} {s:Sl} {t:Sp.Tree} (h:TreeAt S w s t):TreeAt (fun b=>S b∧b<w.heap.size) w s t:=by
 induction h with
 | mk k f t u x ks s rs len fit row kid ih =>
  refine .mk k f t u x ks s rs len fit (fun i h=>let ⟨a,h1,h2,h3⟩:=row i h;⟨a,h1,⟨h2,?_⟩,h3⟩) ih
  have:=h3 0 (by simp [uA])
  unfold World.cell? at this
  refine Classical.byContradiction fun hge=>?_
  have:w.heap[(a.add 0).block]?=none:=by rw [jR];exact Array.getElem?_eq_none (by omega)
  simp_all [uA]
theorem jAX (k f t u:Int) (x:ByteArray) (s:Sl) (w:World) :
  Calls prog 200 #[.agg #[.int .i64 k,.int .i64 f,.int .i64 t,.int .u64 u,.string x,s.v]] w
   (fun e w'=>∃k':Int,∃f':Int,∃t':Int,∃u':Int,∃x':ByteArray,∃a:Int,∃b:Int,e=.returned (.agg #[.int .i64 k',.int .i64 f',.int .i64 t',.int .u64 u',.string x',.int .i64 a,.int .i64 b])∧((⟨k',f',t',u',x',a,b⟩:Sp.Node)=⟨k,f,t,u,x,0,0⟩∧Pure w w')):=by
 refine w_V1 _ _ _ _ _ _ w (fun k' f' t' u' x' a b w'=>(⟨k',f',t',u',x',a,b⟩:Sp.Node)=⟨k,f,t,u,x,0,0⟩∧Pure w w') ?_
 unfold m_V1
 intro p1 w1 h1 p2 w2 h2
 have E1:Pure w w1:=Ext.new h1
 have b1:=(Box.of_new h1).pure (Ext.new h2)
 refine ⟨_,b1.cell0,_,b1.cell rfl,_,b1.cell rfl,_,b1.cell rfl,_,b1.cell rfl,?_⟩
 exact bx 7 (Box.of_new h2) rfl rfl (fun w' b E=>⟨_,_,_,_,_,_,_,b.row,rfl,(E1.trans (Ext.new h2)).own (New.own E1 h2) E⟩)
theorem jBN (t:Sp.Tree):∀i n:Int,0≤n→0≤(Sp.kW i n t).2:=by
 induction t using Sp.Tree.ind with
 | h k f t u x ks ih =>
  have:∀(ks:List Sp.Tree),(∀i (hi:i<ks.length),∀j n:Int,0≤n→0≤(Sp.kW j n ks[i]).2)→∀i e n:Int,0≤n→0≤(Sp.zM i e n ks).2:=by
   intro ks;induction ks with
   | nil=>intro _ i e n h;simpa [Sp.zM] using h
   | cons t ts iht =>
    intro hh i e n h
    unfold Sp.zM
    split
    ·exact iht (fun i hi=>hh (i+1) (by simpa using hi)) _ _ _ (hh 0 (by simp) i n h)
    ·exact h
  intro i n h
  unfold Sp.kW
  split
  ·exact h
  ·split
   ·exact h
   ·exact this ks ih _ _ _ (by omega)
theorem oE {ks:List Sp.Tree} {j:Nat} (hj:j<ks.length) (i n:Int):Sp.zM i 0 n (ks.drop j)=Sp.zM i (Sp.kW i n ks[j]).1 (Sp.kW i n ks[j]).2 (ks.drop (j+1)):=by
 rw [List.drop_eq_getElem_cons hj,Sp.zM,if_pos rfl]
theorem tA {ks:List Sp.Tree} {e:Int} (h:e≠0) (i n:Int):Sp.zM i e n ks=(e,n):=by
 cases ks <;> simp [Sp.zM,h]
theorem jGG {S:NP} (q:Addr) (hq:¬ S q.block) (T:TypeId) (t:Sp.Tree):∀(s:Sl) (inside seen:Int) (w:World),0≤inside→0≤seen→TreeAt S w s t→Box w q [.int .i64 seen] T →
  Calls prog 144 #[.agg (uA t s).toArray,.int .i64 inside,.pointer (some q)] w
   (fun e w'=>∃r:Int,e=.returned (.int .i64 r)∧(r=(Sp.kW inside seen t).1∧Box w' q [.int .i64 (Sp.kW inside seen t).2] T∧Ext (·=q.block) w w')):=by
 induction t using Sp.Tree.ind with
 | h k f t u x ks ih =>
 intro s inside seen w hi0 hn0 hT hB
 suffices key:∀K:Int→WP,(∀r w',(r=(Sp.kW inside seen (.mk k f t u x ks)).1∧Box w' q [.int .i64 (Sp.kW inside seen (.mk k f t u x ks)).2] T∧Ext (·=q.block) w w')→K r w')→m_D k f t u x s inside (some q) w K from
  w_D _ _ _ _ _ _ _ _ w _ (key _ (fun _ _ h=>h))
 intro K hK
 unfold m_D
 intro p1 w1 h1
 have b1:=Box.of_new h1
 have E1:Pure w w1:=Ext.new h1
 have n1:q.block≠p1.block:=New.ne h1 hB.blk
 have hB1:=hB.pure E1
 have hT1:=hT.pure E1
 refine ⟨q,rfl,seen,hB1.cell0,fun h=>?_,fun h=>⟨fun h'=>?_,fun h'=>?_⟩⟩
 ·have h:=of_decide_eq_true h
  have:Sp.kW inside seen (.mk k f t u x ks)=(52,seen):=by rw [Sp.kW,if_pos (by omega)]
  rw [this] at hK;exact hK _ _ ⟨rfl,hB1,E1.pure⟩
 ·have h:=of_decide_eq_false h;have h':=of_decide_eq_true h'
  have:Sp.kW inside seen (.mk k f t u x ks)=(52,seen):=by rw [Sp.kW,if_neg (by omega),if_pos (by omega)]
  rw [this] at hK;exact hK _ _ ⟨rfl,hB1,E1.pure⟩
 have h:=of_decide_eq_false h;have h':=of_decide_eq_false h'
 have hsp:Sp.kW inside seen (.mk k f t u x ks)=Sp.zM (inside+1) (Sp.uM ⟨k,f,t,u,x,0,0⟩ ks.length) (seen+1) ks:=by rw [Sp.kW,if_neg (by omega),if_neg (by omega)]
 rw [hsp] at hK
 unfold m_D_j1
 refine ⟨q,rfl,seen,hB1.cell0,q,rfl,hB1.canW0 (by simp),?_⟩
 rw [i64 (n:=seen+1) (by omega) (by omega)]
 intro w2 hw2
 have hB2:Box w2 q [.int .i64 (seen+1)] T:=by rw [hw2];exact hB1.set0
 have E12:Ext (·=q.block) w1 w2:=by rw [hw2];exact Ext.setCell q _
 clear hw2
 have b2:=b1.ext E12 (fun e=>n1 e.symm)
 have hT2:=hT1.ext E12 (fun b hb e=>hq (e▸hb))
 have E2:Ext (·=q.block) w w2:=E1.pure.trans E12
 refine ⟨_,_,_,_,_,_,b2.row,?_⟩
 refine (jAX _ _ _ _ _ _ w2).mono ?_
 rintro _ w3 ⟨k',f',t',u',x',a',b',rfl,hn,E23⟩
 cases hn
 refine ⟨_,_,_,_,_,_,_,rfl,?_⟩
 intro p2 w4 h4
 have n2:p1.block≠p2.block:=New.ne h4 (b2.pure E23).blk
 have E24:Pure w2 w4:=E23.trans (Ext.new h4)
 have o2:=New.own E23 h4
 refine bx 7 (Box.of_new h4) rfl rfl (fun w5 c2 E45=>?_)
 have E25:Pure w2 w5:=E24.own o2 E45
 refine ⟨_,_,_,_,_,_,_,c2.row,?_⟩
 refine (jDL _ _ _ _ _ _ _ w5).mono ?_
 rintro _ w6 ⟨s1,s2,s3,s4,s5,pe,rfl,⟨hs,hpe⟩,E56⟩
 refine ⟨_,_,_,_,_,_,rfl,?_⟩
 intro p3 w7 h7
 have n3:p2.block≠p3.block:=New.ne h7 (c2.pure E56).blk
 have E27:Pure w2 w7:=(E25.trans E56).trans (Ext.new h7)
 have o3:=New.own (E25.trans E56) h7
 refine bx 5 (Box.of_new h7) rfl rfl (fun w8 c3 E78=>?_)
 have E28:Pure w2 w8:=E27.own o3 E78
 have d2:=((c2.pure E56).pure (Ext.new h7)).ext E78 n3
 have d1:=b2.pure E28
 have hB8:=hB2.pure E28
 have hT8:=hT2.pure E28
 have E8:Ext (·=q.block) w w8:=E2.thenPure E28
 clear E78 E27 E56 E25 E45 E24 E23 E12 c2 b2 b1 hT2 hT1 hB1 h1 h4 h7
 have hlen:s.len=ks.length:=by cases hT;assumption
 have hfit:ks.length≤9223372036854775807:=by cases hT;assumption
 have hsh:Sp.jV k=⟨s1,s2,s3,s4,s5⟩:=hs.symm
 have J3:∀e w',Pure w8 w'→e=Sp.uM ⟨k,f,t,u,x,0,0⟩ ks.length→m_D_j3 inside (some q) p1 e w' K:=by
  intro e w' E hown;rw [← hown] at hK;unfold m_D_j3;refine ⟨fun e i w'=>∃j:Nat,i=j∧j≤ks.length∧∃n:Int,0≤n∧Ext (·=q.block) w8 w'∧Box w' q [.int .i64 n] T∧Sp.zM (inside+1) e n (ks.drop j)=Sp.zM (inside+1) (Sp.uM ⟨k,f,t,u,x,0,0⟩ ks.length) (seen+1) ks,fun _ i _=>((ks.length:Int) - i).toNat,⟨0,rfl,Nat.zero_le _,seen+1,by omega,E.pure,hB8.pure E,by rw [hown];rfl⟩,?_⟩;rintro e1 _ wl ⟨j,rfl,hj,n,hn,El,hBl,heq⟩;unfold m_D_l4;have dl:=d1.ext El (fun e=>n1 e.symm);have hTl:=hT8.ext El (fun b hb e=>hq (e▸hb));rw [← hown] at heq;have fin:∀n',Sp.zM (inside+1) e ((seen:Int)+1) ks=(e1,n')→n'=n→K e1 wl:=by
   rintro n' h rfl;refine hK _ _ ⟨by rw [h],by rw [h];exact hBl,E8.trans El⟩
  refine ⟨s,dl.cell rfl,fun hlt=>⟨fun he=>?_,fun he=>?_⟩,fun hlt=>?_⟩
  ·have hlt:j<ks.length:=by have h:=of_decide_eq_true hlt;omega
   have he:e1=0:=by simpa using he
   subst he;cases hTl with
   | mk _ _ _ _ _ _ _ rs len fit row kid =>
   obtain ⟨a,hat,ha,hr⟩:=row j hlt;refine ⟨s,dl.cell rfl,a,hat,_,_,_,_,_,rs j,hr,?_⟩;rw [i64 (n:=inside+1) (by omega) (by omega)];refine (ih j hlt (rs j) (inside+1) n wl (by omega) hn (kid j hlt) hBl).mono ?_;rintro _ w9 ⟨r,rfl,rfl,hB9,E9⟩;rw [oE hlt] at heq;refine ⟨_,rfl,⟨j+1,?_,hlt,_,jBN _ _ _ hn,El.trans E9,hB9,by rw [← hown];exact heq⟩,?_⟩
   ·rw [i64 (by omega) (by omega)];omega
   ·show ((ks.length:Int) - IntKind.i64.wrap ((j:Int)+1)).toNat<((ks.length:Int) - (j:Int)).toNat;rw [i64 (by omega) (by omega)];omega
  ·have he:e1≠0:=by simpa using he
   rw [tA he] at heq;exact fin _ heq.symm rfl
  ·have hge:j=ks.length:=by have h:=of_decide_eq_false hlt;omega
   rw [hge,List.drop_length,Sp.zM] at heq;exact fin _ heq.symm rfl
 have J2:∀e1,e1=(if pe=0 then if (ks.length:Int)≠s5 then 53 else 0 else pe)→m_D_j2 inside (some q) p1 p2 p3 e1 w8 K:=by
  intro e1 he1;have hown:Sp.uM ⟨k,f,t,u,x,0,0⟩ ks.length=if e1=0 then Sp.zA ⟨s1,s2,s3,s4,s5⟩ ⟨k,f,t,u,x,0,0⟩ else e1:=by
   unfold Sp.uM;simp only [hsh,← hpe,he1]
  unfold m_D_j2;refine ⟨fun h=>⟨_,_,_,_,_,c3.row,_,_,_,_,_,_,_,d2.row,?_⟩,fun h=>J3 _ _ (Ext.refl _) ?_⟩
  ·have h:e1=0:=by simpa using h
   refine (jBA _ _ _ _ _ _ _ _ _ _ _ _ _).mono ?_;rintro _ w9 ⟨_,rfl,rfl,E9⟩;exact ⟨_,rfl,J3 _ _ E9 (by rw [hown,if_pos h])⟩
  ·have h:e1≠0:=by simpa using h
   rw [hown,if_neg h]
 refine ⟨fun h=>⟨s,d1.cell rfl,s5,c3.cell rfl,fun h5=>J2 _ ?_,fun h5=>J2 _ ?_⟩,fun h=>J2 _ ?_⟩
 ·have h:pe=0:=by simpa using h
  have h5:(s.len:Int)≠s5:=by simpa using h5
  rw [if_pos h,if_pos (by omega)]
 ·have h:pe=0:=by simpa using h
  have h5:(s.len:Int)=s5:=by simpa using h5
  rw [if_pos h,if_neg (by omega),h]
 ·have h:pe≠0:=by simpa using h
  rw [if_neg h]
theorem c_New (w:World):Calls prog 61 #[] w (fun e w'=>∃r:Option Addr,e=.returned (.pointer r)∧∃p,r=some p∧Pure w w'∧∃F,jO w' p [] F∧∀b,F b→w.heap.size≤b):=by
 refine w_P1 w (fun r w'=>∃p,r=some p∧Pure w w'∧∃F,jO w' p [] F∧∀b,F b→w.heap.size≤b) ?_;unfold m_P1;intro p1 w1 h1 p2 w2 h2;have E1:Pure w w1:=Ext.new h1;have m2:CMap w2 p1.block []:=(CMap.of_new h1).ext (Ext.new h2:Pure w1 w2) id;have n12:p1.block≠p2.block:=New.ne h2 h1.block_new;refine ⟨p2,rfl,E1.trans (Ext.new h2),fun b=>b=p2.block∨Sl.nil.blk b∨b=p1.block,⟨Sl.nil,p1.block,⟨Box.of_new h2,by simpa using Rws.nil _ _ _,by simpa [vZ] using m2,n12,?_,?_⟩,fun _=>Iff.rfl⟩,?_⟩
 ·rintro ⟨a,h,_⟩;cases h
 ·rintro ⟨a,h,_⟩;cases h
 ·rintro b (rfl | ⟨a,h,_⟩ | rfl)
  ·exact New.own E1 h2
  ·cases h
  ·exact New.own (Ext.refl w) h1
theorem jCN (L:Sp.Pool) (n:Nat):vZ (L.take n)=(vZ L).take n:=by
 apply List.ext_getElem?;intro i;simp only [vZ,List.getElem?_map,List.getElem?_zipIdx,List.getElem?_take];split <;> simp
theorem jEG (L:Sp.Pool):(vZ L).map (·.1)=(L.map (·.node)).map oC:=by
 apply List.ext_getElem?;intro i;simp only [vZ,List.getElem?_map,List.getElem?_zipIdx];cases L[i]? <;> simp
theorem c_cut (p:Addr) (n:Nat) (w:World) {L:Sp.Pool} {F:NP} (hP:jO w p L F) (hok:Sp.Ok L) (hn:n≤L.length) :
  Calls prog 146 #[.pointer (some p),.int .i64 n] w (fun e w'=>e=.returned (.tuple #[])∧jO w' p (L.take n) F∧Ext F w w'):=by
 suffices key:∀K:WP,(∀w',jO w' p (L.take n) F∧Ext F w w'→K w')→m_T (some p) n w K from
  w_T _ _ w _ (key _ (fun _ h=>h))
 intro K hK
 unfold m_T
 obtain ⟨s,m,hS,hF⟩:=hP
 have hfew:=hok.few
 have hcap:s.len≤s.cap:=by
  have:=hS.rows.len;rcases hS.rows.own with ⟨rfl,_⟩ | ⟨g,cur,_,_,hc,_⟩
  ·simp [Sl.nil]
  ·omega
 obtain ⟨s1,hr1,hl1⟩:=hS.rows.lst.lo (P:=prog) gO hcap (k:=.i64) (n:=n) (by omega) (by simpa using hn)
 have hlen1:s1.len=L.length - n:=by rw [hl1.len];simp
 refine ⟨p,rfl,s,hS.box.cell0,s1,hr1,?_⟩
 refine ⟨fun x w'=>∃j:Nat,x=j∧j≤L.length - n∧Ext (·=m) w w'∧CMap w' m ((vZ L).take n++(vZ L).drop (n+j)),fun x _=>((L.length:Int) - x).toNat,⟨0,rfl,Nat.zero_le _,Ext.refl w,by simpa using hS.map⟩,?_⟩
 rintro _ wl ⟨j,rfl,hj,El,hml⟩
 have hboxl:=hS.box.ext El hS.n1.symm
 have hrowsl:=hS.rows.ext El (fun b hb e=>hS.n3 (e▸hb))
 unfold m_T_l1
 refine ⟨fun h=>?_,fun h=>?_⟩
 ·have hlt:n+j<L.length:=by have h:=of_decide_eq_true h;omega
  have hll:=hl1.ext El (fun b hb e=>hS.n3 (e▸hb))
  obtain ⟨a,hat,_,hrow⟩:=hll.at_ j (by simp;omega)
  generalize he:L[n+j]=e at *
  have hrow':Row wl a (jBY e):=by
   have:((L.map jBY).drop ((n:Int).toNat))[j]'(by simp;omega)=jBY e:=by simp [he]
   rw [this] at hrow;exact hrow
  obtain ⟨nd,sz,dp⟩:=e
  obtain ⟨k,f,t,u,x,a1,b1⟩:=nd
  refine ⟨a,hat,_,_,_,_,_,_,_,_,_,hrow',?_⟩
  intro p2 w1 h1
  have E1:Pure wl w1:=Ext.new h1
  have o1:=New.own (Ext.refl wl) h1
  refine bx 9 (Box.of_new h1) rfl rfl (fun w2 b2 E=>?_)
  have E2:Pure wl w2:=E1.own o1 E
  refine ⟨fun w'=>w'.cell? (p.add 1)=some (.map (some m))∧Row w' p2 (uN ⟨k,f,t,u,x,a1,b1⟩),⟨(hboxl.pure (E2.thenPure (Ext.drew w2))).cell (i:=1) rfl,?_⟩,?_⟩
  ·have : Row w2 p2 (uN ⟨k, f, t, u, x, a1, b1⟩) := fun i hi => by
    have:=b2.row i (by simp [uN] at hi ⊢;omega);rw [this];have h7:i<7:=by simpa [uN] using hi
    have:i=0∨i=1∨i=2∨i=3∨i=4∨i=5∨i=6:=by omega
    rcases this with rfl | rfl | rfl | rfl | rfl | rfl | rfl <;> rfl
   exact Ext.row (F:=None) (Ext.drew w2) this id
  intro w3 hw3
  have E3:Pure wl w3:=by rw [hw3];exact E2.thenPure (Ext.drew w2)
  clear hw3
  refine ⟨p,rfl,some m,fun w' h=>h.1,k,f,t,u,x,a1,b1,fun w' h=>h.2,?_⟩
  have hm3:=hml.ext E3 id
  have hpl:(vZ L).length=L.length:=by simp [vZ]
  have hget:(vZ L)[n+j]?=some (oC ⟨k,f,t,u,x,a1,b1⟩,.int .i64 (n+j+1:Nat)):=by
   simp only [vZ,List.getElem?_map,List.getElem?_zipIdx,List.getElem?_eq_getElem hlt,he];simp
  have hidx:((vZ L).take n++(vZ L).drop (n+j))[n]?=some (oC ⟨k,f,t,u,x,a1,b1⟩,.int .i64 (n+j+1:Nat)):=by
   have e0:n+j+(n - ((vZ L).take n).length)=n+j:=by rw [List.length_take];omega
   rw [List.getElem?_append_right (by rw [List.length_take];omega),List.getElem?_drop,e0,hget]
  have hnd:((vZ L).map (·.1)).Nodup:=by
   rw [jEG,List.nodup_iff_pairwise_ne,List.pairwise_map];exact hok.nodup.imp (fun h e=>h (oB.1 e))
  have hsub:List.Sublist ((vZ L).take n++(vZ L).drop (n+j)) (vZ L):=by
   conv=>rhs;rw [← List.take_append_drop n (vZ L)]
   refine (List.Sublist.refl _).append ?_;have e0:(vZ L).drop (n+j)=((vZ L).drop n).drop j:=by rw [List.drop_drop]
   rw [e0];exact List.drop_sublist _ _
  have hnd2:(((vZ L).take n++(vZ L).drop (n+j)).map (·.1)).Nodup:=hnd.sublist (hsub.map _)
  obtain ⟨w4,hr4,hm4,E4⟩:=hm3.delete (P:=prog) (Q:=176) (z:=0) underlying167 uF (fun q hq=>gQ q (hsub.subset hq)) ⟨_,rfl⟩ hidx (fun i u hi=>by
   obtain ⟨hi1,hi2⟩:=List.getElem?_eq_some_iff.1 hi;obtain ⟨hn1,hn2⟩:=List.getElem?_eq_some_iff.1 hidx;refine Classical.byContradiction fun hne=>?_;have hne:=List.pairwise_iff_getElem.1 hnd2;rcases Nat.lt_or_gt_of_ne ‹_› with hlt | hlt
   ·exact hne i n (by simpa using hi1) (by simpa using hn1) hlt (by rw [List.getElem_map,List.getElem_map,hi2,hn2])
   ·exact hne n i (by simpa using hn1) (by simpa using hi1) hlt (by rw [List.getElem_map,List.getElem_map,hi2,hn2]))
  refine ⟨w4,hr4,⟨j+1,?_,by omega,(El.trans E3.pure).trans E4,?_⟩,?_⟩
  ·rw [i64 (by omega) (by omega)];omega
  ·rw [List.eraseIdx_append_of_length_le (by rw [List.length_take];omega)] at hm4
   have:n - ((vZ L).take n).length=0:=by rw [List.length_take];omega
   rw [this] at hm4
   have hd:((vZ L).drop (n+j)).eraseIdx 0=(vZ L).drop (n+(j+1)):=by
    rw [List.drop_eq_getElem_cons (by omega)];simp;rfl
   rw [hd] at hm4;exact hm4
  ·show ((L.length:Int) - IntKind.i64.wrap ((j:Int)+1)).toNat<((L.length:Int) - (j:Int)).toNat
   rw [i64 (by omega) (by omega)];omega
 ·have hge:n+j=L.length:=by have h:=of_decide_eq_false h;omega
  have hpl:(vZ L).length=L.length:=by simp [vZ]
  rw [hge,← hpl,List.drop_length,List.append_nil] at hml
  obtain ⟨s2,hr2,hrows2,hb2⟩:=hrowsl.hi (P:=prog) gO (k:=.i64) (n:=n) (by omega) (by simpa using hn)
  refine ⟨p,rfl,s,hboxl.cell0,s2,hr2,p,rfl,hboxl.canW0 (by simp),?_⟩
  rintro w5 hw5
  have hbox5:Box w5 p [s2.v,.map (some m)] 169:=by rw [hw5];exact hboxl.set0
  have E5:Ext (·=p.block) wl w5:=by rw [hw5];exact Ext.setCell p _
  clear hw5
  refine hK _ ⟨⟨s2,m,⟨hbox5,?_,?_,hS.n1,fun h=>hS.n2 ((hb2 _).1 h),fun h=>hS.n3 ((hb2 _).1 h)⟩,fun b=>by rw [hF b,hb2 b]⟩,?_⟩
  ·have:=hrows2.ext E5 (fun b hb e=>hS.n2 (by rw [← e];exact (hb2 _).1 hb))
   simpa using this
  ·rw [jCN];exact hml.ext E5 hS.n1
  ·exact (El.mono (fun i _ h=>(hF i).2 (.inr (.inr h)))).trans' E5 (fun i _ h=>(hF i).2 (.inl h))
theorem jAC {n:Sp.Node} {i:Nat} {L:Sp.Pool} {t:Sp.Tree} {ts:List Sp.Tree} (h:(Sp.grow L t).2.1≠0):Sp.zV n i L (t :: ts)=(0,(Sp.grow L t).2.1,(Sp.grow L t).2.2):=by rw [Sp.zV,if_pos h]
theorem tE {n:Sp.Node} {i:Nat} {L:Sp.Pool} {t:Sp.Tree} {ts:List Sp.Tree} (h:(Sp.grow L t).2.1=0):Sp.zV n i L (t :: ts)=Sp.zV (if i=0 then { n with a:=(Sp.grow L t).1 } else { n with b:=(Sp.grow L t).1 }) (i+1) (Sp.grow L t).2.2 ts:=by rw [Sp.zV,if_neg (by simp [h])]
def Sp.Tree.two (t:Sp.Tree):Prop:=Sp.Tree.rec (motive_1:=fun _=>Prop) (motive_2:=fun _=>Prop) (fun _ _ _ _ _ ks h=>ks.length≤2∧h) True (fun _ _ h1 h2=>h1∧h2) t
def oO:List Sp.Tree→Prop
 | []=>True
 | t :: ts=>Sp.Tree.two t∧oO ts
theorem jEZ {k f t u:Int} {x:ByteArray} {ks:List Sp.Tree}:Sp.Tree.two (.mk k f t u x ks)↔ks.length≤2∧oO ks:=by
 have:∀ks:List Sp.Tree,(Sp.Tree.rec_1 (motive_1:=fun _=>Prop) (motive_2:=fun _=>Prop) (fun _ _ _ _ _ ks h=>ks.length≤2∧h) True (fun _ _ h1 h2=>h1∧h2) ks:Prop)=oO ks:=by
  intro ks;induction ks with
  | nil=>rfl
  | cons t ts ih=>show (Sp.Tree.two t∧_)=(Sp.Tree.two t∧_);rw [ih]
 show (ks.length≤2∧_)↔_;rw [this]
theorem jBH {ks:List Sp.Tree} (h:oO ks) {i:Nat} (hi:i<ks.length):Sp.Tree.two ks[i]:=by
 induction ks generalizing i with
 | nil=>simp at hi
 | cons t ts ih =>
  cases i with
  | zero=>exact h.1
  | succ i=>exact ih h.2 (by simpa using hi)
theorem c_grow {S:NP} (p:Addr) (t:Sp.Tree):∀(s:Sl) (w:World) (L:Sp.Pool) (F:NP),Sp.Tree.two t→TreeAt S w s t→jO w p L F→Sp.Ok L→(∀b,F b→¬ S b)→(∀b,S b→b<w.heap.size) →
  Calls prog 145 #[.pointer (some p),.agg (uA t s).toArray] w
   (fun e w'=>∃r1:Int,∃r2:Int,e=.returned (.tuple #[.int .i64 r1,.int .i64 r2])∧((r1,r2)=((Sp.grow L t).1,(Sp.grow L t).2.1)∧∃F',jO w' p (Sp.grow L t).2.2 F'∧Ext F w w'∧∀b,F' b→F b∨w.heap.size≤b)):=by
 induction t using Sp.Tree.ind with
 | h k f t u x ks ih =>
 intro s w L F h2 hT hP hok hFS hSw
 suffices key:∀K:Int→Int→WP,(∀r1 r2 w',((r1,r2)=((Sp.grow L (.mk k f t u x ks)).1,(Sp.grow L (.mk k f t u x ks)).2.1)∧∃F',jO w' p (Sp.grow L (.mk k f t u x ks)).2.2 F'∧Ext F w w'∧∀b,F' b→F b∨w.heap.size≤b)→K r1 r2 w')→m_S (some p) k f t u x s w K from
  w_S _ _ _ _ _ _ _ w _ (key _ (fun _ _ _ h=>h))
 intro K hK
 obtain ⟨hk2,hall⟩:=jEZ.1 h2
 unfold m_S
 intro p2 w1 h1
 have b1:=Box.of_new h1
 have E1:Pure w w1:=Ext.new h1
 refine ⟨_,_,_,_,_,_,b1.row,?_⟩
 refine (jAX _ _ _ _ _ _ w1).mono ?_
 rintro _ w2 ⟨k',f',t',u',x',a',b',rfl,hn,E12⟩
 cases hn
 refine ⟨_,_,_,_,_,_,_,rfl,?_⟩
 intro p3 w3 h3
 have E3:Pure w w3:=(E1.trans E12).trans (Ext.new h3)
 have o3:=New.own (E1.trans E12) h3
 have n23:p2.block≠p3.block:=New.ne h3 (b1.pure E12).blk
 refine bx 7 (Box.of_new h3) rfl rfl (fun w4 b3 E34=>?_)
 have E4:Pure w w4:=E3.own o3 E34
 have b2:=((b1.pure E12).pure (Ext.new h3)).ext E34 n23
 intro p4 w5 h5
 have E5:Pure w w5:=E4.trans (Ext.new h5)
 have o4:=New.own E4 h5
 have n34:p3.block≠p4.block:=New.ne h5 b3.blk
 have c3:=b3.pure (Ext.new h5:Pure w4 w5)
 have c4:=Box.of_new h5
 have c2:=b2.pure (Ext.new h5:Pure w4 w5)
 refine ⟨s,c2.cell rfl,?_⟩
 have hsp:Sp.grow L (.mk k f t u x ks)=Sp.zV ⟨k,f,t,u,x,0,0⟩ 0 L ks:=by rw [Sp.grow]
 rw [hsp] at hK
 have hlen:s.len=ks.length:=by cases hT;assumption
 refine ⟨fun i w'=>∃j:Nat,i=j∧j≤ks.length∧∃(nd:Sp.Node) (L':Sp.Pool) (F':NP),Sp.zV ⟨k,f,t,u,x,0,0⟩ 0 L ks=Sp.zV nd j L' (ks.drop j)∧Sp.Ok L'∧jO w' p L' F'∧(∀b,F' b→F b∨w.heap.size≤b)∧¬ F' p3.block∧¬ F' p4.block∧Ext F w w'∧Box w' p3 (uN nd) 176∧Box w' p4 [.pointer (some (p3.add 5)),.pointer (some (p3.add 6))] 309,fun i _=>((ks.length:Int) - i).toNat,
  ⟨0,rfl,Nat.zero_le _,⟨k,f,t,u,x,0,0⟩,L,F,by simp,hok,hP.pure E5,fun b h=>.inl h,fun h=>by have:=hP.lt h;omega,fun h=>by have:=hP.lt h;omega,E5.pure,c3,c4⟩,?_⟩
 rintro _ wl ⟨j,rfl,hj,nd,L',F',heq,hok',hPl,hF',hn3,hn4,El,d3,d4⟩
 unfold m_S_l1
 refine ⟨fun h=>?_,fun h=>?_⟩
 ·have hlt:j<ks.length:=by have h:=of_decide_eq_true h;omega
  have hTl:TreeAt S wl s (.mk k f t u x ks):=hT.ext El (fun b hs hf=>hFS b hf hs)
  have hkid:∀i (h:i<ks.length),∃a r,At s i 6 a∧Row wl a (uA ks[i] r)∧TreeAt S wl r ks[i]:=by
   cases hTl with
   | mk _ _ _ _ _ _ _ rs len fit row kid=>exact fun i h=>let ⟨a,h1,_,h3⟩:=row i h;⟨a,rs i,h1,h3,kid i h⟩
  obtain ⟨a,r,hat,hrow,hTk⟩:=hkid j hlt
  refine ⟨a,hat,_,_,_,_,_,r,hrow,?_⟩
  intro p5 w6 h6
  have o5:=New.own (Ext.refl wl) h6
  refine bx 6 (Box.of_new h6) rfl rfl (fun w7 b5 E67=>?_)
  have E7:Pure wl w7:=Ext.own (Ext.new h6) o5 E67
  refine ⟨_,_,_,_,_,r,b5.row,?_⟩
  have hsz:w.heap.size≤wl.heap.size:=El.size
  refine (ih j hlt r w7 L' F' (jBH hall hlt) (hTk.pure E7) (hPl.pure E7) hok' (fun b hb hs=>(hF' b hb).elim (fun h=>hFS b h hs) (fun h=>by have:=hSw b hs;omega)) (fun b hs=>by have:=hSw b hs;have:=E7.size;omega)).mono ?_
  rintro _ w8 ⟨r1,r2,rfl,hr,F8,hP8,E8,hF8⟩
  have e1:r1=(Sp.grow L' ks[j]).1:=congrArg Prod.fst hr
  have e2:r2=(Sp.grow L' ks[j]).2.1:=congrArg Prod.snd hr
  rw [List.drop_eq_getElem_cons hlt] at heq
  have hF8':∀b,F8 b→F b∨w.heap.size≤b:=fun b hb=>(hF8 b hb).elim (hF' b) (fun h=>by right;have:=E7.size;omega)
  have Ew8:Ext F w w8:=(El.thenPure E7).trans' E8 (fun i hi h=>(hF' i h).elim id (fun h=>by omega))
  refine ⟨_,_,rfl,fun h=>?_,fun h=>?_⟩
  ·have h:(Sp.grow L' ks[j]).2.1≠0:=by rw [← e2];simpa using h
   rw [jAC h] at heq
   refine hK _ _ _ ?_
   rw [heq];exact ⟨by rw [e2],F8,hP8,Ew8,hF8'⟩
  ·have h:(Sp.grow L' ks[j]).2.1=0:=by rw [← e2];simpa using h
   rw [tE h] at heq
   have q3:=(d3.pure E7).ext E8 hn3
   have q4:=(d4.pure E7).ext E8 hn4
   have hs7:wl.heap.size≤w7.heap.size:=E7.size
   have n38:¬ F8 p3.block:=fun h=>(hF8 _ h).elim hn3 (fun h=>by have:=(d3.pure E7).lt;omega)
   have n48:¬ F8 p4.block:=fun h=>(hF8 _ h).elim hn4 (fun h=>by have:=(d4.pure E7).lt;omega)
   have hok8:=(Sp.xP ks[j] L' hok').1
   have fin : ∀ (w9 : World) (nd' : Sp.Node), nd' = (if j = 0 then { nd with a := (Sp.grow L' ks[j]).1 } else { nd with b := (Sp.grow L' ks[j]).1 }) → Box w9 p3 (uN nd') 176 → Ext (· = p3.block) w8 w9 →
     (∃j':Nat,IntKind.i64.wrap ((j:Int)+1)=j'∧j'≤ks.length∧∃(nd:Sp.Node) (L':Sp.Pool) (F':NP),Sp.zV ⟨k,f,t,u,x,0,0⟩ 0 L ks=Sp.zV nd j' L' (ks.drop j')∧Sp.Ok L'∧jO w9 p L' F'∧(∀b,F' b→F b∨w.heap.size≤b)∧¬ F' p3.block∧¬ F' p4.block∧Ext F w w9∧Box w9 p3 (uN nd) 176∧Box w9 p4 [.pointer (some (p3.add 5)),.pointer (some (p3.add 6))] 309)∧((ks.length:Int) - IntKind.i64.wrap ((j:Int)+1)).toNat<((ks.length:Int) - (j:Int)).toNat:=by
    intro w9 nd' hnd B9 E9
    rw [i64 (by omega) (by omega)]
    refine ⟨⟨j+1,by omega,hlt,nd',_,F8,by rw [heq,hnd],hok8,hP8.ext E9 (fun b hb e=>n38 (e▸hb)),hF8',n38,n48,Ew8.trans' E9 (fun i hi h=>by subst h;omega),B9,q4.ext E9 n34.symm⟩,by omega⟩
   have hj2:j=0∨j=1:=by omega
   rcases hj2 with rfl | rfl
   ·refine ⟨p4,⟨by omega,by simp,p4,rfl,rfl⟩,some (p3.add 5),q4.cell0,p3.add 5,rfl,q3.canW (by simp [uN]),?_⟩
    intro w9 hw9
    refine fin w9 _ rfl ?_ ?_
    ·rw [hw9,e1];exact q3.set 5 _
    ·rw [hw9];have:=Ext.setCell (w:=w8) (p3.add 5) (.int .i64 r1);rw [jR] at this;exact this
   ·refine ⟨p4.add 1,⟨by omega,by simp,p4,rfl,rfl⟩,some (p3.add 6),q4.cell rfl,p3.add 6,rfl,q3.canW (by simp [uN]),?_⟩
    intro w9 hw9
    refine fin w9 _ rfl ?_ ?_
    ·rw [hw9,e1];exact q3.set 6 _
    ·rw [hw9];have:=Ext.setCell (w:=w8) (p3.add 6) (.int .i64 r1);rw [jR] at this;exact this
 ·have hge:j=ks.length:=by have h:=of_decide_eq_false h;omega
  rw [hge,List.drop_length,Sp.zV] at heq
  obtain ⟨k0,f0,t0,u0,x0,a0,b0⟩:=nd
  refine ⟨_,_,_,_,_,_,_,d3.row,?_⟩
  refine (jBD p k0 f0 t0 u0 x0 a0 b0 wl hPl hok').mono ?_
  rintro _ w9 ⟨r1,r2,rfl,hr,F9,hP9,E9,hF9⟩
  have hsz:w.heap.size≤wl.heap.size:=El.size
  refine ⟨_,_,rfl,hK _ _ _ ?_⟩
  rw [heq]
  exact ⟨hr,F9,hP9,El.trans' E9 (fun i hi h=>(hF' i h).elim id (fun h=>by omega)),fun b hb=>(hF9 b hb).elim (hF' b) (fun h=>by right;omega)⟩
theorem jCT (t:Sp.Tree):∀i n:Int,(Sp.kW i n t).1=0→Sp.Tree.two t:=by
 induction t using Sp.Tree.ind with
 | h k f t u x ks ih =>
  have hA:∀(ks:List Sp.Tree),(∀i (hi:i<ks.length),∀j n:Int,(Sp.kW j n ks[i]).1=0→Sp.Tree.two ks[i])→∀i e n:Int,(Sp.zM i e n ks).1=0→e=0∧oO ks:=by
   intro ks;induction ks with
   | nil=>intro _ i e n h;exact ⟨by simpa [Sp.zM] using h,trivial⟩
   | cons t ts iht =>
    intro hh i e n h
    unfold Sp.zM at h
    split at h
    ·rename_i he
     have:=iht (fun i hi=>hh (i+1) (by simpa using hi)) _ _ _ h
     exact ⟨he,hh 0 (by simp) i n this.1,this.2⟩
    ·rename_i he;exact absurd h he
  intro i n h
  unfold Sp.kW at h
  split at h
  ·cases h
  ·split at h
   ·cases h
   ·have:=hA ks ih _ _ _ h
    refine jEZ.2 ⟨?_,this.2⟩
    have ho:=this.1
    unfold Sp.uM at ho
    simp only at ho
    have hk:=Sp.jCW k
    by_cases hp:Sp.zU ⟨k,f,t,u,x,0,0⟩=0
    ·rw [if_pos hp] at ho
     by_cases hl:(ks.length:Int)≠(Sp.jV k).kids
     ·rw [if_pos hl] at ho;simp at ho
     ·omega
    ·rw [if_neg hp,if_neg hp] at ho;exact absurd ho hp
theorem c_Of {S:NP} (p:Addr) (t:Sp.Tree) (s:Sl) (w:World) {L:Sp.Pool} {F:NP} (hT:TreeAt S w s t) (hP:jO w p L F) (hok:Sp.Ok L) (hFS:∀b,F b→¬ S b) (hSw:∀b,S b→b<w.heap.size) :
  Calls prog 77 #[.pointer (some p),.agg (uA t s).toArray] w
   (fun e w'=>∃r1:Int,∃r2:Int,e=.returned (.tuple #[.int .i64 r1,.int .i64 r2])∧((r1,r2)=((Sp.of L t).1,(Sp.of L t).2.1)∧∃F',jO w' p (Sp.of L t).2.2 F'∧Ext F w w'∧∀b,F' b→F b∨w.heap.size≤b)):=by
 obtain ⟨k,f,to,u,x,ks⟩:=t
 suffices key:∀K:Int→Int→WP,(∀r1 r2 w',((r1,r2)=((Sp.of L (.mk k f to u x ks)).1,(Sp.of L (.mk k f to u x ks)).2.1)∧∃F',jO w' p (Sp.of L (.mk k f to u x ks)).2.2 F'∧Ext F w w'∧∀b,F' b→F b∨w.heap.size≤b)→K r1 r2 w')→m_G1 (some p) k f to u x s w K from
  w_G1 _ _ _ _ _ _ _ w _ (key _ (fun _ _ _ h=>h))
 intro K hK
 unfold m_G1
 intro p2 w1 h1
 have b1:=Box.of_new h1
 have E1:Pure w w1:=Ext.new h1
 refine Br.f rfl ?_
 intro p3 w2 h2
 have E2:Pure w w2:=E1.trans (Ext.new h2)
 have o3:=New.own E1 h2
 have c3:=Box.of_new h2
 have n23:p2.block≠p3.block:=New.ne h2 b1.blk
 refine ⟨c3.canW0 (by simp),?_⟩
 intro w3 hw3
 have c3':Box w3 p3 [.int .i64 0] 3:=by rw [hw3];exact c3.set0
 have E23:Ext (·=p3.block) w2 w3:=by rw [hw3];exact Ext.setCell p3 _
 clear hw3
 have E3:Pure w w3:=E2.own o3 E23
 have b3:=(b1.pure (Ext.new h2:Pure w1 w2)).ext E23 n23
 refine ⟨_,_,_,_,_,s,b3.row,?_⟩
 generalize ht:Sp.Tree.mk k f to u x ks=t at *
 have htr:(Value.agg #[.int .i64 k,.int .i64 f,.int .i64 to,.int .u64 u,.string x,s.v])=.agg (uA t s).toArray:=by rw [← ht];rfl
 rw [htr]
 refine (jGG p3 (fun h=>by have:=hSw _ h;omega) _ t s 0 0 w3 (by omega) (by omega) (hT.pure E3) c3').mono ?_
 rintro _ w4 ⟨r1,rfl,rfl,_,E34⟩
 have E4:Pure w w4:=E3.own o3 E34
 have b4:=b3.ext E34 n23
 have jFT:∀w',Pure w w'→∃F',jO w' p L F'∧Ext F w w'∧∀b,F' b→F b∨w.heap.size≤b:=fun w' E=>⟨F,hP.pure E,E.pure,fun _ h=>.inl h⟩
 refine ⟨_,rfl,fun h=>?_,fun h=>?_⟩
 ·have h:(Sp.kW 0 0 t).1≠0:=by simpa using h
  have:Sp.of L t=(0,(Sp.kW 0 0 t).1,L):=by rw [Sp.of,if_pos h]
  refine hK _ _ _ ?_
  rw [this];exact ⟨rfl,jFT _ E4⟩
 ·have h:(Sp.kW 0 0 t).1=0:=by simpa using h
  have hP4:=hP.pure E4
  obtain ⟨s0,m0,hS0,hF0⟩:=id hP4
  have hl0:s0.len=L.length:=by rw [hS0.rows.len];simp
  refine ⟨p,rfl,s0,hS0.box.cell0,_,_,_,_,_,s,b4.row,?_⟩
  rw [htr]
  refine (c_grow p t s w4 L F (jCT t _ _ h) (hT.pure E4) hP4 hok hFS (fun b hb=>by have:=hSw b hb;have:=E4.size;omega)).mono ?_
  rintro _ w5 ⟨r1,r2,rfl,hr,F5,hP5,E45,hF5⟩
  have e1:r1=(Sp.grow L t).1:=congrArg Prod.fst hr
  have e2:r2=(Sp.grow L t).2.1:=congrArg Prod.snd hr
  have hs4:w.heap.size≤w4.heap.size:=E4.size
  have E5:Ext F w w5:=E4.pure.trans E45
  have hF5':∀b,F5 b→F b∨w.heap.size≤b:=fun b hb=>(hF5 b hb).elim .inl (fun h=>.inr (by omega))
  refine ⟨_,_,rfl,fun h'=>?_,fun h'=>?_⟩
  ·have h':(Sp.grow L t).2.1≠0:=by rw [← e2];simpa using h'
   obtain ⟨hok5,M,hM⟩:=Sp.xP t L hok
   rw [hl0]
   refine (c_cut p L.length w5 hP5 hok5 (by rw [hM];simp)).mono ?_
   rintro _ w6 ⟨rfl,hP6,E56⟩
   have:Sp.of L t=(0,(Sp.grow L t).2.1,L):=by rw [Sp.of,if_neg (by simp [h]),if_pos h']
   refine ⟨rfl,hK _ _ _ ?_⟩
   rw [this]
   rw [hM,List.take_left] at hP6
   exact ⟨by rw [e2],F5,hP6,E5.trans' E56 (fun i hi h=>(hF5' i h).elim id (fun h=>by omega)),hF5'⟩
  ·have h':(Sp.grow L t).2.1=0:=by rw [← e2];simpa using h'
   have:Sp.of L t=((Sp.grow L t).1,0,(Sp.grow L t).2.2):=by rw [Sp.of,if_neg (by simp [h]),if_neg (by simp [h'])]
   refine hK _ _ _ ?_
   rw [this]
   exact ⟨by rw [e1],F5,hP5,E5,hF5'⟩
end Go.Proofs
end
section
open Go Go.SE
open Go.IntKind renaming i64 → q6
namespace Go.Proofs
open Tryz
set_option maxRecDepth 100000
set_option maxHeartbeats 4000000
attribute [local irreducible] wpL wpX opE wpE Calls
def m_F_j2 (p2 p3 p5:Addr) (r3:Int) (w:World) (K:Int→Int→Int→ByteArray→Bool→Bool→WP):Prop :=Calls prog 109 #[(vp (some p3)),(vi r3),(vi 2)] w (fun e w16=>∃bH bI bK aR bJ dB dC,e=.returned (Ac bH bI bK aR bJ dB dC)∧(∀j,j<5→jW w16 (p5.add j))∧∀w17,w17=storeRow w16 p5 (Ai 7 0 aR false)→∃v6,w17.cell? (p3.add 1)=some (vb v6)∧Br v6 ((∀j,j<5→jW w17 (p2.add j))∧∀w18,w18=storeRow w17 p2 (Ai 0 0 0 false)→∃bT bU dD bV dE,Row w18 p2 (Aa bT bU dD bV dE)∧K bT bU dD bV dE false w18) (∃dF dG gB dH gC,Row w17 p5 (Aa dF dG gB dH gC)∧(∀j,j<5→jW w17 (p2.add j))∧∀w19,w19=storeRow w17 p2 (Aa dF dG gB dH gC)→∃bW bX dI bY dJ,Row w19 p2 (Aa bW bX dI bY dJ)∧K bW bX dI bY dJ true w19))
def m_F_j3 (p2 p3 p5:Addr) (r3:Int) (w:World) (K:Int→Int→Int→ByteArray→Bool→Bool→WP):Prop :=∃v7,w.cell? (p3.add 1)=some (vb v7)∧Br v7 (∃v8,w.cell? (p3.add 1)=some (vb v8)∧Br v8 ((∀j,j<5→jW w (p2.add j))∧∀w20,w20=storeRow w p2 (Ai 0 0 0 false)→∃bZ cA dK cB dL,Row w20 p2 (Aa bZ cA dK cB dL)∧K bZ cA dK cB dL false w20) (∃cY cZ gD dA gE,Row w p5 (Aa cY cZ gD dA gE)∧(∀j,j<5→jW w (p2.add j))∧∀w21,w21=storeRow w p2 (Aa cY cZ gD dA gE)→∃dM dN gF dO gG,Row w21 p2 (Aa dM dN gF dO gG)∧K dM dN gF dO gG true w21)) (m_F_j2 p2 p3 p5 r3 w K)
def m_F_j1 (t1:Int) (p2 p3 p5:Addr) (x1:Bool) (w:World) (K:Int→Int→Int→ByteArray→Bool→Bool→WP):Prop :=Br x1 (Calls prog 107 #[(vp (some p3)),(vi t1)] w (fun e w11=>∃bO bP dU bG dV,e=.returned (Ad bO bP dU bG dV)∧(∀j,j<5→jW w11 (p5.add j))∧∀w12,w12=storeRow w11 p5 (Aa bO bP dU bG dV)→∃v5,w12.cell? (p3.add 1)=some (vb v5)∧Br v5 ((∀j,j<5→jW w12 (p2.add j))∧∀w13,w13=storeRow w12 p2 (Ai 0 0 0 false)→∃aU aV cC aW cD,Row w13 p2 (Aa aU aV cC aW cD)∧K aU aV cC aW cD false w13) (∃bB bC gH bD gI,Row w12 p5 (Aa bB bC gH bD gI)∧(∀j,j<5→jW w12 (p2.add j))∧∀w14,w14=storeRow w12 p2 (Aa bB bC gH bD gI)→∃cE cF dP cG dQ,Row w14 p2 (Aa cE cF dP cG dQ)∧K cE cF dP cG dQ true w14))) (Calls prog 108 #[(vp (some p3)),(vi t1)] w (fun e w15=>∃r2 r3,e=.returned (.tuple #[(vs r2),(vi r3)])∧∃v9,w15.cell? (p3.add 1)=some (vb v9)∧Br v9 (jW w15 (p3.add 1)∧∀w22,w22=w15.setCell (p3.add 1) (vb true)→m_F_j3 p2 p3 p5 r3 w22 K) (jW w15 (p3.add 1)∧∀w23,w23=w15.setCell (p3.add 1) (vb (!(decide (r2=(⟨#[102,117,108,108]⟩:ByteArray)))))→m_F_j3 p2 p3 p5 r3 w23 K)))
def m_F (p1:Option Addr) (t1:Int) (w:World) (K:Int→Int→Int→ByteArray→Bool→Bool→WP):Prop :=∀p2 w1,New w (.cells #[(vi 0),(vi 0),(vu 0),ve,(vb false)] 35) p2 w1→∀p3 w2,New w1 (.cells #[(vp p1),(vb false)] 182) p3 w2→Calls prog 102 #[(vp p1),(vi t1)] w2 (fun e w3=>∃aE aF aG aD aH aX aY r1,e=.returned (.tuple #[(Ac aE aF aG aD aH aX aY),(vb r1)])∧∀p4 w4,New w3 (.cells #[(vi 0),(vi 0),(vi 0),(vu 0),ve,(vi 0),(vi 0)] 176) p4 w4→(∀j,j<7→jW w4 (p4.add j))∧∀w5,w5=storeRow w4 p4 (Ae aE aF aG aD aH aX aY)→∀p5 w6,New w5 (.cells #[(vi 0),(vi 0),(vu 0),ve,(vb false)] 35) p5 w6→∃v1,w6.cell? p4=some (vi v1)∧Br (v1 == 7) (∃v2,w6.cell? (p4.add 1)=some (vi v2)∧∃v3,w6.cell? (p4.add 5)=some (vi v3)∧Calls prog 106 #[(vp (some p3)),(vi v2),(vi v3)] w6 (fun e w7=>∃bE bF bM aZ bN,e=.returned (Ad bE bF bM aZ bN)∧(∀j,j<5→jW w7 (p5.add j))∧∀w8,w8=storeRow w7 p5 (Aa bE bF bM aZ bN)→∃v4,w8.cell? (p3.add 1)=some (vb v4)∧Br v4 ((∀j,j<5→jW w8 (p2.add j))∧∀w9,w9=storeRow w8 p2 (Ai 0 0 0 false)→∃aA aB cH aC cI,Row w9 p2 (Aa aA aB cH aC cI)∧K aA aB cH aC cI false w9) (∃aL aM gJ aN gK,Row w8 p5 (Aa aL aM gJ aN gK)∧(∀j,j<5→jW w8 (p2.add j))∧∀w10,w10=storeRow w8 p2 (Aa aL aM gJ aN gK)→∃aO aP cJ aQ cK,Row w10 p2 (Aa aO aP cJ aQ cK)∧K aO aP cJ aQ cK true w10))) (Br (v1 == 8) (m_F_j1 t1 p2 p3 p5 (v1 == 8) w6 K) (m_F_j1 t1 p2 p3 p5 (v1 == 9) w6 K)))
theorem w_F (p1 t1 w K) (h:m_F p1 t1 w K):
  Calls prog 51 #[(vp p1),(vi t1)] w (fun e w'=>∃cT cU fU cV fV r4,e=.returned (.tuple #[(Ad cT cU fU cV fV),(vb r4)])∧K cT cU fU cV fV r4 w'):=by
 refine cw (args:=[(vp p1),(vi t1)]) func51 ntmps51 (eg (sn (O:=(.cells #[(vi 0),(vi 0),(vu 0),ve,(vb false)] 35)) (jE (zeroValue35 _) rfl) ?_))
 intro p2 w1 hn18
 have h:=h p2 w1 hn18
 refine q (ln (jCC rfl (fun _ _ _ h=>h) (eg (q0 (vp p1) (q0 (.agg #[(vp p1),(vb false)]) (sn (O:=(.cells #[(vp p1),(vb false)] 182)) xb ?_))))))
 intro p3 w2 hn17
 have h:=h p3 w2 hn17
 refine q (ln (eg (qb (sc call102 (h.mono fun e w3 ⟨aE,aF,aG,aD,aH,aX,aY,r1,k,h⟩=>⟨_,k,?_⟩)))))
 refine qc (nw1 h (jE (zeroValue176 _) rfl) fun p4 w4 h=>sro (sizeOf176 _) h fun w5 h=>q (ln (eg (nw1 h (jE (zeroValue35 _) rfl) fun p5 w6 h=>ln (jA (jCD (jK (jA (eg (q0 (vp (some p4)) (ql (isAgg3 _) h fun v1 h=>ln (jH (eg (qb (ln (cbr h ?_ ?_))))))))))))))))<;>intro h
 refine rg (qb (ql (isAgg3 _) h fun v2 h=>q (ql (isAgg78 _) h fun v3 h=>sc call106 (h.mono fun e w7 ⟨bE,bF,bM,aZ,bN,k,h⟩=>⟨_,k,?_⟩))))
 refine sro (sizeOf35 _) h fun w8 h=>jD (vS (jK (jA (eg (qc (ql (isAgg4 _) h fun v4 h=>ln (cbr h ?_ ?_)))))))<;>intro h
 refine eg (q (sro (sizeOf35 _) h fun w9 h=>q (ln (er (jY ?_)))))
 obtain ⟨aA,aB,cH,aC,cI,hv1,h⟩:=h
 refine gg2 results51 (rva (isAgg35 _) (sizeOf35 _) hv1) (rvU (vb false)) ⟨aA,aB,cH,aC,cI,false,rfl,h⟩
 refine jB (jK (eg ?_))
 obtain ⟨aL,aM,gJ,aN,gK,hv3,h⟩:=h
 refine qa (isAgg35 _) (sizeOf35 _) hv3 (sro (sizeOf35 _) h fun w10 h=>q (ln (er ?_)))
 obtain ⟨aO,aP,cJ,aQ,cK,hv2,h⟩:=h
 refine gg2 results51 (rva (isAgg35 _) (sizeOf35 _) hv2) (rvU (vb true)) ⟨aO,aP,cJ,aQ,cK,true,rfl,h⟩
 refine zK (fun ρ w=>∃x1,Has ρ [(1,(vi t1)),(4,(vp (some p2))),(6,(vp (some p3))),(9,(vp (some p5))),(57,(vb x1))]∧m_F_j1 t1 p2 p3 p5 x1 w K) ?_ ?_
 rintro ρ w ⟨x1,hH,h⟩
 refine jQ hH (cbr h ?_ ?_)<;>intro h
 refine rg (qb (sc call107 (h.mono fun e w11 ⟨bO,bP,dU,bG,dV,k,h⟩=>⟨_,k,?_⟩)))
 refine sro (sizeOf35 _) h fun w12 h=>jD (vS (jK (jA (eg (qc (ql (isAgg4 _) h fun v5 h=>ln (cbr h ?_ ?_)))))))<;>intro h
 refine eg (q (sro (sizeOf35 _) h fun w13 h=>q (ln (er (jY ?_)))))
 obtain ⟨aU,aV,cC,aW,cD,hv7,h⟩:=h
 refine gg2 results51 (rva (isAgg35 _) (sizeOf35 _) hv7) (rvU (vb false)) ⟨aU,aV,cC,aW,cD,false,rfl,h⟩
 refine jB (jK (eg ?_))
 obtain ⟨bB,bC,gH,bD,gI,hv9,h⟩:=h
 refine qa (isAgg35 _) (sizeOf35 _) hv9 (sro (sizeOf35 _) h fun w14 h=>q (ln (er ?_)))
 obtain ⟨cE,cF,dP,cG,dQ,hv8,h⟩:=h
 refine gg2 results51 (rva (isAgg35 _) (sizeOf35 _) hv8) (rvU (vb true)) ⟨cE,cF,dP,cG,dQ,true,rfl,h⟩
 refine eg (qb (sc call108 (h.mono fun e w15 ⟨r2,r3,k,h⟩=>⟨_,k,?_⟩)))
 refine q (qd (ln (zK (fun ρ w=>Has ρ [(4,(vp (some p2))),(6,(vp (some p3))),(9,(vp (some p5))),(11,(vi r3))]∧m_F_j2 p2 p3 p5 r3 w K) ?_ ?_)))
 rintro ρ w ⟨hH,h⟩
 refine jQ hH (rg (qb (sc call109 (h.mono fun e w16 ⟨bH,bI,bK,aR,bJ,dB,dC,k,h⟩=>⟨_,k,?_⟩))))
 refine qb (sro (sizeOf35 _) h fun w17 h=>jD (vS (jK (jA (eg (qc (ql (isAgg4 _) h fun v6 h=>ln (cbr h ?_ ?_))))))))<;>intro h
 refine eg (q (sro (sizeOf35 _) h fun w18 h=>q (ln (er (jY ?_)))))
 obtain ⟨bT,bU,dD,bV,dE,hv11,h⟩:=h
 refine gg2 results51 (rva (isAgg35 _) (sizeOf35 _) hv11) (rvU (vb false)) ⟨bT,bU,dD,bV,dE,false,rfl,h⟩
 refine jB (jK (eg ?_))
 obtain ⟨dF,dG,gB,dH,gC,hv13,h⟩:=h
 refine qa (isAgg35 _) (sizeOf35 _) hv13 (sro (sizeOf35 _) h fun w19 h=>q (ln (er ?_)))
 obtain ⟨bW,bX,dI,bY,dJ,hv12,h⟩:=h
 refine gg2 results51 (rva (isAgg35 _) (sizeOf35 _) hv12) (rvU (vb true)) ⟨bW,bX,dI,bY,dJ,true,rfl,h⟩
 refine zK (fun ρ w=>Has ρ [(4,(vp (some p2))),(6,(vp (some p3))),(9,(vp (some p5))),(11,(vi r3))]∧m_F_j3 p2 p3 p5 r3 w K) ?_ ?_
 rintro ρ w ⟨hH,h⟩
 refine jQ hH (eg (qc (ql (isAgg4 _) h fun v7 h=>ln (cbr h ?_ ?_))))<;>intro h
 refine zL (qL (qI (jK (jA (eg (q0 (vp (some p3)) (q0 (vp (some p3)) (q0 (vp (some (p3.add 1))) (ql (isAgg4 _) h fun v8 h=>ln (cbr h ?_ ?_))))))))))<;>intro h
 refine eg (q (sro (sizeOf35 _) h fun w20 h=>q (ln (er (jY ?_)))))
 obtain ⟨bZ,cA,dK,cB,dL,hv15,h⟩:=h
 refine gg2 results51 (rva (isAgg35 _) (sizeOf35 _) hv15) (rvU (vb false)) ⟨bZ,cA,dK,cB,dL,false,rfl,h⟩
 refine jB (jK (eg ?_))
 obtain ⟨cY,cZ,gD,dA,gE,hv17,h⟩:=h
 refine qa (isAgg35 _) (sizeOf35 _) hv17 (sro (sizeOf35 _) h fun w21 h=>q (ln (er ?_)))
 obtain ⟨dM,dN,gF,dO,gG,hv16,h⟩:=h
 refine gg2 results51 (rva (isAgg35 _) (sizeOf35 _) hv16) (rvU (vb true)) ⟨dM,dN,gF,dO,gG,true,rfl,h⟩
 refine jB (jK ⟨hm,h⟩)
 refine rg (qd (ql (isAgg4 _) h fun v9 h=>q ?_))
 obtain ⟨hg1,h⟩|⟨hg1,h⟩:=h.br
 refine sj2 34 hg1 (q2 (vb true) (xT hg1) (qb (st1 (sizeOf4 _) h fun w22 h=>ln ⟨hm,h⟩)))
 refine qk 34 hg1 (stq (v:=(vb (!(decide (r2=(⟨#[102,117,108,108]⟩:ByteArray)))))) (wy 34 hg1) (vK (by kernel_rfl) (by kernel_rfl)) (q2 (vb (!(decide (r2=(⟨#[102,117,108,108]⟩:ByteArray))))) (xF hg1) (qb (st1 (sizeOf4 _) h fun w23 h=>ln ⟨hm,h⟩))))
 refine eg (qb (ln (cbr h ?_ ?_)))<;>intro h
 refine jB (jK ⟨(v1 == 8),hm,h⟩)
 refine rg (qb (ln ⟨(v1 == 9),hm,h⟩))
def m_A_j7 (who1:Int) (p1 a1 a2:Addr) (w:World) (K:Int→Int→Int→ByteArray→Bool→WP):Prop :=∃v1,w.cell? (a1.add 2)=some (vu v1)∧∃v2,w.cell? (a1.add 3)=some (vs v2)∧∃v3,w.cell? (a1.add 4)=some (vb v3)∧Br v3 ((∀j,j<5→jW w (p1.add j))∧∀w14,w14=storeRow w p1 (Aa 4 who1 v1 v2 true)→∃bT bU dD bV dE,Row w14 p1 (Aa bT bU dD bV dE)∧K bT bU dD bV dE w14) (∃v4,w.cell? (a2.add 4)=some (vb v4)∧(∀j,j<5→jW w (p1.add j))∧∀w15,w15=storeRow w p1 (Aa 4 who1 v1 v2 v4)→∃bW bX dI bY dJ,Row w15 p1 (Aa bW bX dI bY dJ)∧K bW bX dI bY dJ w15)
def m_A_j10 (r1:Option Addr) (who1:Int) (p1 a1 a2:Addr) (x8:Bool) (w:World) (K:Int→Int→Int→ByteArray→Bool→WP):Prop :=Br x8 (∃a4,r1=some a4∧jW w (a4.add 1)∧∀w16,w16=w.setCell (a4.add 1) (vb true)→m_A_j7 who1 p1 a1 a2 w16 K) (∃v6,w.cell? (a1.add 3)=some (vs v6)∧∃v7,w.cell? (a2.add 3)=some (vs v7)∧∃a5,r1=some a5∧jW w (a5.add 1)∧∀w17,w17=w.setCell (a5.add 1) (vb (!(decide (v6=v7))))→m_A_j7 who1 p1 a1 a2 w17 K)
def m_A_j9 (r1:Option Addr) (who1:Int) (p1 a1 a2:Addr) (x7:Bool) (w:World) (K:Int→Int→Int→ByteArray→Bool→WP):Prop :=Br x7 (m_A_j10 r1 who1 p1 a1 a2 true w K) (∃v8,w.cell? (a1.add 2)=some (vu v8)∧∃v9,w.cell? (a2.add 2)=some (vu v9)∧m_A_j10 r1 who1 p1 a1 a2 (v8 != v9) w K)
def m_A_j8 (r1:Option Addr) (who1:Int) (p1 a1 a2:Addr) (x6:Bool) (w:World) (K:Int→Int→Int→ByteArray→Bool→WP):Prop :=Br x6 (m_A_j9 r1 who1 p1 a1 a2 true w K) (∃v10,w.cell? (a2.add 1)=some (vi v10)∧m_A_j9 r1 who1 p1 a1 a2 (v10 != 1) w K)
def m_A_j6 (r1:Option Addr) (who1:Int) (p1 a1 a2:Addr) (w:World) (K:Int→Int→Int→ByteArray→Bool→WP):Prop :=∃a3,r1=some a3∧∃v5,w.cell? (a3.add 1)=some (vb v5)∧Br v5 (m_A_j8 r1 who1 p1 a1 a2 true w K) (∃v11,w.cell? (a1.add 1)=some (vi v11)∧m_A_j8 r1 who1 p1 a1 a2 (v11 != 0) w K)
def m_A_j5 (r1:Option Addr) (who1:Int) (p1:Addr) (r3:Int) (x5:Bool) (w:World) (K:Int→Int→Int→ByteArray→Bool→WP):Prop :=Br x5 (Calls prog 109 #[(vp r1),(vi r3),(vi 4)] w (fun e w11=>∃bO bP cW cX bG fZ gA,e=.returned (Ac bO bP cW cX bG fZ gA)∧∀p2 w12,New w11 (.cells #[(vi 0),(vi 0),(vi 0),(vu 0),ve,(vi 0),(vi 0)] 176) p2 w12→(∀j,j<7→jW w12 (p2.add j))∧∀w13,w13=storeRow w12 p2 (Ae bO bP cW cX bG fZ gA)→∃C1:WP,C1 w13.drew∧∀w18,w18=w13.drew→∃v12,(∀w',C1 w'→w'.cell? (p2.add 5)=some (vi v12))∧∃v13,(∀w',C1 w'→w'.cell? (p2.add 6)=some (vi v13))∧(Calls prog 107 #[(vp r1),(vi v12)] w18 (fun e w19=>∃bH bI bM bJ bN,e=.returned (Ad bH bI bM bJ bN)∧C1 w19∧(Calls prog 107 #[(vp r1),(vi v13)] w19 (fun e w20=>∃cT cU dU cV dV,e=.returned (Ad cT cU dU cV dV)∧(∀p3 w21,New w20 (.cells #[(vi 0),(vi 0),(vu 0),ve,(vb false)] 35) p3 w21→C1 w21∧∀p4 w22,New w21 (.cells #[(vi 0),(vi 0),(vu 0),ve,(vb false)] 35) p4 w22→C1 w22∧(∀j,j<5→jW w22 (p3.add j))∧∀w23,w23=storeRow w22 p3 (Aa bH bI bM bJ bN)→(∀j,j<5→jW w23 (p4.add j))∧∀w24,w24=storeRow w23 p4 (Aa cT cU dU cV dV)→m_A_j6 r1 who1 p1 p3 p4 w24 K)∧(∀p5 w25,New w20 (.cells #[(vi 0),(vi 0),(vu 0),ve,(vb false)] 35) p5 w25→C1 w25∧∀p6 w26,New w25 (.cells #[(vi 0),(vi 0),(vu 0),ve,(vb false)] 35) p6 w26→C1 w26∧(∀j,j<5→jW w26 (p6.add j))∧∀w27,w27=storeRow w26 p6 (Aa bH bI bM bJ bN)→(∀j,j<5→jW w27 (p5.add j))∧∀w28,w28=storeRow w27 p5 (Aa cT cU dU cV dV)→m_A_j6 r1 who1 p1 p6 p5 w28 K)))∧(∀p7 w29,New w19 (.cells #[(vi 0),(vi 0),(vu 0),ve,(vb false)] 35) p7 w29→C1 w29∧(Calls prog 107 #[(vp r1),(vi v13)] w29 (fun e w30=>∃dW dX fU dY fV,e=.returned (Ad dW dX fU dY fV)∧∀p8 w31,New w30 (.cells #[(vi 0),(vi 0),(vu 0),ve,(vb false)] 35) p8 w31→C1 w31∧(∀j,j<5→jW w31 (p7.add j))∧∀w32,w32=storeRow w31 p7 (Aa bH bI bM bJ bN)→(∀j,j<5→jW w32 (p8.add j))∧∀w33,w33=storeRow w32 p8 (Aa dW dX fU dY fV)→m_A_j6 r1 who1 p1 p7 p8 w33 K))∧(∀p9 w34,New w29 (.cells #[(vi 0),(vi 0),(vu 0),ve,(vb false)] 35) p9 w34→C1 w34∧Calls prog 107 #[(vp r1),(vi v13)] w34 (fun e w35=>∃eI eJ kY eK kZ,e=.returned (Ad eI eJ kY eK kZ)∧(∀j,j<5→jW w35 (p7.add j))∧∀w36,w36=storeRow w35 p7 (Aa bH bI bM bJ bN)→(∀j,j<5→jW w36 (p9.add j))∧∀w37,w37=storeRow w36 p9 (Aa eI eJ kY eK kZ)→m_A_j6 r1 who1 p1 p7 p9 w37 K)))∧(∀p10 w38,New w19 (.cells #[(vi 0),(vi 0),(vu 0),ve,(vb false)] 35) p10 w38→C1 w38∧(Calls prog 107 #[(vp r1),(vi v13)] w38 (fun e w39=>∃dZ eA lA eB lB,e=.returned (Ad dZ eA lA eB lB)∧∀p11 w40,New w39 (.cells #[(vi 0),(vi 0),(vu 0),ve,(vb false)] 35) p11 w40→C1 w40∧(∀j,j<5→jW w40 (p11.add j))∧∀w41,w41=storeRow w40 p11 (Aa bH bI bM bJ bN)→(∀j,j<5→jW w41 (p10.add j))∧∀w42,w42=storeRow w41 p10 (Aa dZ eA lA eB lB)→m_A_j6 r1 who1 p1 p11 p10 w42 K))∧(∀p12 w43,New w38 (.cells #[(vi 0),(vi 0),(vu 0),ve,(vb false)] 35) p12 w43→C1 w43∧Calls prog 107 #[(vp r1),(vi v13)] w43 (fun e w44=>∃eL eM lC eN lD,e=.returned (Ad eL eM lC eN lD)∧(∀j,j<5→jW w44 (p12.add j))∧∀w45,w45=storeRow w44 p12 (Aa bH bI bM bJ bN)→(∀j,j<5→jW w45 (p10.add j))∧∀w46,w46=storeRow w45 p10 (Aa eL eM lC eN lD)→m_A_j6 r1 who1 p1 p12 p10 w46 K)))))∧(∀p13 w47,New w18 (.cells #[(vi 0),(vi 0),(vu 0),ve,(vb false)] 35) p13 w47→C1 w47∧(Calls prog 107 #[(vp r1),(vi v12)] w47 (fun e w48=>∃eC eD iH eE iI,e=.returned (Ad eC eD iH eE iI)∧C1 w48∧(Calls prog 107 #[(vp r1),(vi v13)] w48 (fun e w49=>∃fF fG lE fH lF,e=.returned (Ad fF fG lE fH lF)∧∀p14 w50,New w49 (.cells #[(vi 0),(vi 0),(vu 0),ve,(vb false)] 35) p14 w50→C1 w50∧(∀j,j<5→jW w50 (p13.add j))∧∀w51,w51=storeRow w50 p13 (Aa eC eD iH eE iI)→(∀j,j<5→jW w51 (p14.add j))∧∀w52,w52=storeRow w51 p14 (Aa fF fG lE fH lF)→m_A_j6 r1 who1 p1 p13 p14 w52 K))∧(∀p15 w53,New w48 (.cells #[(vi 0),(vi 0),(vu 0),ve,(vb false)] 35) p15 w53→C1 w53∧Calls prog 107 #[(vp r1),(vi v13)] w53 (fun e w54=>∃fI fJ lG fK lH,e=.returned (Ad fI fJ lG fK lH)∧(∀j,j<5→jW w54 (p13.add j))∧∀w55,w55=storeRow w54 p13 (Aa eC eD iH eE iI)→(∀j,j<5→jW w55 (p15.add j))∧∀w56,w56=storeRow w55 p15 (Aa fI fJ lG fK lH)→m_A_j6 r1 who1 p1 p13 p15 w56 K))))∧(∀p16 w57,New w47 (.cells #[(vi 0),(vi 0),(vu 0),ve,(vb false)] 35) p16 w57→C1 w57∧Calls prog 107 #[(vp r1),(vi v12)] w57 (fun e w58=>∃eO eP lI eQ lJ,e=.returned (Ad eO eP lI eQ lJ)∧C1 w58∧Calls prog 107 #[(vp r1),(vi v13)] w58 (fun e w59=>∃fL fM lK fN lL,e=.returned (Ad fL fM lK fN lL)∧(∀j,j<5→jW w59 (p13.add j))∧∀w60,w60=storeRow w59 p13 (Aa eO eP lI eQ lJ)→(∀j,j<5→jW w60 (p16.add j))∧∀w61,w61=storeRow w60 p16 (Aa fL fM lK fN lL)→m_A_j6 r1 who1 p1 p13 p16 w61 K))))∧(∀p17 w62,New w18 (.cells #[(vi 0),(vi 0),(vu 0),ve,(vb false)] 35) p17 w62→C1 w62∧(Calls prog 107 #[(vp r1),(vi v12)] w62 (fun e w63=>∃eF eG iJ eH iK,e=.returned (Ad eF eG iJ eH iK)∧C1 w63∧(Calls prog 107 #[(vp r1),(vi v13)] w63 (fun e w64=>∃fO fP lM fQ lN,e=.returned (Ad fO fP lM fQ lN)∧∀p18 w65,New w64 (.cells #[(vi 0),(vi 0),(vu 0),ve,(vb false)] 35) p18 w65→C1 w65∧(∀j,j<5→jW w65 (p18.add j))∧∀w66,w66=storeRow w65 p18 (Aa eF eG iJ eH iK)→(∀j,j<5→jW w66 (p17.add j))∧∀w67,w67=storeRow w66 p17 (Aa fO fP lM fQ lN)→m_A_j6 r1 who1 p1 p18 p17 w67 K))∧(∀p19 w68,New w63 (.cells #[(vi 0),(vi 0),(vu 0),ve,(vb false)] 35) p19 w68→C1 w68∧Calls prog 107 #[(vp r1),(vi v13)] w68 (fun e w69=>∃eR eS lO eT lP,e=.returned (Ad eR eS lO eT lP)∧(∀j,j<5→jW w69 (p19.add j))∧∀w70,w70=storeRow w69 p19 (Aa eF eG iJ eH iK)→(∀j,j<5→jW w70 (p17.add j))∧∀w71,w71=storeRow w70 p17 (Aa eR eS lO eT lP)→m_A_j6 r1 who1 p1 p19 p17 w71 K))))∧(∀p20 w72,New w62 (.cells #[(vi 0),(vi 0),(vu 0),ve,(vb false)] 35) p20 w72→C1 w72∧Calls prog 107 #[(vp r1),(vi v12)] w72 (fun e w73=>∃eU eV lQ eW lR,e=.returned (Ad eU eV lQ eW lR)∧C1 w73∧Calls prog 107 #[(vp r1),(vi v13)] w73 (fun e w74=>∃fR fS lS fT lT,e=.returned (Ad fR fS lS fT lT)∧(∀j,j<5→jW w74 (p20.add j))∧∀w75,w75=storeRow w74 p20 (Aa eU eV lQ eW lR)→(∀j,j<5→jW w75 (p17.add j))∧∀w76,w76=storeRow w75 p17 (Aa fR fS lS fT lT)→m_A_j6 r1 who1 p1 p20 p17 w76 K)))))) (∃a6,r1=some a6∧jW w (a6.add 1)∧∀w77,w77=w.setCell (a6.add 1) (vb true)→(∀j,j<5→jW w77 (p1.add j))∧∀w78,w78=storeRow w77 p1 (Ai 0 0 0 false)→∃bZ cA dK cB dL,Row w78 p1 (Aa bZ cA dK cB dL)∧K bZ cA dK cB dL w78)
def m_A_j4 (r1:Option Addr) (who1 body1:Int) (p1:Addr) (r2:ByteArray) (r3:Int) (x4:Bool) (w:World) (K:Int→Int→Int→ByteArray→Bool→WP):Prop :=Br x4 (Calls prog 170 #[(vp r1),(vi body1)] w (fun e w9=>∃r6 r7,e=.returned (.tuple #[(vu r6),(vs r7)])∧(∀j,j<5→jW w9 (p1.add j))∧∀w10,w10=storeRow w9 p1 (Aa 2 who1 r6 r7 false)→∃cE cF dP cG dQ,Row w10 p1 (Aa cE cF dP cG dQ)∧K cE cF dP cG dQ w10)) (Br (decide (r2=(⟨#[114,101,115,111,108,118,101]⟩:ByteArray))) (m_A_j5 r1 who1 p1 r3 (decide (who1≤1)) w K) (m_A_j5 r1 who1 p1 r3 false w K))
def m_A_j3 (r1:Option Addr) (who1 body1:Int) (p1:Addr) (r2:ByteArray) (r3:Int) (x3:Bool) (w:World) (K:Int→Int→Int→ByteArray→Bool→WP):Prop :=Br x3 (Calls prog 170 #[(vp r1),(vi r3)] w (fun e w7=>∃r4 r5,e=.returned (.tuple #[(vu r4),(vs r5)])∧(∀j,j<5→jW w7 (p1.add j))∧∀w8,w8=storeRow w7 p1 (Aa 6 0 r4 r5 false)→∃aU aV cC aW cD,Row w8 p1 (Aa aU aV cC aW cD)∧K aU aV cC aW cD w8)) (Br (decide (r2=(⟨#[100,101,97,108]⟩:ByteArray))) (m_A_j4 r1 who1 body1 p1 r2 r3 (decide (who1≤1)) w K) (m_A_j4 r1 who1 body1 p1 r2 r3 false w K))
def m_A_j2 (r1:Option Addr) (who1 body1:Int) (p1:Addr) (r2:ByteArray) (r3:Int) (x2:Bool) (w:World) (K:Int→Int→Int→ByteArray→Bool→WP):Prop :=Br x2 (Calls prog 109 #[(vp r1),(vi r3),(vi 2)] w (fun e w5=>∃bE bF bK aR aZ dB dC,e=.returned (Ac bE bF bK aR aZ dB dC)∧(∀j,j<5→jW w5 (p1.add j))∧∀w6,w6=storeRow w5 p1 (Ai 5 0 aR false)→∃aO aP cJ aQ cK,Row w6 p1 (Aa aO aP cJ aQ cK)∧K aO aP cJ aQ cK w6)) (Br (decide (r2=(⟨#[105,110,115,116,101,97,100]⟩:ByteArray))) (m_A_j3 r1 who1 body1 p1 r2 r3 (who1 == 2) w K) (m_A_j3 r1 who1 body1 p1 r2 r3 false w K))
def m_A_j1 (r1:Option Addr) (who1 body1:Int) (p1:Addr) (r2:ByteArray) (r3:Int) (x1:Bool) (w:World) (K:Int→Int→Int→ByteArray→Bool→WP):Prop :=Br x1 (Calls prog 109 #[(vp r1),(vi r3),(vi 2)] w (fun e w3=>∃aE aF aG aD aH aX aY,e=.returned (Ac aE aF aG aD aH aX aY)∧(∀j,j<5→jW w3 (p1.add j))∧∀w4,w4=storeRow w3 p1 (Ai 3 0 aD false)→∃aA aB cH aC cI,Row w4 p1 (Aa aA aB cH aC cI)∧K aA aB cH aC cI w4)) (Br (decide (r2=(⟨#[97,98,111,114,116,101,100]⟩:ByteArray))) (m_A_j2 r1 who1 body1 p1 r2 r3 (who1 == 2) w K) (m_A_j2 r1 who1 body1 p1 r2 r3 false w K))
def m_A (r1:Option Addr) (who1 body1:Int) (w:World) (K:Int→Int→Int→ByteArray→Bool→WP):Prop :=∀p1 w1,New w (.cells #[(vi 0),(vi 0),(vu 0),ve,(vb false)] 35) p1 w1→Calls prog 108 #[(vp r1),(vi body1)] w1 (fun e w2=>∃r2 r3,e=.returned (.tuple #[(vs r2),(vi r3)])∧Br (decide (r2=(⟨#[97,98,111,114,116]⟩:ByteArray))) (m_A_j1 r1 who1 body1 p1 r2 r3 (who1 == 0) w2 K) (m_A_j1 r1 who1 body1 p1 r2 r3 false w2 K))
theorem w_A (r1 who1 body1 w K) (h:m_A r1 who1 body1 w K):
  Calls prog 106 #[(vp r1),(vi who1),(vi body1)] w (fun e w'=>∃hI hJ pM hK pN,e=.returned (Ad hI hJ pM hK pN)∧K hI hJ pM hK pN w'):=by
 refine cw (args:=[(vp r1),(vi who1),(vi body1)]) func106 ntmps106 (eg (sn (O:=(.cells #[(vi 0),(vi 0),(vu 0),ve,(vb false)] 35)) (jE (zeroValue35 _) rfl) ?_))
 intro p1 w1 hn55
 have h:=h p1 w1 hn55
 refine ln (eg (qb (sc call108 (h.mono fun e w2 ⟨r2,r3,k,h⟩=>⟨_,k,?_⟩))))
 refine q (qd (ln (jA (jH (zK (fun ρ w=>∃x1,Has ρ [(0,(vp r1)),(1,(vi who1)),(2,(vi body1)),(6,(vp (some p1))),(7,(vs r2)),(8,(vi r3)),(22,(vb x1))]∧m_A_j1 r1 who1 body1 p1 r2 r3 x1 w K) ?_ ?_)))))
 rintro ρ w ⟨x1,hH,h⟩
 refine jQ hH (cbr h ?_ ?_)<;>intro h
 refine eg (qb (sc call109 (h.mono fun e w3 ⟨aE,aF,aG,aD,aH,aX,aY,k,h⟩=>⟨_,k,?_⟩)))
 refine qb (sro (sizeOf35 _) h fun w4 h=>ln (er (vB (jY ?_))))
 obtain ⟨aA,aB,cH,aC,cI,hv1,h⟩:=h
 refine gg1 results106 (rva (isAgg35 _) (sizeOf35 _) hv1) ⟨aA,aB,cH,aC,cI,rfl,h⟩
 refine zK (fun ρ w=>∃x2,Has ρ [(0,(vp r1)),(1,(vi who1)),(2,(vi body1)),(6,(vp (some p1))),(7,(vs r2)),(8,(vi r3)),(34,(vb x2))]∧m_A_j2 r1 who1 body1 p1 r2 r3 x2 w K) ?_ ?_
 rintro ρ w ⟨x2,hH,h⟩
 refine jQ hH (cbr h ?_ ?_)<;>intro h
 refine eg (qb (sc call109 (h.mono fun e w5 ⟨bE,bF,bK,aR,aZ,dB,dC,k,h⟩=>⟨_,k,?_⟩)))
 refine qb (sro (sizeOf35 _) h fun w6 h=>ln (er (vB (jY ?_))))
 obtain ⟨aO,aP,cJ,aQ,cK,hv2,h⟩:=h
 refine gg1 results106 (rva (isAgg35 _) (sizeOf35 _) hv2) ⟨aO,aP,cJ,aQ,cK,rfl,h⟩
 refine zK (fun ρ w=>∃x3,Has ρ [(0,(vp r1)),(1,(vi who1)),(2,(vi body1)),(6,(vp (some p1))),(7,(vs r2)),(8,(vi r3)),(46,(vb x3))]∧m_A_j3 r1 who1 body1 p1 r2 r3 x3 w K) ?_ ?_
 rintro ρ w ⟨x3,hH,h⟩
 refine jQ hH (cbr h ?_ ?_)<;>intro h
 refine eg (qb (sc call170 (h.mono fun e w7 ⟨r4,r5,k,h⟩=>⟨_,k,?_⟩)))
 refine q (qd (ln (eg (qc (sro (sizeOf35 _) h fun w8 h=>ln (er (vB (jY ?_))))))))
 obtain ⟨aU,aV,cC,aW,cD,hv3,h⟩:=h
 refine gg1 results106 (rva (isAgg35 _) (sizeOf35 _) hv3) ⟨aU,aV,cC,aW,cD,rfl,h⟩
 refine zK (fun ρ w=>∃x4,Has ρ [(0,(vp r1)),(1,(vi who1)),(2,(vi body1)),(6,(vp (some p1))),(7,(vs r2)),(8,(vi r3)),(62,(vb x4))]∧m_A_j4 r1 who1 body1 p1 r2 r3 x4 w K) ?_ ?_
 rintro ρ w ⟨x4,hH,h⟩
 refine jQ hH (cbr h ?_ ?_)<;>intro h
 refine eg (qb (sc call170 (h.mono fun e w9 ⟨r6,r7,k,h⟩=>⟨_,k,?_⟩)))
 refine q (qd (ln (eg (qc (q (sro (sizeOf35 _) h fun w10 h=>ln (er (vB (jY ?_)))))))))
 obtain ⟨cE,cF,dP,cG,dQ,hv4,h⟩:=h
 refine gg1 results106 (rva (isAgg35 _) (sizeOf35 _) hv4) ⟨cE,cF,dP,cG,dQ,rfl,h⟩
 refine zK (fun ρ w=>∃x5,Has ρ [(0,(vp r1)),(1,(vi who1)),(6,(vp (some p1))),(8,(vi r3)),(79,(vb x5))]∧m_A_j5 r1 who1 p1 r3 x5 w K) ?_ ?_
 rintro ρ w ⟨x5,hH,h⟩
 refine jQ hH (cbr h ?_ ?_)<;>intro h
 refine eg (qb (sc call109 (h.mono fun e w11 ⟨bO,bP,cW,cX,bG,fZ,gA,k,h⟩=>⟨_,k,?_⟩)))
 refine nw1 h (jE (zeroValue176 _) rfl) fun p2 w12 h=>sro (sizeOf176 _) h fun w13 h=>ln (zK (fun ρ w=>∃a1 a2:Addr,Has ρ [(0,(vp r1)),(1,(vi who1)),(6,(vp (some p1))),(14,(vp (some a1))),(15,(vp (some a2)))]∧m_A_j6 r1 who1 p1 a1 a2 w K) ?_ ?_)
 rintro ρ w ⟨a1,a2,hH,h⟩
 refine jQ hH (zK (fun ρ w=>Has ρ [(1,(vi who1)),(6,(vp (some p1))),(14,(vp (some a1))),(15,(vp (some a2)))]∧m_A_j7 who1 p1 a1 a2 w K) ?_ ?_)
 rintro ρ w ⟨hH,h⟩
 refine jQ hH (eg (qb (ql (isAgg23 _) h fun v1 h=>q (ql (isAgg9 _) h fun v2 h=>q (ql (isAgg4 _) h fun v3 h=>q ?_)))))
 obtain ⟨hg1,h⟩|⟨hg1,h⟩:=h.br
 refine sj2 135 hg1 (q2 (vb true) (xT hg1) (q (sro (sizeOf35 _) h fun w14 h=>ln (er (vB (jY ?_))))))
 obtain ⟨bT,bU,dD,bV,dE,hv5,h⟩:=h
 refine gg1 results106 (rva (isAgg35 _) (sizeOf35 _) hv5) ⟨bT,bU,dD,bV,dE,rfl,h⟩
 refine qk 135 hg1 ?_
 obtain ⟨v4,hv7,h⟩:=h
 refine q4 135 hg1 (xl (isAgg4 _) hv7) (q2 (vb v4) (xF hg1) (q (sro (sizeOf35 _) h fun w15 h=>ln (er (vB (jY ?_))))))
 obtain ⟨bW,bX,dI,bY,dJ,hv6,h⟩:=h
 refine gg1 results106 (rva (isAgg35 _) (sizeOf35 _) hv6) ⟨bW,bX,dI,bY,dJ,rfl,h⟩
 refine rg (qb (qm h fun a3 h=>q (ql (isAgg4 _) h fun v5 h=>q (jP 4 (fun ρ w=>∃x6,Has ρ [(1,(vi who1)),(6,(vp (some p1))),(14,(vp (some a1))),(15,(vp (some a2))),(97,(vp r1)),(106,(vb x6))]∧m_A_j8 r1 who1 p1 a1 a2 x6 w K) ?_ ?_))))
 rintro ρ w ⟨x6,hH,h⟩
 refine jX hH (q (jP 4 (fun ρ w=>∃x7,Has ρ [(1,(vi who1)),(6,(vp (some p1))),(14,(vp (some a1))),(15,(vp (some a2))),(97,(vp r1)),(111,(vb x7))]∧m_A_j9 r1 who1 p1 a1 a2 x7 w K) ?_ ?_))
 rintro ρ w ⟨x7,hH,h⟩
 refine jX hH (q (jP 6 (fun ρ w=>∃x8,Has ρ [(1,(vi who1)),(6,(vp (some p1))),(14,(vp (some a1))),(15,(vp (some a2))),(97,(vp r1)),(118,(vb x8))]∧m_A_j10 r1 who1 p1 a1 a2 x8 w K) ?_ ?_))
 rintro ρ w ⟨x8,hH,h⟩
 refine jX hH (q ?_)
 obtain ⟨hg2,h⟩|⟨hg2,h⟩:=h.br
 refine sj5 119 hg2 (q2 (vb true) (xT hg2) (qm h fun a4 h=>q (st1 (sizeOf4 _) h fun w16 h=>ln ⟨hm,h⟩)))
 refine qk 119 hg2 ?_
 obtain ⟨v6,hv12,h⟩:=h
 refine q4 119 hg2 (xl (isAgg9 _) hv12) (qk 119 hg2 ?_)
 obtain ⟨v7,hv11,h⟩:=h
 refine q4 119 hg2 (xl (isAgg9 _) hv11) (stq (v:=(vb (!(decide (v6=v7))))) (wy 119 hg2) (vK (by kernel_rfl) (by kernel_rfl)) (q2 (vb (!(decide (v6=v7)))) (xF hg2) (qm h fun a5 h=>q (st1 (sizeOf4 _) h fun w17 h=>ln ⟨hm,h⟩))))
 obtain ⟨hg3,h⟩|⟨hg3,h⟩:=h.br
 refine sj5 112 hg3 (q2 (vb true) (xT hg3) (jD ⟨true,hm,h⟩))
 refine qk 112 hg3 ?_
 obtain ⟨v8,hv14,h⟩:=h
 refine q4 112 hg3 (xl (isAgg23 _) hv14) (qk 112 hg3 ?_)
 obtain ⟨v9,hv13,h⟩:=h
 refine q4 112 hg3 (xl (isAgg23 _) hv13) (qk 112 hg3 (q2 (vb (v8 != v9)) (xF hg3) (jD ⟨(v8 != v9),hm,h⟩)))
 obtain ⟨hg4,h⟩|⟨hg4,h⟩:=h.br
 refine sj3 107 hg4 (q2 (vb true) (xT hg4) (jD ⟨true,hm,h⟩))
 refine qk 107 hg4 ?_
 obtain ⟨v10,hv15,h⟩:=h
 refine q4 107 hg4 (xl (isAgg3 _) hv15) (qk 107 hg4 (q2 (vb (v10 != 1)) (xF hg4) (jD ⟨(v10 != 1),hm,h⟩)))
 obtain ⟨hg5,h⟩|⟨hg5,h⟩:=h.br
 refine sj3 102 hg5 (q2 (vb true) (xT hg5) (jD ⟨true,hm,h⟩))
 refine qk 102 hg5 ?_
 obtain ⟨v11,hv16,h⟩:=h
 refine q4 102 hg5 (xl (isAgg3 _) hv16) (qk 102 hg5 (q2 (vb (v11 != 0)) (xF hg5) (jD ⟨(v11 != 0),hm,h⟩)))
 obtain ⟨C1,hC,h⟩:=h
 refine dr1 C1 [3,7,8,9,10,11] [7,10,11] hC h fun w18 h=>qx 0 (vp r1) Kp0 (qx 1 (vp (some (p2.add 5))) Kp1 (qg 2 ?_))
 obtain ⟨v12,hv19,h⟩:=h
 refine sy Kp2 (fun _ k=>xl (isAgg78 _) (hv19 _ k)) (qx 4 (vp r1) Kp4 (qx 5 (vp (some (p2.add 6))) Kp5 (qg 6 ?_)))
 obtain ⟨v13,hv18,h⟩:=h
 refine sy Kp6 (fun _ k=>xl (isAgg78 _) (hv18 _ k)) (lgo3 (k:=3) (k':=8) (k'':=9) (by kernel_rfl) ?_ ?_ ?_)
 have h:=h.1
 refine slc Kp3 call107 (h.mono ?_)
 rintro e w19 ⟨bH,bI,bM,bJ,bN,rfl,hC,h⟩
 refine ⟨_,rfl,.inr hC,?_⟩
 refine lgo3 (k:=7) (k':=8) (k'':=9) (by kernel_rfl) ?_ ?_ ?_
 have h:=h.1
 refine slc Kp7 call107 (h.mono ?_)
 rintro e w20 ⟨cT,cU,dU,cV,dV,rfl,h⟩
 refine ⟨_,rfl,.inl (by kernel_rfl),?_⟩
 refine jDV (k:=8) (k':=9) (by kernel_rfl) ?_ ?_
 have h:=h.1
 refine zI (O:=(.cells #[(vi 0),(vi 0),(vu 0),ve,(vb false)] 35)) (fun p=>.pointer (some p)) Kp8 (jL rfl) (by kernel_rfl) (jE (zeroValue35 _) rfl) ?_
 intro p3 w21 hn13
 have h:=h p3 w21 hn13
 refine ⟨.inr h.1,?_⟩
 have h:=h.2
 refine lg 9 (zI (O:=(.cells #[(vi 0),(vi 0),(vu 0),ve,(vb false)] 35)) (fun p=>.pointer (some p)) Kp9 (jL rfl) (by kernel_rfl) (jE (zeroValue35 _) rfl) ?_)
 intro p4 w22 hn12
 have h:=h p4 w22 hn12
 refine ⟨.inr h.1,?_⟩
 have h:=h.2
 refine lg 10 (slo (jJ (S8 (jC (jC jI)))) (sizeOf35 _) h fun w23 h=>⟨.inl (by kernel_rfl),?_⟩)
 refine lg 11 (slo (jJ (S8 (jC (jC (jC jI))))) (sizeOf35 _) h fun w24 h=>⟨.inl (by kernel_rfl),?_⟩)
 refine wn (jK ⟨p3,p4,hm,h⟩)
 have h:=h.2
 refine zI (O:=(.cells #[(vi 0),(vi 0),(vu 0),ve,(vb false)] 35)) (fun p=>.pointer (some p)) Kp9 (jL rfl) (by kernel_rfl) (jE (zeroValue35 _) rfl) ?_
 intro p5 w25 hn17
 have h:=h p5 w25 hn17
 refine ⟨.inr h.1,?_⟩
 have h:=h.2
 refine lg 8 (zI (O:=(.cells #[(vi 0),(vi 0),(vu 0),ve,(vb false)] 35)) (fun p=>.pointer (some p)) Kp8 (jL rfl) (by kernel_rfl) (jE (zeroValue35 _) rfl) ?_)
 intro p6 w26 hn16
 have h:=h p6 w26 hn16
 refine ⟨.inr h.1,?_⟩
 have h:=h.2
 refine lg 10 (slo (jJ (S8 (jC (jC jI)))) (sizeOf35 _) h fun w27 h=>⟨.inl (by kernel_rfl),?_⟩)
 refine lg 11 (slo (jJ (S8 (jC (jC (jC jI))))) (sizeOf35 _) h fun w28 h=>⟨.inl (by kernel_rfl),?_⟩)
 refine wn (jK ⟨p6,p5,hm,h⟩)
 have h:=h.2.1
 refine zI (O:=(.cells #[(vi 0),(vi 0),(vu 0),ve,(vb false)] 35)) (fun p=>.pointer (some p)) Kp8 (jL rfl) (by kernel_rfl) (jE (zeroValue35 _) rfl) ?_
 intro p7 w29 hn24
 have h:=h p7 w29 hn24
 refine ⟨.inr h.1,?_⟩
 have h:=h.2
 refine jDV (k:=7) (k':=9) (by kernel_rfl) ?_ ?_
 have h:=h.1
 refine slc Kp7 call107 (h.mono ?_)
 rintro e w30 ⟨dW,dX,fU,dY,fV,rfl,h⟩
 refine ⟨_,rfl,.inl (by kernel_rfl),?_⟩
 refine lg 9 (zI (O:=(.cells #[(vi 0),(vi 0),(vu 0),ve,(vb false)] 35)) (fun p=>.pointer (some p)) Kp9 (jL rfl) (by kernel_rfl) (jE (zeroValue35 _) rfl) ?_)
 intro p8 w31 hn20
 have h:=h p8 w31 hn20
 refine ⟨.inr h.1,?_⟩
 have h:=h.2
 refine lg 10 (slo (jJ (S8 (jC (jC jI)))) (sizeOf35 _) h fun w32 h=>⟨.inl (by kernel_rfl),?_⟩)
 refine lg 11 (slo (jJ (S8 (jC (jC (jC jI))))) (sizeOf35 _) h fun w33 h=>⟨.inl (by kernel_rfl),?_⟩)
 refine wn (jK ⟨p7,p8,hm,h⟩)
 have h:=h.2
 refine zI (O:=(.cells #[(vi 0),(vi 0),(vu 0),ve,(vb false)] 35)) (fun p=>.pointer (some p)) Kp9 (jL rfl) (by kernel_rfl) (jE (zeroValue35 _) rfl) ?_
 intro p9 w34 hn23
 have h:=h p9 w34 hn23
 refine ⟨.inr h.1,?_⟩
 have h:=h.2
 refine lg 7 (slc Kp7 call107 (h.mono ?_))
 rintro e w35 ⟨eI,eJ,kY,eK,kZ,rfl,h⟩
 refine ⟨_,rfl,.inl (by kernel_rfl),?_⟩
 refine lg 10 (slo (jJ (S8 (jC (jC jI)))) (sizeOf35 _) h fun w36 h=>⟨.inl (by kernel_rfl),?_⟩)
 refine lg 11 (slo (jJ (S8 (jC (jC (jC jI))))) (sizeOf35 _) h fun w37 h=>⟨.inl (by kernel_rfl),?_⟩)
 refine wn (jK ⟨p7,p9,hm,h⟩)
 have h:=h.2.2
 refine zI (O:=(.cells #[(vi 0),(vi 0),(vu 0),ve,(vb false)] 35)) (fun p=>.pointer (some p)) Kp9 (jL rfl) (by kernel_rfl) (jE (zeroValue35 _) rfl) ?_
 intro p10 w38 hn31
 have h:=h p10 w38 hn31
 refine ⟨.inr h.1,?_⟩
 have h:=h.2
 refine jDV (k:=7) (k':=8) (by kernel_rfl) ?_ ?_
 have h:=h.1
 refine slc Kp7 call107 (h.mono ?_)
 rintro e w39 ⟨dZ,eA,lA,eB,lB,rfl,h⟩
 refine ⟨_,rfl,.inl (by kernel_rfl),?_⟩
 refine lg 8 (zI (O:=(.cells #[(vi 0),(vi 0),(vu 0),ve,(vb false)] 35)) (fun p=>.pointer (some p)) Kp8 (jL rfl) (by kernel_rfl) (jE (zeroValue35 _) rfl) ?_)
 intro p11 w40 hn27
 have h:=h p11 w40 hn27
 refine ⟨.inr h.1,?_⟩
 have h:=h.2
 refine lg 10 (slo (jJ (S8 (jC (jC jI)))) (sizeOf35 _) h fun w41 h=>⟨.inl (by kernel_rfl),?_⟩)
 refine lg 11 (slo (jJ (S8 (jC (jC (jC jI))))) (sizeOf35 _) h fun w42 h=>⟨.inl (by kernel_rfl),?_⟩)
 refine wn (jK ⟨p11,p10,hm,h⟩)
 have h:=h.2
 refine zI (O:=(.cells #[(vi 0),(vi 0),(vu 0),ve,(vb false)] 35)) (fun p=>.pointer (some p)) Kp8 (jL rfl) (by kernel_rfl) (jE (zeroValue35 _) rfl) ?_
 intro p12 w43 hn30
 have h:=h p12 w43 hn30
 refine ⟨.inr h.1,?_⟩
 have h:=h.2
 refine lg 7 (slc Kp7 call107 (h.mono ?_))
 rintro e w44 ⟨eL,eM,lC,eN,lD,rfl,h⟩
 refine ⟨_,rfl,.inl (by kernel_rfl),?_⟩
 refine lg 10 (slo (jJ (S8 (jC (jC jI)))) (sizeOf35 _) h fun w45 h=>⟨.inl (by kernel_rfl),?_⟩)
 refine lg 11 (slo (jJ (S8 (jC (jC (jC jI))))) (sizeOf35 _) h fun w46 h=>⟨.inl (by kernel_rfl),?_⟩)
 refine wn (jK ⟨p12,p10,hm,h⟩)
 have h:=h.2.1
 refine zI (O:=(.cells #[(vi 0),(vi 0),(vu 0),ve,(vb false)] 35)) (fun p=>.pointer (some p)) Kp8 (jL rfl) (by kernel_rfl) (jE (zeroValue35 _) rfl) ?_
 intro p13 w47 hn41
 have h:=h p13 w47 hn41
 refine ⟨.inr h.1,?_⟩
 have h:=h.2
 refine jDV (k:=3) (k':=9) (by kernel_rfl) ?_ ?_
 have h:=h.1
 refine slc Kp3 call107 (h.mono ?_)
 rintro e w48 ⟨eC,eD,iH,eE,iI,rfl,hC,h⟩
 refine ⟨_,rfl,.inr hC,?_⟩
 refine jDV (k:=7) (k':=9) (by kernel_rfl) ?_ ?_
 have h:=h.1
 refine slc Kp7 call107 (h.mono ?_)
 rintro e w49 ⟨fF,fG,lE,fH,lF,rfl,h⟩
 refine ⟨_,rfl,.inl (by kernel_rfl),?_⟩
 refine lg 9 (zI (O:=(.cells #[(vi 0),(vi 0),(vu 0),ve,(vb false)] 35)) (fun p=>.pointer (some p)) Kp9 (jL rfl) (by kernel_rfl) (jE (zeroValue35 _) rfl) ?_)
 intro p14 w50 hn34
 have h:=h p14 w50 hn34
 refine ⟨.inr h.1,?_⟩
 have h:=h.2
 refine lg 10 (slo (jJ (S8 (jC (jC jI)))) (sizeOf35 _) h fun w51 h=>⟨.inl (by kernel_rfl),?_⟩)
 refine lg 11 (slo (jJ (S8 (jC (jC (jC jI))))) (sizeOf35 _) h fun w52 h=>⟨.inl (by kernel_rfl),?_⟩)
 refine wn (jK ⟨p13,p14,hm,h⟩)
 have h:=h.2
 refine zI (O:=(.cells #[(vi 0),(vi 0),(vu 0),ve,(vb false)] 35)) (fun p=>.pointer (some p)) Kp9 (jL rfl) (by kernel_rfl) (jE (zeroValue35 _) rfl) ?_
 intro p15 w53 hn37
 have h:=h p15 w53 hn37
 refine ⟨.inr h.1,?_⟩
 have h:=h.2
 refine lg 7 (slc Kp7 call107 (h.mono ?_))
 rintro e w54 ⟨fI,fJ,lG,fK,lH,rfl,h⟩
 refine ⟨_,rfl,.inl (by kernel_rfl),?_⟩
 refine lg 10 (slo (jJ (S8 (jC (jC jI)))) (sizeOf35 _) h fun w55 h=>⟨.inl (by kernel_rfl),?_⟩)
 refine lg 11 (slo (jJ (S8 (jC (jC (jC jI))))) (sizeOf35 _) h fun w56 h=>⟨.inl (by kernel_rfl),?_⟩)
 refine wn (jK ⟨p13,p15,hm,h⟩)
 have h:=h.2
 refine zI (O:=(.cells #[(vi 0),(vi 0),(vu 0),ve,(vb false)] 35)) (fun p=>.pointer (some p)) Kp9 (jL rfl) (by kernel_rfl) (jE (zeroValue35 _) rfl) ?_
 intro p16 w57 hn40
 have h:=h p16 w57 hn40
 refine ⟨.inr h.1,?_⟩
 have h:=h.2
 refine lg 3 (slc Kp3 call107 (h.mono ?_))
 rintro e w58 ⟨eO,eP,lI,eQ,lJ,rfl,hC,h⟩
 refine ⟨_,rfl,.inr hC,?_⟩
 refine lg 7 (slc Kp7 call107 (h.mono ?_))
 rintro e w59 ⟨fL,fM,lK,fN,lL,rfl,h⟩
 refine ⟨_,rfl,.inl (by kernel_rfl),?_⟩
 refine lg 10 (slo (jJ (S8 (jC (jC jI)))) (sizeOf35 _) h fun w60 h=>⟨.inl (by kernel_rfl),?_⟩)
 refine lg 11 (slo (jJ (S8 (jC (jC (jC jI))))) (sizeOf35 _) h fun w61 h=>⟨.inl (by kernel_rfl),?_⟩)
 refine wn (jK ⟨p13,p16,hm,h⟩)
 have h:=h.2.2
 refine zI (O:=(.cells #[(vi 0),(vi 0),(vu 0),ve,(vb false)] 35)) (fun p=>.pointer (some p)) Kp9 (jL rfl) (by kernel_rfl) (jE (zeroValue35 _) rfl) ?_
 intro p17 w62 hn51
 have h:=h p17 w62 hn51
 refine ⟨.inr h.1,?_⟩
 have h:=h.2
 refine jDV (k:=3) (k':=8) (by kernel_rfl) ?_ ?_
 have h:=h.1
 refine slc Kp3 call107 (h.mono ?_)
 rintro e w63 ⟨eF,eG,iJ,eH,iK,rfl,hC,h⟩
 refine ⟨_,rfl,.inr hC,?_⟩
 refine jDV (k:=7) (k':=8) (by kernel_rfl) ?_ ?_
 have h:=h.1
 refine slc Kp7 call107 (h.mono ?_)
 rintro e w64 ⟨fO,fP,lM,fQ,lN,rfl,h⟩
 refine ⟨_,rfl,.inl (by kernel_rfl),?_⟩
 refine lg 8 (zI (O:=(.cells #[(vi 0),(vi 0),(vu 0),ve,(vb false)] 35)) (fun p=>.pointer (some p)) Kp8 (jL rfl) (by kernel_rfl) (jE (zeroValue35 _) rfl) ?_)
 intro p18 w65 hn44
 have h:=h p18 w65 hn44
 refine ⟨.inr h.1,?_⟩
 have h:=h.2
 refine lg 10 (slo (jJ (S8 (jC (jC jI)))) (sizeOf35 _) h fun w66 h=>⟨.inl (by kernel_rfl),?_⟩)
 refine lg 11 (slo (jJ (S8 (jC (jC (jC jI))))) (sizeOf35 _) h fun w67 h=>⟨.inl (by kernel_rfl),?_⟩)
 refine wn (jK ⟨p18,p17,hm,h⟩)
 have h:=h.2
 refine zI (O:=(.cells #[(vi 0),(vi 0),(vu 0),ve,(vb false)] 35)) (fun p=>.pointer (some p)) Kp8 (jL rfl) (by kernel_rfl) (jE (zeroValue35 _) rfl) ?_
 intro p19 w68 hn47
 have h:=h p19 w68 hn47
 refine ⟨.inr h.1,?_⟩
 have h:=h.2
 refine lg 7 (slc Kp7 call107 (h.mono ?_))
 rintro e w69 ⟨eR,eS,lO,eT,lP,rfl,h⟩
 refine ⟨_,rfl,.inl (by kernel_rfl),?_⟩
 refine lg 10 (slo (jJ (S8 (jC (jC jI)))) (sizeOf35 _) h fun w70 h=>⟨.inl (by kernel_rfl),?_⟩)
 refine lg 11 (slo (jJ (S8 (jC (jC (jC jI))))) (sizeOf35 _) h fun w71 h=>⟨.inl (by kernel_rfl),?_⟩)
 refine wn (jK ⟨p19,p17,hm,h⟩)
 have h:=h.2
 refine zI (O:=(.cells #[(vi 0),(vi 0),(vu 0),ve,(vb false)] 35)) (fun p=>.pointer (some p)) Kp8 (jL rfl) (by kernel_rfl) (jE (zeroValue35 _) rfl) ?_
 intro p20 w72 hn50
 have h:=h p20 w72 hn50
 refine ⟨.inr h.1,?_⟩
 have h:=h.2
 refine lg 3 (slc Kp3 call107 (h.mono ?_))
 rintro e w73 ⟨eU,eV,lQ,eW,lR,rfl,hC,h⟩
 refine ⟨_,rfl,.inr hC,?_⟩
 refine lg 7 (slc Kp7 call107 (h.mono ?_))
 rintro e w74 ⟨fR,fS,lS,fT,lT,rfl,h⟩
 refine ⟨_,rfl,.inl (by kernel_rfl),?_⟩
 refine lg 10 (slo (jJ (S8 (jC (jC jI)))) (sizeOf35 _) h fun w75 h=>⟨.inl (by kernel_rfl),?_⟩)
 refine lg 11 (slo (jJ (S8 (jC (jC (jC jI))))) (sizeOf35 _) h fun w76 h=>⟨.inl (by kernel_rfl),?_⟩)
 refine wn (jK ⟨p20,p17,hm,h⟩)
 refine jB (vS (jK (eg (q (qm h fun a6 h=>q (st1 (sizeOf4 _) h fun w77 h=>ln (eg (q (sro (sizeOf35 _) h fun w78 h=>ln (er ?_))))))))))
 obtain ⟨bZ,cA,dK,cB,dL,hv20,h⟩:=h
 refine gg1 results106 (rva (isAgg35 _) (sizeOf35 _) hv20) ⟨bZ,cA,dK,cB,dL,rfl,h⟩
 refine rg (q (q2 (vb (decide (r2=(⟨#[114,101,115,111,108,118,101]⟩:ByteArray)))) (uU (by kernel_rfl) (by kernel_rfl)) (q ?_)))
 obtain ⟨hg6,h⟩|⟨hg6,h⟩:=h.br
 refine qk 82 hg6 (qk 82 hg6 (q2 (vb (decide (who1≤1))) (xT hg6) (q (ln ⟨(decide (who1≤1)),hm,h⟩))))
 refine sj2 82 hg6 (q2 (vb false) (xF hg6) (q (ln ⟨false,hm,h⟩)))
 refine rg (q (q2 (vb (decide (r2=(⟨#[100,101,97,108]⟩:ByteArray)))) (uU (by kernel_rfl) (by kernel_rfl)) (q ?_)))
 obtain ⟨hg7,h⟩|⟨hg7,h⟩:=h.br
 refine qk 65 hg7 (qk 65 hg7 (q2 (vb (decide (who1≤1))) (xT hg7) (q (ln ⟨(decide (who1≤1)),hm,h⟩))))
 refine sj2 65 hg7 (q2 (vb false) (xF hg7) (q (ln ⟨false,hm,h⟩)))
 refine rg (q (q2 (vb (decide (r2=(⟨#[105,110,115,116,101,97,100]⟩:ByteArray)))) (uU (by kernel_rfl) (by kernel_rfl)) (q ?_)))
 obtain ⟨hg8,h⟩|⟨hg8,h⟩:=h.br
 refine qk 49 hg8 (qk 49 hg8 (q2 (vb (who1 == 2)) (xT hg8) (q (ln ⟨(who1 == 2),hm,h⟩))))
 refine sj2 49 hg8 (q2 (vb false) (xF hg8) (q (ln ⟨false,hm,h⟩)))
 refine rg (q (q2 (vb (decide (r2=(⟨#[97,98,111,114,116,101,100]⟩:ByteArray)))) (uU (by kernel_rfl) (by kernel_rfl)) (q ?_)))
 obtain ⟨hg9,h⟩|⟨hg9,h⟩:=h.br
 refine qk 37 hg9 (qk 37 hg9 (q2 (vb (who1 == 2)) (xT hg9) (q (ln ⟨(who1 == 2),hm,h⟩))))
 refine sj2 37 hg9 (q2 (vb false) (xF hg9) (q (ln ⟨false,hm,h⟩)))
 refine rg (q (q2 (vb (decide (r2=(⟨#[97,98,111,114,116]⟩:ByteArray)))) (uU (by kernel_rfl) (by kernel_rfl)) (q ?_)))
 obtain ⟨hg10,h⟩|⟨hg10,h⟩:=h.br
 refine qk 25 hg10 (qk 25 hg10 (q2 (vb (who1 == 0)) (xT hg10) (q (ln ⟨(who1 == 0),hm,h⟩))))
 refine sj2 25 hg10 (q2 (vb false) (xF hg10) (q (ln ⟨false,hm,h⟩)))
def m_G_j1 (r1:Option Addr) (p1 p2:Addr) (w:World) (K:Int→Int→Int→ByteArray→Bool→WP):Prop :=∃v2,w.cell? (p2.add 5)=some (vi v2)∧Calls prog 170 #[(vp r1),(vi v2)] w (fun e w5=>∃r3 r4,e=.returned (.tuple #[(vu r3),(vs r4)])∧∃v3,w5.cell? (p2.add 1)=some (vi v3)∧∃v4,w5.cell? p2=some (vi v4)∧(∀j,j<5→jW w5 (p1.add j))∧∀w6,w6=storeRow w5 p1 (Aa 1 v3 r3 r4 (v4 == 9))→∃aA aB cH aC cI,Row w6 p1 (Aa aA aB cH aC cI)∧K aA aB cH aC cI w6)
def m_G_j3 (r1:Option Addr) (p1 p2:Addr) (x2:Bool) (w:World) (K:Int→Int→Int→ByteArray→Bool→WP):Prop :=Br x2 (∃a2,r1=some a2∧jW w (a2.add 1)∧∀w7,w7=w.setCell (a2.add 1) (vb true)→(∀j,j<5→jW w7 (p1.add j))∧∀w8,w8=storeRow w7 p1 (Ai 0 0 0 false)→∃aO aP cJ aQ cK,Row w8 p1 (Aa aO aP cJ aQ cK)∧K aO aP cJ aQ cK w8) (∃v6,w.cell? (p2.add 2)=some (vi v6)∧∃v7,w.cell? (p2.add 1)=some (vi v7)∧Br (v6 != (q6.wrap (1 - v7))) (∃a3,r1=some a3∧jW w (a3.add 1)∧∀w9,w9=w.setCell (a3.add 1) (vb true)→(∀j,j<5→jW w9 (p1.add j))∧∀w10,w10=storeRow w9 p1 (Ai 0 0 0 false)→∃aU aV cC aW cD,Row w10 p1 (Aa aU aV cC aW cD)∧K aU aV cC aW cD w10) (m_G_j1 r1 p1 p2 w K))
def m_G_j2 (r1:Option Addr) (p1 p2:Addr) (x1:Bool) (w:World) (K:Int→Int→Int→ByteArray→Bool→WP):Prop :=Br x1 (m_G_j3 r1 p1 p2 true w K) (∃v8,w.cell? (p2.add 1)=some (vi v8)∧m_G_j3 r1 p1 p2 (decide (v8>1)) w K)
def m_G (r1:Option Addr) (t1:Int) (w:World) (K:Int→Int→Int→ByteArray→Bool→WP):Prop :=∀p1 w1,New w (.cells #[(vi 0),(vi 0),(vu 0),ve,(vb false)] 35) p1 w1→∃a1,r1=some a1∧∃v1,w1.cell? a1=some (vp v1)∧Calls prog 102 #[(vp v1),(vi t1)] w1 (fun e w2=>∃aE aF aG aD aH aX aY r2,e=.returned (.tuple #[(Ac aE aF aG aD aH aX aY),(vb r2)])∧∀p2 w3,New w2 (.cells #[(vi 0),(vi 0),(vi 0),(vu 0),ve,(vi 0),(vi 0)] 176) p2 w3→(∀j,j<7→jW w3 (p2.add j))∧∀w4,w4=storeRow w3 p2 (Ae aE aF aG aD aH aX aY)→∃v5,w4.cell? p2=some (vi v5)∧Br (v5 != 8) (∃v9,w4.cell? p2=some (vi v9)∧m_G_j2 r1 p1 p2 (v9 != 9) w4 K) (m_G_j2 r1 p1 p2 false w4 K))
theorem w_G (r1 t1 w K) (h:m_G r1 t1 w K):
  Calls prog 107 #[(vp r1),(vi t1)] w (fun e w'=>∃bE bF bM aZ bN,e=.returned (Ad bE bF bM aZ bN)∧K bE bF bM aZ bN w'):=by
 refine cw (args:=[(vp r1),(vi t1)]) func107 ntmps107 (eg (sn (O:=(.cells #[(vi 0),(vi 0),(vu 0),ve,(vb false)] 35)) (jE (zeroValue35 _) rfl) ?_))
 intro p1 w1 hn8
 have h:=h p1 w1 hn8
 refine ln (eg (q (qm h fun a1 h=>q (ql (isAgg68 _) h fun v1 h=>q (sc call102 (h.mono fun e w2 ⟨aE,aF,aG,aD,aH,aX,aY,r2,k,h⟩=>⟨_,k,?_⟩))))))
 refine qc (nw1 h (jE (zeroValue176 _) rfl) fun p2 w3 h=>sro (sizeOf176 _) h fun w4 h=>q (ln (zK (fun ρ w=>Has ρ [(0,(vp r1)),(4,(vp (some p1))),(5,(vp (some p2)))]∧m_G_j1 r1 p1 p2 w K) ?_ ?_)))
 rintro ρ w ⟨hH,h⟩
 refine jQ hH (eg (qb (ql (isAgg78 _) h fun v2 h=>sc call170 (h.mono fun e w5 ⟨r3,r4,k,h⟩=>⟨_,k,?_⟩))))
 refine q (qd (ln (eg (q (ql (isAgg3 _) h fun v3 h=>qc (ql (isAgg3 _) h fun v4 h=>qb (sro (sizeOf35 _) h fun w6 h=>ln (er ?_))))))))
 obtain ⟨aA,aB,cH,aC,cI,hv1,h⟩:=h
 refine gg1 results107 (rva (isAgg35 _) (sizeOf35 _) hv1) ⟨aA,aB,cH,aC,cI,rfl,h⟩
 refine eg (q (ql (isAgg3 _) h fun v5 h=>qb (jP 4 (fun ρ w=>∃x1,Has ρ [(0,(vp r1)),(4,(vp (some p1))),(5,(vp (some p2))),(25,(vb x1))]∧m_G_j2 r1 p1 p2 x1 w K) ?_ ?_)))
 rintro ρ w ⟨x1,hH,h⟩
 refine jX hH (q (jP 4 (fun ρ w=>∃x2,Has ρ [(0,(vp r1)),(4,(vp (some p1))),(5,(vp (some p2))),(30,(vb x2))]∧m_G_j3 r1 p1 p2 x2 w K) ?_ ?_))
 rintro ρ w ⟨x2,hH,h⟩
 refine jX hH (q ?_)
 obtain ⟨hg1,h⟩|⟨hg1,h⟩:=h.br
 refine sj 31 hg1 (sj5 31 hg1 (q2 (vb true) (xT hg1) (ln (kD (by kernel_rfl) (eg (q (qm h fun a2 h=>q (st1 (sizeOf4 _) h fun w7 h=>ln (eg (q (sro (sizeOf35 _) h fun w8 h=>ln (er (jY ?_)))))))))))))
 obtain ⟨aO,aP,cJ,aQ,cK,hv5,h⟩:=h
 refine gg1 results107 (rva (isAgg35 _) (sizeOf35 _) hv5) ⟨aO,aP,cJ,aQ,cK,rfl,h⟩
 refine qk 31 hg1 ?_
 obtain ⟨v6,hv8,h⟩:=h
 refine q4 31 hg1 (xl (isAgg3 _) hv8) (qk 31 hg1 ?_)
 obtain ⟨v7,hv7,h⟩:=h
 refine q4 31 hg1 (xl (isAgg3 _) hv7) (qk 31 hg1 (qk 31 hg1 (q2 (vb (v6 != (q6.wrap (1 - v7)))) (xF hg1) (ln (cbr h ?_ ?_)))))<;>intro h
 refine eg (q (qm h fun a3 h=>q (st1 (sizeOf4 _) h fun w9 h=>ln (eg (q (sro (sizeOf35 _) h fun w10 h=>ln (er (jY ?_))))))))
 obtain ⟨aU,aV,cC,aW,cD,hv6,h⟩:=h
 refine gg1 results107 (rva (isAgg35 _) (sizeOf35 _) hv6) ⟨aU,aV,cC,aW,cD,rfl,h⟩
 refine jB (jK ⟨hm,h⟩)
 obtain ⟨hg2,h⟩|⟨hg2,h⟩:=h.br
 refine sj3 26 hg2 (q2 (vb true) (xT hg2) (jD ⟨true,hm,h⟩))
 refine qk 26 hg2 ?_
 obtain ⟨v8,hv9,h⟩:=h
 refine q4 26 hg2 (xl (isAgg3 _) hv9) (qk 26 hg2 (q2 (vb (decide (v8>1))) (xF hg2) (jD ⟨(decide (v8>1)),hm,h⟩)))
 obtain ⟨hg3,h⟩|⟨hg3,h⟩:=h.br
 refine qk 21 hg3 ?_
 obtain ⟨v9,hv10,h⟩:=h
 refine q4 21 hg3 (xl (isAgg3 _) hv10) (qk 21 hg3 (q2 (vb (v9 != 9)) (xT hg3) (jD ⟨(v9 != 9),hm,h⟩)))
 refine sj3 21 hg3 (q2 (vb false) (xF hg3) (jD ⟨false,hm,h⟩))
def m_I1 (r1:Option Addr) (t1:Int) (w:World) (K:ByteArray→Int→WP):Prop :=Calls prog 109 #[(vp r1),(vi t1),(vi 4)] w (fun e w1=>∃aE aF aG aD aH aX aY,e=.returned (Ac aE aF aG aD aH aX aY)∧∀p1 w2,New w1 (.cells #[(vi 0),(vi 0),(vi 0),(vu 0),ve,(vi 0),(vi 0)] 176) p1 w2→(∀j,j<7→jW w2 (p1.add j))∧∀w3,w3=storeRow w2 p1 (Ae aE aF aG aD aH aX aY)→∃C1:WP,C1 w3.drew∧∀w4,w4=w3.drew→∃v1,(∀w',C1 w'→w'.cell? (p1.add 5)=some (vi v1))∧∃v2,(∀w',C1 w'→w'.cell? (p1.add 6)=some (vi v2))∧Calls prog 109 #[(vp r1),(vi v1),(vi 3)] w4 (fun e w5=>∃bE bF bK aR aZ dB dC,e=.returned (Ac bE bF bK aR aZ dB dC)∧C1 w5∧K aZ v2 w5))
theorem w_I1 (r1 t1 w K) (h:m_I1 r1 t1 w K):
  Calls prog 108 #[(vp r1),(vi t1)] w (fun e w'=>∃r2 r3,e=.returned (.tuple #[(vs r2),(vi r3)])∧K r2 r3 w'):=by
 refine cw (args:=[(vp r1),(vi t1)]) func108 ntmps108 (eg (q0 ve (q0 (vi 0) (ln (eg (q0 (vp r1) (q0 (vi t1) ?_)))))))
 refine sc call109 (h.mono fun e w1 ⟨aE,aF,aG,aD,aH,aX,aY,k,h⟩=>⟨_,k,?_⟩)
 refine nw1 h (jE (zeroValue176 _) rfl) fun p1 w2 h=>sro (sizeOf176 _) h fun w3 h=>ln (jA ?_)
 obtain ⟨C1,hC,h⟩:=h
 refine dr1 C1 [3] [] hC h fun w4 h=>qx 0 (vp r1) Kp0 (qx 1 (vp (some (p1.add 5))) Kp1 (qg 2 ?_))
 obtain ⟨v1,hv2,h⟩:=h
 refine sy Kp2 (fun _ k=>xl (isAgg78 _) (hv2 _ k)) (qx 5 (vp (some (p1.add 6))) Kp5 (qg 6 ?_))
 obtain ⟨v2,hv1,h⟩:=h
 refine sy Kp6 (fun _ k=>xl (isAgg78 _) (hv1 _ k)) (lg 3 (slc Kp3 call109 (h.mono ?_)))
 rintro e w5 ⟨bE,bF,bK,aR,aZ,dB,dC,rfl,hC,h⟩
 refine ⟨_,rfl,.inr hC,?_⟩
 refine qx 4 (vs aZ) Kp4 (qx 7 (vs aZ) Kp7 (qx 8 (vi v2) Kp8 (wn (jK (er (uC (.inl rfl) results108 (v:=(vs aZ)) (by kernel_rfl) (v':=(vi v2)) (by kernel_rfl) ⟨aZ,v2,rfl,h⟩))))))
def m_J1 (r1:Option Addr) (t1 kind1:Int) (w:World) (K:Int→Int→Int→Int→ByteArray→Int→Int→WP):Prop :=∀p1 w1,New w (.cells #[(vi 0),(vi 0),(vi 0),(vu 0),ve,(vi 0),(vi 0)] 176) p1 w1→∃a1,r1=some a1∧∃v1,w1.cell? a1=some (vp v1)∧Calls prog 102 #[(vp v1),(vi t1)] w1 (fun e w2=>∃aE aF aG aD aH aX aY r2,e=.returned (.tuple #[(Ac aE aF aG aD aH aX aY),(vb r2)])∧∀p2 w3,New w2 (.cells #[(vi 0),(vi 0),(vi 0),(vu 0),ve,(vi 0),(vi 0)] 176) p2 w3→(∀j,j<7→jW w3 (p2.add j))∧∀w4,w4=storeRow w3 p2 (Ae aE aF aG aD aH aX aY)→Br (!r2) (∃a2,r1=some a2∧jW w4 (a2.add 1)∧∀w5,w5=w4.setCell (a2.add 1) (vb true)→(∀j,j<7→jW w5 (p1.add j))∧∀w6,w6=storeRow w5 p1 [(vi 0),(vi 0),(vi 0),(vu 0),ve,(vi 0),(vi 0)]→∃aA aB aI aJ aC iL iM,Row w6 p1 (Ae aA aB aI aJ aC iL iM)∧K aA aB aI aJ aC iL iM w6) (∃v2,w4.cell? p2=some (vi v2)∧Br (v2 != kind1) (∃a3,r1=some a3∧jW w4 (a3.add 1)∧∀w7,w7=w4.setCell (a3.add 1) (vb true)→(∀j,j<7→jW w7 (p1.add j))∧∀w8,w8=storeRow w7 p1 [(vi 0),(vi 0),(vi 0),(vu 0),ve,(vi 0),(vi 0)]→∃aO aP cL cM aQ iN iO,Row w8 p1 (Ae aO aP cL cM aQ iN iO)∧K aO aP cL cM aQ iN iO w8) (∃aL aM aS aT aN iP iQ,Row w4 p2 (Ae aL aM aS aT aN iP iQ)∧(∀j,j<7→jW w4 (p1.add j))∧∀w9,w9=storeRow w4 p1 (Ae aL aM aS aT aN iP iQ)→∃aU aV dS dT aW iR iS,Row w9 p1 (Ae aU aV dS dT aW iR iS)∧K aU aV dS dT aW iR iS w9)))
theorem w_J1 (r1 t1 kind1 w K) (h:m_J1 r1 t1 kind1 w K):
  Calls prog 109 #[(vp r1),(vi t1),(vi kind1)] w (fun e w'=>∃bE bF bK aR aZ dB dC,e=.returned (Ac bE bF bK aR aZ dB dC)∧K bE bF bK aR aZ dB dC w'):=by
 refine cw (args:=[(vp r1),(vi t1),(vi kind1)]) func109 ntmps109 (eg (sn (O:=(.cells #[(vi 0),(vi 0),(vi 0),(vu 0),ve,(vi 0),(vi 0)] 176)) (jE (zeroValue176 _) rfl) ?_))
 intro p1 w1 hn8
 have h:=h p1 w1 hn8
 refine ln (eg (q (qm h fun a1 h=>q (ql (isAgg68 _) h fun v1 h=>q (sc call102 (h.mono fun e w2 ⟨aE,aF,aG,aD,aH,aX,aY,r2,k,h⟩=>⟨_,k,?_⟩))))))
 refine qc (nw1 h (jE (zeroValue176 _) rfl) fun p2 w3 h=>sro (sizeOf176 _) h fun w4 h=>q (ln (jA (eg (qc ?_)))))
 obtain ⟨hg1,h⟩|⟨hg1,h⟩:=h.br
 refine sj4 20 hg1 (q2 (vb true) (xT hg1) (ln (kD (by kernel_rfl) (eg (q0 (vp r1) (qm h fun a2 h=>q (st1 (sizeOf4 _) h fun w5 h=>ln (eg (q (sro (sizeOf176 _) h fun w6 h=>ln (er (jY ?_))))))))))))
 obtain ⟨aA,aB,aI,aJ,aC,iL,iM,hv1,h⟩:=h
 refine gg1 results109 (rva (isAgg176 _) (sizeOf176 _) hv1) ⟨aA,aB,aI,aJ,aC,iL,iM,rfl,h⟩
 refine qk 20 hg1 ?_
 obtain ⟨v2,hv5,h⟩:=h
 refine q4 20 hg1 (xl (isAgg3 _) hv5) (qk 20 hg1 (qk 20 hg1 (q2 (vb (v2 != kind1)) (xF hg1) (ln (cbr h ?_ ?_)))))<;>intro h
 refine eg (q (qm h fun a3 h=>q (st1 (sizeOf4 _) h fun w7 h=>ln (eg (q (sro (sizeOf176 _) h fun w8 h=>ln (er (jY ?_))))))))
 obtain ⟨aO,aP,cL,cM,aQ,iN,iO,hv2,h⟩:=h
 refine gg1 results109 (rva (isAgg176 _) (sizeOf176 _) hv2) ⟨aO,aP,cL,cM,aQ,iN,iO,rfl,h⟩
 refine jB (jK (eg ?_))
 obtain ⟨aL,aM,aS,aT,aN,iP,iQ,hv4,h⟩:=h
 refine qa (isAgg176 _) (sizeOf176 _) hv4 (sro (sizeOf176 _) h fun w9 h=>ln (er ?_))
 obtain ⟨aU,aV,dS,dT,aW,iR,iS,hv3,h⟩:=h
 refine gg1 results109 (rva (isAgg176 _) (sizeOf176 _) hv3) ⟨aU,aV,dS,dT,aW,iR,iS,rfl,h⟩
def m_O_j1 (r1:Option Addr) (p1:Addr) (w:World) (K:Int→ByteArray→WP):Prop :=∃C1:WP,C1 w.drew∧∀w5,w5=w.drew→∃v1,(∀w',C1 w'→w'.cell? (p1.add 5)=some (vi v1))∧∃v2,(∀w',C1 w'→w'.cell? (p1.add 6)=some (vi v2))∧Calls prog 109 #[(vp r1),(vi v1),(vi 2)] w5 (fun e w6=>∃bE bF bK aR aZ dB dC,e=.returned (Ac bE bF bK aR aZ dB dC)∧C1 w6∧Calls prog 109 #[(vp r1),(vi v2),(vi 3)] w6 (fun e w7=>∃bO bP cW cX bG fZ gA,e=.returned (Ac bO bP cW cX bG fZ gA)∧C1 w7∧K aR bG w7))
def m_O (r1:Option Addr) (t1:Int) (w:World) (K:Int→ByteArray→WP):Prop :=Calls prog 108 #[(vp r1),(vi t1)] w (fun e w1=>∃r2 r3,e=.returned (.tuple #[(vs r2),(vi r3)])∧Calls prog 109 #[(vp r1),(vi r3),(vi 4)] w1 (fun e w2=>∃aE aF aG aD aH aX aY,e=.returned (Ac aE aF aG aD aH aX aY)∧∀p1 w3,New w2 (.cells #[(vi 0),(vi 0),(vi 0),(vu 0),ve,(vi 0),(vi 0)] 176) p1 w3→(∀j,j<7→jW w3 (p1.add j))∧∀w4,w4=storeRow w3 p1 (Ae aE aF aG aD aH aX aY)→∃a1,r1=some a1∧∃v3,w4.cell? (a1.add 1)=some (vb v3)∧Br v3 (∃a2,r1=some a2∧jW w4 (a2.add 1)∧∀w8,w8=w4.setCell (a2.add 1) (vb true)→m_O_j1 r1 p1 w8 K) (∃a3,r1=some a3∧jW w4 (a3.add 1)∧∀w9,w9=w4.setCell (a3.add 1) (vb (!(decide (r2=(⟨#[100,101,97,108]⟩:ByteArray)))))→m_O_j1 r1 p1 w9 K)))
theorem w_O (r1 t1 w K) (h:m_O r1 t1 w K):
  Calls prog 170 #[(vp r1),(vi t1)] w (fun e w'=>∃r4 r5,e=.returned (.tuple #[(vu r4),(vs r5)])∧K r4 r5 w'):=by
 refine cw (args:=[(vp r1),(vi t1)]) func170 ntmps170 (eg (q0 (vu 0) (q0 ve (ln (eg (q0 (vp r1) (q0 (vi t1) ?_)))))))
 refine sc call108 (h.mono fun e w1 ⟨r2,r3,k,h⟩=>⟨_,k,?_⟩)
 refine q (qd (ln (eg (qb (sc call109 (h.mono fun e w2 ⟨aE,aF,aG,aD,aH,aX,aY,k,h⟩=>⟨_,k,?_⟩))))))
 refine nw1 h (jE (zeroValue176 _) rfl) fun p1 w3 h=>sro (sizeOf176 _) h fun w4 h=>ln (zK (fun ρ w=>Has ρ [(0,(vp r1)),(8,(vp (some p1)))]∧m_O_j1 r1 p1 w K) ?_ ?_)
 rintro ρ w ⟨hH,h⟩
 refine jQ hH (jA ?_)
 obtain ⟨C1,hC,h⟩:=h
 refine dr1 C1 [3,8] [] hC h fun w5 h=>qx 0 (vp r1) Kp0 (qx 1 (vp (some (p1.add 5))) Kp1 (qg 2 ?_))
 obtain ⟨v1,hv2,h⟩:=h
 refine sy Kp2 (fun _ k=>xl (isAgg78 _) (hv2 _ k)) (qx 5 (vp r1) Kp5 (qx 6 (vp (some (p1.add 6))) Kp6 (qg 7 ?_)))
 obtain ⟨v2,hv1,h⟩:=h
 refine sy Kp7 (fun _ k=>xl (isAgg78 _) (hv1 _ k)) (lg 3 (slc Kp3 call109 (h.mono ?_)))
 rintro e w6 ⟨bE,bF,bK,aR,aZ,dB,dC,rfl,hC,h⟩
 refine ⟨_,rfl,.inr hC,?_⟩
 refine qx 4 (vu aR) Kp4 (lg 8 (slc Kp8 call109 (h.mono ?_)))
 rintro e w7 ⟨bO,bP,cW,cX,bG,fZ,gA,rfl,hC,h⟩
 refine ⟨_,rfl,.inr hC,?_⟩
 refine qx 9 (vs bG) Kp9 (qx 10 (vu aR) (jJ (S8 (jC (jC jI)))) (qx 11 (vs bG) (jJ (S8 (jC (jC (jC jI))))) (wn (jK (er (uC (.inl rfl) results170 (v:=(vu aR)) (by kernel_rfl) (v':=(vs bG)) (by kernel_rfl) ⟨aR,bG,rfl,h⟩))))))
 refine rg (qb (qm h fun a1 h=>q (ql (isAgg4 _) h fun v3 h=>q ?_)))
 obtain ⟨hg1,h⟩|⟨hg1,h⟩:=h.br
 refine sj2 23 hg1 (q2 (vb true) (xT hg1) (qm h fun a2 h=>q (st1 (sizeOf4 _) h fun w8 h=>ln ⟨hm,h⟩)))
 refine qk 23 hg1 (stq (v:=(vb (!(decide (r2=(⟨#[100,101,97,108]⟩:ByteArray)))))) (wy 23 hg1) (vK (by kernel_rfl) (by kernel_rfl)) (q2 (vb (!(decide (r2=(⟨#[100,101,97,108]⟩:ByteArray))))) (xF hg1) (qm h fun a3 h=>q (st1 (sizeOf4 _) h fun w9 h=>ln ⟨hm,h⟩))))
end Go.Proofs
end
section
open Go Go.SE
namespace Go.Sp
def yI (x:ByteArray):Tree:=.mk 3 0 0 0 x []
def jEI (n:Int):Tree:=.mk 2 0 0 n ⟨#[]⟩ []
def uR (a b:Tree):Tree:=.mk 4 0 0 0 ⟨#[]⟩ [a,b]
def oR (n:Int) (a:Tree):Tree:=.mk 7 n 0 0 ⟨#[]⟩ [a]
def jBK (n:Int) (a:Tree) (fake:Bool):Tree:=.mk (if fake then 9 else 8) n (1 - n) 0 ⟨#[]⟩ [a]
def yZ:ByteArray:=⟨#[100,101,97,108]⟩
def oK (c:Int) (x:ByteArray):Tree:=uR (yI yZ) (uR (jEI c) (yI x))
end Go.Sp
namespace Go.Proofs
attribute [local irreducible] Calls
theorem TreeAt.leaf {S:NP} {w:World} {k f t u:Int} {x:ByteArray}:TreeAt S w Sl.nil (.mk k f t u x []) :=
 .mk k f t u x [] Sl.nil (fun _=>Sl.nil) rfl (by simp) (fun i h=>by simp at h) (fun i h=>by simp at h)
theorem TreeAt.one {S:NP} {w:World} {k f t u:Int} {x:ByteArray} {p:Addr} {A:Sp.Tree} {sa:Sl} {T:TypeId} (hB:Box w p (uA A sa) T) (hS:S p.block) (hA:TreeAt S w sa A):TreeAt S w ⟨some p,1,1⟩ (.mk k f t u x [A]):=by
 refine .mk k f t u x [A] _ (fun _=>sa) rfl (by simp) (fun i h=>?_) (fun i h=>?_)
 ·have:i=0:=by simpa using h
  subst this;exact ⟨p,⟨by omega,by simp,p,rfl,rfl⟩,hS,hB.row⟩
 ·have:i=0:=by simpa using h
  subst this;exact hA
theorem TreeAt.pair {S:NP} {w:World} {k f t u:Int} {x:ByteArray} {p:Addr} {A B:Sp.Tree} {sa sb:Sl} {T:TypeId} (hB:Box w p (uA A sa++uA B sb) T) (hS:S p.block) (hA:TreeAt S w sa A) (hB2:TreeAt S w sb B):TreeAt S w ⟨some p,2,2⟩ (.mk k f t u x [A,B]):=by
 refine .mk k f t u x [A,B] _ (fun i=>if i=0 then sa else sb) rfl (by simp) (fun i h=>?_) (fun i h=>?_)
 ·have:i=0∨i=1:=by simp at h;omega
  rcases this with rfl | rfl
  ·refine ⟨p,⟨by omega,by simp,p,rfl,rfl⟩,hS,fun i hi=>?_⟩;have:=hB.row i (by simp [uA] at hi ⊢;omega);have hi':i<6:=by simpa [uA] using hi
   rw [this];exact List.getElem?_append_left (by simp [uA];omega)
  ·refine ⟨p.add (1*6),⟨by omega,by simp,p,rfl,rfl⟩,by rw [jR];exact hS,fun i hi=>?_⟩;have hi':i<6:=by simpa [uA] using hi
   have:=hB.row (6+i) (by simp [uA];omega);rw [vT,this,List.getElem?_append_right (by simp [uA])];simp [uA]
 ·have:i=0∨i=1:=by simp at h;omega
  rcases this with rfl | rfl
  ·exact hA
  ·exact hB2
end Go.Proofs
end
section
open Go Go.SE
namespace Go.Sp
structure Letter where
 kind:Int
 frm:Int
 c:Int
 text:ByteArray
 fake:Bool
deriving DecidableEq
def vD:Letter:=⟨0,0,0,⟨#[]⟩,false⟩
def qE:ByteArray:=⟨#[97,98,111,114,116]⟩
def vC:ByteArray:=⟨#[114,101,115,111,108,118,101]⟩
def kH:ByteArray:=⟨#[97,98,111,114,116,101,100]⟩
def kN:ByteArray:=⟨#[105,110,115,116,101,97,100]⟩
def jBG:ByteArray:=⟨#[102,117,108,108]⟩
def kX (l:Letter) (first second:Bool):Tree :=
 if l.kind=1 then jBK l.frm (oK l.c l.text) l.fake
 else if l.kind=2 then oR l.frm (oK l.c l.text)
 else if l.kind=3 then oR 0 (uR (yI qE) (jEI l.c))
 else if l.kind=4 then oR l.frm (uR (yI vC) (uR (jBK 0 (oK l.c l.text) (l.fake && first)) (jBK 1 (oK l.c l.text) (l.fake && second))))
 else if l.kind=5 then oR 2 (uR (yI kH) (jEI l.c))
 else if l.kind=6 then oR 2 (uR (yI kN) (oK l.c l.text))
 else uR (yI jBG) (jEI l.c)
end Go.Sp
namespace Go.Proofs
attribute [local irreducible] Calls
end Go.Proofs
end
section
open Go Go.SE
namespace Go.Sp
def jU (L:Pool) (t kind:Int):Node×Bool:=if inP L t=true∧(jG L t).kind=kind then (jG L t,false) else (oY,true)
def jT (L:Pool) (t:Int):(ByteArray×Int)×Bool :=
 (((jU L (jU L t 4).1.a 3).1.text,(jU L t 4).1.b),(jU L t 4).2 || (jU L (jU L t 4).1.a 3).2)
def zG (L:Pool) (t:Int):(Int×ByteArray)×Bool :=
 let g:=jT L t
 let n:=jU L g.1.2 4
 (((jU L n.1.a 2).1.num,(jU L n.1.b 3).1.text),g.2 || n.2 || !decide (g.1.1=yZ) || (jU L n.1.a 2).2 || (jU L n.1.b 3).2)
end Go.Sp
namespace Go.Proofs
open Tryz
attribute [local irreducible] Calls
def uJ (w:World) (q:Option Addr) (L:Sp.Pool) (F:NP):Prop:=match q with
 | some p=>jO w p L F
 | none=>L=[]∧∀b,¬ F b
theorem uJ.ext {G:NP} {w w':World} {p:Option Addr} {L:Sp.Pool} {F:NP} (h:uJ w p L F) (hE:Ext G w w') (hd:∀b,F b→¬ G b):uJ w' p L F:=by
 cases p with
 | none=>exact h
 | some p=>exact jO.ext h hE hd
theorem uJ.pure {w w':World} {p:Option Addr} {L:Sp.Pool} {F:NP} (h:uJ w p L F) (hE:Pure w w'):uJ w' p L F:=h.ext hE (fun _ _ h=>h)
theorem uJ.lt {w:World} {p:Option Addr} {L:Sp.Pool} {F:NP} (h:uJ w p L F) {b:Nat} (hb:F b):b<w.heap.size:=by
 cases p with
 | none=>exact absurd hb (h.2 b)
 | some p=>exact jO.lt h hb
theorem jAI (p:Option Addr) (t:Int) (w:World) {L:Sp.Pool} {F:NP} (hP:uJ w p L F) (hok:Sp.Ok L):Calls prog 102 #[.pointer p,.int .i64 t] w
  (fun e w'=>∃k:Int,∃f:Int,∃t':Int,∃u:Int,∃x:ByteArray,∃a:Int,∃b:Int,∃r:Bool,e=.returned (.tuple #[.agg #[.int .i64 k,.int .i64 f,.int .i64 t',.int .u64 u,.string x,.int .i64 a,.int .i64 b],.bool r])∧(((⟨k,f,t',u,x,a,b⟩:Sp.Node)=Sp.jG L t∧r=Sp.inP L t)∧Pure w w')):=by
 cases p with
 | some p=>exact jBC p t w hP hok
 | none =>
  obtain ⟨rfl,_⟩:=hP
  have hin0:Sp.inP [] t=false:=by cases h:Sp.inP [] t;rfl;have:=Sp.qB.1 h;simp at this;omega
  have hno:Sp.jG [] t=⟨0,0,0,0,⟨#[]⟩,0,0⟩:=by unfold Sp.jG Sp.get;split <;> simp [Sp.oY]
  rw [hin0,hno]
  refine w_D1 none t w (fun k f t' u x a b r w'=>((⟨k,f,t',u,x,a,b⟩:Sp.Node)=⟨0,0,0,0,⟨#[]⟩,0,0⟩∧r=false)∧Pure w w') ?_
  unfold m_D1
  intro p1 w1 h1
  have E1:Pure w w1:=Ext.new h1
  have b1:=Box.of_new h1
  have hp:=New.own (Ext.refl w) h1
  have hin:Calls prog 168 #[.pointer none,.int .i64 t] w1 (fun e w'=>∃r,e=.returned (.bool r)∧(r=false∧w'=w1)):=by
   refine w_K _ _ w1 (fun r w'=>r=false∧w'=w1) ?_;unfold m_K;have j1:m_K_j1 none t false w1 (fun r w'=>r=false∧w'=w1):=by
    unfold m_K_j1
    first
     | exact Br.f rfl ⟨rfl,rfl⟩
     | exact ⟨rfl,rfl⟩
     | (unfold m_K_j2;exact Br.f rfl ⟨rfl,rfl⟩)
     | (refine Br.f rfl ?_;unfold m_K_j2;exact ⟨rfl,rfl⟩)
   first
    | exact Br.f rfl j1
    | exact Br.t rfl j1
  refine hin.mono ?_
  rintro _ _ ⟨_,rfl,rfl,rfl⟩
  exact ⟨_,rfl,fun h1=>bx 7 b1 rfl rfl (fun w' b E=>⟨_,_,_,_,_,_,_,b.row,⟨rfl,rfl⟩,E1.own hp E⟩),fun h1=>by cases h1⟩
structure ReaderAt (w:World) (r:Addr) (p:Option Addr) (bad:Bool) (L:Sp.Pool) (F:NP):Prop where
 box:Box w r [.pointer p,.bool bad] 182
 pool:uJ w p L F
 ok:Sp.Ok L
 out:¬ F r.block
theorem ReaderAt.pure {w w':World} {r:Addr} {p:Option Addr} {bad:Bool} {L:Sp.Pool} {F:NP} (h:ReaderAt w r p bad L F) (E:Pure w w'):ReaderAt w' r p bad L F:=⟨h.box.pure E,h.pool.pure E,h.ok,h.out⟩
theorem kU (r:Addr) (p:Option Addr) (t kind:Int) (bad:Bool) (w:World) {L:Sp.Pool} {F:NP} (hR:ReaderAt w r p bad L F) :
  Calls prog 109 #[.pointer (some r),.int .i64 t,.int .i64 kind] w
   (fun e w'=>∃k':Int,∃f':Int,∃t':Int,∃u':Int,∃x':ByteArray,∃a':Int,∃b':Int,e=.returned (.agg #[.int .i64 k',.int .i64 f',.int .i64 t',.int .u64 u',.string x',.int .i64 a',.int .i64 b'])∧((⟨k',f',t',u',x',a',b'⟩:Sp.Node)=(Sp.jU L t kind).1∧ReaderAt w' r p (bad || (Sp.jU L t kind).2) L F∧Ext (·=r.block) w w')):=by
 suffices key:∀K:Int→Int→Int→Int→ByteArray→Int→Int→WP,(∀k' f' t' u' x' a' b' w',((⟨k',f',t',u',x',a',b'⟩:Sp.Node)=(Sp.jU L t kind).1∧ReaderAt w' r p (bad || (Sp.jU L t kind).2) L F∧Ext (·=r.block) w w')→K k' f' t' u' x' a' b' w')→m_J1 (some r) t kind w K from
  w_J1 _ _ _ w _ (key _ (fun _ _ _ _ _ _ _ _ h=>h))
 intro K hK
 unfold m_J1
 intro p1 w1 h1
 have E1:Pure w w1:=Ext.new h1
 have o1:=New.own (Ext.refl w) h1
 have lr:=hR.box.lt
 have b1:=Box.of_new h1
 refine ⟨r,rfl,p,(hR.box.pure E1).cell0,?_⟩
 refine (jAI p t w1 (hR.pool.pure E1) hR.ok).mono ?_
 rintro _ w2 ⟨k',f',t',u',x',a',b',ok,rfl,⟨hn,hok⟩,E12⟩
 refine ⟨_,_,_,_,_,_,_,_,rfl,?_⟩
 intro p2 w3 h3
 have E2:Pure w w2:=E1.trans E12
 have o3:=New.own E2 h3
 have n12:p1.block≠p2.block:=New.ne h3 (b1.pure E12).blk
 refine bx 7 (Box.of_new h3) rfl rfl (fun w4 b2 E'=>?_)
 have E4:Pure w w4:=(E2.trans (Ext.new h3)).own o3 E'
 have c1:=((b1.pure E12).pure (Ext.new h3)).ext E' n12
 have hR4:=hR.pure E4
 clear E' E2 E12 b1 h1 h3
 have bad1 : Sp.jU L t kind = (Sp.oY, true) → jW w4 (r.add 1) ∧ ∀ w5 : World, w5 = w4.setCell (r.add 1) (.bool true) →
   (∀j,j<7→jW w5 (p1.add j))∧∀w6:World,w6=storeRow w5 p1 [(.int .i64 0),(.int .i64 0),(.int .i64 0),(.int .u64 0),(.string (⟨#[]⟩:ByteArray)),(.int .i64 0),(.int .i64 0)] →
   ∃qKind1:Int,∃qFrom1:Int,∃qTo1:Int,∃qNum1:Int,∃qText1:ByteArray,∃qA1:Int,∃qB1:Int,Row w6 p1 [(.int .i64 qKind1),(.int .i64 qFrom1),(.int .i64 qTo1),(.int .u64 qNum1),(.string qText1),(.int .i64 qA1),(.int .i64 qB1)] ∧
   K qKind1 qFrom1 qTo1 qNum1 qText1 qA1 qB1 w6:=by
  intro hrd
  refine ⟨hR4.box.canW (by simp),?_⟩
  intro w5 hw5
  have d5:Box w5 r [.pointer p,.bool true] 182:=by rw [hw5];exact hR4.box.set 1 _
  have E5:Ext (·=r.block) w4 w5:=by rw [hw5];have:=Ext.setCell (w:=w4) (r.add 1) (.bool true);rw [jR] at this;exact this
  clear hw5
  have n1r:p1.block≠r.block:=by omega
  refine bx 7 (c1.ext E5 n1r) rfl rfl (fun w6 b6 E6=>⟨_,_,_,_,_,_,_,b6.row,hK _ _ _ _ _ _ _ _ ⟨by rw [hrd];rfl,⟨?_,?_,hR.ok,hR.out⟩,?_⟩⟩)
  ·rw [hrd];simp only [Bool.or_true];exact d5.ext E6 n1r.symm
  ·exact (hR4.pool.ext E5 (fun b hb e=>hR.out (e▸hb))).ext E6 (fun b hb e=>by have:=hR.pool.lt hb;omega)
  ·exact (E4.pure.trans E5).trans' E6 (fun i hi h=>by omega)
 refine ⟨fun h=>⟨r,rfl,?_⟩,fun h=>⟨k',b2.cell0,fun h2=>⟨r,rfl,?_⟩,fun h2=>?_⟩⟩
 ·refine bad1 ?_
  have:¬ Sp.inP L t=true:=by rw [← hok];simpa using h
  unfold Sp.jU;rw [if_neg (fun h=>this h.1)]
 ·refine bad1 ?_
  have:(Sp.jG L t).kind≠kind:=by rw [← hn];simpa using h2
  unfold Sp.jU;rw [if_neg (fun h=>this h.2)]
 ·have hi:Sp.inP L t=true:=by rw [← hok];simpa using h
  have hk:(Sp.jG L t).kind=kind:=by rw [← hn];simpa using h2
  have hrd:Sp.jU L t kind=(Sp.jG L t,false):=by unfold Sp.jU;rw [if_pos ⟨hi,hk⟩]
  refine ⟨_,_,_,_,_,_,_,b2.row,bx 7 c1 rfl rfl (fun w6 b6 E6=>⟨_,_,_,_,_,_,_,b6.row,hK _ _ _ _ _ _ _ _ ⟨by rw [hrd];exact hn,?_,?_⟩⟩)⟩
  ·rw [hrd];simp only [Bool.or_false]
   exact hR.pure (E4.own o1 E6)
  ·exact (E4.own o1 E6).pure
theorem yK (r:Addr) (p:Option Addr) (t:Int) (bad:Bool) (w:World) {L:Sp.Pool} {F:NP} (hR:ReaderAt w r p bad L F) :
  Calls prog 108 #[.pointer (some r),.int .i64 t] w
   (fun e w'=>∃x:ByteArray,∃b:Int,e=.returned (.tuple #[.string x,.int .i64 b])∧((x,b)=(Sp.jT L t).1∧ReaderAt w' r p (bad || (Sp.jT L t).2) L F∧Ext (·=r.block) w w')):=by
 suffices key:∀K:ByteArray→Int→WP,(∀x b w',((x,b)=(Sp.jT L t).1∧ReaderAt w' r p (bad || (Sp.jT L t).2) L F∧Ext (·=r.block) w w')→K x b w')→m_I1 (some r) t w K from
  w_I1 _ _ w _ (key _ (fun _ _ _ h=>h))
 intro K hK
 unfold m_I1
 refine (kU r p t 4 bad w hR).mono ?_
 rintro _ w1 ⟨k1,f1,t1,u1,x1,a1,b1,rfl,hn,hR1,E1⟩
 refine ⟨_,_,_,_,_,_,_,rfl,?_⟩
 intro p1 w2 h2
 have o2:=New.own (Ext.refl w1) h2
 refine bx 7 (Box.of_new h2) rfl rfl (fun w3 b3 E'=>?_)
 have E3:Pure w1 w3:=Ext.own (Ext.new h2) o2 E'
 have l1:=hR1.box.lt
 refine ⟨fun w'=>Box w' p1 [.int .i64 k1,.int .i64 f1,.int .i64 t1,.int .u64 u1,.string x1,.int .i64 a1,.int .i64 b1] 176,b3.pure (Ext.drew w3),?_⟩
 intro w4 hw4
 have E4:Pure w1 w4:=by rw [hw4];exact E3.thenPure (Ext.drew w3)
 have c4:Box w4 p1 [.int .i64 k1,.int .i64 f1,.int .i64 t1,.int .u64 u1,.string x1,.int .i64 a1,.int .i64 b1] 176:=by rw [hw4];exact b3.pure (Ext.drew w3)
 clear hw4
 refine ⟨a1,fun w' h=>h.cell rfl,b1,fun w' h=>h.cell rfl,?_⟩
 refine (kU r p a1 3 _ w4 (hR1.pure E4)).mono ?_
 rintro _ w5 ⟨k2,f2,t2,u2,x2,a2,b2,rfl,hn2,hR2,E5⟩
 refine ⟨_,_,_,_,_,_,_,rfl,c4.ext E5 (by omega),hK _ _ _ ⟨?_,?_,?_⟩⟩
 ·have ea:a1=(Sp.jU L t 4).1.a:=by rw [← hn]
  have eb:b1=(Sp.jU L t 4).1.b:=by rw [← hn]
  simp only [Sp.jT,← ea,← eb,← hn2]
 ·have ea:a1=(Sp.jU L t 4).1.a:=by rw [← hn]
  rw [ea] at hR2
  simp only [Sp.jT,← Bool.or_assoc]
  exact hR2
 ·exact (E1.thenPure E4).trans E5
end Go.Proofs
end
section
open Go Go.SE
namespace Go.Sp
def jN (L:Pool) (t:Int):Letter×Bool :=
 let n:=jG L t
 if (n.kind≠8∧n.kind≠9)∨1<n.frm∨n.to≠IntKind.i64.wrap (1 - n.frm) then (vD,true)
 else (⟨1,n.frm,(zG L n.a).1.1,(zG L n.a).1.2,n.kind == 9⟩,(zG L n.a).2)
end Go.Sp
namespace Go.Proofs
open Tryz
attribute [local irreducible] Calls
theorem tM (r:Addr) (p:Option Addr) (t:Int) (bad:Bool) (w:World) {L:Sp.Pool} {F:NP} (hR:ReaderAt w r p bad L F) :
  Calls prog 170 #[.pointer (some r),.int .i64 t] w
   (fun e w'=>∃c:Int,∃x:ByteArray,e=.returned (.tuple #[.int .u64 c,.string x])∧((c,x)=(Sp.zG L t).1∧ReaderAt w' r p (bad || (Sp.zG L t).2) L F∧Ext (·=r.block) w w')):=by
 suffices key:∀K:Int→ByteArray→WP,(∀c x w',((c,x)=(Sp.zG L t).1∧ReaderAt w' r p (bad || (Sp.zG L t).2) L F∧Ext (·=r.block) w w')→K c x w')→m_O (some r) t w K from
  w_O _ _ w _ (key _ (fun _ _ _ h=>h))
 intro K hK
 unfold m_O
 refine (yK r p t bad w hR).mono ?_
 rintro _ w1 ⟨x1,y1,rfl,hg,hR1,E1⟩
 refine ⟨_,_,rfl,?_⟩
 refine (kU r p y1 4 _ w1 hR1).mono ?_
 rintro _ w2 ⟨k2,f2,t2,u2,x2,a2,b2,rfl,hn,hR2,E2⟩
 refine ⟨_,_,_,_,_,_,_,rfl,?_⟩
 intro p1 w3 h3
 have o3:=New.own (Ext.refl w2) h3
 have l2:=hR2.box.lt
 refine bx 7 (Box.of_new h3) rfl rfl (fun w4 b4 E'=>?_)
 have E4:Pure w2 w4:=Ext.own (Ext.new h3) o3 E'
 have hR4:=hR2.pure E4
 clear E' h3
 have ey:y1=(Sp.jT L t).1.2:=congrArg Prod.snd hg
 have ex:x1=(Sp.jT L t).1.1:=congrArg Prod.fst hg
 have ea:a2=(Sp.jU L y1 4).1.a:=by rw [← hn]
 have eb:b2=(Sp.jU L y1 4).1.b:=by rw [← hn]
 generalize hb4:(bad || (Sp.jT L t).2 || (Sp.jU L y1 4).2)=bad4 at *
 have fin:∀(v:Bool) (w5:World),(v=(bad4 || !decide (x1=Sp.yZ)))→Box w5 r [.pointer p,.bool v] 182→Ext (·=r.block) w4 w5→m_O_j1 (some r) p1 w5 K:=by
  intro v w5 hv B5 E5;have hR5:ReaderAt w5 r p v L F:=⟨B5,hR4.pool.ext E5 (fun b hb e=>hR.out (e▸hb)),hR.ok,hR.out⟩;have c5:=b4.ext E5 (by omega);unfold m_O_j1;refine ⟨fun w'=>Box w' p1 [.int .i64 k2,.int .i64 f2,.int .i64 t2,.int .u64 u2,.string x2,.int .i64 a2,.int .i64 b2] 176,c5.pure (Ext.drew w5),?_⟩;intro w6 hw6;have E6:Pure w5 w6:=by rw [hw6];exact Ext.drew w5
  clear hw6;have c6:=c5.pure E6;refine ⟨a2,fun w' h=>h.cell rfl,b2,fun w' h=>h.cell rfl,?_⟩;refine (kU r p a2 2 _ w6 (hR5.pure E6)).mono ?_;rintro _ w7 ⟨k3,f3,t3,u3,x3,a3,b3,rfl,hn3,hR7,E7⟩;have c7:=c6.ext E7 (by omega);refine ⟨_,_,_,_,_,_,_,rfl,c7,?_⟩;refine (kU r p b2 3 _ w7 hR7).mono ?_;rintro _ w8 ⟨k4,f4,t4,u4,x4,a4,b4',rfl,hn4,hR8,E8⟩;have e3:u3=(Sp.jU L a2 2).1.num:=by rw [← hn3]
  have e4:x4=(Sp.jU L b2 3).1.text:=by rw [← hn4]
  refine ⟨_,_,_,_,_,_,_,rfl,c7.ext E8 (by omega),hK _ _ _ ⟨?_,?_,?_⟩⟩
  ·simp only [Sp.zG,← ey,← ea,← eb,← e3,← e4]
  ·have : (bad || (Sp.zG L t).2) = (v || (Sp.jU L a2 2).2 || (Sp.jU L b2 3).2) := by
    simp only [Sp.zG,← ey,← ea,← eb,← ex,hv,← hb4,Bool.or_assoc]
   rw [this];exact hR8
  ·exact ((((E1.trans E2).thenPure E4).trans E5).thenPure E6 |>.trans E7).trans E8
 have setr:∀v:Bool,Box (w4.setCell (r.add 1) (.bool v)) r [.pointer p,.bool v] 182∧Ext (·=r.block) w4 (w4.setCell (r.add 1) (.bool v)):=fun v =>
  ⟨hR4.box.set 1 _,by have:=Ext.setCell (w:=w4) (r.add 1) (.bool v);rw [jR] at this;exact this⟩
 refine ⟨r,rfl,bad4,hR4.box.cell rfl,fun h=>⟨r,rfl,hR4.box.canW (by simp),?_⟩,fun h=>⟨r,rfl,hR4.box.canW (by simp),?_⟩⟩
 ·intro w8 hw8
  have:=setr true
  exact fin true w8 (by rw [h];rfl) (by rw [hw8];exact this.1) (by rw [hw8];exact this.2)
 ·intro w8 hw8
  have:=setr (!decide (x1=Sp.yZ))
  exact fin (!decide (x1=Sp.yZ)) w8 (by rw [h];rfl) (by rw [hw8];exact this.1) (by rw [hw8];exact this.2)
theorem jS (r:Addr) (p:Option Addr) (t:Int) (bad:Bool) (w:World) {L:Sp.Pool} {F:NP} (hR:ReaderAt w r p bad L F) :
  Calls prog 107 #[.pointer (some r),.int .i64 t] w
   (fun e w'=>∃k:Int,∃f:Int,∃c:Int,∃x:ByteArray,∃fk:Bool,e=.returned (.agg #[.int .i64 k,.int .i64 f,.int .u64 c,.string x,.bool fk])∧((⟨k,f,c,x,fk⟩:Sp.Letter)=(Sp.jN L t).1∧ReaderAt w' r p (bad || (Sp.jN L t).2) L F∧Ext (·=r.block) w w')):=by
 suffices key:∀K:Int→Int→Int→ByteArray→Bool→WP,(∀k f c x fk w',((⟨k,f,c,x,fk⟩:Sp.Letter)=(Sp.jN L t).1∧ReaderAt w' r p (bad || (Sp.jN L t).2) L F∧Ext (·=r.block) w w')→K k f c x fk w')→m_G (some r) t w K from
  w_G _ _ w _ (key _ (fun _ _ _ _ _ _ h=>h))
 intro K hK
 unfold m_G
 intro p1 w1 h1
 have E1:Pure w w1:=Ext.new h1
 have o1:=New.own (Ext.refl w) h1
 have lr:=hR.box.lt
 have b1:=Box.of_new h1
 refine ⟨r,rfl,p,(hR.box.pure E1).cell0,?_⟩
 refine (jAI p t w1 (hR.pool.pure E1) hR.ok).mono ?_
 rintro _ w2 ⟨k,f,t',u,x,a,b,ok,rfl,⟨hn,hok⟩,E12⟩
 refine ⟨_,_,_,_,_,_,_,_,rfl,?_⟩
 intro p2 w3 h3
 have E2:Pure w w2:=E1.trans E12
 have o3:=New.own E2 h3
 have n12:p1.block≠p2.block:=New.ne h3 (b1.pure E12).blk
 refine bx 7 (Box.of_new h3) rfl rfl (fun w4 b2 E'=>?_)
 have E4:Pure w w4:=(E2.trans (Ext.new h3)).own o3 E'
 have c1:=((b1.pure E12).pure (Ext.new h3)).ext E' n12
 have hR4:=hR.pure E4
 clear E' E2 E12 b1 h1 h3
 have n1r:p1.block≠r.block:=by omega
 have hsp:Sp.jN L t=if (k≠8∧k≠9)∨1<f∨t'≠IntKind.i64.wrap (1 - f) then (Sp.vD,true) else (⟨1,f,(Sp.zG L a).1.1,(Sp.zG L a).1.2,k == 9⟩,(Sp.zG L a).2):=by
  simp only [Sp.jN,← hn]
 have bad1 : ((k ≠ 8 ∧ k ≠ 9) ∨ 1 < f ∨ t' ≠ IntKind.i64.wrap (1 - f)) → jW w4 (r.add 1) ∧ ∀ w5 : World, w5 = w4.setCell (r.add 1) (.bool true) →
   (∀j,j<5→jW w5 (p1.add j))∧∀w6:World,w6=storeRow w5 p1 [(.int .i64 0),(.int .i64 0),(.int .u64 0),(.string (⟨#[]⟩:ByteArray)),(.bool false)] →
   ∃qKind1:Int,∃qFrom1:Int,∃qC1:Int,∃qText1:ByteArray,∃qFake1:Bool,Row w6 p1 [(.int .i64 qKind1),(.int .i64 qFrom1),(.int .u64 qC1),(.string qText1),(.bool qFake1)] ∧
   K qKind1 qFrom1 qC1 qText1 qFake1 w6:=by
  intro hc
  rw [if_pos hc] at hsp
  refine ⟨hR4.box.canW (by simp),?_⟩
  intro w5 hw5
  have d5:Box w5 r [.pointer p,.bool true] 182:=by rw [hw5];exact hR4.box.set 1 _
  have E5:Ext (·=r.block) w4 w5:=by rw [hw5];have:=Ext.setCell (w:=w4) (r.add 1) (.bool true);rw [jR] at this;exact this
  clear hw5
  refine bx 5 (c1.ext E5 n1r) rfl rfl (fun w6 b6 E6=>⟨0,0,0,⟨#[]⟩,false,b6.row,hK _ _ _ _ _ _ ⟨by rw [hsp];rfl,⟨?_,?_,hR.ok,hR.out⟩,?_⟩⟩)
  ·rw [hsp];simp only [Bool.or_true];exact d5.ext E6 n1r.symm
  ·exact (hR4.pool.ext E5 (fun b hb e=>hR.out (e▸hb))).ext E6 (fun b hb e=>by have:=hR.pool.lt hb;omega)
  ·exact (E4.pure.trans E5).trans' E6 (fun i hi h=>by omega)
 have J1:¬ ((k≠8∧k≠9)∨1<f∨t'≠IntKind.i64.wrap (1 - f))→m_G_j1 (some r) p1 p2 w4 K:=by
  intro hc;rw [if_neg hc] at hsp;unfold m_G_j1;refine ⟨a,b2.cell rfl,?_⟩;refine (tM r p a bad w4 hR4).mono ?_;rintro _ w5 ⟨c,y,rfl,hd,hR5,E5⟩;have d2:=b2.ext E5 (by omega);have d1:=c1.ext E5 n1r;have ec:c=(Sp.zG L a).1.1:=congrArg Prod.fst hd;have ey:y=(Sp.zG L a).1.2:=congrArg Prod.snd hd;refine ⟨_,_,rfl,f,d2.cell rfl,k,d2.cell0,bx 5 d1 rfl rfl (fun w6 b6 E6=>⟨1,f,c,y,k == 9,b6.row,hK _ _ _ _ _ _ ⟨?_,?_,?_⟩⟩)⟩
  ·rw [hsp];simp only [← ec,← ey]
  ·rw [hsp];exact ⟨hR5.box.ext E6 n1r.symm,hR5.pool.ext E6 (fun b hb e=>by have:=hR.pool.lt hb;omega),hR.ok,hR.out⟩
  ·exact (E4.pure.trans E5).trans' E6 (fun i hi h=>by omega)
 have J3:∀x2,x2=((k != 8 && k != 9) || decide (1<f))→m_G_j3 (some r) p1 p2 x2 w4 K:=by
  intro x2 hx;unfold m_G_j3;refine ⟨fun h=>⟨r,rfl,bad1 ?_⟩,fun h=>⟨t',b2.cell rfl,f,b2.cell rfl,fun h2=>⟨r,rfl,bad1 ?_⟩,fun h2=>J1 ?_⟩⟩
  ·rw [h] at hx;have hx:=hx.symm;simp at hx;rcases hx with hx | hx
   ·exact .inl hx
   ·exact .inr (.inl hx)
  ·exact .inr (.inr (by simpa using h2))
  ·rw [h] at hx;have hx:=hx.symm;simp only [Bool.or_eq_false_iff,decide_eq_false_iff_not] at hx;rintro (h3 | h3 | h3)
   ·have:=hx.1;simp [h3.1,h3.2] at this
   ·exact hx.2 h3
   ·have h2:t'=IntKind.i64.wrap (1 - f):=by simpa using h2
    exact h3 h2
 have J2:∀x1,x1=(k != 8 && k != 9)→m_G_j2 (some r) p1 p2 x1 w4 K:=by
  intro x1 hx;unfold m_G_j2;exact ⟨fun h=>J3 _ (by rw [← hx,h];rfl),fun h=>⟨f,b2.cell rfl,J3 _ (by rw [← hx,h];rfl)⟩⟩
 exact ⟨k,b2.cell0,fun h=>⟨k,b2.cell0,J2 _ (by rw [h];rfl)⟩,fun h=>J2 _ (by rw [h];rfl)⟩
end Go.Proofs
end
section
open Go Go.SE
namespace Go.Sp
def zR (L:Pool) (who n:Int):Letter×Bool :=
 let m:=jU L n 4
 let a:=jN L m.1.a
 let b:=jN L m.1.b
 (⟨4,who,a.1.c,a.1.text,a.1.fake || b.1.fake⟩,m.2 || a.2 || b.2 || a.1.frm != 0 || b.1.frm != 1 || a.1.c != b.1.c || !decide (a.1.text=b.1.text))
def kF (L:Pool) (who body:Int):Letter×Bool :=
 let g:=jT L body
 if g.1.1=qE∧who=0 then (⟨3,0,(jU L g.1.2 2).1.num,⟨#[]⟩,false⟩,g.2 || (jU L g.1.2 2).2)
 else if g.1.1=kH∧who=2 then (⟨5,0,(jU L g.1.2 2).1.num,⟨#[]⟩,false⟩,g.2 || (jU L g.1.2 2).2)
 else if g.1.1=kN∧who=2 then (⟨6,0,(zG L g.1.2).1.1,(zG L g.1.2).1.2,false⟩,g.2 || (zG L g.1.2).2)
 else if g.1.1=yZ∧who≤1 then (⟨2,who,(zG L body).1.1,(zG L body).1.2,false⟩,g.2 || (zG L body).2)
 else if g.1.1=vC∧who≤1 then ((zR L who g.1.2).1,g.2 || (zR L who g.1.2).2)
 else (vD,true)
end Go.Sp
namespace Go.Proofs
attribute [local irreducible] Calls
def lz:List Value:=[.int .i64 0,.int .i64 0,.int .u64 0,.string ⟨#[]⟩,.bool false]
theorem tL (r:Addr) (p:Option Addr) (p1:Addr) (who n:Int) (bad:Bool) (w:World) {L:Sp.Pool} {F:NP} (hR:ReaderAt w r p bad L F) (hB:Box w p1 lz 35) (hne:p1.block≠r.block) (K:Int→Int→Int→ByteArray→Bool→WP)
  (hK:∀w6 w',ReaderAt w6 r p (bad || (Sp.zR L who n).2) L F→Ext (·=r.block) w w6→Box w' p1 [.int .i64 4,.int .i64 who,.int .u64 (Sp.zR L who n).1.c,.string (Sp.zR L who n).1.text,.bool (Sp.zR L who n).1.fake] 35→Ext (·=p1.block) w6 w'→K 4 who (Sp.zR L who n).1.c (Sp.zR L who n).1.text (Sp.zR L who n).1.fake w') :
  m_A_j5 (some r) who p1 n true w K:=by
 unfold m_A_j5
 refine Br.t rfl ?_
 refine (kU r p n 4 bad w hR).mono ?_
 rintro _ w11 ⟨k2,f2,t2,u2,x2,a2,b2,rfl,hn,hR11,E11⟩
 refine ⟨_,_,_,_,_,_,_,rfl,?_⟩
 intro p2 w12 h12
 have o12:=New.own (Ext.refl w11) h12
 have l11:=hR11.box.lt
 have l1:=hB.lt
 have s11:=E11.size
 refine bx 7 (Box.of_new h12) rfl rfl (fun w13 b13 E'=>?_)
 have E13:Pure w11 w13:=Ext.own (Ext.new h12) o12 E'
 have hB11:=hB.ext E11 hne
 clear E' h12
 refine ⟨fun w'=>Box w' p2 [.int .i64 k2,.int .i64 f2,.int .i64 t2,.int .u64 u2,.string x2,.int .i64 a2,.int .i64 b2] 176,b13.pure (Ext.drew w13),?_⟩
 intro w18 hw18
 have E18:Pure w11 w18:=by rw [hw18];exact E13.thenPure (Ext.drew w13)
 have cN:Box w18 p2 [.int .i64 k2,.int .i64 f2,.int .i64 t2,.int .u64 u2,.string x2,.int .i64 a2,.int .i64 b2] 176:=by rw [hw18];exact b13.pure (Ext.drew w13)
 clear hw18
 have hR18:=hR11.pure E18
 have hB18:=hB11.pure E18
 have s18:=E18.size
 have Ew18:Ext (·=r.block) w w18:=E11.thenPure E18
 have ea:a2=(Sp.jU L n 4).1.a:=by rw [← hn]
 have eb:b2=(Sp.jU L n 4).1.b:=by rw [← hn]
 generalize hbad:(bad || (Sp.jU L n 4).2)=bad2 at *
 have leaf : ∀ (pA pB : Addr) (w' : World) (ka fa ca : Int) (xa : ByteArray) (ga : Bool) (kb fb cb : Int) (xb : ByteArray) (gb : Bool), (⟨ka, fa, ca, xa, ga⟩ : Sp.Letter) = (Sp.jN L a2).1 → (⟨kb, fb, cb, xb, gb⟩ : Sp.Letter) = (Sp.jN L b2).1 →
   ReaderAt w' r p (bad2 || (Sp.jN L a2).2 || (Sp.jN L b2).2) L F→Ext (·=r.block) w18 w'→Box w' pA [.int .i64 0,.int .i64 0,.int .u64 0,.string ⟨#[]⟩,.bool false] 35→Box w' pB [.int .i64 0,.int .i64 0,.int .u64 0,.string ⟨#[]⟩,.bool false] 35→pA.block≠pB.block→w18.heap.size≤pA.block→w18.heap.size≤pB.block →
   (∀j,j<5→jW w' (pA.add j))∧∀w23:World,w23=storeRow w' pA [.int .i64 ka,.int .i64 fa,.int .u64 ca,.string xa,.bool ga] →
   (∀j,j<5→jW w23 (pB.add j))∧∀w24:World,w24=storeRow w23 pB [.int .i64 kb,.int .i64 fb,.int .u64 cb,.string xb,.bool gb]→m_A_j6 (some r) who p1 pA pB w24 K:=by
  intro pA pB w' ka fa ca xa ga kb fb cb xb gb hla hlb hR' E' hA hBb hAB hoA hoB
  have s':=E'.size
  refine bx 5 hA rfl rfl (fun w23 bA E23=>?_)
  refine bx 5 (hBb.ext E23 hAB.symm) rfl rfl (fun w24 bB E24=>?_)
  have dA:=bA.ext E24 hAB
  have hR24:ReaderAt w24 r p (bad2 || (Sp.jN L a2).2 || (Sp.jN L b2).2) L F:=⟨(hR'.box.ext E23 (by omega)).ext E24 (by omega),(hR'.pool.ext E23 (fun b hb e=>by have:=hR.pool.lt hb;omega)).ext E24 (fun b hb e=>by have:=hR.pool.lt hb;omega),hR'.ok,hR'.out⟩
  have hB24:Box w24 p1 lz 35:=((hB18.ext E' hne).ext E23 (by omega)).ext E24 (by omega)
  have E24':Ext (·=r.block) w w24:=((Ew18.trans E').trans' E23 (fun i hi h=>by omega)).trans' E24 (fun i hi h=>by omega)
  have e1:fa=(Sp.jN L a2).1.frm:=by rw [← hla]
  have e2:fb=(Sp.jN L b2).1.frm:=by rw [← hlb]
  have e3:ca=(Sp.jN L a2).1.c:=by rw [← hla]
  have e4:cb=(Sp.jN L b2).1.c:=by rw [← hlb]
  have e5:xa=(Sp.jN L a2).1.text:=by rw [← hla]
  have e6:xb=(Sp.jN L b2).1.text:=by rw [← hlb]
  have e7:ga=(Sp.jN L a2).1.fake:=by rw [← hla]
  have e8:gb=(Sp.jN L b2).1.fake:=by rw [← hlb]
  generalize hb3:(bad2 || (Sp.jN L a2).2 || (Sp.jN L b2).2)=bad3 at *
  have hsp:Sp.zR L who n=(⟨4,who,ca,xa,ga || gb⟩,(Sp.jU L n 4).2 || (Sp.jN L a2).2 || (Sp.jN L b2).2 || fa != 0 || fb != 1 || ca != cb || !decide (xa=xb)):=by
   simp only [Sp.zR,← ea,← eb,← e1,← e2,← e3,← e4,← e5,← e6,← e7,← e8]
  have hbb:(bad || (Sp.zR L who n).2)=(bad3 || fa != 0 || fb != 1 || ca != cb || !decide (xa=xb)):=by
   rw [hsp,← hb3,← hbad];simp only [Bool.or_assoc]
  rw [hbb] at hK
  rw [hsp] at hK
  have J7:∀(v:Bool) (w5:World),v=(bad3 || fa != 0 || fb != 1 || ca != cb || !decide (xa=xb))→Box w5 r [.pointer p,.bool v] 182→Ext (·=r.block) w24 w5→m_A_j7 who p1 pA pB w5 K:=by
   intro v w5 hv B5 E5;have hR5:ReaderAt w5 r p v L F:=⟨B5,hR24.pool.ext E5 (fun b hb e=>hR.out (e▸hb)),hR.ok,hR.out⟩;have dA5:=dA.ext E5 (by omega);have dB5:=bB.ext E5 (by omega);have h15:=hB24.ext E5 hne;unfold m_A_j7;refine ⟨ca,dA5.cell rfl,xa,dA5.cell rfl,ga,dA5.cell rfl,fun hg=>?_,fun hg=>⟨gb,dB5.cell rfl,?_⟩⟩
   ·refine bx 5 h15 rfl rfl (fun w6 b6 E6=>⟨4,who,ca,xa,true,b6.row,?_⟩);have:=hK w5 w6 (by rw [← hv];exact hR5) (E24'.trans E5) (by rw [hg];exact b6) E6;rw [hg] at this;exact this
   ·refine bx 5 h15 rfl rfl (fun w6 b6 E6=>⟨4,who,ca,xa,gb,b6.row,?_⟩);have:=hK w5 w6 (by rw [← hv];exact hR5) (E24'.trans E5) (by rw [hg];exact b6) E6;rw [hg] at this;exact this
  have setr:∀v:Bool,Box (w24.setCell (r.add 1) (.bool v)) r [.pointer p,.bool v] 182∧Ext (·=r.block) w24 (w24.setCell (r.add 1) (.bool v)):=fun v =>
   ⟨hR24.box.set 1 _,by have:=Ext.setCell (w:=w24) (r.add 1) (.bool v);rw [jR] at this;exact this⟩
  have J10:∀x,x=(bad3 || fa != 0 || fb != 1 || ca != cb)→m_A_j10 (some r) who p1 pA pB x w24 K:=by
   intro x hx;unfold m_A_j10;refine ⟨fun h=>⟨r,rfl,hR24.box.canW (by simp),?_⟩,fun h=>⟨xa,dA.cell rfl,xb,bB.cell rfl,r,rfl,hR24.box.canW (by simp),?_⟩⟩
   ·intro w16 hw;exact J7 true w16 (by rw [← hx,h];rfl) (by rw [hw];exact (setr _).1) (by rw [hw];exact (setr _).2)
   ·intro w16 hw;exact J7 (!decide (xa=xb)) w16 (by rw [← hx,h];rfl) (by rw [hw];exact (setr _).1) (by rw [hw];exact (setr _).2)
  have J9:∀x,x=(bad3 || fa != 0 || fb != 1)→m_A_j9 (some r) who p1 pA pB x w24 K:=by
   intro x hx;unfold m_A_j9;exact ⟨fun h=>J10 _ (by rw [← hx,h];rfl),fun h=>⟨ca,dA.cell rfl,cb,bB.cell rfl,J10 _ (by rw [← hx,h];rfl)⟩⟩
  have J8:∀x,x=(bad3 || fa != 0)→m_A_j8 (some r) who p1 pA pB x w24 K:=by
   intro x hx;unfold m_A_j8;exact ⟨fun h=>J9 _ (by rw [← hx,h];rfl),fun h=>⟨fb,bB.cell rfl,J9 _ (by rw [← hx,h];rfl)⟩⟩
  unfold m_A_j6
  exact ⟨r,rfl,bad3,hR24.box.cell rfl,fun h=>J8 _ (by rw [h];rfl),fun h=>⟨fa,dA.cell rfl,J8 _ (by rw [h];rfl)⟩⟩
 have l18:=hR18.box.lt
 have Er18:Ext (·=r.block) w18 w18:=Ext.refl w18
 refine ⟨a2,fun w' h=>h.cell rfl,b2,fun w' h=>h.cell rfl,?_⟩
 ·skip
  refine ⟨?_,?_,?_⟩
  ·skip
   refine (jS r p a2 _ w18 hR18).mono ?_
   rintro _ v1 ⟨k1,f1,c1,x1,g1,rfl,hl1,R1,e1⟩
   have E1:=Er18.trans e1
   have s1:=E1.size
   refine ⟨_,_,_,_,_,rfl,cN.ext E1 (by omega),?_⟩
   refine ⟨?_,?_,?_⟩
   ·skip
    refine (jS r p b2 _ v1 R1).mono ?_
    rintro _ v2 ⟨k2,f2,c2,x2,g2,rfl,hl2,R2,e2⟩
    have E2:=E1.trans e2
    have s2:=E2.size
    refine ⟨_,_,_,_,_,rfl,?_⟩
    refine ⟨?_,?_⟩
    ·skip
     intro q3 v3 h3
     have e3:Pure v2 v3:=Ext.new h3
     have o3:=h3.at_size
     have R3:=R2.pure e3
     have E3:=E2.thenPure e3
     have s3:=E3.size
     have t3:=(E2).size
     have bA3:=Box.of_new h3
     refine ⟨cN.ext E3 (by omega),?_⟩
     intro q4 v4 h4
     have e4:Pure v3 v4:=Ext.new h4
     have o4:=h4.at_size
     have R4:=R3.pure e4
     have E4:=E3.thenPure e4
     have s4:=E4.size
     have t4:=(E3).size
     have bA4:=bA3.pure e4
     have lA4:=bA3.lt
     have bB4:=Box.of_new h4
     refine ⟨cN.ext E4 (by omega),?_⟩
     exact leaf q3 q4 v4 _ _ _ _ _ _ _ _ _ _ hl1 hl2 R4 E4 bA4 bB4 (by omega) (by omega) (by omega)
    ·skip
     intro q5 v5 h5
     have e5:Pure v2 v5:=Ext.new h5
     have o5:=h5.at_size
     have R5:=R2.pure e5
     have E5:=E2.thenPure e5
     have s5:=E5.size
     have t5:=(E2).size
     have bB5:=Box.of_new h5
     refine ⟨cN.ext E5 (by omega),?_⟩
     intro q6 v6 h6
     have e6:Pure v5 v6:=Ext.new h6
     have o6:=h6.at_size
     have R6:=R5.pure e6
     have E6:=E5.thenPure e6
     have s6:=E6.size
     have t6:=(E5).size
     have bB6:=bB5.pure e6
     have lB6:=bB5.lt
     have bA6:=Box.of_new h6
     refine ⟨cN.ext E6 (by omega),?_⟩
     exact leaf q6 q5 v6 _ _ _ _ _ _ _ _ _ _ hl1 hl2 R6 E6 bA6 bB6 (by omega) (by omega) (by omega)
   ·skip
    intro q7 v7 h7
    have e7:Pure v1 v7:=Ext.new h7
    have o7:=h7.at_size
    have R7:=R1.pure e7
    have E7:=E1.thenPure e7
    have s7:=E7.size
    have t7:=(E1).size
    have bA7:=Box.of_new h7
    refine ⟨cN.ext E7 (by omega),?_⟩
    refine ⟨?_,?_⟩
    ·skip
     refine (jS r p b2 _ v7 R7).mono ?_
     rintro _ v8 ⟨k8,f8,c8,x8,g8,rfl,hl2,R8,e8⟩
     have E8:=E7.trans e8
     have bA8:=bA7.ext e8 (by omega)
     have s8:=E8.size
     refine ⟨_,_,_,_,_,rfl,?_⟩
     intro q9 v9 h9
     have e9:Pure v8 v9:=Ext.new h9
     have o9:=h9.at_size
     have R9:=R8.pure e9
     have E9:=E8.thenPure e9
     have s9:=E9.size
     have t9:=(E8).size
     have bA9:=bA8.pure e9
     have lA9:=bA8.lt
     have bB9:=Box.of_new h9
     refine ⟨cN.ext E9 (by omega),?_⟩
     exact leaf q7 q9 v9 _ _ _ _ _ _ _ _ _ _ hl1 hl2 R9 E9 bA9 bB9 (by omega) (by omega) (by omega)
    ·skip
     intro q10 v10 h10
     have e10:Pure v7 v10:=Ext.new h10
     have o10:=h10.at_size
     have R10:=R7.pure e10
     have E10:=E7.thenPure e10
     have s10:=E10.size
     have t10:=(E7).size
     have bA10:=bA7.pure e10
     have lA10:=bA7.lt
     have bB10:=Box.of_new h10
     refine ⟨cN.ext E10 (by omega),?_⟩
     refine (jS r p b2 _ v10 R10).mono ?_
     rintro _ v11 ⟨k11,f11,c11,x11,g11,rfl,hl2,R11,e11⟩
     have E11:=E10.trans e11
     have bA11:=bA10.ext e11 (by omega)
     have bB11:=bB10.ext e11 (by omega)
     have s11:=E11.size
     refine ⟨_,_,_,_,_,rfl,?_⟩
     exact leaf q7 q10 v11 _ _ _ _ _ _ _ _ _ _ hl1 hl2 R11 E11 bA11 bB11 (by omega) (by omega) (by omega)
   ·skip
    intro q12 v12 h12
    have e12:Pure v1 v12:=Ext.new h12
    have o12:=h12.at_size
    have R12:=R1.pure e12
    have E12:=E1.thenPure e12
    have s12:=E12.size
    have t12:=(E1).size
    have bB12:=Box.of_new h12
    refine ⟨cN.ext E12 (by omega),?_⟩
    refine ⟨?_,?_⟩
    ·skip
     refine (jS r p b2 _ v12 R12).mono ?_
     rintro _ v13 ⟨k13,f13,c13,x13,g13,rfl,hl2,R13,e13⟩
     have E13:=E12.trans e13
     have bB13:=bB12.ext e13 (by omega)
     have s13:=E13.size
     refine ⟨_,_,_,_,_,rfl,?_⟩
     intro q14 v14 h14
     have e14:Pure v13 v14:=Ext.new h14
     have o14:=h14.at_size
     have R14:=R13.pure e14
     have E14:=E13.thenPure e14
     have s14:=E14.size
     have t14:=(E13).size
     have bB14:=bB13.pure e14
     have lB14:=bB13.lt
     have bA14:=Box.of_new h14
     refine ⟨cN.ext E14 (by omega),?_⟩
     exact leaf q14 q12 v14 _ _ _ _ _ _ _ _ _ _ hl1 hl2 R14 E14 bA14 bB14 (by omega) (by omega) (by omega)
    ·skip
     intro q15 v15 h15
     have e15:Pure v12 v15:=Ext.new h15
     have o15:=h15.at_size
     have R15:=R12.pure e15
     have E15:=E12.thenPure e15
     have s15:=E15.size
     have t15:=(E12).size
     have bB15:=bB12.pure e15
     have lB15:=bB12.lt
     have bA15:=Box.of_new h15
     refine ⟨cN.ext E15 (by omega),?_⟩
     refine (jS r p b2 _ v15 R15).mono ?_
     rintro _ v16 ⟨k16,f16,c16,x16,g16,rfl,hl2,R16,e16⟩
     have E16:=E15.trans e16
     have bA16:=bA15.ext e16 (by omega)
     have bB16:=bB15.ext e16 (by omega)
     have s16:=E16.size
     refine ⟨_,_,_,_,_,rfl,?_⟩
     exact leaf q15 q12 v16 _ _ _ _ _ _ _ _ _ _ hl1 hl2 R16 E16 bA16 bB16 (by omega) (by omega) (by omega)
  ·skip
   intro q17 v17 h17
   have e17:Pure w18 v17:=Ext.new h17
   have o17:=h17.at_size
   have R17:=hR18.pure e17
   have E17:=Er18.thenPure e17
   have s17:=E17.size
   have t17:=(Er18).size
   have bA17:=Box.of_new h17
   refine ⟨cN.ext E17 (by omega),?_⟩
   refine ⟨?_,?_⟩
   ·skip
    refine (jS r p a2 _ v17 R17).mono ?_
    rintro _ v18 ⟨k18,f18,c18,x18,g18,rfl,hl1,R18,e18⟩
    have E18:=E17.trans e18
    have bA18:=bA17.ext e18 (by omega)
    have s18:=E18.size
    refine ⟨_,_,_,_,_,rfl,cN.ext E18 (by omega),?_⟩
    refine ⟨?_,?_⟩
    ·skip
     refine (jS r p b2 _ v18 R18).mono ?_
     rintro _ v19 ⟨k19,f19,c19,x19,g19,rfl,hl2,R19,e19⟩
     have E19:=E18.trans e19
     have bA19:=bA18.ext e19 (by omega)
     have s19:=E19.size
     refine ⟨_,_,_,_,_,rfl,?_⟩
     intro q20 v20 h20
     have e20:Pure v19 v20:=Ext.new h20
     have o20:=h20.at_size
     have R20:=R19.pure e20
     have E20:=E19.thenPure e20
     have s20:=E20.size
     have t20:=(E19).size
     have bA20:=bA19.pure e20
     have lA20:=bA19.lt
     have bB20:=Box.of_new h20
     refine ⟨cN.ext E20 (by omega),?_⟩
     exact leaf q17 q20 v20 _ _ _ _ _ _ _ _ _ _ hl1 hl2 R20 E20 bA20 bB20 (by omega) (by omega) (by omega)
    ·skip
     intro q21 v21 h21
     have e21:Pure v18 v21:=Ext.new h21
     have o21:=h21.at_size
     have R21:=R18.pure e21
     have E21:=E18.thenPure e21
     have s21:=E21.size
     have t21:=(E18).size
     have bA21:=bA18.pure e21
     have lA21:=bA18.lt
     have bB21:=Box.of_new h21
     refine ⟨cN.ext E21 (by omega),?_⟩
     refine (jS r p b2 _ v21 R21).mono ?_
     rintro _ v22 ⟨k22,f22,c22,x22,g22,rfl,hl2,R22,e22⟩
     have E22:=E21.trans e22
     have bA22:=bA21.ext e22 (by omega)
     have bB22:=bB21.ext e22 (by omega)
     have s22:=E22.size
     refine ⟨_,_,_,_,_,rfl,?_⟩
     exact leaf q17 q21 v22 _ _ _ _ _ _ _ _ _ _ hl1 hl2 R22 E22 bA22 bB22 (by omega) (by omega) (by omega)
   ·skip
    intro q23 v23 h23
    have e23:Pure v17 v23:=Ext.new h23
    have o23:=h23.at_size
    have R23:=R17.pure e23
    have E23:=E17.thenPure e23
    have s23:=E23.size
    have t23:=(E17).size
    have bA23:=bA17.pure e23
    have lA23:=bA17.lt
    have bB23:=Box.of_new h23
    refine ⟨cN.ext E23 (by omega),?_⟩
    refine (jS r p a2 _ v23 R23).mono ?_
    rintro _ v24 ⟨k24,f24,c24,x24,g24,rfl,hl1,R24,e24⟩
    have E24:=E23.trans e24
    have bA24:=bA23.ext e24 (by omega)
    have bB24:=bB23.ext e24 (by omega)
    have s24:=E24.size
    refine ⟨_,_,_,_,_,rfl,cN.ext E24 (by omega),?_⟩
    refine (jS r p b2 _ v24 R24).mono ?_
    rintro _ v25 ⟨k25,f25,c25,x25,g25,rfl,hl2,R25,e25⟩
    have E25:=E24.trans e25
    have bA25:=bA24.ext e25 (by omega)
    have bB25:=bB24.ext e25 (by omega)
    have s25:=E25.size
    refine ⟨_,_,_,_,_,rfl,?_⟩
    exact leaf q17 q23 v25 _ _ _ _ _ _ _ _ _ _ hl1 hl2 R25 E25 bA25 bB25 (by omega) (by omega) (by omega)
  ·skip
   intro q26 v26 h26
   have e26:Pure w18 v26:=Ext.new h26
   have o26:=h26.at_size
   have R26:=hR18.pure e26
   have E26:=Er18.thenPure e26
   have s26:=E26.size
   have t26:=(Er18).size
   have bB26:=Box.of_new h26
   refine ⟨cN.ext E26 (by omega),?_⟩
   refine ⟨?_,?_⟩
   ·skip
    refine (jS r p a2 _ v26 R26).mono ?_
    rintro _ v27 ⟨k27,f27,c27,x27,g27,rfl,hl1,R27,e27⟩
    have E27:=E26.trans e27
    have bB27:=bB26.ext e27 (by omega)
    have s27:=E27.size
    refine ⟨_,_,_,_,_,rfl,cN.ext E27 (by omega),?_⟩
    refine ⟨?_,?_⟩
    ·skip
     refine (jS r p b2 _ v27 R27).mono ?_
     rintro _ v28 ⟨k28,f28,c28,x28,g28,rfl,hl2,R28,e28⟩
     have E28:=E27.trans e28
     have bB28:=bB27.ext e28 (by omega)
     have s28:=E28.size
     refine ⟨_,_,_,_,_,rfl,?_⟩
     intro q29 v29 h29
     have e29:Pure v28 v29:=Ext.new h29
     have o29:=h29.at_size
     have R29:=R28.pure e29
     have E29:=E28.thenPure e29
     have s29:=E29.size
     have t29:=(E28).size
     have bB29:=bB28.pure e29
     have lB29:=bB28.lt
     have bA29:=Box.of_new h29
     refine ⟨cN.ext E29 (by omega),?_⟩
     exact leaf q29 q26 v29 _ _ _ _ _ _ _ _ _ _ hl1 hl2 R29 E29 bA29 bB29 (by omega) (by omega) (by omega)
    ·skip
     intro q30 v30 h30
     have e30:Pure v27 v30:=Ext.new h30
     have o30:=h30.at_size
     have R30:=R27.pure e30
     have E30:=E27.thenPure e30
     have s30:=E30.size
     have t30:=(E27).size
     have bB30:=bB27.pure e30
     have lB30:=bB27.lt
     have bA30:=Box.of_new h30
     refine ⟨cN.ext E30 (by omega),?_⟩
     refine (jS r p b2 _ v30 R30).mono ?_
     rintro _ v31 ⟨k31,f31,c31,x31,g31,rfl,hl2,R31,e31⟩
     have E31:=E30.trans e31
     have bA31:=bA30.ext e31 (by omega)
     have bB31:=bB30.ext e31 (by omega)
     have s31:=E31.size
     refine ⟨_,_,_,_,_,rfl,?_⟩
     exact leaf q30 q26 v31 _ _ _ _ _ _ _ _ _ _ hl1 hl2 R31 E31 bA31 bB31 (by omega) (by omega) (by omega)
   ·skip
    intro q32 v32 h32
    have e32:Pure v26 v32:=Ext.new h32
    have o32:=h32.at_size
    have R32:=R26.pure e32
    have E32:=E26.thenPure e32
    have s32:=E32.size
    have t32:=(E26).size
    have bB32:=bB26.pure e32
    have lB32:=bB26.lt
    have bA32:=Box.of_new h32
    refine ⟨cN.ext E32 (by omega),?_⟩
    refine (jS r p a2 _ v32 R32).mono ?_
    rintro _ v33 ⟨k33,f33,c33,x33,g33,rfl,hl1,R33,e33⟩
    have E33:=E32.trans e33
    have bA33:=bA32.ext e33 (by omega)
    have bB33:=bB32.ext e33 (by omega)
    have s33:=E33.size
    refine ⟨_,_,_,_,_,rfl,cN.ext E33 (by omega),?_⟩
    refine (jS r p b2 _ v33 R33).mono ?_
    rintro _ v34 ⟨k34,f34,c34,x34,g34,rfl,hl2,R34,e34⟩
    have E34:=E33.trans e34
    have bA34:=bA33.ext e34 (by omega)
    have bB34:=bB33.ext e34 (by omega)
    have s34:=E34.size
    refine ⟨_,_,_,_,_,rfl,?_⟩
    exact leaf q32 q26 v34 _ _ _ _ _ _ _ _ _ _ hl1 hl2 R34 E34 bA34 bB34 (by omega) (by omega) (by omega)
end Go.Proofs
end
section
open Go Go.SE
namespace Go.Sp
def jBJ (L:Pool) (t:Int):Letter×Bool :=
 let n:=jG L t
 if n.kind=7 then kF L n.frm n.a else if n.kind=8∨n.kind=9 then jN L t
 else if ((jT L t).2 || !decide ((jT L t).1.1=jBG))=true then (vD,true)
 else (⟨7,0,(jU L (jT L t).1.2 2).1.num,⟨#[]⟩,false⟩,(jU L (jT L t).1.2 2).2)
def xC (L:Pool) (t:Int):Letter×Bool:=if (jBJ L t).2=true then (vD,false) else ((jBJ L t).1,true)
end Go.Sp
namespace Go.Proofs
open Tryz
attribute [local irreducible] Calls
theorem jAG (r:Addr) (p:Option Addr) (who body:Int) (bad:Bool) (w:World) {L:Sp.Pool} {F:NP} (hR:ReaderAt w r p bad L F) :
  Calls prog 106 #[.pointer (some r),.int .i64 who,.int .i64 body] w
   (fun e w'=>∃k:Int,∃f:Int,∃c:Int,∃x:ByteArray,∃fk:Bool,e=.returned (.agg #[.int .i64 k,.int .i64 f,.int .u64 c,.string x,.bool fk])∧((⟨k,f,c,x,fk⟩:Sp.Letter)=(Sp.kF L who body).1∧ReaderAt w' r p (bad || (Sp.kF L who body).2) L F∧Ext (·=r.block) w w')):=by
 suffices key:∀K:Int→Int→Int→ByteArray→Bool→WP,(∀k f c x fk w',((⟨k,f,c,x,fk⟩:Sp.Letter)=(Sp.kF L who body).1∧ReaderAt w' r p (bad || (Sp.kF L who body).2) L F∧Ext (·=r.block) w w')→K k f c x fk w')→m_A (some r) who body w K from
  w_A _ _ _ w _ (key _ (fun _ _ _ _ _ _ h=>h))
 intro K hK
 unfold m_A
 intro p1 w1 h1
 have E1:Pure w w1:=Ext.new h1
 have o1:=New.own (Ext.refl w) h1
 have lr:=hR.box.lt
 have b1:Box w1 p1 lz 35:=Box.of_new h1
 have ne:p1.block≠r.block:=by omega
 refine (yK r p body bad w1 (hR.pure E1)).mono ?_
 rintro _ w2 ⟨x,y,rfl,hg,hR2,E12⟩
 refine ⟨_,_,rfl,?_⟩
 have b2:=b1.ext E12 ne
 have E2:Ext (·=r.block) w w2:=E1.pure.trans E12
 have ex:x=(Sp.jT L body).1.1:=congrArg Prod.fst hg
 have ey:y=(Sp.jT L body).1.2:=congrArg Prod.snd hg
 have hsp:Sp.kF L who body=if x=Sp.qE∧who=0 then (⟨3,0,(Sp.jU L y 2).1.num,⟨#[]⟩,false⟩,(Sp.jT L body).2 || (Sp.jU L y 2).2)
  else if x=Sp.kH∧who=2 then (⟨5,0,(Sp.jU L y 2).1.num,⟨#[]⟩,false⟩,(Sp.jT L body).2 || (Sp.jU L y 2).2)
  else if x=Sp.kN∧who=2 then (⟨6,0,(Sp.zG L y).1.1,(Sp.zG L y).1.2,false⟩,(Sp.jT L body).2 || (Sp.zG L y).2)
  else if x=Sp.yZ∧who≤1 then (⟨2,who,(Sp.zG L body).1.1,(Sp.zG L body).1.2,false⟩,(Sp.jT L body).2 || (Sp.zG L body).2)
  else if x=Sp.vC∧who≤1 then ((Sp.zR L who y).1,(Sp.jT L body).2 || (Sp.zR L who y).2)
  else (Sp.vD,true):=by
  simp only [Sp.kF,← ex,← ey]
 clear ex ey hg
 generalize hbg:(Sp.jT L body).2=g2 at *
 have fin : ∀ (k f c : Int) (z : ByteArray) (fk v : Bool) (w5 : World), Sp.kF L who body = (⟨k, f, c, z, fk⟩, v) → ReaderAt w5 r p (bad || v) L F → Ext (· = r.block) w2 w5 →
   (∀j,j<5→jW w5 (p1.add j))∧∀w6:World,w6=storeRow w5 p1 [(.int .i64 k),(.int .i64 f),(.int .u64 c),(.string z),(.bool fk)] →
   ∃qKind1:Int,∃qFrom1:Int,∃qC1:Int,∃qText1:ByteArray,∃qFake1:Bool,Row w6 p1 [(.int .i64 qKind1),(.int .i64 qFrom1),(.int .u64 qC1),(.string qText1),(.bool qFake1)] ∧
   K qKind1 qFrom1 qC1 qText1 qFake1 w6:=by
  intro k f c z fk v w5 hs hR5 E5
  refine bx 5 (b2.ext E5 ne) rfl rfl (fun w6 b6 E6=>⟨k,f,c,z,fk,b6.row,hK _ _ _ _ _ _ ⟨by rw [hs],?_,?_⟩⟩)
  ·rw [hs];exact ⟨hR5.box.ext E6 ne.symm,hR5.pool.ext E6 (fun b hb e=>by have:=hR.pool.lt hb;omega),hR.ok,hR.out⟩
  ·exact (E2.trans E5).trans' E6 (fun i hi h=>by omega)
 have nodeCase : ∀ (k : Int), Sp.kF L who body = (⟨k, 0, (Sp.jU L y 2).1.num, ⟨#[]⟩, false⟩, g2 || (Sp.jU L y 2).2) →
   Calls prog 109 #[.pointer (some r),.int .i64 y,.int .i64 2] w2 (fun e w3=>∃rKind1:Int,∃rFrom1:Int,∃rTo1:Int,∃rNum1:Int,∃rText1:ByteArray,∃rA1:Int,∃rB1:Int,e=.returned (.agg #[(.int .i64 rKind1),(.int .i64 rFrom1),(.int .i64 rTo1),(.int .u64 rNum1),(.string rText1),(.int .i64 rA1),(.int .i64 rB1)]) ∧
    (∀j,j<5→jW w3 (p1.add j))∧∀w4:World,w4=storeRow w3 p1 [(.int .i64 k),(.int .i64 0),(.int .u64 rNum1),(.string (⟨#[]⟩:ByteArray)),(.bool false)] →
    ∃qKind1:Int,∃qFrom1:Int,∃qC1:Int,∃qText1:ByteArray,∃qFake1:Bool,Row w4 p1 [(.int .i64 qKind1),(.int .i64 qFrom1),(.int .u64 qC1),(.string qText1),(.bool qFake1)] ∧
    K qKind1 qFrom1 qC1 qText1 qFake1 w4):=by
  intro k hs
  refine (kU r p y 2 _ w2 hR2).mono ?_
  rintro _ w3 ⟨k3,f3,t3,u3,x3,a3,b3,rfl,hn3,hR3,E3⟩
  have e3:u3=(Sp.jU L y 2).1.num:=by rw [← hn3]
  refine ⟨_,_,_,_,_,_,_,rfl,?_⟩
  rw [← e3] at hs
  exact fin _ _ _ _ _ _ w3 hs (by rw [← Bool.or_assoc];exact hR3) E3
 have dealCase : ∀ (k f t : Int), Sp.kF L who body = (⟨k, f, (Sp.zG L t).1.1, (Sp.zG L t).1.2, false⟩, g2 || (Sp.zG L t).2) →
   Calls prog 170 #[.pointer (some r),.int .i64 t] w2 (fun e w7=>∃r4:Int,∃r5:ByteArray,e=.returned (.tuple #[(.int .u64 r4),(.string r5)]) ∧
    (∀j,j<5→jW w7 (p1.add j))∧∀w8:World,w8=storeRow w7 p1 [(.int .i64 k),(.int .i64 f),(.int .u64 r4),(.string r5),(.bool false)] →
    ∃qKind1:Int,∃qFrom1:Int,∃qC1:Int,∃qText1:ByteArray,∃qFake1:Bool,Row w8 p1 [(.int .i64 qKind1),(.int .i64 qFrom1),(.int .u64 qC1),(.string qText1),(.bool qFake1)] ∧
    K qKind1 qFrom1 qC1 qText1 qFake1 w8):=by
  intro k f t hs
  refine (tM r p t _ w2 hR2).mono ?_
  rintro _ w3 ⟨c,z,rfl,hd,hR3,E3⟩
  have e1:c=(Sp.zG L t).1.1:=congrArg Prod.fst hd
  have e2:z=(Sp.zG L t).1.2:=congrArg Prod.snd hd
  refine ⟨_,_,rfl,?_⟩
  rw [← e1,← e2] at hs
  exact fin _ _ _ _ _ _ w3 hs (by rw [← Bool.or_assoc];exact hR3) E3
 have J5:∀b,b=decide (x=Sp.vC∧who≤1)→¬ (x=Sp.qE∧who=0)→¬ (x=Sp.kH∧who=2)→¬ (x=Sp.kN∧who=2)→¬ (x=Sp.yZ∧who≤1)→m_A_j5 (some r) who p1 y b w2 K:=by
  intro b hb h1 h2 h3 h4;rw [if_neg h1,if_neg h2,if_neg h3,if_neg h4] at hsp;cases hbv:b with
  | true =>
   have hc:x=Sp.vC∧who≤1:=of_decide_eq_true (by rw [← hb,hbv])
   rw [if_pos hc] at hsp
   refine tL r p p1 who y _ w2 hR2 b2 ne K (fun w6 w' hR6 E6 b' E'=>hK _ _ _ _ _ _ ⟨by rw [hsp];rfl,?_,?_⟩)
   ·rw [hsp];simp only [← Bool.or_assoc]
    exact ⟨hR6.box.ext E' ne.symm,hR6.pool.ext E' (fun b hb e=>by have:=hR.pool.lt hb;omega),hR.ok,hR.out⟩
   ·exact (E2.trans E6).trans' E' (fun i hi h=>by omega)
  | false =>
   have hc:¬ (x=Sp.vC∧who≤1):=of_decide_eq_false (by rw [← hb,hbv])
   rw [if_neg hc] at hsp
   unfold m_A_j5
   refine Br.f rfl ⟨r,rfl,hR2.box.canW (by simp),?_⟩
   intro w77 hw
   have d5:Box w77 r [.pointer p,.bool true] 182:=by rw [hw];exact hR2.box.set 1 _
   have E5:Ext (·=r.block) w2 w77:=by rw [hw];have:=Ext.setCell (w:=w2) (r.add 1) (.bool true);rw [jR] at this;exact this
   exact fin 0 0 0 ⟨#[]⟩ false true w77 hsp (by rw [Bool.or_true];exact ⟨d5,hR2.pool.ext E5 (fun b hb e=>hR.out (e▸hb)),hR.ok,hR.out⟩) E5
 have J4:∀b,b=decide (x=Sp.yZ∧who≤1)→¬ (x=Sp.qE∧who=0)→¬ (x=Sp.kH∧who=2)→¬ (x=Sp.kN∧who=2)→m_A_j4 (some r) who body p1 x y b w2 K:=by
  intro b hb h1 h2 h3;unfold m_A_j4;refine ⟨fun h=>dealCase 2 who body ?_,fun h=>?_⟩
  ·rw [hsp,if_neg h1,if_neg h2,if_neg h3,if_pos (of_decide_eq_true (by rw [← hb,h]))]
  ·have h4:¬ (x=Sp.yZ∧who≤1):=of_decide_eq_false (by rw [← hb,h]);exact ⟨fun hw=>J5 _ (by have:x=Sp.vC:=of_decide_eq_true hw;simp [this]) h1 h2 h3 h4,fun hw=>J5 _ (by have:¬ x=Sp.vC:=of_decide_eq_false hw;simp [this]) h1 h2 h3 h4⟩
 have J3:∀b,b=decide (x=Sp.kN∧who=2)→¬ (x=Sp.qE∧who=0)→¬ (x=Sp.kH∧who=2)→m_A_j3 (some r) who body p1 x y b w2 K:=by
  intro b hb h1 h2;unfold m_A_j3;refine ⟨fun h=>dealCase 6 0 y ?_,fun h=>?_⟩
  ·rw [hsp,if_neg h1,if_neg h2,if_pos (of_decide_eq_true (by rw [← hb,h]))]
  ·have h3:¬ (x=Sp.kN∧who=2):=of_decide_eq_false (by rw [← hb,h]);exact ⟨fun hw=>J4 _ (by have:x=Sp.yZ:=of_decide_eq_true hw;simp [this]) h1 h2 h3,fun hw=>J4 _ (by have:¬ x=Sp.yZ:=of_decide_eq_false hw;simp [this]) h1 h2 h3⟩
 have J2:∀b,b=decide (x=Sp.kH∧who=2)→¬ (x=Sp.qE∧who=0)→m_A_j2 (some r) who body p1 x y b w2 K:=by
  intro b hb h1;unfold m_A_j2;refine ⟨fun h=>nodeCase 5 ?_,fun h=>?_⟩
  ·rw [hsp,if_neg h1,if_pos (of_decide_eq_true (by rw [← hb,h]))]
  ·have h2:¬ (x=Sp.kH∧who=2):=of_decide_eq_false (by rw [← hb,h]);exact ⟨fun hw=>J3 _ (by have:x=Sp.kN:=of_decide_eq_true hw;simp [this];rfl) h1 h2,fun hw=>J3 _ (by have:¬ x=Sp.kN:=of_decide_eq_false hw;simp [this]) h1 h2⟩
 have J1:∀b,b=decide (x=Sp.qE∧who=0)→m_A_j1 (some r) who body p1 x y b w2 K:=by
  intro b hb;unfold m_A_j1;refine ⟨fun h=>nodeCase 3 ?_,fun h=>?_⟩
  ·rw [hsp,if_pos (of_decide_eq_true (by rw [← hb,h]))]
  ·have h1:¬ (x=Sp.qE∧who=0):=of_decide_eq_false (by rw [← hb,h]);exact ⟨fun hw=>J2 _ (by have:x=Sp.kH:=of_decide_eq_true hw;simp [this];rfl) h1,fun hw=>J2 _ (by have:¬ x=Sp.kH:=of_decide_eq_false hw;simp [this]) h1⟩
 exact ⟨fun hw=>J1 _ (by have:x=Sp.qE:=of_decide_eq_true hw;simp [this];rfl),fun hw=>J1 _ (by have:¬ x=Sp.qE:=of_decide_eq_false hw;simp [this])⟩
end Go.Proofs
end
section
open Go Go.SE
namespace Go.Proofs
open Tryz
attribute [local irreducible] Calls
theorem vR (p:Option Addr) (t:Int) (w:World) {L:Sp.Pool} {F:NP} (hP:uJ w p L F) (hok:Sp.Ok L) :
  Calls prog 51 #[.pointer p,.int .i64 t] w
   (fun e w'=>∃k:Int,∃f:Int,∃c:Int,∃x:ByteArray,∃fk:Bool,∃ok:Bool,e=.returned (.tuple #[.agg #[.int .i64 k,.int .i64 f,.int .u64 c,.string x,.bool fk],.bool ok])∧(((⟨k,f,c,x,fk⟩:Sp.Letter),ok)=Sp.xC L t∧Pure w w')):=by
 suffices key:∀K:Int→Int→Int→ByteArray→Bool→Bool→WP,(∀k f c x fk ok w',(((⟨k,f,c,x,fk⟩:Sp.Letter),ok)=Sp.xC L t∧Pure w w')→K k f c x fk ok w')→m_F p t w K from
  w_F _ _ w _ (key _ (fun _ _ _ _ _ _ _ h=>h))
 intro K hK
 unfold m_F
 intro p2 w1 h1 p3 w2 h2
 have E1:Pure w w1:=Ext.new h1
 have E2:Pure w w2:=E1.trans (Ext.new h2)
 have o2:=New.own (Ext.refl w) h1
 have o3:=New.own E1 h2
 have n23:p2.block≠p3.block:=New.ne h2 (Box.of_new h1).blk
 have b2:Box w2 p2 lz 35:=(Box.of_new h1).pure (Ext.new h2)
 have hout:¬ F p3.block:=fun h=>by have:=hP.lt h;omega
 have hR2:ReaderAt w2 p3 p false L F:=⟨Box.of_new h2,hP.pure E2,hok,hout⟩
 refine (jAI p t w2 hR2.pool hok).mono ?_
 rintro _ w3 ⟨k,f,t',u,x,a,b,ok,rfl,⟨hn,_⟩,E23⟩
 refine ⟨_,_,_,_,_,_,_,_,rfl,?_⟩
 intro p4 w4 h4
 have E3:Pure w2 w3:=E23
 have o4:=New.own (Ext.refl w3) h4
 have l3:=(hR2.pure E3).box.lt
 have l2:=(b2.pure E3).lt
 refine bx 7 (Box.of_new h4) rfl rfl (fun w5 b4 E'=>?_)
 have E5:Pure w3 w5:=Ext.own (Ext.new h4) o4 E'
 intro p5 w6 h6
 have E6:Pure w3 w6:=E5.trans (Ext.new h6)
 have o5:=New.own E5 h6
 have n45:p4.block≠p5.block:=New.ne h6 b4.blk
 have c4:=b4.pure (Ext.new h6:Pure w5 w6)
 have c5:Box w6 p5 lz 35:=Box.of_new h6
 have c2:=b2.pure (E3.trans E6)
 have hR6:=hR2.pure (E3.trans E6)
 have E26:Pure w w6:=(E2.trans E3).trans E6
 clear E' h1 h2 h4 h6
 have n35:p3.block≠p5.block:=by omega
 have n25:p2.block≠p5.block:=by omega
 have hq:Sp.jBJ L t=if k=7 then Sp.kF L f a else if k=8∨k=9 then Sp.jN L t else if ((Sp.jT L t).2 || !decide ((Sp.jT L t).1.1=Sp.jBG))=true then (Sp.vD,true) else (⟨7,0,(Sp.jU L (Sp.jT L t).1.2 2).1.num,⟨#[]⟩,false⟩,(Sp.jU L (Sp.jT L t).1.2 2).2):=by
  simp only [Sp.jBJ,← hn]
 have bad1 : ∀ (w8 : World), (Sp.jBJ L t).2 = true → Ext (fun b => b = p3.block ∨ b = p5.block) w6 w8 → (∀ j, j < 5 → jW w8 (p2.add j)) ∧ ∀ w9 : World, w9 = storeRow w8 p2 [(.int .i64 0), (.int .i64 0), (.int .u64 0), (.string (⟨#[]⟩ : ByteArray)), (.bool false)] →
   ∃qKind1:Int,∃qFrom1:Int,∃qC1:Int,∃qText1:ByteArray,∃qFake1:Bool,Row w9 p2 [(.int .i64 qKind1),(.int .i64 qFrom1),(.int .u64 qC1),(.string qText1),(.bool qFake1)]∧K qKind1 qFrom1 qC1 qText1 qFake1 false w9:=by
  intro w8 hb E8
  refine bx 5 (c2.ext E8 (by rintro (h | h) <;> omega)) rfl rfl (fun w9 b9 E9=>⟨0,0,0,⟨#[]⟩,false,b9.row,hK _ _ _ _ _ _ _ ⟨?_,?_⟩⟩)
  ·rw [Sp.xC,if_pos hb];rfl
  ·exact (E26.trans' E8 (fun i hi h=>by rcases h with h | h <;> omega)).trans' E9 (fun i hi h=>by omega)
 have good1 : ∀ (w8 : World) (l : Sp.Letter), Sp.jBJ L t = (l, false) → Ext (fun b => b = p3.block ∨ b = p5.block) w6 w8 → Box w8 p5 [.int .i64 l.kind, .int .i64 l.frm, .int .u64 l.c, .string l.text, .bool l.fake] 35 →
   ∃vKind1:Int,∃vFrom1:Int,∃vC1:Int,∃vText1:ByteArray,∃vFake1:Bool,Row w8 p5 [(.int .i64 vKind1),(.int .i64 vFrom1),(.int .u64 vC1),(.string vText1),(.bool vFake1)] ∧
   (∀j,j<5→jW w8 (p2.add j))∧∀w9:World,w9=storeRow w8 p2 [(.int .i64 vKind1),(.int .i64 vFrom1),(.int .u64 vC1),(.string vText1),(.bool vFake1)] →
   ∃qKind1:Int,∃qFrom1:Int,∃qC1:Int,∃qText1:ByteArray,∃qFake1:Bool,Row w9 p2 [(.int .i64 qKind1),(.int .i64 qFrom1),(.int .u64 qC1),(.string qText1),(.bool qFake1)]∧K qKind1 qFrom1 qC1 qText1 qFake1 true w9:=by
  intro w8 l hb E8 B8
  refine ⟨_,_,_,_,_,B8.row,?_⟩
  refine bx 5 (c2.ext E8 (by rintro (h | h) <;> omega)) rfl rfl (fun w9 b9 E9=>⟨l.kind,l.frm,l.c,l.text,l.fake,b9.row,hK _ _ _ _ _ _ _ ⟨?_,?_⟩⟩)
  ·rw [Sp.xC,if_neg (by rw [hb];simp),hb]
  ·exact (E26.trans' E8 (fun i hi h=>by rcases h with h | h <;> omega)).trans' E9 (fun i hi h=>by omega)
 have up:∀{w7 w8:World},Ext (·=p3.block) w6 w7→Ext (·=p5.block) w7 w8→Ext (fun b=>b=p3.block∨b=p5.block) w6 w8:=fun h h'=>(h.mono (fun _ _ h=>.inl h)).trans' h' (fun _ _ h=>.inr h)
 have J1p:∀b,b=true→k≠7→(k=8∨k=9)→m_F_j1 t p2 p3 p5 b w6 K:=by
  rintro _ rfl h7 h89;rw [if_neg h7,if_pos h89] at hq;unfold m_F_j1;refine Br.t rfl ?_;refine (jS p3 p t false w6 hR6).mono ?_;rintro _ w7 ⟨k7,f7,c7,x7,g7,rfl,hl,hR7,E7⟩;refine ⟨_,_,_,_,_,rfl,bx 5 (c5.ext E7 n35.symm) rfl rfl (fun w8 b8 E8=>⟨(Sp.jN L t).2,?_,fun h=>bad1 w8 (by rw [hq];exact h) (up E7 E8),fun h=>good1 w8 ⟨k7,f7,c7,x7,g7⟩ (by rw [hq,hl,← h]) (up E7 E8) b8⟩)⟩;have:=(hR7.box.ext E8 n35).cell (i:=1) rfl;simpa using this
 have J1t:∀b,b=false→k≠7→¬ (k=8∨k=9)→m_F_j1 t p2 p3 p5 b w6 K:=by
  rintro _ rfl h7 h89;rw [if_neg h7,if_neg h89] at hq;unfold m_F_j1;refine Br.f rfl ?_;refine (yK p3 p t false w6 hR6).mono ?_;rintro _ w7 ⟨x7,y7,rfl,hg,hR7,E7⟩;have ex:x7=(Sp.jT L t).1.1:=congrArg Prod.fst hg;have ey:y7=(Sp.jT L t).1.2:=congrArg Prod.snd hg;rw [← ex,← ey] at hq;have setr:∀v:Bool,Box (w7.setCell (p3.add 1) (.bool v)) p3 [.pointer p,.bool v] 182∧Ext (·=p3.block) w7 (w7.setCell (p3.add 1) (.bool v)):=fun v =>
   ⟨hR7.box.set 1 _,by have:=Ext.setCell (w:=w7) (p3.add 1) (.bool v);rw [jR] at this;exact this⟩
  have J3:∀(v:Bool) (w8:World),v=((Sp.jT L t).2 || !decide (x7=Sp.jBG))→Box w8 p3 [.pointer p,.bool v] 182→Ext (·=p3.block) w7 w8→m_F_j3 p2 p3 p5 y7 w8 K:=by
   intro v w8 hv B8 E8;have E68:=E7.trans E8;have E68':Ext (fun b=>b=p3.block∨b=p5.block) w6 w8:=E68.mono (fun _ _ h=>.inl h);unfold m_F_j3;refine ⟨v,B8.cell rfl,fun h=>⟨v,B8.cell rfl,fun _=>bad1 w8 (by rw [hq,← hv,if_pos h]) E68',fun h'=>(by rw [h] at h';cases h')⟩,fun h=>?_⟩;rw [← hv,if_neg (by rw [h];simp)] at hq;subst h;unfold m_F_j2;refine (kU p3 p y7 2 false w8 ⟨B8,hR7.pool.ext E8 (fun b hb e=>hout (e▸hb)),hok,hout⟩).mono ?_;rintro _ w16 ⟨k3,f3,t3,u3,x3,a3,b3,rfl,hn3,hR3,E16⟩;have e3:u3=(Sp.jU L y7 2).1.num:=by rw [← hn3]
   rw [← e3] at hq;have E616:=E68.trans E16;refine ⟨_,_,_,_,_,_,_,rfl,bx 5 (c5.ext E616 n35.symm) rfl rfl (fun w17 b17 E17=>⟨(Sp.jU L y7 2).2,?_,fun h=>bad1 w17 (by rw [hq];exact h) (up E616 E17),fun h=>good1 w17 ⟨7,0,u3,⟨#[]⟩,false⟩ (by rw [hq,h]) (up E616 E17) b17⟩)⟩;have:=(hR3.box.ext E17 n35).cell (i:=1) rfl;simpa using this
  refine ⟨_,_,rfl,(Sp.jT L t).2,?_,fun h=>⟨hR7.box.canW (by simp),?_⟩,fun h=>⟨hR7.box.canW (by simp),?_⟩⟩
  ·have:=hR7.box.cell (i:=1) rfl;simpa using this
  ·intro w22 hw;exact J3 true w22 (by rw [h];rfl) (by rw [hw];exact (setr _).1) (by rw [hw];exact (setr _).2)
  ·intro w22 hw;exact J3 (!decide (x7=Sp.jBG)) w22 (by rw [h];rfl) (by rw [hw];exact (setr _).1) (by rw [hw];exact (setr _).2)
 refine ⟨k,c4.cell0,fun h=>⟨f,c4.cell rfl,a,c4.cell rfl,?_⟩,fun h=>⟨fun h8=>?_,fun h8=>?_⟩⟩
 ·have h7:k=7:=by simpa using h
  rw [if_pos h7] at hq
  refine (jAG p3 p f a false w6 hR6).mono ?_
  rintro _ w7 ⟨k7,f7,c7,x7,g7,rfl,hl,hR7,E7⟩
  refine ⟨_,_,_,_,_,rfl,bx 5 (c5.ext E7 n35.symm) rfl rfl (fun w8 b8 E8=>⟨(Sp.kF L f a).2,?_,fun h=>bad1 w8 (by rw [hq];exact h) (up E7 E8),fun h=>good1 w8 ⟨k7,f7,c7,x7,g7⟩ (by rw [hq,hl,← h]) (up E7 E8) b8⟩)⟩
  have:=(hR7.box.ext E8 n35).cell (i:=1) rfl
  simpa using this
 ·have h7:k≠7:=by simpa using h
  have h8:k=8:=by simpa using h8
  exact J1p _ (by simp [h8]) h7 (.inl h8)
 ·have h7:k≠7:=by simpa using h
  have h8:k≠8:=by simpa using h8
  by_cases h9:k=9
  ·exact J1p _ (by simp [h9]) h7 (.inr h9)
  ·exact J1t _ (by simpa using h9) h7 (by rintro (h | h) <;> omega)
theorem qD (p:Addr) (t:Int) (w:World) {L:Sp.Pool} {F:NP} (hP:jO w p L F) (hok:Sp.Ok L) :
  Calls prog 51 #[.pointer (some p),.int .i64 t] w
   (fun e w'=>∃k:Int,∃f:Int,∃c:Int,∃x:ByteArray,∃fk:Bool,∃ok:Bool,e=.returned (.tuple #[.agg #[.int .i64 k,.int .i64 f,.int .u64 c,.string x,.bool fk],.bool ok])∧(((⟨k,f,c,x,fk⟩:Sp.Letter),ok)=Sp.xC L t∧Pure w w')):=vR (some p) t w hP hok
end Go.Proofs
end
section
open Go Go.SE
open Go.IntKind renaming i64 → q6
namespace Go.Proofs
open Tryz
set_option maxRecDepth 100000
set_option maxHeartbeats 4000000
attribute [local irreducible] wpL wpX opE wpE Calls
def m_Z_l1 (s1:Sl) (v1 x1:Int) (wl1:World) (Kc1:Int→WP) (K:Int→WP):Prop :=Br (decide (x1<(s1.len:Int))) (∃a1:Addr,At s1 x1 1 a1∧∃v2,wl1.cell? a1=some (vi v2)∧Br (v1 == v2) (K x1 wl1) (Kc1 (q6.wrap (x1+1)) wl1)) (K (-1) wl1)
def m_Z (s1:Sl) (v1:Int) (w0:World) (K:Int→WP):Prop :=∃(I1:Int→WP) (mu1:Int→World→Nat),I1 0 w0∧∀(x1:Int) (wl1:World),I1 x1 wl1→m_Z_l1 s1 v1 x1 wl1 (fun y'0 w'=>I1 y'0 w'∧mu1 y'0 w'<mu1 x1 wl1) K
theorem w_Z (s1 v1 w0 K) (h:m_Z s1 v1 w0 K):
  Calls prog 190 #[s1.v,(vi v1)] w0 (fun e w'=>∃r1,e=.returned (vi r1)∧K r1 w'):=by
 refine cw (args:=[s1.v,(vi v1)]) func190 ntmps190 (eg (q0 (vi 0) (ln (jA (eg (q0 s1.v (q0 (vi (s1.len:Int)) (q0 (vi 0) ?_))))))))
 refine ln (jH ?_)
 obtain ⟨I1,mu1,h0,hr⟩:=h
 refine zT (σ:=Int×World) (fun s ρ w=>w=s.2∧Has ρ [(0,s1.v),(1,(vi v1)),(7,(vi (s1.len:Int))),(8,(vi s.1))]∧I1 s.1 s.2) (fun s=>mu1 s.1 s.2) (0,w0) ⟨rfl,hm,h0⟩ ?_
 rintro ⟨x1,wl1⟩ ρ w ⟨hw,hH,hI⟩
 dsimp only at hw hH;subst w
 have h:=hr x1 wl1 hI
 refine jQ hH (eg (q (ln (jA (cbr h ?_ ?_)))))<;>intro h
 refine jB (jK (jA (jH (eg (qb (ln (eg (qc (qi (runUnderlying46 _) (sizeOf78 _) h fun a1 h=>ql (isAgg78 _) h fun v2 h=>q (ln (cbr h ?_ ?_)))))))))))<;>intro h
 refine eg (qb (ln (er (vB (jY (jY (vB (jY (rs1 results190 ⟨x1,rfl,h⟩)))))))))
 refine jB (vS (jK (rg (qb (ln ⟨((q6.wrap (x1+1)),wl1),⟨rfl,hm,h.1⟩,h.2⟩)))))
 refine zL (qL (qL (qI (jK (eg (q0 (vi (-1)) (ln (er (rs1 results190 ⟨(-1),rfl,h⟩)))))))))
def m_Z1 (s1:Sl) (v1:Int) (w0:World) (K:Bool→WP):Prop :=Calls prog 190 #[s1.v,(vi v1)] w0 (fun e w1=>∃r1,e=.returned (vi r1)∧K (decide (r1≥0)) w1)
theorem w_Z1 (s1 v1 w0 K) (h:m_Z1 s1 v1 w0 K):
  Calls prog 150 #[s1.v,(vi v1)] w0 (fun e w'=>∃r2,e=.returned (vb r2)∧K r2 w'):=by
 refine cw (args:=[s1.v,(vi v1)]) func150 ntmps150 (eg (q0 (vb false) (ln (eg (q0 s1.v (q0 (vi v1) ?_))))))
 refine sc call190 (h.mono fun e w1 ⟨r1,k,h⟩=>⟨_,k,?_⟩)
 refine qb (ln (er (rs1 results150 ⟨(decide (r1≥0)),rfl,h⟩)))
end Go.Proofs
end
section
open Go Go.SE
namespace Go.SE
section
variable {P:Program} {t e:TypeId} {sz bytes:Nat}
theorem gP (T:SlType P t e sz bytes) (w:World) (ty:TypeId) (s x:Sl) (hc:s.len≤s.cap) (hx:x.len=0):(Builtin.append_ #[t,t] ty #[s.v,x.v]).run P w=.ok s.v w:=by
 obtain ⟨a,n,c⟩:=s;obtain ⟨b,m,d⟩:=x;simp only at hc hx;subst hx;cases b <;> cases a <;> simp [Builtin.append_,Sl.v,run_underlying T.ht,T.sizeOf,Builtin.lenOf,Builtin.firstCells,loadCells,loadCellsFrom,storeCells,hc]
end
theorem jAQ {w:World} {sz:Nat}:∀{rs:List (List Value)} {p:Addr},(∀r∈rs,r.length=sz)→(∀i (h:i<rs.length),Row w (p.add (i*sz)) rs[i])→Row w p rs.flatten
 | [],p,_,_=>fun i h=>by simp at h
 | r :: rs,p,hl,h=>by
  have hr:Row w p r:=by have:=h 0 (by simp);simpa [Addr.add] using this
  have hsz:=hl r (by simp);have ih:=jAQ (rs:=rs) (p:=p.add sz) (fun q hq=>hl q (List.mem_cons_of_mem _ hq)) (fun i hi=>by
   have:=h (i+1) (by simpa using hi);rw [vT,show sz+i*sz=(i+1)*sz by rw [Nat.succ_mul];omega];simpa using this)
  intro i hi;rw [List.flatten_cons] at hi ⊢;by_cases hlt:i<r.length
  ·rw [hr i hlt,List.getElem?_append_left hlt]
  ·have:=ih (i - r.length) (by rw [List.length_append] at hi;omega);rw [vT,show sz+(i - r.length)=i by omega] at this;rw [this,List.getElem?_append_right (by omega)]
section
variable {P:Program} {t e:TypeId} {sz bytes:Nat}
theorem Rws.appendL (T:SlType P t e sz bytes) {w:World} {ty:TypeId} {s x:Sl} {rs qs:List (List Value)} (h:Rws w e sz s rs) {S:NP} (hx:Lst S w sz x qs) (hl:∀q∈qs,q.length=sz) (h1:∀q∈qs,q.all zJ=true) (hb:(rs.length+qs.length)*bytes≤140737488355328) (hm:rs.length+qs.length≤maxLen) :
  ∃s' w',(Builtin.append_ #[t,t] ty #[s.v,x.v]).run P w=.ok s'.v w'∧Rws w' e sz s' (rs++qs)∧Ext s.blk w w'∧(∀b,s'.blk b→s.blk b∨w.heap.size≤b):=by
 cases hq:qs with
 | nil =>
  subst hq
  have hc:s.len≤s.cap:=by
   rcases h.own with ⟨rfl,_⟩ | ⟨g,cur,_,_,hc,_⟩
   ·exact Nat.le_refl _
   ·rw [h.len];exact hc
  exact ⟨s,w,gP T w ty s x hc hx.len,by simpa using h,Ext.refl w,fun b hb=>.inl hb⟩
 | cons q0 rest =>
  rw [← hq]
  have hne:qs≠[]:=by rw [hq];simp
  have hpos:=List.length_pos_iff.2 hne
  obtain ⟨_,⟨_,_,p,hp,_⟩,_,_⟩:=hx.at_ 0 hpos
  have hrow:Row w p qs.flatten:=jAQ hl (fun i hi=>by
   obtain ⟨a,⟨_,_,b,hb',rfl⟩,_,hr⟩:=hx.at_ i hi;rw [hp] at hb';cases hb';simpa using hr)
  have hxv:x.v=(Sl.mk (some p) qs.length x.cap).v:=by unfold Sl.v;rw [hp,hx.len]
  rw [hxv]
  exact h.appends T hrow hl h1 hne hb hm
end
def look {α:Type}:List (Int×α)→Int→Option α
 | [],_=>none
 | p :: M,k=>if p.1=k then some p.2 else look M k
theorem yS {α:Type} {M:List (Int×α)} {k:Int}:look M k=none↔k ∉ M.map Prod.fst:=by
 induction M with
 | nil=>simp [look]
 | cons p M ih =>
  rw [look]
  split
  ·rename_i h;simp [h]
  ·rename_i h;rw [ih,List.map_cons,List.mem_cons];exact ⟨fun h1 h2=>h2.elim (fun e=>h e.symm) h1,fun h1 h2=>h1 (.inr h2)⟩
theorem oF {α:Type} {M:List (Int×α)} {k:Int} {v:α} (h:look M k=some v):(k,v)∈M:=by
 induction M with
 | nil=>cases h
 | cons p M ih =>
  rw [look] at h
  split at h
  ·rename_i e;cases h;subst e;simp
  ·exact List.mem_cons_of_mem _ (ih h)
theorem jCU {α:Type} {M:List (Int×α)} (hn:(M.map Prod.fst).Nodup) {i:Nat} {k:Int} {v:α} (h:M[i]?=some (k,v)):look M k=some v:=by
 induction M generalizing i with
 | nil=>simp at h
 | cons p M ih =>
  rw [List.map_cons,List.nodup_cons] at hn
  rw [look]
  cases i with
  | zero=>simp at h;subst h;simp
  | succ i =>
   have h':M[i]?=some (k,v):=by simpa using h
   have hne:p.1≠k:=fun e=>hn.1 (by rw [e];exact List.mem_map.2 ⟨_,List.mem_of_getElem? h',rfl⟩)
   rw [if_neg hne]
   exact ih hn.2 h'
theorem jAB {α:Type} {M:List (Int×α)} (hn:(M.map Prod.fst).Nodup) {k:Int} {v:α} (h:(k,v)∈M):look M k=some v:=by
 obtain ⟨i,hi,e⟩:=List.getElem_of_mem h;exact jCU hn (by rw [List.getElem?_eq_getElem hi,e])
def jAT (k:Int):Value:=.int .i64 k
structure IMap {α:Type} (f:α→Value) (w:World) (m:Nat) (M:List (Int×α)):Prop where
 map:CMap w m (M.map fun p=>(jAT p.1,f p.2))
 nd:(M.map Prod.fst).Nodup
section
variable {α:Type} {f:α→Value} {w w':World} {m:Nat} {M:List (Int×α)} {P:Program} {T K E:TypeId}
theorem IMap.ext {F:NP} (h:IMap f w m M) (hE:Ext F w w') (hf:¬ F m):IMap f w' m M:=⟨h.map.ext hE hf,h.nd⟩
theorem IMap.pure (h:IMap f w m M) (hE:Pure w w'):IMap f w' m M:=h.ext hE id
theorem IMap.lt (h:IMap f w m M):m<w.heap.size:=h.map.lt
theorem IMap.of_new {p:Addr} (h:New w (.map #[] 0) p w'):IMap f w' p.block []:=⟨CMap.of_new h,List.nodup_nil⟩
theorem IMap.keys (M:List (Int×α)):∀p∈M.map (fun p=>(jAT p.1,f p.2)),∃n,p.1=.int .i64 n:=by
 intro p hp;obtain ⟨q,_,rfl⟩:=List.mem_map.1 hp;exact ⟨_,rfl⟩
theorem IMap.get (h:IMap f w m M) (hT:P.underlying T=some (.map K E)) (hK:P.underlying K=some (.int .i64)) {z:Value} (hz:(zeroValue E).run P w=.ok z w) (k:Int) (ok:Bool) :
  (look M k=none∧(Instr.lookup T (.map (some m)) (.int .i64 k) ok).run P w=.ok (if ok then .tuple #[z,.bool false] else z) w)∨∃v,look M k=some v∧(Instr.lookup T (.map (some m)) (.int .i64 k) ok).run P w=.ok (if ok then .tuple #[f v,.bool true] else f v) w:=by
 rcases h.map.lookup hT (KeyOK.of_int hK) (IMap.keys M) (k:=jAT k) ⟨k,rfl⟩ hz ok with ⟨h1,h2⟩ | ⟨i,v,h1,h2⟩
 ·refine .inl ⟨yS.2 fun hm=>?_,h2⟩
  obtain ⟨q,hq,rfl⟩:=List.mem_map.1 hm
  exact h1 _ (List.mem_map.2 ⟨q,hq,rfl⟩) rfl
 ·rw [List.getElem?_map] at h1
  cases hi:M[i]? with
  | none=>rw [hi] at h1;cases h1
  | some q =>
   rw [hi] at h1
   obtain ⟨a,b⟩:=q
   simp [jAT] at h1
   obtain ⟨rfl,rfl⟩:=h1
   exact .inr ⟨b,jCU h.nd hi,h2⟩
theorem IMap.put (h:IMap f w m M) (hT:P.underlying T=some (.map K E)) (hK:P.underlying K=some (.int .i64)) {k:Int} (hn:look M k=none) (v:α) :
  ∃w',(Instr.mapUpdate T (.map (some m)) (.int .i64 k) (f v)).run P w=.ok () w'∧IMap f w' m (M++[(k,v)])∧Ext (·=m) w w':=by
 have hn':=yS.1 hn
 obtain ⟨w',h1,h2,h3⟩:=h.map.insert hT (KeyOK.of_int hK) (IMap.keys M) (k:=jAT k) (v:=f v) ⟨k,rfl⟩ (fun p hp e=>by
  obtain ⟨q,hq,rfl⟩:=List.mem_map.1 hp;simp only [jAT,Value.int.injEq,true_and] at e;exact hn' (List.mem_map.2 ⟨q,hq,e⟩))
 refine ⟨w',h1,⟨by simpa using h2,?_⟩,h3⟩
 rw [List.map_append,List.nodup_append]
 exact ⟨h.nd,by simp,fun x hx y hy e=>by simp at hy;subst hy;exact hn' (e▸hx)⟩
theorem IMap.again (h:IMap f w m M) (hT:P.underlying T=some (.map K E)) (hK:P.underlying K=some (.int .i64)) {k:Int} {v:α} (hv:look M k=some v) :
  ∃w',(Instr.mapUpdate T (.map (some m)) (.int .i64 k) (f v)).run P w=.ok () w'∧IMap f w' m M∧Ext (·=m) w w':=by
 obtain ⟨i,hi,e⟩:=List.getElem_of_mem (oF hv)
 have hes:(M.map fun p=>(jAT p.1,f p.2))[i]?=some (jAT k,f v):=by simp [hi,e]
 obtain ⟨w',h1,h2,h3⟩:=h.map.update hT (KeyOK.of_int hK) (IMap.keys M) (k:=jAT k) (v:=f v) (v':=f v) ⟨k,rfl⟩ hes (fun j u hj=>by
  rw [List.getElem?_map] at hj;cases hq:M[j]? with
  | none=>rw [hq] at hj;cases hj
  | some q =>
   rw [hq] at hj
   simp [jAT] at hj
   obtain ⟨hj',hje⟩:=List.getElem?_eq_some_iff.1 hq
   have h4:(M.map Prod.fst)[j]'(by simpa using hj')=(M.map Prod.fst)[i]'(by simpa using hi):=by simp [hje,e,hj.1]
   exact (List.getElem_inj h.nd).1 h4)
 have hset:(M.map fun p=>(jAT p.1,f p.2)).set i (jAT k,f v)=M.map fun p=>(jAT p.1,f p.2):=by
  apply List.ext_getElem?;intro n;rw [List.getElem?_set];by_cases hn:i=n
  ·subst hn;rw [if_pos rfl];simp [hi,e]
  ·rw [if_neg hn]
 rw [hset] at h2
 exact ⟨w',h1,⟨h2,h.nd⟩,h3⟩
end
end Go.SE
end
section
open Go Go.SE
namespace Go.Proofs
open Tryz
attribute [local irreducible] Calls
def tmr (ts:List Int):List (List Value):=ts.map fun t=>[.int .i64 t]
theorem kV (ts:List Int):(tmr ts).length=ts.length:=by simp [tmr]
theorem jCL:SlType prog 46 78 1 8:=by
 refine ⟨underlying46,⟨t78,_,by kernel_rfl,(by kernel_rfl:t78.zero=some (.int .i64 0)),by kernel_rfl,by kernel_rfl,rfl⟩,by omega⟩
structure RetO (w:World) (e:TypeId) (sz:Nat) (rs:List (List Value)) (s:Sl) (w':World):Prop where
 rows:Rws w' e sz s rs
 own:∀b,s.blk b→w.heap.size≤b
 pure:Pure w w'
theorem RetO.kept {w:World} {H:NP} {e:TypeId} {sz:Nat} {rs:List (List Value)} {s:Sl} {w':World} (h:RetO w e sz rs s w'):Kept H w w':=h.pure.keptP
theorem xL {S:NP} {w:World} {s:Sl} {ts:List Int} (h:Lst S w 1 s (tmr ts)) {j:Nat} (hj:j<ts.length):∃a,At s j 1 a∧S a.block∧w.cell? a=some (.int .i64 ts[j]):=by
 obtain ⟨a,h1,h2,h3⟩:=h.at_ j (by simpa [tmr] using hj);exact ⟨a,h1,h2,jEC (by simpa [tmr] using h3)⟩
theorem jDJ {S:NP} (s:Sl) (ts:List Int) (v:Int) (w0:World) (hs:Lst S w0 1 s (tmr ts)) (hn:ts.length≤1000000) :
  Calls prog 190 #[s.v,.int .i64 v] w0 (fun e w'=>∃r:Int,e=.returned (.int .i64 r)∧((decide (r≥0)=decide (v∈ts))∧w'=w0)):=by
 refine w_Z _ _ w0 (fun r w'=>(decide (r≥0)=decide (v∈ts))∧w'=w0) ?_
 unfold m_Z
 have hl:s.len=ts.length:=by rw [hs.len,kV]
 refine ⟨fun i w'=>w'=w0∧∃j:Nat,i=j∧j≤ts.length∧v ∉ ts.take j,fun i _=>((ts.length:Int) - i).toNat,⟨rfl,0,rfl,Nat.zero_le _,by simp⟩,?_⟩
 rintro _ _ ⟨rfl,j,rfl,hj,hv⟩
 unfold m_Z_l1
 refine ⟨fun h=>?_,fun h=>?_⟩
 ·have hlt:=zZ hl h
  obtain ⟨a,hat,_,hc⟩:=xL hs hlt
  have htk:ts.take (j+1)=ts.take j++[ts[j]]:=List.take_succ_eq_append_getElem hlt
  refine ⟨a,hat,_,hc,fun h=>⟨?_,rfl⟩,fun h=>?_⟩
  ·have:v=ts[j]:=by simpa using h
   rw [decide_eq_true (by omega),decide_eq_true]
   rw [this];exact List.getElem_mem hlt
  ·rw [zB hlt (by omega)]
   refine ⟨⟨rfl,j+1,rfl,hlt,?_⟩,vH hlt⟩
   rw [htk,List.mem_append,List.mem_singleton]
   rintro (h' | h')
   ·exact hv h'
   ·simp [h'] at h
 ·have hge:=kA hl hj h
  subst hge
  rw [List.take_length] at hv
  exact ⟨by simp [hv],rfl⟩
theorem tK {S:NP} (s:Sl) (ts:List Int) (v:Int) (w0:World) (hs:Lst S w0 1 s (tmr ts)) (hn:ts.length≤1000000) :
  Calls prog 150 #[s.v,.int .i64 v] w0 (fun e w'=>∃r:Bool,e=.returned (.bool r)∧(r=decide (v∈ts)∧w'=w0)):=by
 refine w_Z1 _ _ w0 (fun r w'=>r=decide (v∈ts)∧w'=w0) ?_
 unfold m_Z1
 refine (jDJ s ts v w0 hs hn).mono ?_
 rintro _ _ ⟨r,rfl,hr,rfl⟩
 exact ⟨_,rfl,hr,rfl⟩
end Go.Proofs
end
section
open Go Go.SE
namespace Go.SE
theorem Ext.putObj (w:World) (r:Nat) (o:Obj):Ext (·=r) w (w.putObj r o):=⟨rfl,rfl,rfl,(by first | exact Nat.le_refl _ | exact Nat.le_succ _),by simp,fun b _ hne=>World.putObj_heap_other hne⟩
abbrev Yld (P:Program) (l:Nat) (args:Array Value) (w:World) (R:Ending→WP):Prop:=YieldAt Fence.wide 0 P l args w R
def jAM (P:Program) (gf:FuncId) (lb:Array Value) {α:Type} (encs:α→Array Value) (xs:List α) (Rd:WP) (w:World):Prop :=
 ∀(l:Nat) (J Jx:List α→NP→WP) (W:World),Pure w W →
  (∀pre X A,J pre X A→Rd A) →
  (∀pre X A X' A',J pre X A→Hst W X A X' A'→J pre X' A') →
  (∀pre X A X' A',Jx pre X A→Hst W X A X' A'→Jx pre X' A') →
  (∀pre y X A,J pre X A→Hst W X A X A→(∃post,xs=pre++y :: post)→Yld P l (encs y) A (fun e A'=>(e=.returned (.bool true)∧Kept X A A'∧J (pre++[y]) X A')∨(e=.returned (.bool false)∧Kept X A A'∧Jx (pre++[y]) X A'))) →
  J [] None W →
  Calls P gf (#[.func (.yield l) #[] #[]]++lb) W (fun e A=>(∃v,e=.returned v)∧∃X,Hst W X A X A∧(J xs X A∨∃pre,Jx pre X A))
def jEA:List Nat→List Value→Env→Env
 | p :: ps,v :: vs,ρ=>jEA ps vs (upd ρ p v)
 | _,_,ρ=>ρ
theorem oV {n:Nat}:∀(ps:List Nat) (vs:List Value) (ρ:Env) (t:Array Value),(∀p∈ps,p<n)→Rep [] n ρ { tmps:=t,defers:=[] } →
  Rep [] n (jEA ps vs ρ) { tmps:=(ps.zip vs).foldl (fun t (x:Nat×Value)=>t.setIfInBounds x.1 x.2) t,defers:=[] }
 | [],vs,ρ,t,_,h=>by cases vs <;> exact h
 | p :: ps,[],ρ,t,_,h=>h
 | p :: ps,v :: vs,ρ,t,hp,h=>by
  rw [List.zip_cons_cons,List.foldl_cons];exact oV ps vs _ _ (fun q hq=>hp q (by simp [hq])) (h.put (d:=some p) (fun k hk=>by cases hk;exact hp p (by simp)) v)
def jFD (id:Nat) (Y:NP) (A:World) (I Ix Ir:NP→WP):Exit→Env→WP
 | .normal,_,A'=>Kept Y A A'∧I Y A'
 | .exit id',_,A'=>id'=id∧Kept Y A A'∧Ix Y A'
 | .ret,_,A'=>Kept Y A A'∧Ir Y A'
 | _,_,_=>False
def jFJ (D:Nat) (Q:Exit→Env→WP):Exit→Env→WP
 | .ret,ρ,w=>w.heap[D]?=some (.deferred (some []))∧Q .ret ρ (w.putObj D (.deferred none))
 | _,_,_=>False
theorem Kept.trans {H:NP} {a b c:World} (h:Kept H a b) (k:Kept H b c):Kept H a c:=⟨Nat.le_trans h.size k.size,fun i hi hH=>(k.keep i (Nat.lt_of_lt_of_le hi h.size) hH).trans (h.keep i hi hH)⟩
theorem Kept.mono {H H':NP} {a b:World} (h:Kept H a b) (hs:∀b,H' b→H b):Kept H' a b:=⟨h.size,fun i hi hH=>h.keep i hi (hs i hH)⟩
structure RngI {α:Type} (w0:World) (Rd:WP) (I Ix Ir:List α→NP→WP):Prop where
 rd:∀pre Y A,I pre Y A→Rd A
 i:∀pre Y A Y' A',I pre Y A→Hst w0 Y A Y' A'→I pre Y' A'
 x:∀pre Y A Y' A',Ix pre Y A→Hst w0 Y A Y' A'→Ix pre Y' A'
 r:∀pre Y A Y' A',Ir pre Y A→Hst w0 Y A Y' A'→Ir pre Y' A'
def wpB (P:Program) (n:Nat) (c y:Code) (Q:Exit→Env→WP) (ρ:Env) (w:World):Prop:=∀a,Rep [] n ρ a→c.wpIn (fen none) 0 P (Exit.then (fun a w=>y.wpIn (fen none) 0 P (jDU ⟨none,[]⟩ n Q) a w) (jDU ⟨none,[]⟩ n Q)) a w
theorem jDY {P:Program} {n:Nat} {Q:Exit→Env→WP} {ρ:Env} {w:World} {a c y:Code} (h:wpE (x:=⟨none,[]⟩) P n a (uB (fun ρ w=>wpB P n c y Q ρ w) Q) ρ w):wpE (x:=⟨none,[]⟩) P n (.seq (.seq a c) y) Q ρ w:=fun a ha =>
 wpIn_seq (wpIn_seq (wpIn_mono (h a ha) (fun e a w hl=>by
  cases e with
  | normal=>obtain ⟨ρ',hr,hq⟩:=gV hl;exact hq a hr
  | _=>exact hl)))
theorem af_r {D:Nat} {Q:Exit→Env→WP} {ρ:Env} {w:World} (h1:w.heap[D]?=some (.deferred (some []))) (h:∀w1,w1=w.putObj D (.deferred none)→Q .ret ρ w1):jFJ D Q .ret ρ w:=⟨h1,h _ rfl⟩
theorem rd_n {id:Nat} {Y:NP} {A A':World} {I Ix Ir:NP→WP} {ρ:Env} (h:Kept Y A A'∧I Y A'):jFD id Y A I Ix Ir .normal ρ A':=h
theorem HBZ.behind {H Y:NP} {w A:World} {l:List HBx} {D:Nat} (hb:HB H w l) (hk:Kept H w A) (hH:∀b,H b→Y b) (hD:Y D) (hDe:A.heap[D]?=some (.deferred (some []))):HBZ [(D,.deferred (some []))] Y A l :=
 ⟨(hb.kept hk).box,fun x hx=>hH _ (hb.hid x hx),hb.ne,fun x hx=>by
  cases List.mem_singleton.1 hx;exact ⟨hD,hDe,rfl⟩⟩
theorem HBZ.leave {w0 wv:World} {Hv H:NP} {w:World} {l:List HBx} {D:Nat} (hb:HBZ [(D,.deferred (some []))] H w l) (hs:Hst w0 Hv wv H w) {w1:World} (h1:w1=w.putObj D (.deferred none)):Hst w0 Hv wv H w1∧HB H w1 l:=by
 have hz:=hb.fz _ (List.mem_singleton.2 rfl);have E:Ext (·=D) w w1:=by rw [h1];exact Ext.putObj w D _
 refine ⟨⟨h1▸hs.ext.trans' (Ext.putObj w D _) (fun b _ e=>by subst e;exact hz.1),hs.sub,hs.new,hs.old,fun b hb=>Nat.lt_of_lt_of_le (hs.lt b hb) E.size,Nat.le_trans hs.base E.size⟩,?_⟩;refine ⟨fun x hx=>(hb.box x hx).ext E (fun e=>?_),hb.hid,hb.ne,fun x hx=>by cases hx⟩;have h2:=(hb.box x hx).blk;rw [e,hz.2.1] at h2;cases h2
theorem HBZ.dead {H:NP} {w:World} {l:List HBx} {D:Nat} (hb:HBZ [(D,.deferred (some []))] H w l):w.heap[D]?=some (.deferred (some [])):=(hb.fz _ (List.mem_singleton.2 rfl)).2.1
theorem jFK {P:Program} {ε:Operand→Value} {w w':World} {d:Option Tmp} {ty:TypeId} {pos:String} {aft:Array Edge} {g:Option (Nat×Bool)} {l:Nat} {x:Operand} {v:Value} {c:List Operand} {ts:Array TypeId} {args:Array Value} {r:Next} (hx:ε x=v) (hv:v=.func (.yield l) #[] #[]) (ha:(c.map ε).toArray=args) (hr:(Instr.yield l args).run P w=.ok r w') :
  (execOp ε ⟨d,.call ⟨.value x,c.toArray,ts⟩,ty,pos,aft,g⟩).run P w=.ok r w':=by
 subst hv;subst ha
 simp [execOp,resolve,hx,Deferred.ofValue,invoke,hr]
theorem jDZ {P:Program} {ops:Array Oper} {Q:Env→WP} {ρ:Env} {w:World} {rest:List Oper} {d:Option Tmp} {ty:TypeId} {pos:String} {aft:Array Edge} {g:Option (Nat×Bool)} {l:Nat} {x:Operand} {v:Value} {c:List Operand} {ts:Array TypeId} {args:Array Value}
  (hw:Region.wanted ⟨d,.call ⟨.value x,c.toArray,ts⟩,ty,pos,aft,g⟩ (jF ops ρ)=true) (hx:evE ρ x=v) (hv:v=.func (.yield l) #[] #[]) (ha:(c.map (evE ρ)).toArray=args)
  (h:Yld P l args w (fun e w''=>∃v,e=.returned v∧wpL P ops Q rest (put ρ d v) w'')):wpL P ops Q (⟨d,.call ⟨.value x,c.toArray,ts⟩,ty,pos,aft,g⟩ :: rest) ρ w:=by
 obtain ⟨fn,tmps,assign,body,hr,hR⟩:=h
 unfold wpL
 rw [if_pos hw]
 unfold yld
 rw [jFK hx hv ha hr]
 exact hR
theorem Yld.mono {P:Program} {l:Nat} {args:Array Value} {w:World} {R R':Ending→WP} (h:Yld P l args w R) (hr:∀e w,R e w→R' e w):Yld P l args w R':=by
 obtain ⟨fn,tmps,assign,body,h1,h2⟩:=h;exact ⟨fn,tmps,assign,body,h1,RoundIn.mono h2 hr⟩
section
variable {P:Program} {n:Nat} {Q:Exit→Env→WP} {ρ:Env} {w w0:World} {H Hv:NP} {wv:World}
theorem jCE {id:Nat} {g:Operand} {ps:Array Tmp} {assign body y:Code} {gf:FuncId} {lb:Array Value} {α:Type} {encs:α→Array Value} {xs:List α} {Rd:WP}
  (hg:evE ρ g=.func (.func gf) #[] lb) (eg:∀args w,(callFunc gf args).run P w=.ok (.enter gf args) w) (hit:jAM P gf lb encs xs Rd w) (hps:∀z,(encs z).size=ps.size) (hpn:∀p∈ps.toList,p<n)
  (hs:Hst w0 Hv wv H w) (I Ix Ir:List α→NP→WP) (hRI:RngI w0 Rd I Ix Ir)
  (h0:I [] H w)
  (hround:∀l z A,wpE (x:=⟨some l,[]⟩) P n assign (uB (fun ρ' A'=>A'=A∧∀pre Y A,I pre Y A→Hst w0 Y A Y A→(∃post,xs=pre++z :: post)→wpE (x:=⟨some l,[]⟩) P n body (jFD id Y A (I (pre++[z])) (Ix (pre++[z])) (Ir (pre++[z]))) ρ' A) (fun _ _ _=>False)) (jEA ps.toList (encs z).toList ρ) A)
  (hrest:∀D Y A,Hst w0 Y A Y A→Y D→A.heap[D]?=some (.deferred (some []))→(∀b,H b→Y b)→Kept H w A→(I xs Y A∨∃pre,Ix pre Y A)→wpE (x:=⟨none,[jFY D]⟩) P n y (jFJ D Q) ρ A)
  (hret:∀D pre Y A,Hst w0 Y A Y A→Y D→A.heap[D]?=some (.deferred (some []))→Ir pre Y A→Q .ret ρ (A.putObj D (.deferred none))) :
  wpB P n (.block id (.rangeFunc g ps assign body)) y Q ρ w:=by
 obtain ⟨hRd,hI,hIx,hIr⟩:=hRI
 intro a ha
 refine wpIn_block (wpIn_rangeFunc ?_)
 intro fn _
 obtain ⟨rec,hrec⟩:∃rec:LoopState→Option Code→Loop,rec=fun st pe=>{ state:=st,pending:=pe,fn,tmps:=a.tmps,params:=ps,assign,body,defers:=w.heap.size }:=⟨_,rfl⟩
 obtain ⟨W1,hW1⟩:∃W1,(w.alloc (.deferred (some []))).alloc (.loop (rec .ready none))=W1:=⟨_,rfl⟩
 have hL1:W1.heap[w.heap.size+1]?=some (.loop (rec .ready none)):=by
  rw [← hW1];have:=World.alloc_heap_new (w.alloc (.deferred (some []))) (.loop (rec .ready none));rwa [World.size_alloc] at this
 have hK1:W1.heap[w.heap.size]?=some (.deferred (some [])):=by
  rw [← hW1];exact (RowKit.Below.heap_alloc _ _ _ (by simp)).trans (World.alloc_heap_new w _)
 have hsz:W1.heap.size=w.heap.size+2:=by rw [← hW1];simp
 have E1:Pure w W1:=by
  rw [← hW1];exact ⟨rfl,rfl,rfl,(by first | exact Nat.le_refl _ | exact Nat.le_succ _),by simp;omega,fun b hb _=>(RowKit.Below.heap_alloc _ _ _ (by simp;omega)).trans (RowKit.Below.heap_alloc _ _ _ hb)⟩
 let Yo:NP→NP:=fun X b=>H b∨b=w.heap.size∨b=w.heap.size+1∨X b
 have hHlt:∀b,H b→b<w.heap.size:=hs.lt
 have here:∀{X:NP} {A:World},Hst W1 X A X A→Hst w0 (Yo X) A (Yo X) A:=fun {X A} h =>
  ⟨Ext.refl _,fun _ h=>h,fun _ h=>.inl h,fun b hb=>by
   rcases hb with hb | rfl | rfl | hb
   ·exact hs.old b hb
   ·exact hs.base
   ·have:=hs.base;omega
   ·have:=h.old b hb;have:=hs.base;omega,fun b hb=>by
   have z:=h.base;rcases hb with hb | rfl | rfl | hb
   ·have:=hHlt b hb;omega
   ·omega
   ·omega
   ·exact h.lt b hb,by have:=h.base;have:=hs.base;omega⟩
 have up:∀{X X':NP} {A A':World},Hst W1 X A X A→Hst W1 X A X' A'→Hst w0 (Yo X) A (Yo X') A':=fun {X X' A A'} h k =>
  ⟨k.ext.mono (fun b _ hb=>.inr (.inr (.inr hb))),fun b hb=>by
   rcases hb with hb | hb | hb | hb
   ·exact .inl hb
   ·exact .inr (.inl hb)
   ·exact .inr (.inr (.inl hb))
   ·exact .inr (.inr (.inr (k.sub b hb))),fun b hb=>by
   rcases hb with hb | hb | hb | hb
   ·exact .inl (.inl hb)
   ·exact .inl (.inr (.inl hb))
   ·exact .inl (.inr (.inr (.inl hb)))
   ·exact (k.new b hb).imp_left (fun h=>.inr (.inr (.inr h))),(here k.here).old,(here k.here).lt,(here k.here).base⟩
 have nX:∀{X:NP} {A:World},Hst W1 X A X A→∀b,b<w.heap.size+2→¬ X b:=fun h b hb hx=>by have:=h.old b hx;omega
 have keepH:∀{X X':NP} {A A':World},Kept H w A→Hst W1 X A X' A'→Kept H w A':=fun {X X' A A'} hk k =>
  hk.trans (k.ext.kept (fun b hb hx=>nX k.here b (by have:=hHlt b hb;omega) hx))
 have turn:∀{X:NP} {A:World} (o:Obj),Hst W1 X A X A→Hst w0 (Yo X) A (Yo X) (A.putObj (w.heap.size+1) o):=fun {X A} o h =>
  ⟨(Ext.putObj A _ o).mono (fun b _ e=>by subst e;exact .inr (.inr (.inl rfl))),fun _ h=>h,fun _ h=>.inl h,(here h).old,fun b hb=>by have:=(here h).lt b hb;simpa using this,by simpa using (here h).base⟩
 have hstW:∀{X:NP} {A:World} (o:Obj),Hst W1 X A X A→Hst W1 X (A.putObj (w.heap.size+1) o) X (A.putObj (w.heap.size+1) o):=fun o h =>
  ⟨Ext.refl _,fun _ h=>h,fun _ h=>.inl h,h.old,fun b hb=>by have:=h.lt b hb;simpa using this,by simpa using h.base⟩
 have keepT:∀{A:World} (o:Obj),Kept H w A→Kept H w (A.putObj (w.heap.size+1) o):=fun {A} o hk=>hk.trans ((Ext.putObj A _ o).kept (fun b hb e=>by have:=hHlt b hb;omega))
 let Jc:Code→List α→NP→WP:=fun c pre Y A=>match c with
  | .ret=>Ir pre Y A
  | .exit id'=>id'=id∧Ix pre Y A
  | _=>False
 have hJc:∀c pre Y A Y' A',Jc c pre Y A→Hst w0 Y A Y' A'→Jc c pre Y' A':=by
  intro c pre Y A Y' A' h k;cases c <;> first | exact hIr _ _ _ _ _ h k | exact ⟨h.1,hIx _ _ _ _ _ h.2 k⟩ | exact h
 refine ⟨w.heap.size+1,[jFY w.heap.size],W1,{ target:=.fn (.func gf) lb,args:=#[.func (.yield (w.heap.size+1)) #[] #[]] },W1,gf,
  #[.func (.yield (w.heap.size+1)) #[] #[]]++lb,W1,?_,?_,fun _ _=>trivial,?_,(fun h=>by cases h),callsIn_wide.2 ?_⟩
 ·rw [← hW1,hrec];exact run_enterLoop_outer _ _ _ _ _
 ·have hev:a.eval g=.func (.func gf) #[] lb:=by rw [ha.eval];exact hg
  simp only [resolve,hev]
  simp [go_sem]
 ·simp [invoke,go_sem,eg]
 have hst1:Hst W1 None W1 None W1:=Hst.start W1
 refine (hit (w.heap.size+1)
  (fun pre X A=>Hst W1 X A X A∧I pre (Yo X) A∧A.heap[w.heap.size+1]?=some (.loop (rec .ready none))∧A.heap[w.heap.size]?=some (.deferred (some []))∧Kept H w A)
  (fun pre X A=>Hst W1 X A X A∧∃c,Jc c pre (Yo X) A∧A.heap[w.heap.size+1]?=some (.loop (rec .done (some c)))∧A.heap[w.heap.size]?=some (.deferred (some []))∧Kept H w A)
  W1 E1 (fun pre X A h=>hRd _ _ _ h.2.1)
  (fun pre X A X' A' h k=>⟨k.here,hI _ _ _ _ _ h.2.1 (up h.1 k),k.ext.heap h.2.2.1 (nX k.here _ (by omega)),k.ext.heap h.2.2.2.1 (nX k.here _ (by omega)),keepH h.2.2.2.2 k⟩)
  (fun pre X A X' A' h k=>by
   obtain ⟨h1,c,h2,h3,h4,h5⟩:=h;exact ⟨k.here,c,hJc _ _ _ _ _ _ h2 (up h1 k),k.ext.heap h3 (nX k.here _ (by omega)),k.ext.heap h4 (nX k.here _ (by omega)),keepH h5 k⟩)
  ?_ ⟨hst1,hI _ _ _ _ _ h0 ⟨E1.pure,fun b hb=>.inl hb,fun b hb=>?_,(here hst1).old,(here hst1).lt,(here hst1).base⟩,hL1,hK1,E1.keptP⟩).mono ?_
 ·-- one round
  rintro pre z X A ⟨hX,hi,hl,hk,hkH⟩ _ hpost
  have hlt:w.heap.size+1<A.heap.size:=(Array.getElem?_eq_some_iff.1 hl).1
  have hy:=run_yield (P:=P) (args:=encs z) hl (by rw [hrec];exact hps z)
  rw [hrec] at hy
  refine ⟨fn,_,assign,body,hy,roundIn_of_wpIn (F:=Fence.wide) trivial ?_⟩
  have hrep:Rep [] n (jEA ps.toList (encs z).toList ρ) { tmps:=(ps.zip (encs z)).foldl (fun t (x:Nat×Value)=>t.setIfInBounds x.1 x.2) a.tmps,defers:=[] }:=by
   have:=oV ps.toList (encs z).toList ρ a.tmps hpn ⟨rfl,ha.size,ha.get⟩;rw [← Array.foldl_toList,Array.toList_zip];exact this
  refine wpIn_mono (hround (w.heap.size+1) z A _ hrep) ?_
  rintro e a1 A1 ⟨ρ',hor⟩
  have hor:=hor.resolve_right (fun h=>by cases h.2.1)
  obtain ⟨hr1,hq⟩:=hor
  cases e <;> first | exact hq.elim | skip
  obtain ⟨rfl,hbody⟩:=hq
  refine ⟨_,run_beginRound hl (by rw [hrec]),?_⟩
  have T1:=turn (.loop { rec .ready none with state:=.busy }) hX
  have hX1:=hstW (.loop { rec .ready none with state:=.busy }) hX
  have hl2:(A1.putObj (w.heap.size+1) (.loop { rec .ready none with state:=.busy })).heap[w.heap.size+1]?=some (.loop { rec .ready none with state:=.busy }):=World.putObj_heap_same hlt
  have hk2:(A1.putObj (w.heap.size+1) (.loop { rec .ready none with state:=.busy })).heap[w.heap.size]?=some (.deferred (some [])):=(World.putObj_heap_other (by omega)).trans hk
  have hkH2:=keepT (.loop { rec .ready none with state:=.busy }) hkH
  have hi2:=hI _ _ _ _ _ hi T1
  refine wpIn_mono (hbody pre (Yo X) _ hi2 T1.here hpost a1 hr1) ?_
  have fin : ∀ (jump : Option Code) (A3 : World), Kept (Yo X) (A1.putObj (w.heap.size + 1) (.loop { rec .ready none with state := .busy })) A3 →
    (Instr.endRound (w.heap.size+1) jump).run P A3=.ok (.bool jump.isNone) (A3.putObj (w.heap.size+1) (.loop (rec (if jump.isNone then .ready else .done) jump))) ∧
    Hst W1 X (A3.putObj (w.heap.size+1) (.loop (rec (if jump.isNone then .ready else .done) jump))) X (A3.putObj (w.heap.size+1) (.loop (rec (if jump.isNone then .ready else .done) jump))) ∧
    Hst w0 (Yo X) A3 (Yo X) (A3.putObj (w.heap.size+1) (.loop (rec (if jump.isNone then .ready else .done) jump))) ∧
    (A3.putObj (w.heap.size+1) (.loop (rec (if jump.isNone then .ready else .done) jump))).heap[w.heap.size+1]?=some (.loop (rec (if jump.isNone then .ready else .done) jump)) ∧
    (A3.putObj (w.heap.size+1) (.loop (rec (if jump.isNone then .ready else .done) jump))).heap[w.heap.size]?=some (.deferred (some [])) ∧
    Kept H w (A3.putObj (w.heap.size+1) (.loop (rec (if jump.isNone then .ready else .done) jump))) ∧
    Kept X A1 (A3.putObj (w.heap.size+1) (.loop (rec (if jump.isNone then .ready else .done) jump))):=fun jump A3 hk3=>by
   have hl3:A3.heap[w.heap.size+1]?=some (.loop { rec .ready none with state:=.busy }):=by
    rw [hk3.keep _ (by simpa using hlt) (.inr (.inr (.inl rfl)))];exact hl2
   have hD3:A3.heap[w.heap.size]?=some (.deferred (some [])):=by
    rw [hk3.keep _ (by simp;omega) (.inr (.inl rfl))];exact hk2
   have hX3:Hst W1 X A3 X A3:=hX1.again (hk3.mono (fun b hb=>.inr (.inr (.inr hb))))
   have hrun:=run_endRound (P:=P) jump hl3
   rw [hrec] at hrun
   refine ⟨by rw [hrec];exact hrun,hstW _ hX3,turn _ hX3,World.putObj_heap_same (Array.getElem?_eq_some_iff.1 hl3).1,(World.putObj_heap_other (by omega)).trans hD3,keepT _ (hkH2.trans (hk3.mono (fun b hb=>.inl hb))),?_⟩
   have k1:Kept X A1 (A1.putObj (w.heap.size+1) (.loop { rec .ready none with state:=.busy })):=(Ext.putObj A1 _ _).kept (fun b hb e=>by have:=hX.old b hb;omega)
   exact (k1.trans (hk3.mono (fun b hb=>.inr (.inr (.inr hb))))).trans ((Ext.putObj A3 _ _).kept (fun b hb e=>by have:=hX.old b hb;omega))
  rintro e a3 A3 ⟨ρ3,hor⟩
  have hor:=hor.resolve_right (fun h=>by cases h.2.1)
  obtain ⟨hr3,hq⟩:=hor
  cases e with
  | normal =>
   obtain ⟨hk3,hi3⟩:=hq
   obtain ⟨f1,f2,f3,f4,f5,f6,f7⟩:=fin none A3 hk3
   exact ⟨_,_,f1,.inl ⟨rfl,f7,f2,hI _ _ _ _ _ hi3 f3,f4,f5,f6⟩⟩
  | ret =>
   obtain ⟨hk3,hi3⟩:=hq
   obtain ⟨f1,f2,f3,f4,f5,f6,f7⟩:=fin (some .ret) A3 hk3
   exact ⟨_,_,f1,.inr ⟨rfl,f7,f2,.ret,hIr _ _ _ _ _ hi3 f3,f4,f5,f6⟩⟩
  | exit id' =>
   obtain ⟨rfl,hk3,hi3⟩:=hq
   obtain ⟨f1,f2,f3,f4,f5,f6,f7⟩:=fin (some (.exit id')) A3 hk3
   exact ⟨_,_,f1,.inr ⟨rfl,f7,f2,.exit id',⟨rfl,hIx _ _ _ _ _ hi3 f3⟩,f4,f5,f6⟩⟩
  | goto t=>exact hq.elim
  | panic ch=>exact hq.elim
  | outgrown=>exact hq.elim
 ·rcases hb with hb | rfl | rfl | hb
  ·exact .inl hb
  ·exact .inr (Nat.le_refl _)
  ·exact .inr (by omega)
  ·exact hb.elim
 ·-- behind the iterator
  have hrepM:Rep [jFY w.heap.size] n ρ { a with defers:=[jFY w.heap.size]++a.defers }:=⟨by rw [show a.defers=[] from ha.defers];rfl,ha.size,ha.get⟩
  have go:∀(A:World),Hst w0 (Yo fun b=>H b∨b=w.heap.size∨b=w.heap.size+1) A (Yo fun b=>H b∨b=w.heap.size∨b=w.heap.size+1) A→True:=fun _ _=>trivial
  have rest : ∀ (X : NP) (A : World), Hst w0 (Yo X) A (Yo X) A → A.heap[w.heap.size]? = some (.deferred (some [])) → Kept H w A → (I xs (Yo X) A ∨ ∃ pre, Ix pre (Yo X) A) →
    y.wpIn (fen none) 0 P (jDU ⟨none,[]⟩ n Q) { a with defers:=[jFY w.heap.size]++a.defers } A:=by
   intro X A hA hD hkA hIA
   refine wpIn_mono (hrest w.heap.size (Yo X) A hA (.inr (.inl rfl)) hD (fun b hb=>.inl hb) hkA hIA _ hrepM) ?_
   rintro e a2 A2 ⟨ρ2,⟨hr2,hq⟩ | ⟨_,_,h,_⟩⟩
   ·cases e <;> first | exact hq.elim | skip
    exact ⟨ρ2,.inr ⟨rfl,rfl,rfl,w.heap.size,hr2,hq.1,hq.2⟩⟩
   ·cases h
  rintro e A ⟨⟨v,rfl⟩,X,_,⟨hX,hi,hl,hk,hkH⟩ | ⟨pre,hX,c,hc,hl,hk,hkH⟩⟩
  ·obtain ⟨o, hrun⟩ : ∃ o, (Instr.endLoop (w.heap.size + 1)).run P A = .ok none (A.putObj (w.heap.size + 1) o) := by
    have:=run_endLoop (P:=P) hl (by rw [hrec];simp);rw [hrec] at this;exact ⟨_,this⟩
   have T:=turn o hX
   exact ⟨none,_,hrun,rest X _ T.here ((World.putObj_heap_other (by omega)).trans hk) (keepT _ hkH) (.inl (hI _ _ _ _ _ hi T))⟩
  ·obtain ⟨o, hrun⟩ : ∃ o, (Instr.endLoop (w.heap.size + 1)).run P A = .ok (some c) (A.putObj (w.heap.size + 1) o) := by
    have:=run_endLoop (P:=P) hl (by rw [hrec];simp);rw [hrec] at this;exact ⟨_,this⟩
   have T:=turn o hX
   refine ⟨some c,_,hrun,?_⟩
   have hc':=hJc _ _ _ _ _ _ hc T
   have hD:=(World.putObj_heap_other (w:=A) (r:=w.heap.size+1) (o:=o) (k:=w.heap.size) (by omega)).trans hk
   cases c <;> first | exact hc.elim | skip
   case exit id' =>
    obtain ⟨rfl,hx⟩:=hc'
    refine wpIn_exit ?_
    simp only [Exit.inBlock,if_true]
    exact rest X _ T.here hD (keepT _ hkH) (.inr ⟨pre,hx⟩)
   case ret =>
    refine wpIn_ret ?_
    exact ⟨ρ,.inr ⟨rfl,rfl,rfl,w.heap.size,hrepM,hD,hret w.heap.size pre (Yo X) _ T.here (.inr (.inl rfl)) hD hc'⟩⟩
end
end Go.SE
namespace Go.SE
end Go.SE
end
section
open Go Go.SE
open Go.IntKind renaming i64 → q6
namespace Go.Proofs
open Tryz
set_option maxRecDepth 100000
set_option maxHeartbeats 4000000
attribute [local irreducible] wpL wpX opE wpE Calls
def m_P_j1 (p1:Option Addr) (a1 b1:Int) (x1:Bool) (w0:World) (H:NP) (w:World) (K:Int→Int→Int→ByteArray→Bool→Bool→Int→WP):Prop :=Br x1 (∀w3,Hst w0 H w H w3→K 0 0 0 ⟨#[]⟩ false false 51 w3) (Calls prog 51 #[(vp p1),(vi a1)] w (fun e w4=>∃aA aD aC aE aB r1,e=.returned (.tuple #[(Ad aA aD aC aE aB),(vb r1)])∧Kept H w w4∧∀H2 w6,Hst w0 H w4 H2 w6→Calls prog 51 #[(vp p1),(vi b1)] w6 (fun e w7=>∃aL aS aK aT aJ r2,e=.returned (.tuple #[(Ad aL aS aK aT aJ),(vb r2)])∧Kept H2 w6 w7∧Br ((aA != 1) || (aL != 1)) (∀H4 w11,Hst w0 H2 w7 H4 w11→K 0 0 0 ⟨#[]⟩ false false 120 w11) (∀y1:Bool,y1=((((aD != 0) || (aS != 1)) || (aC != aK)) || (!(decide (aE=aT))))→Br y1 (∀H10 w20,Hst w0 H2 w7 H10 w20→K aA aD aC aE aB (aB || aJ) 122 w20) (∀H10 w21,Hst w0 H2 w7 H10 w21→K aA aD aC aE aB (aB || aJ) 0 w21)))))
def m_P (p1:Option Addr) (a1 b1:Int) (w0:World) (K:Int→Int→Int→ByteArray→Bool→Bool→Int→WP):Prop :=Br (Option.isNone p1) (∀H1 w2,Hst w0 None w0 H1 w2→K 0 0 0 ⟨#[]⟩ false false 7 w2) (∀H1 w1,Hst w0 None w0 H1 w1→Calls prog 160 #[(vp p1),(vi a1)] w1 (fun e w22=>∃r3,e=.returned (vi r3)∧Kept H1 w1 w22∧Br (r3 == 0) (m_P_j1 p1 a1 b1 true w0 H1 w22 K) (Calls prog 160 #[(vp p1),(vi b1)] w22 (fun e w23=>∃r4,e=.returned (vi r4)∧Kept H1 w22 w23∧m_P_j1 p1 a1 b1 (r4 == 0) w0 H1 w23 K))))
theorem w_P (p1 a1 b1 w0 K) (h:m_P p1 a1 b1 w0 K):
  Calls prog 90 #[(vp p1),(vi a1),(vi b1)] w0 (fun e w'=>∃bK dV bL bM dW r5 r6,e=.returned (.tuple #[(Ad bK dV bL bM dW),(vb r5),(vi r6)])∧K bK dV bL bM dW r5 r6 w'):=by
 refine cw (args:=[(vp p1),(vi a1),(vi b1)]) func90 ntmps90 ?_
 obtain ⟨hs,hb⟩:=st0 w0
 refine eg (nw3 (Ai 0 0 0 false) 35 hs hb (jE (zeroValue35 _) rfl) fun p2 w1 H1 hs hb=>qb (ln (jA (eg (q (q2 (vb (Option.isNone p1)) (qJ (by kernel_rfl) rfl underlying68) (ln (cbr h ?_ ?_))))))))<;>intro h
 refine eg (q (qF (jL rfl) (xo p2 (Ai 0 0 0 false) (sizeOf35 _) (hb.k0 0 5 gZ)) ?_))
 intro w2 hn2
 obtain ⟨hs,hb⟩:=hb.st1 0 hs hn2 gZ
 refine qb (ln (er (jY ?_)))
 have ⟨h,hs⟩:=hs.hr (h H1 w2)
 refine xD (.inl rfl) (vs:=[(.agg #[(vi 0),(vi 0),(vu 0),ve,(vb false)]),(vb false),(vi 7)]) (v:=(.tuple #[(.agg #[(vi 0),(vi 0),(vu 0),ve,(vb false)]),(vb false),(vi 7)])) results90 ⟨(rva (isAgg35 _) (sizeOf35 _) (hb.r0 0 5 gZ)),(rvT (by kernel_rfl)),(rvT (by kernel_rfl)),trivial⟩ (by kernel_rfl) ⟨0,0,0,⟨#[]⟩,false,false,7,rfl,h⟩
 refine jB (jK (jA (jA (vF (fun ρ w=>∃x1,∃H:NP,Has ρ [(0,(vp p1)),(1,(vi a1)),(2,(vi b1)),(6,(vp (some p2))),(26,(vb x1))]∧Hst w0 H w H w∧HB H w [(p2,(Ai 0 0 0 false),35)]∧m_P_j1 p1 a1 b1 x1 w0 H w K) ?_ ?_))))
 rintro ρ w ⟨x1,H,hH,hs,hb,h⟩
 refine jQ hH (cbr h ?_ ?_)<;>intro h
 refine eg (q (qF (jL rfl) (xo p2 (Ai 0 0 0 false) (sizeOf35 _) (hb.k0 0 5 gZ)) ?_))
 intro w3 hn3
 obtain ⟨hs,hb⟩:=hb.st1 0 hs hn3 gZ
 refine qb (ln (er (jY ?_)))
 have ⟨h,hs⟩:=hs.hr (h w3)
 refine xD (.inl rfl) (vs:=[(.agg #[(vi 0),(vi 0),(vu 0),ve,(vb false)]),(vb false),(vi 51)]) (v:=(.tuple #[(.agg #[(vi 0),(vi 0),(vu 0),ve,(vb false)]),(vb false),(vi 51)])) results90 ⟨(rva (isAgg35 _) (sizeOf35 _) (hb.r0 0 5 gZ)),(rvT (by kernel_rfl)),(rvT (by kernel_rfl)),trivial⟩ (by kernel_rfl) ⟨0,0,0,⟨#[]⟩,false,false,51,rfl,h⟩
 refine jB (jK (eg (qb (sc call51 (h.mono fun e w4 ⟨aA,aD,aC,aE,aB,r1,k,hk,h⟩=>have ⟨hs,hb⟩:=hk.hh hs hb;⟨_,k,?_⟩)))))
 refine qc (nw3 (Ai 0 0 0 false) 35 hs hb (jE (zeroValue35 _) rfl) fun p3 w5 H2 hs hb=>sbx 0 (Aa aA aD aC aE aB) (sizeOf35 _) hs hb gZ fun w6 hs hb=>q (ln (eg (qb ?_))))
 have ⟨h,hs⟩:=hs.hr (h H2 w6)
 refine sc call51 (h.mono fun e w7 ⟨aL,aS,aK,aT,aJ,r2,k,hk,h⟩=>have ⟨hs,hb⟩:=hk.hh hs hb;⟨_,k,?_⟩)
 refine qc (nw3 (Ai 0 0 0 false) 35 hs hb (jE (zeroValue35 _) rfl) fun p4 w8 H3 hs hb=>sbx 0 (Aa aL aS aK aT aJ) (sizeOf35 _) hs hb gZ fun w9 hs hb=>q (ln (jA (jA (vQ (fun ρ wJ=>∃b2'0:Bool,∃HJ:NP,((aA != 1)=b2'0)∧Hst w0 H2 w7 HJ wJ∧HB HJ wJ [(p4,(Aa aL aS aK aT aJ),35),(p3,(Aa aA aD aC aE aB),35),(p2,(Ai 0 0 0 false),35)]∧Has ρ [(6,(vp (some p2))),(9,(vp (some p3))),(11,(vp (some p4))),(47,(vb (b2'0 || (aL != 1))))]) ?_ ?_)))))
 refine rg (q (q3 (xl (isAgg3 _) (hb.d0 1 (gS gZ))) (qb ?_)))
 rcases bte (aA != 1) with hg2 | hg2
 refine sj3 43 hg2 (q2 (vb true) (xT hg2) (ln ⟨true,_,hg2,hs,hb,hm⟩))
 refine qk 43 hg2 (q4 43 hg2 (xl (isAgg3 _) (hb.d0 0 gZ)) (qk 43 hg2 (q2 (vb (aL != 1)) (xF hg2) (ln ⟨false,_,hg2,hs,hb,hm⟩))))
 rintro ρ w10 ⟨b2'0,H4,he0,hs,hb,hH⟩
 subst he0
 refine kO hH (jK (cbr h ?_ ?_))<;>intro h
 refine eg (q (qF (jL rfl) (xo p2 (Ai 0 0 0 false) (sizeOf35 _) (hb.k0 2 5 (gS (gS gZ)))) ?_))
 intro w11 hn8
 obtain ⟨hs,hb⟩:=hb.st1 2 hs hn8 (gS (gS gZ))
 refine qb (ln (er (jY ?_)))
 have ⟨h,hs⟩:=hs.hr (h H4 w11)
 refine xD (.inl rfl) (vs:=[(.agg #[(vi 0),(vi 0),(vu 0),ve,(vb false)]),(vb false),(vi 120)]) (v:=(.tuple #[(.agg #[(vi 0),(vi 0),(vu 0),ve,(vb false)]),(vb false),(vi 120)])) results90 ⟨(rva (isAgg35 _) (sizeOf35 _) (hb.r0 2 5 (gS (gS gZ)))),(rvT (by kernel_rfl)),(rvT (by kernel_rfl)),trivial⟩ (by kernel_rfl) ⟨0,0,0,⟨#[]⟩,false,false,120,rfl,h⟩
 refine jB (jK (jA (vQ (fun ρ wJ=>∃HJ:NP,Hst w0 H2 w7 HJ wJ∧HB HJ wJ [(p4,(Aa aL aS aK aT aJ),35),(p3,(Aa aA aD aC aE aB),35),(p2,(Ai 0 0 0 false),35)]∧Has ρ [(6,(vp (some p2))),(9,(vp (some p3))),(11,(vp (some p4))),(13,(vb (aB || aJ)))]) ?_ ?_)))
 refine rg (q (q3 (xl (isAgg4 _) (hb.d 1 4 (gS gZ))) (q (jP 3 (fun ρ wJ=>∃b5'0:Bool,∃HJ:NP,(aB=b5'0)∧Hst w0 H2 w7 HJ wJ∧HB HJ wJ [(p4,(Aa aL aS aK aT aJ),35),(p3,(Aa aA aD aC aE aB),35),(p2,(Ai 0 0 0 false),35)]∧Has ρ [(6,(vp (some p2))),(9,(vp (some p3))),(11,(vp (some p4))),(54,(vb (b5'0 || aJ)))]) ?_ ?_))))
 rintro ρ w14 ⟨b5'0,H7,he0,hs,hb,hH⟩
 subst he0
 refine jX hH (q (ln ⟨_,hs,hb,hm⟩))
 rcases bte aB with hg6 | hg6
 refine sj2 51 hg6 (q2 (vb true) (xT hg6) (jD ⟨true,_,hg6,hs,hb,hm⟩))
 refine qk 51 hg6 (q4 51 hg6 (xl (isAgg4 _) (hb.d 0 4 gZ)) (q2 (vb aJ) (xF hg6) (jD ⟨false,_,hg6,hs,hb,hm⟩)))
 rintro ρ w13 ⟨H6,hs,hb,hH⟩
 refine kO hH (jK (jA (jA (vQ (fun ρ wJ=>∃b8'0 y1:Bool,∃HJ:NP,((((aD != 0) || (aS != 1)) || (aC != aK))=b8'0)∧(y1=(b8'0 || (!(decide (aE=aT)))))∧Hst w0 H2 w7 HJ wJ∧HB HJ wJ [(p4,(Aa aL aS aK aT aJ),35),(p3,(Aa aA aD aC aE aB),35),(p2,(Ai 0 0 0 false),35)]∧Has ρ [(6,(vp (some p2))),(9,(vp (some p3))),(13,(vb (aB || aJ))),(76,(vb y1))]) ?_ ?_))))
 refine rg (q (q3 (xl (isAgg3 _) (hb.d 1 1 (gS gZ))) (qb (jP 4 (fun ρ wJ=>∃b9'0:Bool,∃HJ:NP,((aD != 0)=b9'0)∧Hst w0 H2 w7 HJ wJ∧HB HJ wJ [(p4,(Aa aL aS aK aT aJ),35),(p3,(Aa aA aD aC aE aB),35),(p2,(Ai 0 0 0 false),35)]∧Has ρ [(6,(vp (some p2))),(9,(vp (some p3))),(11,(vp (some p4))),(13,(vb (aB || aJ))),(62,(vb (b9'0 || (aS != 1))))]) ?_ ?_))))
 rintro ρ w18 ⟨b9'0,H11,he0,hs,hb,hH⟩
 subst he0
 refine jX hH (q (jP 6 (fun ρ wJ=>∃b10'0:Bool,∃HJ:NP,(((aD != 0) || (aS != 1))=b10'0)∧Hst w0 H2 w7 HJ wJ∧HB HJ wJ [(p4,(Aa aL aS aK aT aJ),35),(p3,(Aa aA aD aC aE aB),35),(p2,(Ai 0 0 0 false),35)]∧Has ρ [(6,(vp (some p2))),(9,(vp (some p3))),(11,(vp (some p4))),(13,(vb (aB || aJ))),(69,(vb (b10'0 || (aC != aK))))]) ?_ ?_))
 rintro ρ w19 ⟨b10'0,H12,he0,hs,hb,hH⟩
 subst he0
 refine jX hH (q ?_)
 rcases bte (((aD != 0) || (aS != 1)) || (aC != aK)) with hg16 | hg16
 refine sj5 70 hg16 (q2 (vb true) (xT hg16) (ln ⟨true,_,_,hg16,rfl,hs,hb,hm⟩))
 refine qk 70 hg16 (q4 70 hg16 (xl (isAgg9 _) (hb.d 1 3 (gS gZ))) (qk 70 hg16 (q4 70 hg16 (xl (isAgg9 _) (hb.d 0 3 gZ)) (stq (v:=(vb (!(decide (aE=aT))))) (wy 70 hg16) (vK (by kernel_rfl) (by kernel_rfl)) (q2 (vb (!(decide (aE=aT)))) (xF hg16) (ln ⟨false,_,_,hg16,rfl,hs,hb,hm⟩))))))
 rcases bte ((aD != 0) || (aS != 1)) with hg15 | hg15
 refine sj5 63 hg15 (q2 (vb true) (xT hg15) (jD ⟨true,_,hg15,hs,hb,hm⟩))
 refine qk 63 hg15 (q4 63 hg15 (xl (isAgg23 _) (hb.d 1 2 (gS gZ))) (qk 63 hg15 (q4 63 hg15 (xl (isAgg23 _) (hb.d 0 2 gZ)) (qk 63 hg15 (q2 (vb (aC != aK)) (xF hg15) (jD ⟨false,_,hg15,hs,hb,hm⟩))))))
 rcases bte (aD != 0) with hg13 | hg13
 refine sj3 58 hg13 (q2 (vb true) (xT hg13) (jD ⟨true,_,hg13,hs,hb,hm⟩))
 refine qk 58 hg13 (q4 58 hg13 (xl (isAgg3 _) (hb.d 0 1 gZ)) (qk 58 hg13 (q2 (vb (aS != 1)) (xF hg13) (jD ⟨false,_,hg13,hs,hb,hm⟩))))
 rintro ρ w17 ⟨b8'0,y1,H10,he0,hy1,hs,hb,hH⟩
 subst he0
 have h:=h y1 hy1
 refine kO hH (jK (cbr h ?_ ?_))<;>intro h
 refine eg (q2 (Ad aA aD aC aE aB) (xa p3 (Aa aA aD aC aE aB) (isAgg35 _) (sizeOf35 _) (hb.r0 1 5 (gS gZ))) (q (qF (jL rfl) (xo p2 (Aa aA aD aC aE aB) (sizeOf35 _) (hb.k0 2 5 (gS (gS gZ)))) ?_)))
 intro w20 hn9
 obtain ⟨hs,hb⟩:=hb.st1 2 hs hn9 (gS (gS gZ))
 refine qb (ln (er (jY ?_)))
 have ⟨h,hs⟩:=hs.hr (h H10 w20)
 refine xD (.inl rfl) (vs:=[(Ad aA aD aC aE aB),(vb (aB || aJ)),(vi 122)]) (v:=(.tuple #[(Ad aA aD aC aE aB),(vb (aB || aJ)),(vi 122)])) results90 ⟨(rva (isAgg35 _) (sizeOf35 _) (hb.r0 2 5 (gS (gS gZ)))),(rvT (by kernel_rfl)),(rvT (by kernel_rfl)),trivial⟩ (by kernel_rfl) ⟨aA,aD,aC,aE,aB,(aB || aJ),122,rfl,h⟩
 refine jB (jK (eg (q2 (Ad aA aD aC aE aB) (xa p3 (Aa aA aD aC aE aB) (isAgg35 _) (sizeOf35 _) (hb.r0 1 5 (gS gZ))) (q (qF (jL rfl) (xo p2 (Aa aA aD aC aE aB) (sizeOf35 _) (hb.k0 2 5 (gS (gS gZ)))) ?_)))))
 intro w21 hn10
 obtain ⟨hs,hb⟩:=hb.st1 2 hs hn10 (gS (gS gZ))
 refine qb (ln (er ?_))
 have ⟨h,hs⟩:=hs.hr (h H10 w21)
 refine xD (.inl rfl) (vs:=[(Ad aA aD aC aE aB),(vb (aB || aJ)),(vi 0)]) (v:=(.tuple #[(Ad aA aD aC aE aB),(vb (aB || aJ)),(vi 0)])) results90 ⟨(rva (isAgg35 _) (sizeOf35 _) (hb.r0 2 5 (gS (gS gZ)))),(rvT (by kernel_rfl)),(rvT (by kernel_rfl)),trivial⟩ (by kernel_rfl) ⟨aA,aD,aC,aE,aB,(aB || aJ),0,rfl,h⟩
 refine rg (qb ?_)
 have ⟨h,hs⟩:=hs.hr (h H1 w1)
 refine sc call160 (h.mono fun e w22 ⟨r3,k,hk,h⟩=>have ⟨hs,hb⟩:=hk.hh hs hb;⟨_,k,?_⟩)
 refine qb ?_
 obtain ⟨hg17,h⟩|⟨hg17,h⟩:=h.br
 refine sj4 21 hg17 (q2 (vb true) (xT hg17) (ln ⟨true,H1,hm,hs,hb,h⟩))
 refine qk 21 hg17 (qk 21 hg17 (zC (wy 21 hg17) (xc call160) (h.mono ?_)))
 rintro e w23 ⟨r4,rfl,hk,h⟩
 refine ⟨_,rfl,?_⟩
 obtain ⟨hs,hb⟩:=hk.hh hs hb
 refine qk 21 hg17 (q2 (vb (r4 == 0)) (xF hg17) (ln ⟨(r4 == 0),H1,hm,hs,hb,h⟩))
def m_A2 (p1:Option Addr) (a1 b1:Int) (w0:World) (K:Int→Int→WP):Prop :=Calls prog 90 #[(vp p1),(vi a1),(vi b1)] w0 (fun e w1=>∃aA aD aC aE aB r1 r2,e=.returned (.tuple #[(Ad aA aD aC aE aB),(vb r1),(vi r2)])∧Kept None w0 w1∧Br (((cond r1 121 r2):Int) != 0) (∀H2 w4,Hst w0 None w1 H2 w4→K 0 (cond r1 121 r2) w4) (∀H2 w4,Hst w0 None w1 H2 w4→Calls prog 76 #[(vp p1),(.agg #[(vi 6),(vi 0),(vu aC),(vs aE),(vb false)])] w4 (fun e w5=>∃r3 r4,e=.returned (.tuple #[(vi r3),(vi r4)])∧Kept H2 w4 w5∧K r3 r4 w5)))
theorem w_A2 (p1 a1 b1 w0 K) (h:m_A2 p1 a1 b1 w0 K):
  Calls prog 32 #[(vp p1),(vi a1),(vi b1)] w0 (fun e w'=>∃r5 r6,e=.returned (.tuple #[(vi r5),(vi r6)])∧K r5 r6 w'):=by
 refine cw (args:=[(vp p1),(vi a1),(vi b1)]) func32 ntmps32 ?_
 obtain ⟨hs,hb⟩:=st0 w0
 refine eg (qb (ln (eg (qc (sc call90 (h.mono fun e w1 ⟨aA,aD,aC,aE,aB,r1,r2,k,hk,h⟩=>have ⟨hs,hb⟩:=hk.hh hs hb;⟨_,k,?_⟩))))))
 refine qd (nw3 (Ai 0 0 0 false) 35 hs hb (jE (zeroValue35 _) rfl) fun p2 w2 H1 hs hb=>sbx 0 (Aa aA aD aC aE aB) (sizeOf35 _) hs hb gZ fun w3 hs hb=>qb (ln (jA (eg (q (ln (vQ (fun ρ wJ=>∃b2'0:Bool,∃HJ:NP,(r1=b2'0)∧Hst w0 None w1 HJ wJ∧HB HJ wJ [(p2,(Aa aA aD aC aE aB),35)]∧Has ρ [(0,(vp p1)),(8,(vp (some p2))),(10,(vi (cond b2'0 121 r2)))]) ?_ ?_)))))))
 refine zQ (t:=r1) (by kernel_rfl) (fun hc2=>?_) (fun hc2=>?_)
 refine rg (q (ln ⟨true,_,hc2,hs,hb,hm⟩))
 refine jB (jK ⟨false,_,hc2,hs,hb,hm⟩)
 rintro ρ w4 ⟨b2'0,H2,he0,hs,hb,hH⟩
 subst he0
 refine kO hH (jK (jA (eg (qb (ln (cbr h ?_ ?_))))))<;>intro h
 refine eg (qc (ln (er (jY ?_))))
 have ⟨h,hs⟩:=hs.hr (h H2 w4)
 refine uC (.inl rfl) results32 (v:=(vi 0)) (by kernel_rfl) (v':=(vi (cond r1 121 r2))) (by kernel_rfl) ⟨0,(cond r1 121 r2),rfl,h⟩
 refine jB (jK (eg (qb (q3 (xl (isAgg23 _) (hb.d 0 2 gZ)) (q (q3 (xl (isAgg9 _) (hb.d 0 3 gZ)) (q ?_)))))))
 have ⟨h,hs⟩:=hs.hr (h H2 w4)
 refine sc call76 (h.mono fun e w5 ⟨r3,r4,k,hk,h⟩=>have ⟨hs,hb⟩:=hk.hh hs hb;⟨_,k,?_⟩)
 refine qd (ln (er (uC (.inl rfl) results32 (v:=(vi r3)) (by kernel_rfl) (v':=(vi r4)) (by kernel_rfl) ⟨r3,r4,rfl,h⟩)))
def m_B2 (p1:Option Addr) (who1 a1 b1:Int) (w0:World) (K:Int→Int→WP):Prop :=Br ((who1 != 0) && (who1 != 1)) (∀H1 w1,Hst w0 None w0 H1 w1→K 0 2 w1) (∀H1 w1,Hst w0 None w0 H1 w1→Calls prog 90 #[(vp p1),(vi a1),(vi b1)] w1 (fun e w2=>∃aA aD aC aE aB r1 r2,e=.returned (.tuple #[(Ad aA aD aC aE aB),(vb r1),(vi r2)])∧Kept H1 w1 w2∧Br (r2 != 0) (∀H2 w4,Hst w0 H1 w2 H2 w4→K 0 r2 w4) (∀H2 w4,Hst w0 H1 w2 H2 w4→Calls prog 91 #[(vp p1),(vi a1),(vi b1)] w4 (fun e w5=>∃r3 r4,e=.returned (.tuple #[(vi r3),(vi r4)])∧Kept H2 w4 w5∧Br (r4 != 0) (K 0 r4 w5) (Calls prog 92 #[(vp p1),(vs (⟨#[114,101,115,111,108,118,101]⟩:ByteArray))] w5 (fun e w6=>∃r5 r6,e=.returned (.tuple #[(vi r5),(vi r6)])∧Kept H2 w5 w6∧Br (r6 != 0) (K 0 r6 w6) (Calls prog 91 #[(vp p1),(vi r5),(vi r3)] w6 (fun e w7=>∃r7 r8,e=.returned (.tuple #[(vi r7),(vi r8)])∧Kept H2 w6 w7∧Br (r8 != 0) (K 0 r8 w7) (Calls prog 93 #[(vp p1),(vi who1),(vi r7)] w7 (fun e w8=>∃r9 r10,e=.returned (.tuple #[(vi r9),(vi r10)])∧Kept H2 w7 w8∧K r9 r10 w8))))))))))
theorem w_B2 (p1 who1 a1 b1 w0 K) (h:m_B2 p1 who1 a1 b1 w0 K):
  Calls prog 33 #[(vp p1),(vi who1),(vi a1),(vi b1)] w0 (fun e w'=>∃r11 r12,e=.returned (.tuple #[(vi r11),(vi r12)])∧K r11 r12 w'):=by
 refine cw (args:=[(vp p1),(vi who1),(vi a1),(vi b1)]) func33 ntmps33 ?_
 obtain ⟨hs,hb⟩:=st0 w0
 refine eg (qb (ln (jA (jA (vQ (fun ρ wJ=>∃b2'0:Bool,∃HJ:NP,((who1 != 0)=b2'0)∧Hst w0 None w0 HJ wJ∧HB HJ wJ []∧Has ρ [(0,(vp p1)),(1,(vi who1)),(2,(vi a1)),(3,(vi b1)),(21,(vb (b2'0 && (who1 != 1))))]) ?_ ?_)))))
 refine rg (qc ?_)
 rcases bte (who1 != 0) with hg2 | hg2
 refine qk 18 hg2 (qk 18 hg2 (q2 (vb (who1 != 1)) (xT hg2) (ln ⟨true,_,hg2,hs,hb,hm⟩)))
 refine sj2 18 hg2 (q2 (vb false) (xF hg2) (ln ⟨false,_,hg2,hs,hb,hm⟩))
 rintro ρ w1 ⟨b2'0,H1,he0,hs,hb,hH⟩
 subst he0
 refine kO hH (jK (cbr h ?_ ?_))<;>intro h
 refine eg (qb (ln (er (jY ?_))))
 have ⟨h,hs⟩:=hs.hr (h H1 w1)
 refine uC (.inl rfl) results33 (v:=(vi 0)) (by kernel_rfl) (v':=(vi 2)) (by kernel_rfl) ⟨0,2,rfl,h⟩
 refine jB (jK (jA (eg (qc ?_))))
 have ⟨h,hs⟩:=hs.hr (h H1 w1)
 refine sc call90 (h.mono fun e w2 ⟨aA,aD,aC,aE,aB,r1,r2,k,hk,h⟩=>have ⟨hs,hb⟩:=hk.hh hs hb;⟨_,k,?_⟩)
 refine qd (nw3 (Ai 0 0 0 false) 35 hs hb (jE (zeroValue35 _) rfl) fun p2 w3 H2 hs hb=>sbx 0 (Aa aA aD aC aE aB) (sizeOf35 _) hs hb gZ fun w4 hs hb=>qb (ln (eg (qb (ln (cbr h ?_ ?_))))))<;>intro h
 refine eg (qc (ln (er (jY ?_))))
 have ⟨h,hs⟩:=hs.hr (h H2 w4)
 refine uC (.inl rfl) results33 (v:=(vi 0)) (by kernel_rfl) (v':=(vi r2)) (by kernel_rfl) ⟨0,r2,rfl,h⟩
 refine jB (jK (eg (qc ?_)))
 have ⟨h,hs⟩:=hs.hr (h H2 w4)
 refine sc call91 (h.mono fun e w5 ⟨r3,r4,k,hk,h⟩=>have ⟨hs,hb⟩:=hk.hh hs hb;⟨_,k,?_⟩)
 refine q (qd (ln (jA (eg (qb (ln (cbr h ?_ ?_)))))))<;>intro h
 refine eg (qc (ln (er (jY (uC (.inl rfl) results33 (v:=(vi 0)) (by kernel_rfl) (v':=(vi r4)) (by kernel_rfl) ⟨0,r4,rfl,h⟩)))))
 refine jB (jK (eg (q (sc call92 (h.mono fun e w6 ⟨r5,r6,k,hk,h⟩=>have ⟨hs,hb⟩:=hk.hh hs hb;⟨_,k,?_⟩)))))
 refine q (qd (ln (jA (eg (qb (ln (cbr h ?_ ?_)))))))<;>intro h
 refine eg (qc (ln (er (jY (uC (.inl rfl) results33 (v:=(vi 0)) (by kernel_rfl) (v':=(vi r6)) (by kernel_rfl) ⟨0,r6,rfl,h⟩)))))
 refine jB (jK (jA (eg (qc (sc call91 (h.mono fun e w7 ⟨r7,r8,k,hk,h⟩=>have ⟨hs,hb⟩:=hk.hh hs hb;⟨_,k,?_⟩))))))
 refine q (qd (ln (eg (qb (jD (jK (cbr h ?_ ?_)))))))<;>intro h
 refine eg (qc (ln (er (jY (uC (.inl rfl) results33 (v:=(vi 0)) (by kernel_rfl) (v':=(vi r8)) (by kernel_rfl) ⟨0,r8,rfl,h⟩)))))
 refine jB (jK (eg (qc (sc call93 (h.mono fun e w8 ⟨r9,r10,k,hk,h⟩=>have ⟨hs,hb⟩:=hk.hh hs hb;⟨_,k,?_⟩)))))
 refine qd (ln (er (uC (.inl rfl) results33 (v:=(vi r9)) (by kernel_rfl) (v':=(vi r10)) (by kernel_rfl) ⟨r9,r10,rfl,h⟩)))
def s_B1 (e1:Int):Int :=e1
theorem pw_B1 (e1:Int) (w0:World) :
  Calls prog 36 #[(vi e1)] w0 (fun e w'=>(e=.returned (vi e1))∧Pure w0 w'):=by
 refine cw (args:=[(vi e1)]) func36 ntmps36 (eg (q0 (vi 0) (ln (eg (q0 (vi e1) (q0 (vi e1) (ln ?_)))))))
 refine er (rs1 results36 (v:=(vi e1)) ⟨by kernel_rfl,Ext.refl _⟩)
theorem p_B1 (e1:Int) (w0:World):Calls prog 36 #[(.int .i64 e1)] w0 (fun e w'=>e=.returned (.int .i64 (s_B1 e1))∧Pure w0 w'):=pw_B1 e1 w0
def m_K1 (bO bP bQ:Int) (bR:ByteArray) (bS:Bool) (w0:World) (K:Sl→WP):Prop :=∀p1 w1,New w0 (.cells #[(vi bO),(vi bP),(vu bQ),(vs bR),(vb bS)] 35) p1 w1→∃v1,w1.cell? p1=some (vi v1)∧Br (v1 == 1) (∃v2,w1.cell? (p1.add 4)=some (vb v2)∧Br v2 (K Sl.nil w1) (∃v3,w1.cell? (p1.add 1)=some (vi v3)∧Calls prog 162 #[(vi 1),(vi v3),(vp (some p1))] w1 (fun e w2=>∃aA bN aC aE,e=.returned (Ag aA bN aC aE)∧∀p2 w3,New w2 (.cells #[(vi aA),(vi bN),(vu aC),(vs aE)] 75) p2 w3→K (Sl.mk (some p2) 1 1) w3))) (Br (v1 == 2) (∃v4,w1.cell? (p1.add 1)=some (vi v4)∧Calls prog 162 #[(vi 2),(vi v4),(vp (some p1))] w1 (fun e w4=>∃aL bT aK aT,e=.returned (Ag aL bT aK aT)∧∀p3 w5,New w4 (.cells #[(vi aL),(vi bT),(vu aK),(vs aT)] 75) p3 w5→K (Sl.mk (some p3) 1 1) w5)) (Br (v1 == 3) (Calls prog 162 #[(vi 3),(vi 0),(vp (some p1))] w1 (fun e w6=>∃bK bU bL bM,e=.returned (Ag bK bU bL bM)∧∀p4 w7,New w6 (.cells #[(vi bK),(vi bU),(vu bL),(vs bM)] 75) p4 w7→K (Sl.mk (some p4) 1 1) w7)) (Br (v1 == 4) (∃v5,w1.cell? (p1.add 1)=some (vi v5)∧Calls prog 162 #[(vi 4),(vi v5),(vp (some p1))] w1 (fun e w8=>∃bV bW bX bY,e=.returned (Ag bV bW bX bY)∧∀p5 w9,New w8 (.cells #[(vi bV),(vi bW),(vu bX),(vs bY)] 75) p5 w9→∃v6,w9.cell? (p1.add 4)=some (vb v6)∧Br (!v6) (Calls prog 162 #[(vi 1),(vi 0),(vp (some p1))] w9 (fun e w10=>∃bZ cA cB cC,e=.returned (Ag bZ cA cB cC)∧Calls prog 162 #[(vi 1),(vi 1),(vp (some p1))] w10 (fun e w11=>∃cD cE cF cG,e=.returned (Ag cD cE cF cG)∧∀p6 w12,New w11 (.cells #[(vi bZ),(vi cA),(vu cB),(vs cC),(vi cD),(vi cE),(vu cF),(vs cG)] 75) p6 w12→∃s1:Sl,∃w13:World,(Builtin.append_ #[71,71] 71 #[(Sl.mk (some p5) 1 1).v,(Sl.mk (some p6) 2 2).v]).run prog w12=.ok s1.v w13∧K s1 w13))) (K (Sl.mk (some p5) 1 1) w9))) (Br (v1 == 5) (Calls prog 162 #[(vi 5),(vi 2),(vp (some p1))] w1 (fun e w14=>∃cH cI cJ cK,e=.returned (Ag cH cI cJ cK)∧∀p7 w15,New w14 (.cells #[(vi cH),(vi cI),(vu cJ),(vs cK)] 75) p7 w15→K (Sl.mk (some p7) 1 1) w15)) (Br (v1 == 6) (Calls prog 162 #[(vi 6),(vi 2),(vp (some p1))] w1 (fun e w16=>∃cL cM cN cO,e=.returned (Ag cL cM cN cO)∧Calls prog 162 #[(vi 2),(vi 0),(vp (some p1))] w16 (fun e w17=>∃cP cQ cR cS,e=.returned (Ag cP cQ cR cS)∧Calls prog 162 #[(vi 2),(vi 1),(vp (some p1))] w17 (fun e w18=>∃cT cU cV cW,e=.returned (Ag cT cU cV cW)∧∀p8 w19,New w18 (.cells #[(vi cL),(vi cM),(vu cN),(vs cO),(vi cP),(vi cQ),(vu cR),(vs cS),(vi cT),(vi cU),(vu cV),(vs cW)] 75) p8 w19→K (Sl.mk (some p8) 3 3) w19)))) (K Sl.nil w1))))))
theorem w_K1 (bO bP bQ bR bS w0 K) (h:m_K1 bO bP bQ bR bS w0 K):
  Calls prog 94 #[(.agg #[(vi bO),(vi bP),(vu bQ),(vs bR),(vb bS)])] w0 (fun e w'=>∃r1:Sl,e=.returned r1.v∧K r1 w'):=by
 refine cw (args:=[(Ad bO bP bQ bR bS)]) func94 ntmps94 (eg (sn (O:=(.cells #[(vi bO),(vi bP),(vu bQ),(vs bR),(vb bS)] 35)) xb ?_))
 intro p1 w1 hn8
 have h:=h p1 w1 hn8
 refine q (ln (eg (qb (ln (jA (eg (q (ql (isAgg3 _) h fun v1 h=>ln (jH (eg (qb (ln (cbr h ?_ ?_)))))))))))))<;>intro h
 refine jA (eg (q (ql (isAgg4 _) h fun v2 h=>ln (cbr h ?_ ?_))))<;>intro h
 refine eg (q (ln (er (jY (vB (jY (rs1 results94 ⟨Sl.nil,rfl,h⟩)))))))
 refine jB (jK (eg (qb (ql (isAgg3 _) h fun v3 h=>zC (jL rfl) (kM (fs:=#[]) (caps:=#[(vp (some p1))]) (args:=#[(vi 1),(vi v3)]) (args':=#[(vi 1),(vi v3),(vp (some p1))]) (by kernel_rfl) call162 (by kernel_rfl) (by kernel_rfl)) (h.mono ?_)))))
 rintro e w2 ⟨aA,bN,aC,aE,rfl,h⟩
 refine ⟨_,rfl,?_⟩
 refine nw4 (fun p=>(Sl.mk (some p) 1 1).v) h fun p2 w3 h=>q (ln (er (vB (jY (rs1 results94 ⟨(Sl.mk (some p2) 1 1),rfl,h⟩)))))
 refine eg (qb (ln (cbr h ?_ ?_)))<;>intro h
 refine eg (qb (ql (isAgg3 _) h fun v4 h=>zC (jL rfl) (kM (fs:=#[]) (caps:=#[(vp (some p1))]) (args:=#[(vi 2),(vi v4)]) (args':=#[(vi 2),(vi v4),(vp (some p1))]) (by kernel_rfl) call162 (by kernel_rfl) (by kernel_rfl)) (h.mono ?_)))
 rintro e w4 ⟨aL,bT,aK,aT,rfl,h⟩
 refine ⟨_,rfl,?_⟩
 refine nw4 (fun p=>(Sl.mk (some p) 1 1).v) h fun p3 w5 h=>q (ln (er (vB (jY (rs1 results94 ⟨(Sl.mk (some p3) 1 1),rfl,h⟩)))))
 refine eg (qb (ln (cbr h ?_ ?_)))<;>intro h
 refine eg (q (zC (jL rfl) (kM (fs:=#[]) (caps:=#[(vp (some p1))]) (args:=#[(vi 3),(vi 0)]) (args':=#[(vi 3),(vi 0),(vp (some p1))]) (by kernel_rfl) call162 (by kernel_rfl) (by kernel_rfl)) (h.mono ?_)))
 rintro e w6 ⟨bK,bU,bL,bM,rfl,h⟩
 refine ⟨_,rfl,?_⟩
 refine nw4 (fun p=>(Sl.mk (some p) 1 1).v) h fun p4 w7 h=>q (ln (er (vB (jY (rs1 results94 ⟨(Sl.mk (some p4) 1 1),rfl,h⟩)))))
 refine eg (qb (ln (cbr h ?_ ?_)))<;>intro h
 refine eg (qb (ql (isAgg3 _) h fun v5 h=>zC (jL rfl) (kM (fs:=#[]) (caps:=#[(vp (some p1))]) (args:=#[(vi 4),(vi v5)]) (args':=#[(vi 4),(vi v5),(vp (some p1))]) (by kernel_rfl) call162 (by kernel_rfl) (by kernel_rfl)) (h.mono ?_)))
 rintro e w8 ⟨bV,bW,bX,bY,rfl,h⟩
 refine ⟨_,rfl,?_⟩
 refine nw4 (fun p=>(Sl.mk (some p) 1 1).v) h fun p5 w9 h=>q (ln (jA (eg (q (ql (isAgg4 _) h fun v6 h=>q (ln (cbr h ?_ ?_)))))))<;>intro h
 refine rg (qb (zC (jL rfl) (kM (fs:=#[]) (caps:=#[(vp (some p1))]) (args:=#[(vi 1),(vi 0)]) (args':=#[(vi 1),(vi 0),(vp (some p1))]) (by kernel_rfl) call162 (by kernel_rfl) (by kernel_rfl)) (h.mono ?_)))
 rintro e w10 ⟨bZ,cA,cB,cC,rfl,h⟩
 refine ⟨_,rfl,?_⟩
 refine q (zC (jL rfl) (kM (fs:=#[]) (caps:=#[(vp (some p1))]) (args:=#[(vi 1),(vi 1)]) (args':=#[(vi 1),(vi 1),(vp (some p1))]) (by kernel_rfl) call162 (by kernel_rfl) (by kernel_rfl)) (h.mono ?_))
 rintro e w11 ⟨cD,cE,cF,cG,rfl,h⟩
 refine ⟨_,rfl,?_⟩
 refine nw4 (fun p=>(Sl.mk (some p) 2 2).v) h fun p6 w12 h=>?_
 obtain ⟨s1,w13,hv4,h⟩:=h
 refine st (v:=s1.v) (jL rfl) (zD (args:=#[(Sl.mk (some p5) 1 1).v,(Sl.mk (some p6) 2 2).v]) (by kernel_rfl) (fun _=>rfl) hv4) (q0 s1.v (ln (eg (q0 s1.v (q0 s1.v (ln (er (vB (jY (rs1 results94 ⟨s1,rfl,h⟩))))))))))
 refine jB (jK (eg (qb (ln (er (vB (jY (rs1 results94 ⟨(Sl.mk (some p5) 1 1),rfl,h⟩))))))))
 refine eg (qb (ln (cbr h ?_ ?_)))<;>intro h
 refine eg (q (zC (jL rfl) (kM (fs:=#[]) (caps:=#[(vp (some p1))]) (args:=#[(vi 5),(vi 2)]) (args':=#[(vi 5),(vi 2),(vp (some p1))]) (by kernel_rfl) call162 (by kernel_rfl) (by kernel_rfl)) (h.mono ?_)))
 rintro e w14 ⟨cH,cI,cJ,cK,rfl,h⟩
 refine ⟨_,rfl,?_⟩
 refine nw4 (fun p=>(Sl.mk (some p) 1 1).v) h fun p7 w15 h=>q (ln (er (vB (jY (rs1 results94 ⟨(Sl.mk (some p7) 1 1),rfl,h⟩)))))
 refine eg (qb (ln (cbr h ?_ ?_)))<;>intro h
 refine eg (q (zC (jL rfl) (kM (fs:=#[]) (caps:=#[(vp (some p1))]) (args:=#[(vi 6),(vi 2)]) (args':=#[(vi 6),(vi 2),(vp (some p1))]) (by kernel_rfl) call162 (by kernel_rfl) (by kernel_rfl)) (h.mono ?_)))
 rintro e w16 ⟨cL,cM,cN,cO,rfl,h⟩
 refine ⟨_,rfl,?_⟩
 refine q (zC (jL rfl) (kM (fs:=#[]) (caps:=#[(vp (some p1))]) (args:=#[(vi 2),(vi 0)]) (args':=#[(vi 2),(vi 0),(vp (some p1))]) (by kernel_rfl) call162 (by kernel_rfl) (by kernel_rfl)) (h.mono ?_))
 rintro e w17 ⟨cP,cQ,cR,cS,rfl,h⟩
 refine ⟨_,rfl,?_⟩
 refine q (zC (jL rfl) (kM (fs:=#[]) (caps:=#[(vp (some p1))]) (args:=#[(vi 2),(vi 1)]) (args':=#[(vi 2),(vi 1),(vp (some p1))]) (by kernel_rfl) call162 (by kernel_rfl) (by kernel_rfl)) (h.mono ?_))
 rintro e w18 ⟨cT,cU,cV,cW,rfl,h⟩
 refine ⟨_,rfl,?_⟩
 refine nw4 (fun p=>(Sl.mk (some p) 3 3).v) h fun p8 w19 h=>q (ln (er (vB (jY (rs1 results94 ⟨(Sl.mk (some p8) 3 3),rfl,h⟩)))))
 refine jB (vS (jK (eg (q (ln (er (rs1 results94 ⟨Sl.nil,rfl,h⟩)))))))
theorem qC (a0 a1 a2:Int) (a3:ByteArray) (b0 b1 b2:Int) (b3:ByteArray) (w:World):(Go.binOp .eql 75 (.agg #[(.int .i64 a0),(.int .i64 a1),(.int .u64 a2),(.string a3)]) (.agg #[(.int .i64 b0),(.int .i64 b1),(.int .u64 b2),(.string b3)])).run prog w=.ok (.bool ((a0 == b0) && ((a1 == b1) && ((a2 == b2) && (decide (a3=b3)))))) w:=by
 simp [Go.binOp,Op.equal,Op.maxDepth,go_sem,tW,bne]
 repeat' split
 all_goals simp_all
def m_U_l1 (who1 c1:Int) (text1:ByteArray) (r2:Sl) (why1 x1:Int) (w0:World) (Hl1:NP) (wl1:World) (Kc1:Int→Int→NP→WP) (K:Int→WP):Prop :=Br (decide (x1<(r2.len:Int))) (∃a1:Addr,At r2 x1 4 a1∧∃aF aG aH aI,Row wl1 a1 (Af aF aG aH aI)∧Br (aF != 2) (∀H3 w8,Hst w0 Hl1 wl1 H3 w8→Kc1 why1 (q6.wrap (x1+1)) H3 w8) (Br ((aF == 2) && ((aG == who1) && ((aH == c1) && (decide (aI=text1))))) (∀H3 w8,Hst w0 Hl1 wl1 H3 w8→K 0 w8) (Br (aG != who1) (∀H3 w8,Hst w0 Hl1 wl1 H3 w8→∃z1,(Builtin.max_ #[3,3] 3 #[(vi why1),(vi 3)]).run prog w8=.ok (vi z1) w8∧Kc1 z1 (q6.wrap (x1+1)) H3 w8) (Br (aH != c1) (∀H3 w8,Hst w0 Hl1 wl1 H3 w8→∃z2,(Builtin.max_ #[3,3] 3 #[(vi why1),(vi 4)]).run prog w8=.ok (vi z2) w8∧Kc1 z2 (q6.wrap (x1+1)) H3 w8) (∀H3 w8,Hst w0 Hl1 wl1 H3 w8→∃z3,(Builtin.max_ #[3,3] 3 #[(vi why1),(vi 5)]).run prog w8=.ok (vi z3) w8∧Kc1 z3 (q6.wrap (x1+1)) H3 w8))))) (K why1 wl1)
def m_U (p1:Option Addr) (t1 who1 c1:Int) (text1:ByteArray) (w0:World) (K:Int→WP):Prop :=Calls prog 51 #[(vp p1),(vi t1)] w0 (fun e w1=>∃aA aD aC aE aB r1,e=.returned (.tuple #[(Ad aA aD aC aE aB),(vb r1)])∧Kept None w0 w1∧Br (!r1) (∀H1 w3,Hst w0 None w1 H1 w3→K 1 w3) (∀H2 w5,Hst w0 None w1 H2 w5→Calls prog 94 #[(.agg #[(vi aA),(vi aD),(vu aC),(vs aE),(vb aB)])] w5 (fun e w6=>∃r2:Sl,e=.returned r2.v∧Kept H2 w5 w6∧∃(I1:Int→Int→NP→WP) (mu1:Int→Int→World→Nat),I1 2 0 H2 w6∧∀(why1 x1:Int) (Hl1:NP) (wl1:World),Hst w0 Hl1 wl1 Hl1 wl1→I1 why1 x1 Hl1 wl1→m_U_l1 who1 c1 text1 r2 why1 x1 w0 Hl1 wl1 (fun y'0 y'1 H' w'=>I1 y'0 y'1 H' w'∧mu1 y'0 y'1 w'<mu1 why1 x1 wl1) K)))
theorem w_U (p1 t1 who1 c1 text1 w0 K) (h:m_U p1 t1 who1 c1 text1 w0 K):
  Calls prog 35 #[(vp p1),(vi t1),(vi who1),(vu c1),(vs text1)] w0 (fun e w'=>∃r3,e=.returned (vi r3)∧K r3 w'):=by
 refine cw (args:=[(vp p1),(vi t1),(vi who1),(vu c1),(vs text1)]) func35 ntmps35 ?_
 obtain ⟨hs,hb⟩:=st0 w0
 refine eg (q (ln (eg (qb (sc call51 (h.mono fun e w1 ⟨aA,aD,aC,aE,aB,r1,k,hk,h⟩=>have ⟨hs,hb⟩:=hk.hh hs hb;⟨_,k,?_⟩))))))
 refine qc (nw3 (Ai 0 0 0 false) 35 hs hb (jE (zeroValue35 _) rfl) fun p2 w2 H1 hs hb=>sbx 0 (Aa aA aD aC aE aB) (sizeOf35 _) hs hb gZ fun w3 hs hb=>q (ln (jA (eg (qb (ln (cbr h ?_ ?_)))))))<;>intro h
 refine eg (q (ln (er (jY ?_))))
 have ⟨h,hs⟩:=hs.hr (h H1 w3)
 refine rs1 results35 ⟨1,rfl,h⟩
 refine jB (jK (eg (qd (nw3 [(vi 0),(vi 0),(vu 0),ve] 75 hs hb (jE (zeroValue75 _) rfl) fun p3 w4 H2 hs hb=>sbx 0 (Af 2 who1 c1 text1) (sizeOf75 _) hs hb gZ fun w5 hs hb=>ln (eg (q (ln (jA (eg (q2 (Ad aA aD aC aE aB) (xa p2 (Aa aA aD aC aE aB) (isAgg35 _) (sizeOf35 _) (hb.r0 1 5 (gS gZ))) ?_))))))))))
 have ⟨h,hs⟩:=hs.hr (h H2 w5)
 refine sc call94 (h.mono fun e w6 ⟨r2,k,hk,h⟩=>have ⟨hs,hb⟩:=hk.hh hs hb;⟨_,k,?_⟩)
 refine qb (ln (jH ?_))
 obtain ⟨I1,mu1,h0,hr⟩:=h
 refine zT (σ:=Int×Int×NP×World) (fun s ρ w=>w=s.2.2.2∧Has ρ [(2,(vi who1)),(3,(vu c1)),(13,(vp (some p3))),(14,(vi s.1)),(30,r2.v),(31,(vi (r2.len:Int))),(32,(vi s.2.1))]∧Hst w0 s.2.2.1 w s.2.2.1 w∧HB s.2.2.1 w [(p3,(Af 2 who1 c1 text1),75),(p2,(Aa aA aD aC aE aB),35)]∧I1 s.1 s.2.1 s.2.2.1 s.2.2.2) (fun s=>mu1 s.1 s.2.1 s.2.2.2) (2,0,H2,w6) ⟨rfl,hm,hs,hb,h0⟩ ?_
 rintro ⟨why1,x1,Hl1,wl1⟩ ρ w ⟨hw,hH,hs,hb,hI⟩
 dsimp only at hw hH hs hb;subst w
 have h:=hr why1 x1 Hl1 wl1 hs hI
 refine jQ hH (eg (q (ln (jA (cbr h ?_ ?_)))))<;>intro h
 refine jB (jK (jA (jH (eg (qi (runUnderlying71 _) (sizeOf75 _) h fun a1 h=>?_)))))
 obtain ⟨aF,aG,aH,aI,hv4,h⟩:=h
 refine qa (isAgg75 _) (sizeOf75 _) hv4 (nw3 [(vi 0),(vi 0),(vu 0),ve] 75 hs hb (jE (zeroValue75 _) rfl) fun p4 w7 H3 hs hb=>sbx 0 (Af aF aG aH aI) (sizeOf75 _) hs hb gZ fun w8 hs hb=>ln (jH (eg (q (q3 (xl (isAgg3 _) (hb.d0 0 gZ)) (qb (ln (cbr h ?_ ?_))))))))<;>intro h
 refine jB (vS (vS (jK (rg (qb (jD ?_))))))
 have ⟨h,hs⟩:=hs.hr (h H3 w8)
 refine jK ⟨(why1,(q6.wrap (x1+1)),H3,w8),⟨rfl,hm,hs,hb.drop 1,h.1⟩,h.2⟩
 refine eg (q2 (Ag aF aG aH aI) (xa p4 (Af aF aG aH aI) (isAgg75 _) (sizeOf75 _) (hb.r0 0 4 gZ)) (q2 (Ag 2 who1 c1 text1) (xa p3 (Af 2 who1 c1 text1) (isAgg75 _) (sizeOf75 _) (hb.r0 1 4 (gS gZ))) (q2 (vb ((aF == 2) && ((aG == who1) && ((aH == c1) && (decide (aI=text1)))))) (xY (by kernel_rfl) (by kernel_rfl) (by kernel_rfl) (qC aF aG aH aI 2 who1 c1 text1 _)) (q (ln (cbr h ?_ ?_))))))<;>intro h
 refine eg (q (ln (er (vB (vB (jY (jY (vB (jY ?_)))))))))
 have ⟨h,hs⟩:=hs.hr (h H3 w8)
 refine rs1 results35 ⟨0,rfl,h⟩
 refine eg (q (q3 (xl (isAgg3 _) (hb.d 0 1 gZ)) (qc (ln (cbr h ?_ ?_)))))<;>intro h
 refine rg (q ?_)
 have ⟨h,hs⟩:=hs.hr (h H3 w8)
 obtain ⟨z1,hv1,h⟩:=h
 refine q2 (vi z1) (zD (args:=#[(vi why1),(vi 3)]) (by kernel_rfl) (fun _=>rfl) hv1) (q (jD (vS (vS (jK (rg (qb (ln ⟨(z1,(q6.wrap (x1+1)),H3,w8),⟨rfl,hm,hs,hb.drop 1,h.1⟩,h.2⟩))))))))
 refine eg (q (q3 (xl (isAgg23 _) (hb.d 0 2 gZ)) (qc (ln (cbr h ?_ ?_)))))<;>intro h
 refine rg (q ?_)
 have ⟨h,hs⟩:=hs.hr (h H3 w8)
 obtain ⟨z2,hv2,h⟩:=h
 refine q2 (vi z2) (zD (args:=#[(vi why1),(vi 4)]) (by kernel_rfl) (fun _=>rfl) hv2) (q (jD (vS (vS (jK (rg (qb (ln ⟨(z2,(q6.wrap (x1+1)),H3,w8),⟨rfl,hm,hs,hb.drop 1,h.1⟩,h.2⟩))))))))
 refine rg (q ?_)
 have ⟨h,hs⟩:=hs.hr (h H3 w8)
 obtain ⟨z3,hv3,h⟩:=h
 refine q2 (vi z3) (zD (args:=#[(vi why1),(vi 5)]) (by kernel_rfl) (fun _=>rfl) hv3) (q (jD (vS (vS (jK (rg (qb (ln ⟨(z3,(q6.wrap (x1+1)),H3,w8),⟨rfl,hm,hs,hb.drop 1,h.1⟩,h.2⟩))))))))
 refine zL (qL (qL (qI (jK (eg (q0 (vi why1) (q0 (vi why1) (ln (er (rs1 results35 ⟨why1,rfl,h⟩))))))))))
def m_C2 (p1:Option Addr) (t1 who1 c1:Int) (text1:ByteArray) (w0:World) (K:Bool→WP):Prop :=Calls prog 35 #[(vp p1),(vi t1),(vi who1),(vu c1),(vs text1)] w0 (fun e w1=>∃r1,e=.returned (vi r1)∧K (r1 == 0) w1)
theorem w_C2 (p1 t1 who1 c1 text1 w0 K) (h:m_C2 p1 t1 who1 c1 text1 w0 K):
  Calls prog 45 #[(vp p1),(vi t1),(vi who1),(vu c1),(vs text1)] w0 (fun e w'=>∃r2,e=.returned (vb r2)∧K r2 w'):=by
 refine cw (args:=[(vp p1),(vi t1),(vi who1),(vu c1),(vs text1)]) func45 ntmps45 (eg (q0 (vb false) (ln (eg (q0 (vp p1) (q0 (vi t1) (q0 (vi who1) (q0 (vu c1) ?_))))))))
 refine q (sc call35 (h.mono fun e w1 ⟨r1,k,h⟩=>⟨_,k,?_⟩))
 refine qb (ln (er (rs1 results45 ⟨(r1 == 0),rfl,h⟩)))
def m_D2 (p1:Option Addr) (t1:Int) (w0:World) (K:Sl→WP):Prop :=Calls prog 51 #[(vp p1),(vi t1)] w0 (fun e w1=>∃aA aD aC aE aB r1,e=.returned (.tuple #[(Ad aA aD aC aE aB),(vb r1)])∧Kept None w0 w1∧Br (!r1) (∀H1 w3,Hst w0 None w1 H1 w3→K Sl.nil w3) (∀H1 w3,Hst w0 None w1 H1 w3→Calls prog 94 #[(.agg #[(vi aA),(vi aD),(vu aC),(vs aE),(vb aB)])] w3 (fun e w4=>∃r2:Sl,e=.returned r2.v∧Kept H1 w3 w4∧K r2 w4)))
theorem w_D2 (p1 t1 w0 K) (h:m_D2 p1 t1 w0 K):
  Calls prog 34 #[(vp p1),(vi t1)] w0 (fun e w'=>∃r3:Sl,e=.returned r3.v∧K r3 w'):=by
 refine cw (args:=[(vp p1),(vi t1)]) func34 ntmps34 ?_
 obtain ⟨hs,hb⟩:=st0 w0
 refine eg (q (ln (eg (qb (sc call51 (h.mono fun e w1 ⟨aA,aD,aC,aE,aB,r1,k,hk,h⟩=>have ⟨hs,hb⟩:=hk.hh hs hb;⟨_,k,?_⟩))))))
 refine qc (nw3 (Ai 0 0 0 false) 35 hs hb (jE (zeroValue35 _) rfl) fun p2 w2 H1 hs hb=>sbx 0 (Aa aA aD aC aE aB) (sizeOf35 _) hs hb gZ fun w3 hs hb=>q (ln (jA (eg (qb (ln (cbr h ?_ ?_)))))))<;>intro h
 refine eg (q (ln (er (jY ?_))))
 have ⟨h,hs⟩:=hs.hr (h H1 w3)
 refine rs1 results34 ⟨Sl.nil,rfl,h⟩
 refine jB (jK (eg (q2 (Ad aA aD aC aE aB) (xa p2 (Aa aA aD aC aE aB) (isAgg35 _) (sizeOf35 _) (hb.r0 0 5 gZ)) ?_)))
 have ⟨h,hs⟩:=hs.hr (h H1 w3)
 refine sc call94 (h.mono fun e w4 ⟨r2,k,hk,h⟩=>have ⟨hs,hb⟩:=hk.hh hs hb;⟨_,k,?_⟩)
 refine q (ln (er (rs1 results34 ⟨r2,rfl,h⟩)))
def m_M_l2 (p1:Option Addr) (r3 out1:Sl) (x2:Int) (wl2:World) (Kc2:Sl→Int→WP) (K:Sl→WP):Prop :=Br (decide (x2<(r3.len:Int))) (∃a2:Addr,At r3 x2 1 a2∧∃v2,wl2.cell? a2=some (vi v2)∧Calls prog 34 #[(vp p1),(vi v2)] wl2 (fun e w4=>∃r4:Sl,e=.returned r4.v∧∃s1:Sl,∃w5:World,(Builtin.append_ #[71,71] 71 #[out1.v,r4.v]).run prog w4=.ok s1.v w5∧Kc2 s1 (q6.wrap (x2+1)) w5)) (Calls prog 81 #[out1.v,(.func (.func 28) #[] #[])] wl2 (fun e w6=>e=.returned (.tuple #[])∧Calls prog 82 #[out1.v] w6 (fun e w7=>∃r5:Sl,e=.returned r5.v∧K r5 w7)))
def m_M_l1 (p1:Option Addr) (l1:Sl) (r1:Option Addr) (x1:Int) (wl1:World) (Kc1:Int→WP) (K:Sl→WP):Prop :=Br (decide (x1<(l1.len:Int))) (∃a1:Addr,At l1 x1 1 a1∧∃v1,wl1.cell? a1=some (vi v1)∧Calls prog 79 #[(vp r1),(vi v1)] wl1 (fun e w2=>∃r2,e=.returned (vi r2)∧Kc1 (q6.wrap (x1+1)) w2)) (Calls prog 80 #[(vp r1)] wl1 (fun e w3=>∃r3:Sl,e=.returned r3.v∧∃(I2:Sl→Int→WP) (mu2:Sl→Int→World→Nat),I2 Sl.nil 0 w3∧∀(out1:Sl) (x2:Int) (wl2:World),I2 out1 x2 wl2→m_M_l2 p1 r3 out1 x2 wl2 (fun y'0 y'1 w'=>I2 y'0 y'1 w'∧mu2 y'0 y'1 w'<mu2 out1 x2 wl2) K))
def m_M (p1:Option Addr) (l1:Sl) (w0:World) (K:Sl→WP):Prop :=Calls prog 62 #[(vp p1)] w0 (fun e w1=>∃r1,e=.returned (vp r1)∧∃(I1:Int→WP) (mu1:Int→World→Nat),I1 0 w1∧∀(x1:Int) (wl1:World),I1 x1 wl1→m_M_l1 p1 l1 r1 x1 wl1 (fun y'0 w'=>I1 y'0 w'∧mu1 y'0 w'<mu1 x1 wl1) K)
theorem w_M (p1 l1 w0 K) (h:m_M p1 l1 w0 K):
  Calls prog 26 #[(vp p1),l1.v] w0 (fun e w'=>∃r6:Sl,e=.returned r6.v∧K r6 w'):=by
 refine cw (args:=[(vp p1),l1.v]) func26 ntmps26 (eg (q0 Sl.nil.v (ln (eg (q0 (vp p1) ?_)))))
 refine sc call62 (h.mono fun e w1 ⟨r1,k,h⟩=>⟨_,k,?_⟩)
 refine q (ln (jA (eg (qc (ln (jH ?_))))))
 obtain ⟨I1,mu1,h0,hr⟩:=h
 refine zT (σ:=Int×World) (fun s ρ w=>w=s.2∧Has ρ [(0,(vp p1)),(5,(vp r1)),(13,l1.v),(14,(vi (l1.len:Int))),(15,(vi s.1))]∧I1 s.1 s.2) (fun s=>mu1 s.1 s.2) (0,w1) ⟨rfl,hm,h0⟩ ?_
 rintro ⟨x1,wl1⟩ ρ w ⟨hw,hH,hI⟩
 dsimp only at hw hH;subst w
 have h:=hr x1 wl1 hI
 refine jQ hH (eg (q (ln (jA (cbr h ?_ ?_)))))<;>intro h
 refine jB (jK (jA (jH (eg (qi (runUnderlying46 _) (sizeOf78 _) h fun a1 h=>ql (isAgg78 _) h fun v1 h=>q (ln (rg (qb (sc call79 (h.mono fun e w2 ⟨r2,k,h⟩=>⟨_,k,?_⟩))))))))))
 refine jD (vS (jK (rg (qb (ln ⟨((q6.wrap (x1+1)),w2),⟨rfl,hm,h.1⟩,h.2⟩)))))
 refine zL (qL (qL (qI (jK (eg (q0 Sl.nil.v (ln (jA (jA (rg (q (sc call80 (h.mono fun e w3 ⟨r3,k,h⟩=>⟨_,k,?_⟩)))))))))))))
 refine qb (ln (jH ?_))
 obtain ⟨I2,mu2,h0,hr⟩:=h
 refine zT (σ:=Sl×Int×World) (fun s ρ w=>w=s.2.2∧Has ρ [(0,(vp p1)),(8,s.1.v),(24,r3.v),(25,(vi (r3.len:Int))),(26,(vi s.2.1))]∧I2 s.1 s.2.1 s.2.2) (fun s=>mu2 s.1 s.2.1 s.2.2) (Sl.nil,0,w3) ⟨rfl,hm,h0⟩ ?_
 rintro ⟨out1,x2,wl2⟩ ρ w ⟨hw,hH,hI⟩
 dsimp only at hw hH;subst w
 have h:=hr out1 x2 wl2 hI
 refine jQ hH (eg (q (ln (jA (cbr h ?_ ?_)))))<;>intro h
 refine jB (jK (jA (jH (eg (qi (runUnderlying46 _) (sizeOf78 _) h fun a2 h=>ql (isAgg78 _) h fun v2 h=>q (ln (rg (qc (sc call34 (h.mono fun e w4 ⟨r4,k,h⟩=>⟨_,k,?_⟩))))))))))
 obtain ⟨s1,w5,hv3,h⟩:=h
 refine st (v:=s1.v) (jL rfl) (zD (args:=#[out1.v,r4.v]) (by kernel_rfl) (fun _=>rfl) hv3) (q0 s1.v (jD (vS (jK (rg (q0 (vi (q6.wrap (x2+1))) (q0 (vi (q6.wrap (x2+1))) (ln ⟨(s1,(q6.wrap (x2+1)),w5),⟨rfl,hm,h.1⟩,h.2⟩))))))))
 refine zL (qL (qL (qI (jK (eg (q0 out1.v (sc call81 (h.mono fun e w6 ⟨k,h⟩=>⟨_,k,?_⟩))))))))
 refine ln (eg (q (sc call82 (h.mono fun e w7 ⟨r5,k,h⟩=>⟨_,k,?_⟩))))
 refine q (ln (er (rs1 results26 ⟨r5,rfl,h⟩)))
def m_E_j4 (r1:Option Addr) (r12:Int) (x4:Bool) (H:NP) (w:World) (K:Bool→WP):Prop :=Br x4 (∀p2 w24,New w (.cells #[(vi r12)] 78) p2 w24→Calls prog 26 #[(vp r1),(Sl.mk (some p2) 1 1).v] w24 (fun e w25=>∃r15:Sl,e=.returned r15.v∧Kept H w24 w25∧K (((r15.len:Int):Int) == 3) w25)) (K false w)
def m_E_j3 (r1:Option Addr) (r6 r12:Int) (x3:Bool) (H:NP) (w:World) (K:Bool→WP):Prop :=Br x3 (Calls prog 34 #[(vp r1),(vi r6)] w (fun e w26=>∃r16:Sl,e=.returned r16.v∧Kept H w w26∧m_E_j4 r1 r12 (((r16.len:Int):Int) == 3) H w26 K)) (m_E_j4 r1 r12 false H w K)
def m_E_j2 (r1:Option Addr) (r2 r6 r12:Int) (x2:Bool) (H:NP) (w:World) (K:Bool→WP):Prop :=Br x2 (Calls prog 35 #[(vp r1),(vi r2),(vi 0),(vu 7),(vs (⟨#[120]⟩:ByteArray))] w (fun e w27=>∃r17,e=.returned (vi r17)∧Kept H w w27∧m_E_j3 r1 r6 r12 (r17 == 2) H w27 K)) (m_E_j3 r1 r6 r12 false H w K)
def m_E_j1 (r1:Option Addr) (r2 r6 r12:Int) (x1:Bool) (H:NP) (w:World) (K:Bool→WP):Prop :=Br x1 (Calls prog 45 #[(vp r1),(vi r2),(vi 0),(vu 7),(vs (⟨#[120]⟩:ByteArray))] w (fun e w28=>∃r18,e=.returned (vb r18)∧Kept H w w28∧m_E_j2 r1 r2 r6 r12 (!r18) H w28 K)) (m_E_j2 r1 r2 r6 r12 false H w K)
def m_E  (w0:World) (K:Bool→WP):Prop :=Calls prog 61 #[] w0 (fun e w1=>∃r1,e=.returned (vp r1)∧Kept None w0 w1∧Br (Option.isNone r1) (K false w1) (Calls prog 76 #[(vp r1),(.agg #[(vi 1),(vi 0),(vu 7),(vs (⟨#[120]⟩:ByteArray)),(vb false)])] w1 (fun e w2=>∃r2 r3,e=.returned (.tuple #[(vi r2),(vi r3)])∧Kept None w1 w2∧Calls prog 76 #[(vp r1),(.agg #[(vi 1),(vi 1),(vu 7),(vs (⟨#[120]⟩:ByteArray)),(vb false)])] w2 (fun e w3=>∃r4 r5,e=.returned (.tuple #[(vi r4),(vi r5)])∧Kept None w2 w3∧Calls prog 32 #[(vp r1),(vi r2),(vi r4)] w3 (fun e w4=>∃r6 r7,e=.returned (.tuple #[(vi r6),(vi r7)])∧Kept None w3 w4∧Calls prog 32 #[(vp r1),(vi r2),(vi r2)] w4 (fun e w5=>∃r8 r9,e=.returned (.tuple #[(vi r8),(vi r9)])∧Kept None w4 w5∧Calls prog 32 #[(vp r1),(vi r2),(vi r6)] w5 (fun e w6=>∃r10 r11,e=.returned (.tuple #[(vi r10),(vi r11)])∧Kept None w5 w6∧Calls prog 33 #[(vp r1),(vi 1),(vi r2),(vi r4)] w6 (fun e w7=>∃r12 r13,e=.returned (.tuple #[(vi r12),(vi r13)])∧Kept None w6 w7∧Calls prog 51 #[(vp r1),(vi r12)] w7 (fun e w8=>∃aA aD aC aE aB r14,e=.returned (.tuple #[(Ad aA aD aC aE aB),(vb r14)])∧Kept None w7 w8∧∀y1:Bool,y1=((((r7 == 0) && (r9 == 122)) && (r11 == 120)) && (r13 == 0))→Br (((y1 && r14) && (aA == 4)) && (aD == 1)) (∀H7 w23,Hst w0 None w8 H7 w23→Calls prog 45 #[(vp r1),(vi r6),(vi 0),(vu 7),(vs (⟨#[120]⟩:ByteArray))] w23 (fun e w29=>∃r19,e=.returned (vb r19)∧Kept H7 w23 w29∧m_E_j1 r1 r2 r6 r12 r19 H7 w29 K)) (∀H7 w23,Hst w0 None w8 H7 w23→m_E_j1 r1 r2 r6 r12 false H7 w23 K))))))))))
theorem w_E  (w0:World) (K:Bool→WP) (h:m_E  w0 K) :
  Calls prog 24 #[] w0 (fun e w'=>∃r20,e=.returned (vb r20)∧K r20 w'):=by
 refine cw (args:=[]) func24 ntmps24 ?_
 obtain ⟨hs,hb⟩:=st0 w0
 refine eg (q (ln (eg (sc call61 (h.mono fun e w1 ⟨r1,k,hk,h⟩=>have ⟨hs,hb⟩:=hk.hh hs hb;⟨_,k,?_⟩)))))
 refine q (ln (jA (eg (q (q2 (vb (Option.isNone r1)) (qJ (by kernel_rfl) rfl underlying68) (ln (cbr h ?_ ?_)))))))<;>intro h
 refine eg (q (ln (er (jY (rs1 results24 ⟨false,rfl,h⟩)))))
 refine jB (jK (eg (qb (sc call76 (h.mono fun e w2 ⟨r2,r3,k,hk,h⟩=>have ⟨hs,hb⟩:=hk.hh hs hb;⟨_,k,?_⟩)))))
 refine q (qd (ln (eg (qb (sc call76 (h.mono fun e w3 ⟨r4,r5,k,hk,h⟩=>have ⟨hs,hb⟩:=hk.hh hs hb;⟨_,k,?_⟩))))))
 refine q (qd (ln (eg (qc (sc call32 (h.mono fun e w4 ⟨r6,r7,k,hk,h⟩=>have ⟨hs,hb⟩:=hk.hh hs hb;⟨_,k,?_⟩))))))
 refine q (qd (ln (eg (qc (sc call32 (h.mono fun e w5 ⟨r8,r9,k,hk,h⟩=>have ⟨hs,hb⟩:=hk.hh hs hb;⟨_,k,?_⟩))))))
 refine q (qd (ln (eg (qc (sc call32 (h.mono fun e w6 ⟨r10,r11,k,hk,h⟩=>have ⟨hs,hb⟩:=hk.hh hs hb;⟨_,k,?_⟩))))))
 refine q (qd (ln (eg (qc (sc call33 (h.mono fun e w7 ⟨r12,r13,k,hk,h⟩=>have ⟨hs,hb⟩:=hk.hh hs hb;⟨_,k,?_⟩))))))
 refine q (qd (ln (eg (qb (sc call51 (h.mono fun e w8 ⟨aA,aD,aC,aE,aB,r14,k,hk,h⟩=>have ⟨hs,hb⟩:=hk.hh hs hb;⟨_,k,?_⟩))))))
 refine qc (nw3 (Ai 0 0 0 false) 35 hs hb (jE (zeroValue35 _) rfl) fun p1 w9 H1 hs hb=>sbx 0 (Aa aA aD aC aE aB) (sizeOf35 _) hs hb gZ fun w10 hs hb=>q (ln (eg (q (sc call36 ((p_B1 r7 w10).mono ?_))))))
 rintro e w11 ⟨he,hE⟩
 refine ⟨_,he,?_⟩
 obtain ⟨hs,hb⟩:=hs.pp hb hE
 refine qb (jP 4 (fun ρ wJ=>∃b1'0:Bool,∃HJ:NP,((r7 == 0)=b1'0)∧Hst w0 None w8 HJ wJ∧HB HJ wJ [(p1,(Aa aA aD aC aE aB),35)]∧Has ρ [(1,(vp r1)),(2,(vi r2)),(6,(vi r6)),(11,(vi r11)),(12,(vi r12)),(13,(vi r13)),(14,(vp (some p1))),(15,(vb r14)),(72,(vb (b1'0 && (r9 == 122))))]) ?_ ?_)
 rintro ρ w13 ⟨b1'0,H2,he0,hs,hb,hH⟩
 subst he0
 refine jX hH (q (jP 4 (fun ρ wJ=>∃b2'0:Bool,∃HJ:NP,(((r7 == 0) && (r9 == 122))=b2'0)∧Hst w0 None w8 HJ wJ∧HB HJ wJ [(p1,(Aa aA aD aC aE aB),35)]∧Has ρ [(1,(vp r1)),(2,(vi r2)),(6,(vi r6)),(12,(vi r12)),(13,(vi r13)),(14,(vp (some p1))),(15,(vb r14)),(77,(vb (b2'0 && (r11 == 120))))]) ?_ ?_))
 rintro ρ w16 ⟨b2'0,H3,he0,hs,hb,hH⟩
 subst he0
 refine jX hH (q (jP 4 (fun ρ wJ=>∃b3'0 y1:Bool,∃HJ:NP,((((r7 == 0) && (r9 == 122)) && (r11 == 120))=b3'0)∧(y1=(b3'0 && (r13 == 0)))∧Hst w0 None w8 HJ wJ∧HB HJ wJ [(p1,(Aa aA aD aC aE aB),35)]∧Has ρ [(1,(vp r1)),(2,(vi r2)),(6,(vi r6)),(12,(vi r12)),(14,(vp (some p1))),(15,(vb r14)),(82,(vb y1))]) ?_ ?_))
 rintro ρ w19 ⟨b3'0,y1,H4,he0,hy1,hs,hb,hH⟩
 subst he0
 have h:=h y1 hy1
 refine jX hH (q (jP 2 (fun ρ wJ=>∃b4'0:Bool,∃HJ:NP,(y1=b4'0)∧Hst w0 None w8 HJ wJ∧HB HJ wJ [(p1,(Aa aA aD aC aE aB),35)]∧Has ρ [(1,(vp r1)),(2,(vi r2)),(6,(vi r6)),(12,(vi r12)),(14,(vp (some p1))),(85,(vb (b4'0 && r14)))]) ?_ ?_))
 rintro ρ w21 ⟨b4'0,H5,he0,hs,hb,hH⟩
 subst he0
 refine jX hH (q (jP 4 (fun ρ wJ=>∃b5'0:Bool,∃HJ:NP,((y1 && r14)=b5'0)∧Hst w0 None w8 HJ wJ∧HB HJ wJ [(p1,(Aa aA aD aC aE aB),35)]∧Has ρ [(1,(vp r1)),(2,(vi r2)),(6,(vi r6)),(12,(vi r12)),(14,(vp (some p1))),(90,(vb (b5'0 && (aA == 4))))]) ?_ ?_))
 rintro ρ w22 ⟨b5'0,H6,he0,hs,hb,hH⟩
 subst he0
 refine jX hH (q (jP 4 (fun ρ wJ=>∃b6'0:Bool,∃HJ:NP,(((y1 && r14) && (aA == 4))=b6'0)∧Hst w0 None w8 HJ wJ∧HB HJ wJ [(p1,(Aa aA aD aC aE aB),35)]∧Has ρ [(1,(vp r1)),(2,(vi r2)),(6,(vi r6)),(12,(vi r12)),(95,(vb (b6'0 && (aD == 1))))]) ?_ ?_))
 rintro ρ w23 ⟨b6'0,H7,he0,hs,hb,hH⟩
 subst he0
 refine jX hH (q (jP 4 (fun ρ w=>∃x1,∃H:NP,Has ρ [(1,(vp r1)),(2,(vi r2)),(6,(vi r6)),(12,(vi r12)),(100,(vb x1))]∧Hst w0 H w H w∧HB H w [(p1,(Aa aA aD aC aE aB),35)]∧m_E_j1 r1 r2 r6 r12 x1 H w K) ?_ ?_))
 rintro ρ w ⟨x1,H,hH,hs,hb,h⟩
 refine jX hH (q (jP 5 (fun ρ w=>∃x2,∃H:NP,Has ρ [(1,(vp r1)),(2,(vi r2)),(6,(vi r6)),(12,(vi r12)),(106,(vb x2))]∧Hst w0 H w H w∧HB H w [(p1,(Aa aA aD aC aE aB),35)]∧m_E_j2 r1 r2 r6 r12 x2 H w K) ?_ ?_))
 rintro ρ w ⟨x2,H,hH,hs,hb,h⟩
 refine jX hH (q (jP 5 (fun ρ w=>∃x3,∃H:NP,Has ρ [(1,(vp r1)),(6,(vi r6)),(12,(vi r12)),(112,(vb x3))]∧Hst w0 H w H w∧HB H w [(p1,(Aa aA aD aC aE aB),35)]∧m_E_j3 r1 r6 r12 x3 H w K) ?_ ?_))
 rintro ρ w ⟨x3,H,hH,hs,hb,h⟩
 refine jX hH (q (jP 6 (fun ρ w=>∃x4,∃H:NP,Has ρ [(1,(vp r1)),(12,(vi r12)),(119,(vb x4))]∧Hst w0 H w H w∧HB H w [(p1,(Aa aA aD aC aE aB),35)]∧m_E_j4 r1 r12 x4 H w K) ?_ ?_))
 rintro ρ w ⟨x4,H,hH,hs,hb,h⟩
 refine jX hH (q ?_)
 obtain ⟨hg13,h⟩|⟨hg13,h⟩:=h.br
 refine qk 120 hg13 (qk 120 hg13 (uL (O:=(.cells #[(vi r12)] 78)) (fun p=>(Sl.mk (some p) 1 1).v) (wy 120 hg13) (zO (vs:=#[(0,(vi r12))]) (by kernel_rfl) (by kernel_rfl)) ?_))
 intro p2 w24 hn3
 have h:=h p2 w24 hn3
 obtain ⟨hs,hb⟩:=hs.nw hb hn3
 refine zC (wy 120 hg13) (xc call26) (h.mono ?_)
 rintro e w25 ⟨r15,rfl,hk,h⟩
 refine ⟨_,rfl,?_⟩
 obtain ⟨hs,hb⟩:=hk.hh hs hb
 refine qk 120 hg13 (qk 120 hg13 (q2 (vb (((r15.len:Int):Int) == 3)) (xT hg13) (q (ln (er (rs1 results24 ⟨(((r15.len:Int):Int) == 3),rfl,h⟩))))))
 refine sj 120 hg13 (sj5 120 hg13 (q2 (vb false) (xF hg13) (q (ln (er (rs1 results24 ⟨false,rfl,h⟩))))))
 obtain ⟨hg14,h⟩|⟨hg14,h⟩:=h.br
 refine qk 113 hg14 (qk 113 hg14 (zC (wy 113 hg14) (xc call34) (h.mono ?_)))
 rintro e w26 ⟨r16,rfl,hk,h⟩
 refine ⟨_,rfl,?_⟩
 obtain ⟨hs,hb⟩:=hk.hh hs hb
 refine qk 113 hg14 (qk 113 hg14 (q2 (vb (((r16.len:Int):Int) == 3)) (xT hg14) (jD ⟨(((r16.len:Int):Int) == 3),H,hm,hs,hb,h⟩)))
 refine sj5 113 hg14 (q2 (vb false) (xF hg14) (jD ⟨false,H,hm,hs,hb,h⟩))
 obtain ⟨hg15,h⟩|⟨hg15,h⟩:=h.br
 refine qk 107 hg15 (qk 107 hg15 (zC (wy 107 hg15) (xc call35) (h.mono ?_)))
 rintro e w27 ⟨r17,rfl,hk,h⟩
 refine ⟨_,rfl,?_⟩
 obtain ⟨hs,hb⟩:=hk.hh hs hb
 refine qk 107 hg15 (q2 (vb (r17 == 2)) (xT hg15) (jD ⟨(r17 == 2),H,hm,hs,hb,h⟩))
 refine sj4 107 hg15 (q2 (vb false) (xF hg15) (jD ⟨false,H,hm,hs,hb,h⟩))
 obtain ⟨hg16,h⟩|⟨hg16,h⟩:=h.br
 refine qk 101 hg16 (qk 101 hg16 (zC (wy 101 hg16) (xc call45) (h.mono ?_)))
 rintro e w28 ⟨r18,rfl,hk,h⟩
 refine ⟨_,rfl,?_⟩
 obtain ⟨hs,hb⟩:=hk.hh hs hb
 refine qk 101 hg16 (q2 (vb (!r18)) (xT hg16) (jD ⟨(!r18),H,hm,hs,hb,h⟩))
 refine sj4 101 hg16 (q2 (vb false) (xF hg16) (jD ⟨false,H,hm,hs,hb,h⟩))
 obtain ⟨hg17,h⟩|⟨hg17,h⟩:=h.br
 refine qk 96 hg17 (qk 96 hg17 ?_)
 have ⟨h,hs⟩:=hs.hr (h H7 w23)
 refine zC (wy 96 hg17) (xc call45) (h.mono ?_)
 rintro e w29 ⟨r19,rfl,hk,h⟩
 refine ⟨_,rfl,?_⟩
 obtain ⟨hs,hb⟩:=hk.hh hs hb
 refine q2 (vb r19) (xT hg17) (jD ⟨r19,H7,hm,hs,hb,h⟩)
 refine sj3 96 hg17 (q2 (vb false) (xF hg17) (jD ?_))
 have ⟨h,hs⟩:=hs.hr (h H7 w23)
 exact ⟨false,H7,hm,hs,hb,h⟩
 rcases bte ((y1 && r14) && (aA == 4)) with hg12 | hg12
 refine qk 91 hg12 (q4 91 hg12 (xl (isAgg3 _) (hb.d 0 1 gZ)) (qk 91 hg12 (q2 (vb (aD == 1)) (xT hg12) (jD ⟨true,_,hg12,hs,hb,hm⟩))))
 refine sj3 91 hg12 (q2 (vb false) (xF hg12) (jD ⟨false,_,hg12,hs,hb,hm⟩))
 rcases bte (y1 && r14) with hg10 | hg10
 refine qk 86 hg10 (q4 86 hg10 (xl (isAgg3 _) (hb.d0 0 gZ)) (qk 86 hg10 (q2 (vb (aA == 4)) (xT hg10) (jD ⟨true,_,hg10,hs,hb,hm⟩))))
 refine sj3 86 hg10 (q2 (vb false) (xF hg10) (jD ⟨false,_,hg10,hs,hb,hm⟩))
 rcases bte y1 with hg8 | hg8
 refine qk 83 hg8 (q2 (vb r14) (xT hg8) (jD ⟨true,_,hg8,hs,hb,hm⟩))
 refine sj 83 hg8 (q2 (vb false) (xF hg8) (jD ⟨false,_,hg8,hs,hb,hm⟩))
 rcases bte (((r7 == 0) && (r9 == 122)) && (r11 == 120)) with hg6 | hg6
 refine qk 78 hg6 (zC (wy 78 hg6) (xc call36) ((p_B1 r13 w16).mono ?_))
 rintro e w20 ⟨he,hE⟩
 refine ⟨_,he,?_⟩
 obtain ⟨hs,hb⟩:=hs.pp hb hE
 refine qk 78 hg6 (q2 (vb (r13 == 0)) (xT hg6) (jD ⟨true,_,_,hg6,rfl,hs,hb,hm⟩))
 refine sj3 78 hg6 (q2 (vb false) (xF hg6) (jD ⟨false,_,_,hg6,rfl,hs,hb,hm⟩))
 rcases bte ((r7 == 0) && (r9 == 122)) with hg4 | hg4
 refine qk 73 hg4 (zC (wy 73 hg4) (xc call36) ((p_B1 r11 w13).mono ?_))
 rintro e w17 ⟨he,hE⟩
 refine ⟨_,he,?_⟩
 obtain ⟨hs,hb⟩:=hs.pp hb hE
 refine qk 73 hg4 (q2 (vb (r11 == 120)) (xT hg4) (jD ⟨true,_,hg4,hs,hb,hm⟩))
 refine sj3 73 hg4 (q2 (vb false) (xF hg4) (jD ⟨false,_,hg4,hs,hb,hm⟩))
 rcases bte (r7 == 0) with hg2 | hg2
 refine qk 68 hg2 (zC (wy 68 hg2) (xc call36) ((p_B1 r9 w11).mono ?_))
 rintro e w14 ⟨he,hE⟩
 refine ⟨_,he,?_⟩
 obtain ⟨hs,hb⟩:=hs.pp hb hE
 refine qk 68 hg2 (q2 (vb (r9 == 122)) (xT hg2) (jD ⟨true,_,hg2,hs,hb,hm⟩))
 refine sj3 68 hg2 (q2 (vb false) (xF hg2) (jD ⟨false,_,hg2,hs,hb,hm⟩))
def m_E2 (aM aN aO:Int) (aU:ByteArray) (aP aQ aR:Int) (aV:ByteArray) (w0:World) (K:Int→WP):Prop :=∀H2 w2,Hst w0 None w0 H2 w2→∃C1:WP,C1 w2.drew∧∀w3,w3=w2.drew→Calls prog 84 #[(vu aO),(vu aR)] w3 (fun e w4=>∃r1,e=.returned (vi r1)∧C1 w4∧Kept H2 w3 w4∧Calls prog 85 #[(vi aM),(vi aP)] w4 (fun e w5=>∃r2,e=.returned (vi r2)∧C1 w5∧Kept H2 w4 w5∧Calls prog 85 #[(vi aN),(vi aQ)] w5 (fun e w6=>∃r3,e=.returned (vi r3)∧C1 w6∧Kept H2 w5 w6∧Calls prog 86 #[(vs aU),(vs aV)] w6 (fun e w7=>∃r4,e=.returned (vi r4)∧C1 w7∧Kept H2 w6 w7∧∀p3 w8,New w7 (.cells #[(vi r1),(vi r2),(vi r3),(vi r4)] 3) p3 w8→C1 w8∧Calls prog 83 #[(Sl.mk (some p3) 4 4).v] w8 (fun e w9=>∃r5,e=.returned (vi r5)∧C1 w9∧Kept H2 w8 w9∧K r5 w9)))))
theorem w_E2 (aM aN aO aU aP aQ aR aV w0 K) (h:m_E2 aM aN aO aU aP aQ aR aV w0 K):
  Calls prog 28 #[(.agg #[(vi aM),(vi aN),(vu aO),(vs aU)]),(.agg #[(vi aP),(vi aQ),(vu aR),(vs aV)])] w0 (fun e w'=>∃r6,e=.returned (vi r6)∧K r6 w'):=by
 refine cw (args:=[(Ag aM aN aO aU),(Ag aP aQ aR aV)]) func28 ntmps28 ?_
 obtain ⟨hs,hb⟩:=st0 w0
 refine eg (nw3 (Af aM aN aO aU) 75 hs hb xb fun p1 w1 H1 hs hb=>nw3 (Af aP aQ aR aV) 75 hs hb xb fun p2 w2 H2 hs hb=>q (ln (jA ?_)))
 have ⟨h,hs⟩:=hs.hr (h H2 w2)
 obtain ⟨C1,hC,h⟩:=h
 refine dr2 (fun x=>C1 x∧HB H2 x _) [4,9,14,19,20,21] [] ⟨hC,hb.drew⟩ h hs hb fun w3 hs hb h=>?_
 have hs:=hs.here
 refine qx 0 (vp (some (p1.add 2))) Kp0 (qz 1 (vu aO) Kp1 (fun w' hw'=>(xl (isAgg23 _) (hw'.2.cell 1 2 (gS gZ) (by kernel_rfl)))) (qx 2 (vp (some (p2.add 2))) Kp2 (qz 3 (vu aR) Kp3 (fun w' hw'=>(xl (isAgg23 _) (hw'.2.cell 0 2 gZ (by kernel_rfl)))) (qx 5 (vp (some p1)) Kp5 (qz 6 (vi aM) Kp6 (fun w' hw'=>(xl (isAgg3 _) (hw'.2.cell0 1 (gS gZ) (by kernel_rfl)))) (qx 7 (vp (some p2)) Kp7 (qz 8 (vi aP) Kp8 (fun w' hw'=>(xl (isAgg3 _) (hw'.2.cell0 0 gZ (by kernel_rfl)))) (qx 10 (vp (some (p1.add 1))) (jJ (S8 (jC (jC jI)))) (qz 11 (vi aN) (jJ (S8 (jC (jC (jC jI))))) (fun w' hw'=>(xl (isAgg3 _) (hw'.2.cell 1 1 (gS gZ) (by kernel_rfl)))) (qx 12 (vp (some (p2.add 1))) (jJ (S8 (S4 jI))) (qz 13 (vi aQ) (jJ (S8 (S4 (jC jI)))) (fun w' hw'=>(xl (isAgg3 _) (hw'.2.cell 0 1 gZ (by kernel_rfl)))) (qx 15 (vp (some (p1.add 3))) (jJ (S8 (S4 (jC (jC (jC jI)))))) (qz 16 (vs aU) (jJ (S8 (S8 jI))) (fun w' hw'=>(xl (isAgg9 _) (hw'.2.cell 1 3 (gS gZ) (by kernel_rfl)))) (qx 17 (vp (some (p2.add 3))) (jJ (S8 (S8 (jC jI)))) (qz 18 (vs aV) (jJ (S8 (S8 (jC (jC jI))))) (fun w' hw'=>(xl (isAgg9 _) (hw'.2.cell 0 3 gZ (by kernel_rfl)))) (lg 4 ?_))))))))))))))))
 refine slc Kp4 call84 (h.mono ?_)
 rintro e w4 ⟨r1,rfl,hC,hk,h⟩
 refine ⟨_,rfl,.inr ⟨hC,hb.kept hk⟩,?_⟩
 obtain ⟨hs,hb⟩:=hk.hh hs hb
 refine lg 9 (slc Kp9 call85 (h.mono ?_))
 rintro e w5 ⟨r2,rfl,hC,hk,h⟩
 refine ⟨_,rfl,.inr ⟨hC,hb.kept hk⟩,?_⟩
 obtain ⟨hs,hb⟩:=hk.hh hs hb
 refine lg 14 (slc (jJ (S8 (S4 (jC (jC jI))))) call85 (h.mono ?_))
 rintro e w6 ⟨r3,rfl,hC,hk,h⟩
 refine ⟨_,rfl,.inr ⟨hC,hb.kept hk⟩,?_⟩
 obtain ⟨hs,hb⟩:=hk.hh hs hb
 refine lg 19 (slc (jJ (S8 (S8 (jC (jC (jC jI)))))) call86 (h.mono ?_))
 rintro e w7 ⟨r4,rfl,hC,hk,h⟩
 refine ⟨_,rfl,.inr ⟨hC,hb.kept hk⟩,?_⟩
 obtain ⟨hs,hb⟩:=hk.hh hs hb
 refine lg 20 (zI (O:=(.cells #[(vi r1),(vi r2),(vi r3),(vi r4)] 3)) (fun p=>(Sl.mk (some p) 4 4).v) (jJ (S8 (S8 (S4 jI)))) (jL rfl) (by kernel_rfl) (zO (vs:=#[(0,(vi r1)),(1,(vi r2)),(2,(vi r3)),(3,(vi r4))]) (by kernel_rfl) (by kernel_rfl)) ?_)
 intro p3 w8 hn3
 have h:=h p3 w8 hn3
 refine ⟨.inr ⟨h.1,hb.kept (Ext.new (F:=None) hn3).keptP⟩,?_⟩
 have h:=h.2
 obtain ⟨hs,hb⟩:=hs.nw hb hn3
 refine lg 21 (slc (jJ (S8 (S8 (S4 (jC jI))))) call83 (h.mono ?_))
 rintro e w9 ⟨r5,rfl,hC,hk,h⟩
 refine ⟨_,rfl,.inr ⟨hC,hb.kept hk⟩,?_⟩
 obtain ⟨hs,hb⟩:=hk.hh hs hb
 refine qx 22 (vi r5) (jJ (S8 (S8 (S4 (jC (jC jI)))))) (wn (jK (er (rs1 results28 ⟨r5,rfl,h⟩))))
theorem qN (a0 a1 a2:Int) (a3:ByteArray) (b0 b1 b2:Int) (b3:ByteArray) (w:World):(Go.binOp .neq 75 (.agg #[(.int .i64 a0),(.int .i64 a1),(.int .u64 a2),(.string a3)]) (.agg #[(.int .i64 b0),(.int .i64 b1),(.int .u64 b2),(.string b3)])).run prog w=.ok (.bool (!((a0 == b0) && ((a1 == b1) && ((a2 == b2) && (decide (a3=b3))))))) w:=by
 simp [Go.binOp,Op.equal,Op.maxDepth,go_sem,tW,bne]
 repeat' split
 all_goals simp_all
def m_V_l1 (a1 b1:Sl) (i1:Int) (w0:World) (Hl1:NP) (wl1:World) (Kc1:Int→NP→WP) (K:Bool→WP):Prop :=Br (decide (i1<(a1.len:Int))) (∃a2:Addr,At a1 i1 4 a2∧∀w1,Hst w0 Hl1 wl1 Hl1 w1→∃aF aG aH aI,Row w1 a2 (Af aF aG aH aI)∧∃a3:Addr,At b1 i1 4 a3∧∃bG bH bI bJ,Row w1 a3 (Af bG bH bI bJ)∧Br (!((aF == bG) && ((aG == bH) && ((aH == bI) && (decide (aI=bJ)))))) (K false w1) (Kc1 (q6.wrap (i1+1)) Hl1 w1)) (K true wl1)
def m_V (a1 b1:Sl) (w0:World) (K:Bool→WP):Prop :=Br (((a1.len:Int):Int) != (b1.len:Int)) (K false w0) (∃(I1:Int→NP→WP) (mu1:Int→World→Nat),I1 0 None w0∧∀(i1:Int) (Hl1:NP) (wl1:World),Hst w0 Hl1 wl1 Hl1 wl1→I1 i1 Hl1 wl1→m_V_l1 a1 b1 i1 w0 Hl1 wl1 (fun y'0 H' w'=>I1 y'0 H' w'∧mu1 y'0 w'<mu1 i1 wl1) K)
theorem w_V (a1 b1 w0 K) (h:m_V a1 b1 w0 K):
  Calls prog 30 #[a1.v,b1.v] w0 (fun e w'=>∃r1,e=.returned (vb r1)∧K r1 w'):=by
 refine cw (args:=[a1.v,b1.v]) func30 ntmps30 ?_
 obtain ⟨hs,hb⟩:=st0 w0
 refine eg (q (ln (jA (eg (qd (q (ln (cbr h ?_ ?_))))))))<;>intro h
 refine eg (q (ln (er (jY (rs1 results30 ⟨false,rfl,h⟩)))))
 refine jB (jK (jA (eg (q (ln (jH ?_))))))
 obtain ⟨I1,mu1,h0,hr⟩:=h
 refine zT (σ:=Int×NP×World) (fun s ρ w=>w=s.2.2∧Has ρ [(0,a1.v),(1,b1.v),(5,(vi s.1))]∧Hst w0 s.2.1 w s.2.1 w∧HB s.2.1 w []∧I1 s.1 s.2.1 s.2.2) (fun s=>mu1 s.1 s.2.2) (0,None,w0) ⟨rfl,hm,hs,hb,h0⟩ ?_
 rintro ⟨i1,Hl1,wl1⟩ ρ w ⟨hw,hH,hs,hb,hI⟩
 dsimp only at hw hH hs hb;subst w
 have h:=hr i1 Hl1 wl1 hs hI
 refine jQ hH (jA (eg (qd (ln (cbr h ?_ ?_)))))<;>intro h
 refine jB (jK (jA (jH (jA (qT (by kernel_rfl) (by kernel_rfl) (by kernel_rfl) (by kernel_rfl) ?_)))))
 intro w1 hw1
 have hs:Hst w0 Hl1 wl1 Hl1 w1:=by rw [hw1];exact hs.drew
 have hb:HB Hl1 w1 []:=by rw [hw1];exact hb.drew
 refine qq 0 a1.v Kp0 (qq 1 (vi i1) Kp1 (qg 2 ?_))
 obtain ⟨a2,hv4,h⟩:=h
 refine sxQ Kp2 (jL rfl) rfl (xi (runUnderlying71 _) (sizeOf75 _) hv4) (qg 3 ?_)
 have ⟨h,hs⟩:=hs.hr (h w1)
 obtain ⟨aF,aG,aH,aI,hv3,h⟩:=h
 refine sxQ (v:=(Ag aF aG aH aI)) Kp3 (jL rfl) rfl (xa a2 (Af aF aG aH aI) (isAgg75 _) (sizeOf75 _) hv3) (qq 4 b1.v Kp4 (qq 5 (vi i1) Kp5 (qg 6 ?_)))
 obtain ⟨a3,hv2,h⟩:=h
 refine sxQ Kp6 (jL rfl) rfl (xi (runUnderlying71 _) (sizeOf75 _) hv2) (qg 7 ?_)
 obtain ⟨bG,bH,bI,bJ,hv1,h⟩:=h
 refine sxQ (v:=(Ag bG bH bI bJ)) Kp7 (jL rfl) rfl (xa a3 (Af bG bH bI bJ) (isAgg75 _) (sizeOf75 _) hv1) (qr 8 (vb (!((aF == bG) && ((aG == bH) && ((aH == bI) && (decide (aI=bJ))))))) Kp8 (xY (by kernel_rfl) (by kernel_rfl) (by kernel_rfl) (qN aF aG aH aI bG bH bI bJ _)) (wn (jK (cbr h ?_ ?_))))<;>intro h
 refine eg (q (ln (er (vB (jY (jY (vB (jY (rs1 results30 ⟨false,rfl,h⟩)))))))))
 refine jB (vS (jK (rg (qc (ln ⟨((q6.wrap (i1+1)),Hl1,w1),⟨rfl,hm,hs,hb,h.1⟩,h.2⟩)))))
 refine zL (qL (qL (qI (jK (eg (q0 (vb true) (ln (er (rs1 results30 ⟨true,rfl,h⟩)))))))))
def s_C1 (less1:Bool):Int :=(cond less1 (-1) 1)
theorem pw_C1 (less1:Bool) (w0:World) :
  Calls prog 96 #[(vb less1)] w0 (fun e w'=>∃b'0:Bool,(less1=b'0)∧(e=.returned (vi (cond b'0 (-1) 1)))∧Pure w0 w'):=by
 refine cw (args:=[(vb less1)]) func96 ntmps96 (eg (q0 (vi 0) (ln (jA (eg (q0 (vb less1) (ln ?_)))))))
 refine zQ (t:=less1) (by kernel_rfl) (fun hc1=>?_) (fun hc1=>?_)
 refine eg (q (ln (er (jY (rs1 results96 (v:=(vi (-1))) ⟨true,hc1,by kernel_rfl,Ext.refl _⟩)))))
 refine jB (jK (eg (q (ln (er (rs1 results96 (v:=(vi 1)) ⟨false,hc1,by kernel_rfl,Ext.refl _⟩))))))
theorem p_C1 (less1:Bool) (w0:World):Calls prog 96 #[(.bool less1)] w0 (fun e w'=>e=.returned (.int .i64 (s_C1 less1))∧Pure w0 w'):=by
 refine (pw_C1 less1 w0).mono ?_;rintro e w' ⟨b'0,e0,h,E⟩;subst e0;exact ⟨h,E⟩
def m_F2 (aM aN aO:Int) (aU:ByteArray) (aP aQ aR:Int) (aV:ByteArray) (w0:World) (K:Int→WP):Prop :=Br (aO != aR) (∀H2 w3,Hst w0 None w0 H2 w3→K (cond (decide (aO<aR)) (-1) 1) w3) (Br (aM != aP) (∀H2 w4,Hst w0 None w0 H2 w4→K (cond (decide (aM<aP)) (-1) 1) w4) (Br (aN != aQ) (∀H2 w5,Hst w0 None w0 H2 w5→K (cond (decide (aN<aQ)) (-1) 1) w5) (Br (!(decide (aU=aV))) (∀H2 w2,Hst w0 None w0 H2 w2→∃b1,(Go.binOp .lss 9 (vs aU) (vs aV)).run prog w2=.ok (vb b1) w2∧∀w6,Hst w0 H2 w2 H2 w6→K (cond b1 (-1) 1) w6) (∀H2 w2,Hst w0 None w0 H2 w2→K 0 w2))))
theorem w_F2 (aM aN aO aU aP aQ aR aV w0 K) (h:m_F2 aM aN aO aU aP aQ aR aV w0 K):
  Calls prog 39 #[(.agg #[(vi aM),(vi aN),(vu aO),(vs aU)]),(.agg #[(vi aP),(vi aQ),(vu aR),(vs aV)])] w0 (fun e w'=>∃r1,e=.returned (vi r1)∧K r1 w'):=by
 refine cw (args:=[(Ag aM aN aO aU),(Ag aP aQ aR aV)]) func39 ntmps39 ?_
 obtain ⟨hs,hb⟩:=st0 w0
 refine eg (nw3 (Af aM aN aO aU) 75 hs hb xb fun p1 w1 H1 hs hb=>nw3 (Af aP aQ aR aV) 75 hs hb xb fun p2 w2 H2 hs hb=>q (ln (jA (jH (eg (q (q3 (xl (isAgg23 _) (hb.d 1 2 (gS gZ))) (q (q3 (xl (isAgg23 _) (hb.d 0 2 gZ)) (q (q (ln (cbr h ?_ ?_)))))))))))))<;>intro h
 refine eg (q (q3 (xl (isAgg23 _) (hb.d 1 2 (gS gZ))) (q (q3 (xl (isAgg23 _) (hb.d 0 2 gZ)) (q (sc call96 ((p_C1 (decide (aO<aR)) w2).mono ?_)))))))
 rintro e w3 ⟨he,hE⟩
 refine ⟨_,he,?_⟩
 obtain ⟨hs,hb⟩:=hs.pp hb hE
 refine q (ln (er (vB (jY ?_))))
 have ⟨h,hs⟩:=hs.hr (h H2 w3)
 refine rs1 results39 ⟨(cond (decide (aO<aR)) (-1) 1),rfl,h⟩
 refine eg (q (q3 (xl (isAgg3 _) (hb.d0 1 (gS gZ))) (q (q3 (xl (isAgg3 _) (hb.d0 0 gZ)) (qb (ln (cbr h ?_ ?_)))))))<;>intro h
 refine eg (q (q3 (xl (isAgg3 _) (hb.d0 1 (gS gZ))) (q (q3 (xl (isAgg3 _) (hb.d0 0 gZ)) (q (sc call96 ((p_C1 (decide (aM<aP)) w2).mono ?_)))))))
 rintro e w4 ⟨he,hE⟩
 refine ⟨_,he,?_⟩
 obtain ⟨hs,hb⟩:=hs.pp hb hE
 refine q (ln (er (vB (jY ?_))))
 have ⟨h,hs⟩:=hs.hr (h H2 w4)
 refine rs1 results39 ⟨(cond (decide (aM<aP)) (-1) 1),rfl,h⟩
 refine eg (q (q3 (xl (isAgg3 _) (hb.d 1 1 (gS gZ))) (q (q3 (xl (isAgg3 _) (hb.d 0 1 gZ)) (qb (ln (cbr h ?_ ?_)))))))<;>intro h
 refine eg (q (q3 (xl (isAgg3 _) (hb.d 1 1 (gS gZ))) (q (q3 (xl (isAgg3 _) (hb.d 0 1 gZ)) (q (sc call96 ((p_C1 (decide (aN<aQ)) w2).mono ?_)))))))
 rintro e w5 ⟨he,hE⟩
 refine ⟨_,he,?_⟩
 obtain ⟨hs,hb⟩:=hs.pp hb hE
 refine q (ln (er (vB (jY ?_))))
 have ⟨h,hs⟩:=hs.hr (h H2 w5)
 refine rs1 results39 ⟨(cond (decide (aN<aQ)) (-1) 1),rfl,h⟩
 refine eg (q (q3 (xl (isAgg9 _) (hb.d 1 3 (gS gZ))) (q (q3 (xl (isAgg9 _) (hb.d 0 3 gZ)) (q2 (vb (!(decide (aU=aV)))) (vK (by kernel_rfl) (by kernel_rfl)) (q (ln (cbr h ?_ ?_))))))))<;>intro h
 refine eg (q (q3 (xl (isAgg9 _) (hb.d 1 3 (gS gZ))) (q (q3 (xl (isAgg9 _) (hb.d 0 3 gZ)) ?_))))
 have ⟨h,hs⟩:=hs.hr (h H2 w2)
 obtain ⟨b1,hv1,h⟩:=h
 refine q2 (vb b1) (jFO (by kernel_rfl) (by kernel_rfl) (by kernel_rfl) hv1) (sc call96 ((p_C1 b1 w2).mono ?_))
 rintro e w6 ⟨he,hE⟩
 refine ⟨_,he,?_⟩
 obtain ⟨hs,hb⟩:=hs.pp hb hE
 refine q (ln (er (vB (jY ?_))))
 have ⟨h,hs⟩:=hs.hr (h w6)
 refine rs1 results39 ⟨(cond b1 (-1) 1),rfl,h⟩
 refine jB (vS (jK (eg (q (ln (er ?_))))))
 have ⟨h,hs⟩:=hs.hr (h H2 w2)
 refine rs1 results39 ⟨0,rfl,h⟩
def m_W_l1 (l1:Sl) (who1:Int) (out1:Sl) (x1:Int) (w0:World) (Hl1:NP) (wl1:World) (Kc1:Sl→Int→NP→WP) (K:Sl→WP):Prop :=Br (decide (x1<(l1.len:Int))) (∃a1:Addr,At l1 x1 4 a1∧∃aF aG aH aI,Row wl1 a1 (Af aF aG aH aI)∧Br ((aF == 2) && (aG == who1)) (∀H2 w3,Hst w0 Hl1 wl1 H2 w3→∀p2 w4,New w3 (.cells #[(vi aF),(vi aG),(vu aH),(vs aI)] 75) p2 w4→∃s1:Sl,∃w5:World,(Builtin.append_ #[71,71] 71 #[out1.v,(Sl.mk (some p2) 1 1).v]).run prog w4=.ok s1.v w5∧Kept H2 w4 w5∧Kc1 s1 (q6.wrap (x1+1)) H2 w5) (∀H2 w3,Hst w0 Hl1 wl1 H2 w3→Kc1 out1 (q6.wrap (x1+1)) H2 w3)) (K out1 wl1)
def m_W (l1:Sl) (who1:Int) (w0:World) (K:Sl→WP):Prop :=∃(I1:Sl→Int→NP→WP) (mu1:Sl→Int→World→Nat),I1 Sl.nil 0 None w0∧∀(out1:Sl) (x1:Int) (Hl1:NP) (wl1:World),Hst w0 Hl1 wl1 Hl1 wl1→I1 out1 x1 Hl1 wl1→m_W_l1 l1 who1 out1 x1 w0 Hl1 wl1 (fun y'0 y'1 H' w'=>I1 y'0 y'1 H' w'∧mu1 y'0 y'1 w'<mu1 out1 x1 wl1) K
theorem w_W (l1 who1 w0 K) (h:m_W l1 who1 w0 K):
  Calls prog 40 #[l1.v,(vi who1)] w0 (fun e w'=>∃r1:Sl,e=.returned r1.v∧K r1 w'):=by
 refine cw (args:=[l1.v,(vi who1)]) func40 ntmps40 ?_
 obtain ⟨hs,hb⟩:=st0 w0
 refine eg (q (ln (eg (q (ln (jA (jA (rg (qc (ln (jH ?_)))))))))))
 obtain ⟨I1,mu1,h0,hr⟩:=h
 refine zT (σ:=Sl×Int×NP×World) (fun s ρ w=>w=s.2.2.2∧Has ρ [(1,(vi who1)),(5,s.1.v),(8,l1.v),(9,(vi (l1.len:Int))),(10,(vi s.2.1))]∧Hst w0 s.2.2.1 w s.2.2.1 w∧HB s.2.2.1 w []∧I1 s.1 s.2.1 s.2.2.1 s.2.2.2) (fun s=>mu1 s.1 s.2.1 s.2.2.2) (Sl.nil,0,None,w0) ⟨rfl,hm,hs,hb,h0⟩ ?_
 rintro ⟨out1,x1,Hl1,wl1⟩ ρ w ⟨hw,hH,hs,hb,hI⟩
 dsimp only at hw hH hs hb;subst w
 have h:=hr out1 x1 Hl1 wl1 hs hI
 refine jQ hH (eg (q (ln (jA (cbr h ?_ ?_)))))<;>intro h
 refine jB (jK (jA (jH (eg (qi (runUnderlying71 _) (sizeOf75 _) h fun a1 h=>?_)))))
 obtain ⟨aF,aG,aH,aI,hv2,h⟩:=h
 refine qa (isAgg75 _) (sizeOf75 _) hv2 (nw3 [(vi 0),(vi 0),(vu 0),ve] 75 hs hb (jE (zeroValue75 _) rfl) fun p1 w1 H1 hs hb=>sbx 0 (Af aF aG aH aI) (sizeOf75 _) hs hb gZ fun w2 hs hb=>ln (jA (vQ (fun ρ wJ=>∃b1'0:Bool,∃HJ:NP,((aF == 2)=b1'0)∧Hst w0 Hl1 wl1 HJ wJ∧HB HJ wJ [(p1,(Af aF aG aH aI),75)]∧Has ρ [(1,(vi who1)),(5,out1.v),(7,(vp (some p1))),(8,l1.v),(9,(vi (l1.len:Int))),(10,(vi x1)),(22,(vb (b1'0 && (aG == who1))))]) ?_ ?_)))
 refine rg (q (q3 (xl (isAgg3 _) (hb.d0 0 gZ)) (qb ?_)))
 rcases bte (aF == 2) with hg2 | hg2
 refine qk 17 hg2 (q4 17 hg2 (xl (isAgg3 _) (hb.d 0 1 gZ)) (qk 17 hg2 (qk 17 hg2 (q2 (vb (aG == who1)) (xT hg2) (ln ⟨true,_,hg2,hs,hb,hm⟩)))))
 refine sj4 17 hg2 (q2 (vb false) (xF hg2) (ln ⟨false,_,hg2,hs,hb,hm⟩))
 rintro ρ w3 ⟨b1'0,H2,he0,hs,hb,hH⟩
 subst he0
 refine kO hH (jK (cbr h ?_ ?_))<;>intro h
 refine rg (q (q2 (Ag aF aG aH aI) (xa p1 (Af aF aG aH aI) (isAgg75 _) (sizeOf75 _) (hb.r0 0 4 gZ)) ?_))
 have ⟨h,hs⟩:=hs.hr (h H2 w3)
 refine nw5 (fun p=>(Sl.mk (some p) 1 1).v) hs hb h fun p2 w4 hs hb h=>?_
 obtain ⟨s1,w5,hv1,hk,h⟩:=h
 refine st (v:=s1.v) (jL rfl) (zD (args:=#[out1.v,(Sl.mk (some p2) 1 1).v]) (by kernel_rfl) (fun _=>rfl) hv1) ?_
 obtain ⟨hs,hb⟩:=hk.hh hs hb
 refine q (jD (vS (jK (rg (qb (ln ⟨(s1,(q6.wrap (x1+1)),H2,w5),⟨rfl,hm,hs,hb.drop 1,h.1⟩,h.2⟩))))))
 refine jB (vS (jK (rg (qb (jD ?_)))))
 have ⟨h,hs⟩:=hs.hr (h H2 w3)
 refine jK ⟨(out1,(q6.wrap (x1+1)),H2,w3),⟨rfl,hm,hs,hb.drop 1,h.1⟩,h.2⟩
 refine zL (qL (qL (qI (jK (eg (q0 out1.v (q0 out1.v (ln (er (rs1 results40 ⟨out1,rfl,h⟩))))))))))
def m_X_l1 (l1:Sl) (who1:Int) (out1:Sl) (i1:Int) (wl1:World) (Kc1:Sl→Int→WP) (K:Sl→WP):Prop :=Br (decide (i1<(l1.len:Int))) (∃a1:Addr,At l1 i1 4 a1∧∃v1,wl1.cell? a1=some (vi v1)∧Br (v1 == 2) (∃a2:Addr,At l1 i1 4 a2∧∃v2,wl1.cell? (a2.add 1)=some (vi v2)∧Br (v2 == who1) (∃a3:Addr,At l1 i1 4 a3∧∃aF aG aH aI,Row wl1 a3 (Af aF aG aH aI)∧∀p1 w1,New wl1 (.cells #[(vi aF),(vi aG),(vu aH),(vs aI)] 75) p1 w1→∃s1:Sl,∃w2:World,(Builtin.append_ #[71,71] 71 #[out1.v,(Sl.mk (some p1) 1 1).v]).run prog w1=.ok s1.v w2∧Kc1 s1 (q6.wrap (i1+1)) w2) (Kc1 out1 (q6.wrap (i1+1)) wl1)) (Kc1 out1 (q6.wrap (i1+1)) wl1)) (K out1 wl1)
def m_X (l1:Sl) (who1:Int) (w0:World) (K:Sl→WP):Prop :=∃(I1:Sl→Int→WP) (mu1:Sl→Int→World→Nat),I1 Sl.nil 0 w0∧∀(out1:Sl) (i1:Int) (wl1:World),I1 out1 i1 wl1→m_X_l1 l1 who1 out1 i1 wl1 (fun y'0 y'1 w'=>I1 y'0 y'1 w'∧mu1 y'0 y'1 w'<mu1 out1 i1 wl1) K
theorem w_X (l1 who1 w0 K) (h:m_X l1 who1 w0 K):
  Calls prog 41 #[l1.v,(vi who1)] w0 (fun e w'=>∃r1:Sl,e=.returned r1.v∧K r1 w'):=by
 refine cw (args:=[l1.v,(vi who1)]) func41 ntmps41 (eg (q0 Sl.nil.v (ln (eg (q0 Sl.nil.v (ln (jA ?_)))))))
 refine eg (q (ln (jH ?_)))
 obtain ⟨I1,mu1,h0,hr⟩:=h
 refine zT (σ:=Sl×Int×World) (fun s ρ w=>w=s.2.2∧Has ρ [(0,l1.v),(1,(vi who1)),(5,s.1.v),(6,(vi s.2.1))]∧I1 s.1 s.2.1 s.2.2) (fun s=>mu1 s.1 s.2.1 s.2.2) (Sl.nil,0,w0) ⟨rfl,hm,h0⟩ ?_
 rintro ⟨out1,i1,wl1⟩ ρ w ⟨hw,hH,hI⟩
 dsimp only at hw hH;subst w
 have h:=hr out1 i1 wl1 hI
 refine jQ hH (jA (eg (qd (ln (cbr h ?_ ?_)))))<;>intro h
 refine jB (jK (jA (jH (eg (qb (qi (runUnderlying71 _) (sizeOf75 _) h fun a1 h=>q (ql (isAgg3 _) h fun v1 h=>qb ?_)))))))
 obtain ⟨hg1,h⟩|⟨hg1,h⟩:=h.br
 refine qk 19 hg1 (qk 19 hg1 ?_)
 obtain ⟨a2,hv5,h⟩:=h
 refine q4 19 hg1 (xi (runUnderlying71 _) (sizeOf75 _) hv5) (qk 19 hg1 ?_)
 obtain ⟨v2,hv4,h⟩:=h
 refine q4 19 hg1 (xl (isAgg3 _) hv4) (qk 19 hg1 (qk 19 hg1 (q2 (vb (v2 == who1)) (xT hg1) (ln (cbr h ?_ ?_)))))<;>intro h
 refine rg (qc (qi (runUnderlying71 _) (sizeOf75 _) h fun a3 h=>?_))
 obtain ⟨aF,aG,aH,aI,hv2,h⟩:=h
 refine qa (isAgg75 _) (sizeOf75 _) hv2 (nw4 (fun p=>(Sl.mk (some p) 1 1).v) h fun p1 w1 h=>?_)
 obtain ⟨s1,w2,hv1,h⟩:=h
 refine st (v:=s1.v) (jL rfl) (zD (args:=#[out1.v,(Sl.mk (some p1) 1 1).v]) (by kernel_rfl) (fun _=>rfl) hv1) (q0 s1.v (jD (vS (jK (rg (q0 (vi i1) (q0 (vi (q6.wrap (i1+1))) (q0 (vi (q6.wrap (i1+1))) (ln ⟨(s1,(q6.wrap (i1+1)),w2),⟨rfl,hm,h.1⟩,h.2⟩)))))))))
 refine jB (vS (jK (rg (qc (ln ⟨(out1,(q6.wrap (i1+1)),wl1),⟨rfl,hm,h.1⟩,h.2⟩)))))
 refine sj2 19 hg1 (sj5 19 hg1 (q2 (vb false) (xF hg1) (ln (kR (by kernel_rfl) (jB (vS (jK (rg (qc (ln ⟨(out1,(q6.wrap (i1+1)),wl1),⟨rfl,hm,h.1⟩,h.2⟩))))))))))
 refine zL (qL (qL (qI (jK (eg (q0 out1.v (q0 out1.v (ln (er (rs1 results41 ⟨out1,rfl,h⟩))))))))))
def m_H_j2 (a1 a2:Addr) (l1:Sl) (who1:Int) (x1:Bool) (H:NP) (w:World) (K:Bool→WP):Prop :=Br x1 (Calls prog 24 #[] w (fun e w2=>∃r1,e=.returned (vb r1)∧Kept H w w2∧K r1 w2)) (∃C1:WP,C1 w.drew∧∀w3,w3=w.drew→∃aF aG aH aI,Row w3 a1 (Af aF aG aH aI)∧∃bG bH bI bJ,Row w3 a2 (Af bG bH bI bJ)∧∃cX cY cZ dA,(∀w',C1 w'→Row w' a1 (Af cX cY cZ dA))∧∃dB dC dD dE,(∀w',C1 w'→Row w' a2 (Af dB dC dD dE))∧Calls prog 28 #[(.agg #[(vi aF),(vi aG),(vu aH),(vs aI)]),(.agg #[(vi bG),(vi bH),(vu bI),(vs bJ)])] w3 (fun e w4=>∃r2,e=.returned (vi r2)∧C1 w4∧Kept H w3 w4∧Calls prog 39 #[(.agg #[(vi cX),(vi cY),(vu cZ),(vs dA)]),(.agg #[(vi dB),(vi dC),(vu dD),(vs dE)])] w4 (fun e w5=>∃r3,e=.returned (vi r3)∧C1 w5∧Kept H w4 w5∧Br (r2 == r3) (∃dF dG dH dI,(∀w',C1 w'→Row w' a2 (Af dF dG dH dI))∧∃dJ dK dL dM,(∀w',C1 w'→Row w' a1 (Af dJ dK dL dM))∧∃dN dO dP dQ,(∀w',C1 w'→Row w' a1 (Af dN dO dP dQ))∧∃dR dS dT dU,(∀w',C1 w'→Row w' a2 (Af dR dS dT dU))∧Calls prog 28 #[(.agg #[(vi dF),(vi dG),(vu dH),(vs dI)]),(.agg #[(vi dJ),(vi dK),(vu dL),(vs dM)])] w5 (fun e w6=>∃r4,e=.returned (vi r4)∧C1 w6∧Kept H w5 w6∧Calls prog 39 #[(.agg #[(vi dN),(vi dO),(vu dP),(vs dQ)]),(.agg #[(vi dR),(vi dS),(vu dT),(vs dU)])] w6 (fun e w7=>∃r5,e=.returned (vi r5)∧C1 w7∧Kept H w6 w7∧Br (r4 == (q6.wrap (0 - r5))) (∀p2 w8,New w7 (.cells #[] 75) p2 w8→C1 w8∧∃s1:Sl,∃w9:World,(Builtin.append_ #[71,71] 71 #[(Sl.mk (some p2) 0 0).v,l1.v]).run prog w8=.ok s1.v w9∧C1 w9∧Kept H w8 w9∧Calls prog 40 #[s1.v,(vi who1)] w9 (fun e w10=>∃r6:Sl,e=.returned r6.v∧C1 w10∧Kept H w9 w10∧Calls prog 41 #[l1.v,(vi who1)] w10 (fun e w11=>∃r7:Sl,e=.returned r7.v∧C1 w11∧Kept H w10 w11∧Calls prog 30 #[r6.v,r7.v] w11 (fun e w12=>∃r8,e=.returned (vb r8)∧C1 w12∧Kept H w11 w12∧Br r8 (Calls prog 24 #[] w12 (fun e w13=>∃r9,e=.returned (vb r9)∧C1 w13∧Kept H w12 w13∧K r9 w13)) (K false w12))))) (K false w7)))) (K false w5))))
def m_H_j3 (a1 a2:Addr) (l1:Sl) (who1:Int) (x2:Bool) (w0:World) (H:NP) (w:World) (K:Bool→WP):Prop :=∀H2 w14,Hst w0 H w H2 w14→m_H_j2 a1 a2 l1 who1 (x2 || (decide ((l1.len:Int)>50))) H2 w14 K
def m_H_j1 (a1 a2:Addr) (l1:Sl) (who1:Int) (w0:World) (H:NP) (w:World) (K:Bool→WP):Prop :=∃v1,w.cell? (a1.add 3)=some (vs v1)∧Br (decide ((v1.size:Int)>4000)) (m_H_j3 a1 a2 l1 who1 true w0 H w K) (∃v2,w.cell? (a2.add 3)=some (vs v2)∧m_H_j3 a1 a2 l1 who1 (decide ((v2.size:Int)>4000)) w0 H w K)
def m_H (aY aZ bA:Int) (bB:ByteArray) (bC bD bE:Int) (bF:ByteArray) (aW:Sl) (aX:Int) (w0:World) (K:Bool→WP):Prop :=∀H1 w1,Hst w0 None w0 H1 w1→∃C2:WP,C2 w1.drew∧∀w15,w15=w1.drew→(∀p3 w16,New w15 (.cells #[(vi 0),(vi 0),(vu 0),ve] 75) p3 w16→C2 w16∧∀p4 w17,New w16 (.cells #[(vi 0),(vi 0),(vu 0),ve] 75) p4 w17→C2 w17∧(∀j,j<4→jW w17 (p3.add j))∧¬ H1 p3.block∧∀w18,w18=storeRow w17 p3 (Af aY aZ bA bB)→C2 w18∧(∀j,j<4→jW w18 (p4.add j))∧¬ H1 p4.block∧∀w19,w19=storeRow w18 p4 (Af bC bD bE bF)→C2 w19∧m_H_j1 p3 p4 aW aX w0 H1 w19 K)∧(∀p5 w20,New w15 (.cells #[(vi 0),(vi 0),(vu 0),ve] 75) p5 w20→C2 w20∧∀p6 w21,New w20 (.cells #[(vi 0),(vi 0),(vu 0),ve] 75) p6 w21→C2 w21∧(∀j,j<4→jW w21 (p6.add j))∧¬ H1 p6.block∧∀w22,w22=storeRow w21 p6 (Af aY aZ bA bB)→C2 w22∧(∀j,j<4→jW w22 (p5.add j))∧¬ H1 p5.block∧∀w23,w23=storeRow w22 p5 (Af bC bD bE bF)→C2 w23∧m_H_j1 p6 p5 aW aX w0 H1 w23 K)
theorem w_H (aY aZ bA bB bC bD bE bF aW aX w0 K) (h:m_H aY aZ bA bB bC bD bE bF aW aX w0 K):
  Calls prog 7 #[(.agg #[(vi aY),(vi aZ),(vu bA),(vs bB),(vi bC),(vi bD),(vu bE),(vs bF),aW.v,(vi aX)])] w0 (fun e w'=>∃r10,e=.returned (vb r10)∧K r10 w'):=by
 refine cw (args:=[(.agg #[(vi aY),(vi aZ),(vu bA),(vs bB),(vi bC),(vi bD),(vu bE),(vs bF),aW.v,(vi aX)])]) func7 ntmps7 ?_
 obtain ⟨hs,hb⟩:=st0 w0
 refine eg (nw3 (Al aY aZ bA bB bC bD bE bF aW aX) 91 hs hb xb fun p1 w1 H1 hs hb=>q (ln (jA (vF (fun ρ w=>∃a1 a2:Addr,∃l1:Sl,∃who1,∃H:NP,Has ρ [(3,(vp (some a1))),(4,(vp (some a2))),(5,l1.v),(6,(vi who1))]∧Hst w0 H w H w∧HB H w [(p1,(Al aY aZ bA bB bC bD bE bF aW aX),91)]∧m_H_j1 a1 a2 l1 who1 w0 H w K) ?_ ?_))))
 rintro ρ w ⟨a1,a2,l1,who1,H,hH,hs,hb,h⟩
 refine jQ hH (jA (jA (vF (fun ρ w=>∃x1,∃H:NP,Has ρ [(3,(vp (some a1))),(4,(vp (some a2))),(5,l1.v),(6,(vi who1)),(29,(vb x1))]∧Hst w0 H w H w∧HB H w [(p1,(Al aY aZ bA bB bC bD bE bF aW aX),91)]∧m_H_j2 a1 a2 l1 who1 x1 H w K) ?_ ?_)))
 rintro ρ w ⟨x1,H,hH,hs,hb,h⟩
 refine jQ hH (cbr h ?_ ?_)<;>intro h
 refine eg (sc call24 (h.mono fun e w2 ⟨r1,k,hk,h⟩=>have ⟨hs,hb⟩:=hk.hh hs hb;⟨_,k,?_⟩))
 refine q (ln (er (jY (rs1 results7 ⟨r1,rfl,h⟩))))
 refine jB (jK (jA ?_))
 obtain ⟨C1,hC,h⟩:=h
 refine dr2 (fun x=>C1 x∧HB H x _) [2,5,10,13,18,20,22,25,26,29] [] ⟨hC,hb.drew⟩ h hs hb fun w3 hs hb h=>?_
 have hs:=hs.here
 refine qg 0 ?_
 obtain ⟨aF,aG,aH,aI,hv9,h⟩:=h
 refine sye (v:=(Ag aF aG aH aI)) Kp0 (xa a1 (Af aF aG aH aI) (isAgg75 _) (sizeOf75 _) hv9) (qg 1 ?_)
 obtain ⟨bG,bH,bI,bJ,hv8,h⟩:=h
 refine sye (v:=(Ag bG bH bI bJ)) Kp1 (xa a2 (Af bG bH bI bJ) (isAgg75 _) (sizeOf75 _) hv8) (qg 3 ?_)
 obtain ⟨cX,cY,cZ,dA,hv7,h⟩:=h
 refine sy (v:=(Ag cX cY cZ dA)) Kp3 (fun w' hw'=>(xa a1 (Af cX cY cZ dA) (isAgg75 _) (sizeOf75 _) (hv7 w' hw'.1))) (qg 4 ?_)
 obtain ⟨dB,dC,dD,dE,hv6,h⟩:=h
 refine sy (v:=(Ag dB dC dD dE)) Kp4 (fun w' hw'=>(xa a2 (Af dB dC dD dE) (isAgg75 _) (sizeOf75 _) (hv6 w' hw'.1))) (lg 2 (slc Kp2 call28 (h.mono ?_)))
 rintro e w4 ⟨r2,rfl,hC,hk,h⟩
 refine ⟨_,rfl,.inr ⟨hC,hb.kept hk⟩,?_⟩
 obtain ⟨hs,hb⟩:=hk.hh hs hb
 refine lg 5 (slc Kp5 call39 (h.mono ?_))
 rintro e w5 ⟨r3,rfl,hC,hk,h⟩
 refine ⟨_,rfl,.inr ⟨hC,hb.kept hk⟩,?_⟩
 obtain ⟨hs,hb⟩:=hk.hh hs hb
 refine qx 6 (vb (r2 == r3)) Kp6 (qx 7 (vb (r2 == r3)) Kp7 (qg 8 ?_))
 obtain ⟨hg1,h⟩|⟨hg1,h⟩:=h.br
 obtain ⟨dF,dG,dH,dI,hv5,h⟩:=h
 refine sz (v:=(Ag dF dG dH dI)) Kp8 (wy 38 hg1) (fun w' hw'=>(xa a2 (Af dF dG dH dI) (isAgg75 _) (sizeOf75 _) (hv5 w' hw'.1))) (qg 9 ?_)
 obtain ⟨dJ,dK,dL,dM,hv4,h⟩:=h
 refine sz (v:=(Ag dJ dK dL dM)) Kp9 (wy 38 hg1) (fun w' hw'=>(xa a1 (Af dJ dK dL dM) (isAgg75 _) (sizeOf75 _) (hv4 w' hw'.1))) (qg 11 ?_)
 obtain ⟨dN,dO,dP,dQ,hv3,h⟩:=h
 refine sz (v:=(Ag dN dO dP dQ)) (jJ (S8 (jC (jC (jC jI))))) (wy 38 hg1) (fun w' hw'=>(xa a1 (Af dN dO dP dQ) (isAgg75 _) (sizeOf75 _) (hv3 w' hw'.1))) (qg 12 ?_)
 obtain ⟨dR,dS,dT,dU,hv2,h⟩:=h
 refine sz (v:=(Ag dR dS dT dU)) (jJ (S8 (S4 jI))) (wy 38 hg1) (fun w' hw'=>(xa a2 (Af dR dS dT dU) (isAgg75 _) (sizeOf75 _) (hv2 w' hw'.1))) (lg 10 (yF (jJ (S8 (jC (jC jI)))) (wy 38 hg1) (by kernel_rfl) (xc call28) (h.mono ?_)))
 rintro e w6 ⟨r4,rfl,hC,hk,h⟩
 refine ⟨_,rfl,.inr ⟨hC,hb.kept hk⟩,?_⟩
 obtain ⟨hs,hb⟩:=hk.hh hs hb
 refine lg 13 (yF (jJ (S8 (S4 (jC jI)))) (wy 38 hg1) (by kernel_rfl) (xc call39) (h.mono ?_))
 rintro e w7 ⟨r5,rfl,hC,hk,h⟩
 refine ⟨_,rfl,.inr ⟨hC,hb.kept hk⟩,?_⟩
 obtain ⟨hs,hb⟩:=hk.hh hs hb
 refine qw 14 (vi (q6.wrap (0 - r5))) (jJ (S8 (S4 (jC (jC jI))))) (wy 38 hg1) (qw 15 (vb (r4 == (q6.wrap (0 - r5)))) (jJ (S8 (S4 (jC (jC (jC jI)))))) (wy 38 hg1) (qz 16 (vb (r4 == (q6.wrap (0 - r5)))) (jJ (S8 (S8 jI))) (fun _ _=>(xT hg1)) (qx 17 (vb (r4 == (q6.wrap (0 - r5)))) (jJ (S8 (S8 (jC jI)))) (qg 19 ?_))))
 obtain ⟨hg2,h⟩|⟨hg2,h⟩:=h.br
 refine sz (v:=l1.v) (jJ (S8 (S8 (jC (jC (jC jI)))))) (wy 48 hg2) (fun _ _=>(by kernel_rfl)) (qw 21 (vi who1) (jJ (S8 (S8 (S4 (jC jI))))) (wy 48 hg2) (qw 23 l1.v (jJ (S8 (S8 (S4 (jC (jC (jC jI))))))) (wy 48 hg2) (qw 24 (vi who1) (jJ (S8 (S8 (S8 jI)))) (wy 48 hg2) (lg 18 (zI (O:=(.cells #[] 75)) (fun p=>(Sl.mk (some p) 0 0).v) (jJ (S8 (S8 (jC (jC jI))))) (wy 48 hg2) (by kernel_rfl) (zO (vs:=#[]) (by kernel_rfl) (by kernel_rfl)) ?_)))))
 intro p2 w8 hn2
 have h:=h p2 w8 hn2
 refine ⟨.inr ⟨h.1,hb.kept (Ext.new (F:=None) hn2).keptP⟩,?_⟩
 have h:=h.2
 obtain ⟨hs,hb⟩:=hs.nw hb hn2
 refine lg 20 ?_
 obtain ⟨s1,w9,hv1,hC,hk,h⟩:=h
 refine sl (v:=s1.v) (jJ (S8 (S8 (S4 jI)))) (wy 48 hg2) (by kernel_rfl) (zD (args:=#[(Sl.mk (some p2) 0 0).v,l1.v]) (by kernel_rfl) (fun _=>rfl) hv1) (.inr ⟨hC,hb.kept hk⟩) ?_
 obtain ⟨hs,hb⟩:=hk.hh hs hb
 refine lg 22 (yF (jJ (S8 (S8 (S4 (jC (jC jI)))))) (wy 48 hg2) (by kernel_rfl) (xc call40) (h.mono ?_))
 rintro e w10 ⟨r6,rfl,hC,hk,h⟩
 refine ⟨_,rfl,.inr ⟨hC,hb.kept hk⟩,?_⟩
 obtain ⟨hs,hb⟩:=hk.hh hs hb
 refine lg 25 (yF (jJ (S8 (S8 (S8 (jC jI))))) (wy 48 hg2) (by kernel_rfl) (xc call41) (h.mono ?_))
 rintro e w11 ⟨r7,rfl,hC,hk,h⟩
 refine ⟨_,rfl,.inr ⟨hC,hb.kept hk⟩,?_⟩
 obtain ⟨hs,hb⟩:=hk.hh hs hb
 refine lg 26 (yF (jJ (S8 (S8 (S8 (jC (jC jI)))))) (wy 48 hg2) (by kernel_rfl) (xc call30) (h.mono ?_))
 rintro e w12 ⟨r8,rfl,hC,hk,h⟩
 refine ⟨_,rfl,.inr ⟨hC,hb.kept hk⟩,?_⟩
 obtain ⟨hs,hb⟩:=hk.hh hs hb
 refine qz 27 (vb r8) (jJ (S8 (S8 (S8 (jC (jC (jC jI))))))) (fun _ _=>(xT hg2)) (qx 28 (vb r8) (jJ (S8 (S8 (S8 (S4 jI))))) (lg 29 ?_))
 obtain ⟨hg3,h⟩|⟨hg3,h⟩:=h.br
 refine yF (jJ (S8 (S8 (S8 (S4 (jC jI)))))) (wy 59 hg3) (by kernel_rfl) (xc call24) (h.mono ?_)
 rintro e w13 ⟨r9,rfl,hC,hk,h⟩
 refine ⟨_,rfl,.inr ⟨hC,hb.kept hk⟩,?_⟩
 obtain ⟨hs,hb⟩:=hk.hh hs hb
 refine qz 30 (vb r9) (jJ (S8 (S8 (S8 (S4 (jC (jC jI))))))) (fun _ _=>(xT hg3)) (qx 31 (vb r9) (jJ (S8 (S8 (S8 (S4 (jC (jC (jC jI)))))))) (wn (jK (er (rs1 results7 ⟨r9,rfl,h⟩)))))
 refine kL (jJ (S8 (S8 (S8 (S4 (jC jI)))))) (zN rfl (yD 59 hg3) rfl) (qz 30 (vb false) (jJ (S8 (S8 (S8 (S4 (jC (jC jI))))))) (fun _ _=>(xF hg3)) (qx 31 (vb false) (jJ (S8 (S8 (S8 (S4 (jC (jC (jC jI)))))))) (wn (jK (er (rs1 results7 ⟨false,rfl,h⟩))))))
 refine kL (jJ (S8 (S8 (jC (jC (jC jI)))))) (zN rfl (yD 48 hg2) rfl) (qn 21 (jJ (S8 (S8 (S4 (jC jI))))) (zN rfl (yD 48 hg2) rfl) (qn 23 (jJ (S8 (S8 (S4 (jC (jC (jC jI))))))) (zN rfl (yD 48 hg2) rfl) (qn 24 (jJ (S8 (S8 (S8 jI)))) (zN rfl (yD 48 hg2) rfl) (lg 18 (kL (jJ (S8 (S8 (jC (jC jI))))) (zN rfl (yD 48 hg2) rfl) (lg 20 (kL (jJ (S8 (S8 (S4 jI)))) (zN rfl (yD 48 hg2) rfl) (lg 22 (kL (jJ (S8 (S8 (S4 (jC (jC jI)))))) (zN rfl (yD 48 hg2) rfl) (lg 25 (kL (jJ (S8 (S8 (S8 (jC jI))))) (zN rfl (yD 48 hg2) rfl) (lg 26 (kL (jJ (S8 (S8 (S8 (jC (jC jI)))))) (zN rfl (yD 48 hg2) rfl) (qz 27 (vb false) (jJ (S8 (S8 (S8 (jC (jC (jC jI))))))) (fun _ _=>(xF hg2)) (qx 28 (vb false) (jJ (S8 (S8 (S8 (S4 jI))))) (lg 29 (kL (jJ (S8 (S8 (S8 (S4 (jC jI)))))) (zN rfl (yD (c:=false) 59 rfl) rfl) (qx 30 (vb false) (jJ (S8 (S8 (S8 (S4 (jC (jC jI))))))) (qx 31 (vb false) (jJ (S8 (S8 (S8 (S4 (jC (jC (jC jI)))))))) (wn (jK (er (rs1 results7 ⟨false,rfl,h⟩)))))))))))))))))))))))
 refine kL Kp8 (zN rfl (yD 38 hg1) rfl) (qn 9 Kp9 (zN rfl (yD 38 hg1) rfl) (qn 11 (jJ (S8 (jC (jC (jC jI))))) (zN rfl (yD 38 hg1) rfl) (qn 12 (jJ (S8 (S4 jI))) (zN rfl (yD 38 hg1) rfl) (lg 10 (kL (jJ (S8 (jC (jC jI)))) (zN rfl (yD 38 hg1) rfl) (lg 13 (kL (jJ (S8 (S4 (jC jI)))) (zN rfl (yD 38 hg1) rfl) (qn 14 (jJ (S8 (S4 (jC (jC jI))))) (zN rfl (yD 38 hg1) rfl) (qn 15 (jJ (S8 (S4 (jC (jC (jC jI)))))) (zN rfl (yD 38 hg1) rfl) (qz 16 (vb false) (jJ (S8 (S8 jI))) (fun _ _=>(xF hg1)) (qx 17 (vb false) (jJ (S8 (S8 (jC jI)))) (qn 19 (jJ (S8 (S8 (jC (jC (jC jI)))))) (zN rfl (yD (c:=false) 48 rfl) rfl) (qn 21 (jJ (S8 (S8 (S4 (jC jI))))) (zN rfl (yD (c:=false) 48 rfl) rfl) (qn 23 (jJ (S8 (S8 (S4 (jC (jC (jC jI))))))) (zN rfl (yD (c:=false) 48 rfl) rfl) (qn 24 (jJ (S8 (S8 (S8 jI)))) (zN rfl (yD (c:=false) 48 rfl) rfl) (lg 18 (kL (jJ (S8 (S8 (jC (jC jI))))) (zN rfl (yD (c:=false) 48 rfl) rfl) (lg 20 (kL (jJ (S8 (S8 (S4 jI)))) (zN rfl (yD (c:=false) 48 rfl) rfl) (lg 22 (kL (jJ (S8 (S8 (S4 (jC (jC jI)))))) (zN rfl (yD (c:=false) 48 rfl) rfl) (lg 25 (kL (jJ (S8 (S8 (S8 (jC jI))))) (zN rfl (yD (c:=false) 48 rfl) rfl) ?_)))))))))))))))))))))))
 refine lg 26 (kL (jJ (S8 (S8 (S8 (jC (jC jI)))))) (zN rfl (yD (c:=false) 48 rfl) rfl) (qx 27 (vb false) (jJ (S8 (S8 (S8 (jC (jC (jC jI))))))) (qx 28 (vb false) (jJ (S8 (S8 (S8 (S4 jI))))) (lg 29 (kL (jJ (S8 (S8 (S8 (S4 (jC jI)))))) (zN rfl (yD (c:=false) 59 rfl) rfl) (qx 30 (vb false) (jJ (S8 (S8 (S8 (S4 (jC (jC jI))))))) (qx 31 (vb false) (jJ (S8 (S8 (S8 (S4 (jC (jC (jC jI)))))))) (wn (jK (er (rs1 results7 ⟨false,rfl,h⟩)))))))))))
 refine rg (q (ql (isAgg9 _) h fun v1 h=>qc (jP 5 (fun ρ w=>∃x2,∃H:NP,Has ρ [(3,(vp (some a1))),(4,(vp (some a2))),(5,l1.v),(6,(vi who1)),(24,(vb x2))]∧Hst w0 H w H w∧HB H w [(p1,(Al aY aZ bA bB bC bD bE bF aW aX),91)]∧m_H_j3 a1 a2 l1 who1 x2 w0 H w K) ?_ ?_)))
 rintro ρ w ⟨x2,H,hH,hs,hb,h⟩
 refine jX hH (q (jP 4 (fun ρ wJ=>∃b1'0:Bool,∃HJ:NP,(x2=b1'0)∧Hst w0 H w HJ wJ∧HB HJ wJ [(p1,(Al aY aZ bA bB bC bD bE bF aW aX),91)]∧Has ρ [(3,(vp (some a1))),(4,(vp (some a2))),(5,l1.v),(6,(vi who1)),(29,(vb (b1'0 || (decide ((l1.len:Int)>50)))))]) ?_ ?_))
 rintro ρ w14 ⟨b1'0,H2,he0,hs,hb,hH⟩
 subst he0
 refine jX hH (jD ?_)
 have ⟨h,hs⟩:=hs.hr (h H2 w14)
 refine jK ⟨(x2 || (decide ((l1.len:Int)>50))),H2,hm,hs,hb,h⟩
 rcases bte x2 with hg5 | hg5
 refine sj3 25 hg5 (q2 (vb true) (xT hg5) (jD ⟨true,_,hg5,hs,hb,hm⟩))
 refine qk 25 hg5 (qk 25 hg5 (qk 25 hg5 (q2 (vb (decide ((l1.len:Int)>50))) (xF hg5) (jD ⟨false,_,hg5,hs,hb,hm⟩))))
 obtain ⟨hg6,h⟩|⟨hg6,h⟩:=h.br
 refine sj4 19 hg6 (q2 (vb true) (xT hg6) (jD ⟨true,H,hm,hs,hb,h⟩))
 refine qk 19 hg6 ?_
 obtain ⟨v2,hv10,h⟩:=h
 refine q4 19 hg6 (xl (isAgg9 _) hv10) (qk 19 hg6 (qk 19 hg6 (q2 (vb (decide ((v2.size:Int)>4000))) (xF hg6) (jD ⟨(decide ((v2.size:Int)>4000)),H,hm,hs,hb,h⟩))))
 have ⟨h,hs⟩:=hs.hr (h H1 w1)
 obtain ⟨C2,hC,h⟩:=h
 refine dr2 (fun x=>C2 x∧HB H1 x _) [8,9,10,11] [] ⟨hC,hb.drew⟩ h hs hb fun w15 hs hb h=>?_
 have hs:=hs.here
 refine qx 0 (vp (some p1)) Kp0 (qz 1 (Ag aY aZ bA bB) Kp1 (fun w' hw'=>(xa p1 (Af aY aZ bA bB) (isAgg75 _) (sizeOf75 _) (hw'.2.r0 0 4 gZ))) (qx 2 (vp (some (p1.add 4))) Kp2 (qz 3 (Ag bC bD bE bF) Kp3 (fun w' hw'=>(xa (p1.add 4) (Af bC bD bE bF) (isAgg75 _) (sizeOf75 _) (hw'.2.row 0 4 4 gZ (by kernel_rfl)))) (qx 4 (vp (some (p1.add 8))) Kp4 (qz 5 aW.v Kp5 (fun w' hw'=>(xl (isAgg71 _) (hw'.2.cell 0 8 gZ (by kernel_rfl)))) (qx 6 (vp (some (p1.add 9))) Kp6 (qz 7 (vi aX) Kp7 (fun w' hw'=>(xl (isAgg3 _) (hw'.2.cell 0 9 gZ (by kernel_rfl)))) (jDV (k:=8) (k':=9) (by kernel_rfl) ?_ ?_))))))))
 have h:=h.1
 refine zI (O:=(.cells #[(vi 0),(vi 0),(vu 0),ve] 75)) (fun p=>.pointer (some p)) Kp8 (jL rfl) (by kernel_rfl) (jE (zeroValue75 _) rfl) ?_
 intro p3 w16 hn6
 have h:=h p3 w16 hn6
 refine ⟨.inr ⟨h.1,hb.kept (Ext.new (F:=None) hn6).keptP⟩,?_⟩
 have h:=h.2
 obtain ⟨hs,hb⟩:=hs.nw hb hn6
 refine lg 9 (zI (O:=(.cells #[(vi 0),(vi 0),(vu 0),ve] 75)) (fun p=>.pointer (some p)) Kp9 (jL rfl) (by kernel_rfl) (jE (zeroValue75 _) rfl) ?_)
 intro p4 w17 hn5
 have h:=h p4 w17 hn5
 refine ⟨.inr ⟨h.1,hb.kept (Ext.new (F:=None) hn5).keptP⟩,?_⟩
 have h:=h.2
 obtain ⟨hs,hb⟩:=hs.nw hb hn5
 refine lg 10 ?_
 obtain ⟨hp1,hnh,h⟩:=h
 refine vG (jJ (S8 (jC (jC jI)))) (jL rfl) (by kernel_rfl) (xo p3 (Af aY aZ bA bB) (sizeOf75 _) hp1) ?_
 intro w18 hn3
 have h:=h w18 hn3
 refine ⟨.inr ⟨h.1,hb.kept (by rw [hn3];exact Kept.storeRow hnh)⟩,?_⟩
 have h:=h.2
 have hk:Kept H1 w17 w18:=by rw [hn3];exact Kept.storeRow hnh
 obtain ⟨hs,hb⟩:=hk.hh hs hb
 refine lg 11 ?_
 obtain ⟨hp2,hnh,h⟩:=h
 refine vG (jJ (S8 (jC (jC (jC jI))))) (jL rfl) (by kernel_rfl) (xo p4 (Af bC bD bE bF) (sizeOf75 _) hp2) ?_
 intro w19 hn4
 have h:=h w19 hn4
 refine ⟨.inr ⟨h.1,hb.kept (by rw [hn4];exact Kept.storeRow hnh)⟩,?_⟩
 have h:=h.2
 have hk:Kept H1 w18 w19:=by rw [hn4];exact Kept.storeRow hnh
 obtain ⟨hs,hb⟩:=hk.hh hs hb
 refine qx 12 aW.v (jJ (S8 (S4 jI))) (qx 13 (vi aX) (jJ (S8 (S4 (jC jI)))) (wn (jK ⟨p3,p4,aW,aX,H1,hm,hs,hb,h⟩)))
 have h:=h.2
 refine zI (O:=(.cells #[(vi 0),(vi 0),(vu 0),ve] 75)) (fun p=>.pointer (some p)) Kp9 (jL rfl) (by kernel_rfl) (jE (zeroValue75 _) rfl) ?_
 intro p5 w20 hn10
 have h:=h p5 w20 hn10
 refine ⟨.inr ⟨h.1,hb.kept (Ext.new (F:=None) hn10).keptP⟩,?_⟩
 have h:=h.2
 obtain ⟨hs,hb⟩:=hs.nw hb hn10
 refine lg 8 (zI (O:=(.cells #[(vi 0),(vi 0),(vu 0),ve] 75)) (fun p=>.pointer (some p)) Kp8 (jL rfl) (by kernel_rfl) (jE (zeroValue75 _) rfl) ?_)
 intro p6 w21 hn9
 have h:=h p6 w21 hn9
 refine ⟨.inr ⟨h.1,hb.kept (Ext.new (F:=None) hn9).keptP⟩,?_⟩
 have h:=h.2
 obtain ⟨hs,hb⟩:=hs.nw hb hn9
 refine lg 10 ?_
 obtain ⟨hp3,hnh,h⟩:=h
 refine vG (jJ (S8 (jC (jC jI)))) (jL rfl) (by kernel_rfl) (xo p6 (Af aY aZ bA bB) (sizeOf75 _) hp3) ?_
 intro w22 hn7
 have h:=h w22 hn7
 refine ⟨.inr ⟨h.1,hb.kept (by rw [hn7];exact Kept.storeRow hnh)⟩,?_⟩
 have h:=h.2
 have hk:Kept H1 w21 w22:=by rw [hn7];exact Kept.storeRow hnh
 obtain ⟨hs,hb⟩:=hk.hh hs hb
 refine lg 11 ?_
 obtain ⟨hp4,hnh,h⟩:=h
 refine vG (jJ (S8 (jC (jC (jC jI))))) (jL rfl) (by kernel_rfl) (xo p5 (Af bC bD bE bF) (sizeOf75 _) hp4) ?_
 intro w23 hn8
 have h:=h w23 hn8
 refine ⟨.inr ⟨h.1,hb.kept (by rw [hn8];exact Kept.storeRow hnh)⟩,?_⟩
 have h:=h.2
 have hk:Kept H1 w22 w23:=by rw [hn8];exact Kept.storeRow hnh
 obtain ⟨hs,hb⟩:=hk.hh hs hb
 refine qx 12 aW.v (jJ (S8 (S4 jI))) (qx 13 (vi aX) (jJ (S8 (S4 (jC jI)))) (wn (jK ⟨p6,p5,aW,aX,H1,hm,hs,hb,h⟩)))
def m_G2 (kind1 who1:Int) (cap1:Addr) (w0:World) (K:Int→Int→Int→ByteArray→WP):Prop :=∀H1 w1,Hst w0 None w0 H1 w1→∃v1,w1.cell? (cap1.add 2)=some (vu v1)∧∃v2,w1.cell? (cap1.add 3)=some (vs v2)∧∀w2,Hst w0 H1 w1 H1 w2→K kind1 who1 v1 v2 w2
theorem w_G2 (kind1 who1 cap1 w0 K) (h:m_G2 kind1 who1 cap1 w0 K):
  Calls prog 162 #[(vi kind1),(vi who1),(vp (some cap1))] w0 (fun e w'=>∃aA bN aC aE,e=.returned (Ag aA bN aC aE)∧K aA bN aC aE w'):=by
 refine cw (args:=[(vi kind1),(vi who1),(vp (some cap1))]) func162 ntmps162 ?_
 obtain ⟨hs,hb⟩:=st0 w0
 refine eg (nw3 [(vi 0),(vi 0),(vu 0),ve] 75 hs hb (jE (zeroValue75 _) rfl) fun p1 w1 H1 hs hb=>ln (eg (qc ?_)))
 have ⟨h,hs⟩:=hs.hr (h H1 w1)
 refine ql (isAgg23 _) h fun v1 h=>q (ql (isAgg9 _) h fun v2 h=>q (qF (jL rfl) (xo p1 (Af kind1 who1 v1 v2) (sizeOf75 _) (hb.k0 0 4 gZ)) ?_))
 intro w2 hn2
 obtain ⟨hs,hb⟩:=hb.st1 0 hs hn2 gZ
 refine ln (er ?_)
 have ⟨h,hs⟩:=hs.hr (h w2)
 refine xD (.inl rfl) (vs:=[(Ag kind1 who1 v1 v2)]) (v:=(Ag kind1 who1 v1 v2)) results162 ⟨(rva (isAgg75 _) (sizeOf75 _) (hb.r0 0 4 gZ)),trivial⟩ (by kernel_rfl) ⟨kind1,who1,v1,v2,rfl,h⟩
end Go.Proofs
end
section
open Go
namespace Go.Sp
structure Fact where
 kind:Int
 who:Int
 c:Int
 text:ByteArray
deriving DecidableEq
def qP (a b:Int):Int:=if a<b then -1 else if b<a then 1 else 0
def xR (a b:ByteArray):Int:=if Op.bytesLess a.toList b.toList=true then -1 else if a=b then 0 else 1
def uP (a b:Fact):Int:=if qP a.c b.c≠0 then qP a.c b.c else if qP a.kind b.kind≠0 then qP a.kind b.kind else if qP a.who b.who≠0 then qP a.who b.who else xR a.text b.text
theorem toList_inj {a b:ByteArray} (h:a.toList=b.toList):a=b:=by
 rw [Lib.toList_data,Lib.toList_data] at h;obtain ⟨a⟩:=a;obtain ⟨b⟩:=b;simp only at h;congr 1;exact Array.toList_inj.1 h
def LtF (a b:Fact):Prop:=a.c<b.c∨(a.c=b.c∧(a.kind<b.kind∨(a.kind=b.kind∧(a.who<b.who∨(a.who=b.who∧a.text.toList<b.text.toList)))))
theorem kT {a b:Int}:qP a b=0↔a=b:=by unfold qP;split <;> (try split) <;> omega
theorem oL (a b:Int):qP b a=- qP a b:=by unfold qP;split <;> split <;> (try split) <;> omega
theorem qA {a b:ByteArray}:Op.bytesLess a.toList b.toList=true↔a.toList<b.toList:=by rw [Go.Proofs.bytesLess_eq];simp
theorem tH {a b:ByteArray}:xR a b=0↔a=b:=by
 unfold xR;split
 ·rename_i h;refine ⟨fun h'=>by omega,fun e=>?_⟩;subst e;exact absurd (qA.1 h) (List.lt_irrefl _)
 ·split <;> simp_all
theorem jEO (a b:ByteArray):xR b a=- xR a b:=by
 unfold xR;by_cases h1:a.toList<b.toList
 ·rw [if_pos (qA.2 h1),if_neg (fun h=>List.lt_asymm h1 (qA.1 h)),if_neg (fun e=>by subst e;exact List.lt_irrefl _ h1)];rfl
 ·rw [if_neg (fun h=>h1 (qA.1 h))];by_cases h2:b.toList<a.toList
  ·rw [if_pos (qA.2 h2),if_neg (fun e=>by subst e;exact List.lt_irrefl _ h2)]
  ·have e:a=b:=toList_inj (List.le_antisymm (List.not_lt.1 h2) (List.not_lt.1 h1));subst e;rw [if_neg (fun h=>h1 (qA.1 h))];simp
theorem xA {a b:Fact}:uP a b=0↔a=b:=by
 obtain ⟨k,w,c,x⟩:=a;obtain ⟨k',w',c',x'⟩:=b;unfold uP;simp only [Fact.mk.injEq,← kT (a:=k),← kT (a:=w),← kT (a:=c),← tH (a:=x)];split
 ·omega
 ·split
  ·omega
  ·split <;> omega
theorem jAW (a b:Fact):uP b a=- uP a b:=by
 unfold uP;rw [oL a.c,oL a.kind,oL a.who,jEO a.text]
 repeat' split
 all_goals omega
theorem uH {a b:Fact}:uP a b<0↔LtF a b:=by
 have hI:∀{x y:Int},qP x y<0↔x<y:=fun {x y}=>by unfold qP;split <;> (try split) <;> omega
 have hB:∀{x y:ByteArray},xR x y<0↔x.toList<y.toList:=fun {x y}=>by
  rw [← qA];unfold xR;split
  ·simp_all
  ·split <;> simp_all
 unfold uP LtF;rw [← hI (x:=a.c),← hI (x:=a.kind),← hI (x:=a.who),← hB,← kT (a:=a.c),← kT (a:=a.kind),← kT (a:=a.who)];split
 ·omega
 ·split
  ·omega
  ·split <;> omega
theorem LtF.trans {a b c:Fact} (h1:LtF a b) (h2:LtF b c):LtF a c:=by
 unfold LtF at *;rcases h1 with h1 | ⟨e1,h1⟩
 ·left;omega
 rcases h2 with h2 | ⟨e2,h2⟩
 ·left;omega
 refine .inr ⟨by omega,?_⟩;rcases h1 with h1 | ⟨e1,h1⟩
 ·left;omega
 rcases h2 with h2 | ⟨e2,h2⟩
 ·left;omega
 refine .inr ⟨by omega,?_⟩;rcases h1 with h1 | ⟨e1,h1⟩
 ·left;omega
 rcases h2 with h2 | ⟨e2,h2⟩
 ·left;omega
 exact .inr ⟨by omega,List.lt_trans h1 h2⟩
theorem LtF.irrefl (a:Fact):¬ LtF a a:=fun h=>by
 have:=uH.2 h;rw [xA.2 rfl] at this;omega
theorem LtF.tri (a b:Fact):LtF a b∨a=b∨LtF b a:=by
 rw [← uH,← uH,← xA,jAW a b];omega
theorem swoF:Go.Sort.SWO (Go.Proofs.ltOf uP):={
 irrefl x:=by unfold Go.Proofs.ltOf;simp [xA.2]
 trans x y z h1 h2:=by
  unfold Go.Proofs.ltOf at *;simp only [decide_eq_true_eq,uH] at *;exact h1.trans h2
 ntrans x y z h1 h2:=by
  unfold Go.Proofs.ltOf at *;simp only [decide_eq_false_iff_not,uH] at *;intro h;rcases LtF.tri x y with h3 | rfl | h3
  ·exact h1 h3
  ·exact h2 h
  ·exact h2 (h3.trans h) }
def vW (a:Fact):List Fact→List Fact
 | []=>[]
 | b :: l=>if a=b then vW b l else b :: vW b l
def yJ:List Fact→List Fact
 | []=>[]
 | a :: l=>a :: vW a l
theorem oZ {x:Fact}:∀{l:List Fact} {a:Fact},(x=a∨x∈vW a l)↔(x=a∨x∈l)
 | [],_=>by simp [vW]
 | b :: l,a=>by
  have h:=oZ (x:=x) (l:=l) (a:=b);unfold vW;split
  ·rename_i e;subst e;rw [h];simp
  ·simp only [List.mem_cons,h]
theorem jCR {l:List Fact} {x:Fact}:x∈yJ l↔x∈l:=by
 cases l with
 | nil=>simp [yJ]
 | cons a l=>simp only [yJ,List.mem_cons];exact oZ
theorem jDF (a:Fact) (l:List Fact):(vW a l).length≤l.length:=by
 induction l generalizing a with
 | nil=>simp [vW]
 | cons b l ih =>
  have:=ih b
  unfold vW
  split <;> simp only [List.length_cons] <;> omega
theorem jDG (l:List Fact):(yJ l).length≤l.length:=by
 cases l with
 | nil=>simp [yJ]
 | cons a l=>have:=jDF a l;simp only [yJ,List.length_cons];omega
theorem uO:∀{l:List Fact} {a:Fact},(a :: l).Pairwise (fun a b=>¬ uP b a<0)→(a :: vW a l).Pairwise LtF
 | [],_,_=>by simp [vW]
 | b :: l,a,h=>by
  have h':=(List.pairwise_cons.1 h);unfold vW;have hs:=uO h'.2;split
  ·rename_i e;subst e;exact hs
  ·rename_i hne;have hab:LtF a b:=by
    have:=h'.1 b (by simp);rw [uH] at this;rcases LtF.tri a b with h | h | h
    ·exact h
    ·exact absurd h hne
    ·exact absurd h this
   refine List.pairwise_cons.2 ⟨fun x hx=>?_,hs⟩;rcases List.mem_cons.1 hx with rfl | hx
   ·exact hab
   ·exact hab.trans ((List.pairwise_cons.1 hs).1 x hx)
theorem tG {l:List Fact} (h:l.Pairwise (fun a b=>¬ uP b a<0)):(yJ l).Pairwise LtF:=by
 cases l with
 | nil=>simp [yJ]
 | cons a l=>exact uO h
theorem oP:∀{l m:List Fact},l.Pairwise LtF→m.Pairwise LtF→(∀x,x∈l↔x∈m)→l=m
 | [],[],_,_,_=>rfl
 | [],b :: m,_,_,h=>by have:=(h b).2 (by simp);simp at this
 | a :: l,[],_,_,h=>by have:=(h a).1 (by simp);simp at this
 | a :: l,b :: m,h1,h2,h=>by
  have p1:=List.pairwise_cons.1 h1;have p2:=List.pairwise_cons.1 h2;have hab:a=b:=by
   rcases List.mem_cons.1 ((h a).1 (by simp)) with e | ha
   ·exact e
   ·rcases List.mem_cons.1 ((h b).2 (by simp)) with e | hb
    ·exact e.symm
    ·exact absurd ((p1.1 b hb).trans (p2.1 a ha)) (LtF.irrefl a)
  subst hab;congr 1;refine oP p1.2 p2.2 fun x=>⟨fun hx=>?_,fun hx=>?_⟩
  ·rcases List.mem_cons.1 ((h x).1 (by simp [hx])) with rfl | h'
   ·exact absurd (p1.1 x hx) (LtF.irrefl x)
   ·exact h'
  ·rcases List.mem_cons.1 ((h x).2 (by simp [hx])) with rfl | h'
   ·exact absurd (p2.1 x hx) (LtF.irrefl x)
   ·exact h'
end Go.Sp
end
section
open Go Go.SE
namespace Go.SE
theorem Rws.lit {w w':World} {p:Addr} {cs:Array Value} {e:TypeId} {sz:Nat} {rs:List (List Value)} (hn:New w (.cells cs e) p w') (hc:cs.toList=rs.flatten) (hl:∀r∈rs,r.length=sz) (hm:rs.length≤maxLen):Rws w' e sz ⟨some p,rs.length,rs.length⟩ rs:=by
 obtain ⟨hp,hw⟩:=hn;have hsz:cs.size=rs.length*sz:=by rw [← jZ hl,← hc,Array.length_toList]
 refine ⟨hl,rfl,.inr ⟨w.heap.size,cs,by rw [hp],?_,Nat.le_refl _,hm,hsz,?_⟩⟩
 ·rw [hw];exact heap_alloc_new w _
 ·rw [hc,List.take_of_length_le (by rw [jZ hl];exact Nat.le_refl _)]
end Go.SE
namespace Go.Proofs
end Go.Proofs
end
