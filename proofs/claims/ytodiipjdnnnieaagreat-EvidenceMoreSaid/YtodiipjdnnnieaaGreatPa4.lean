import Derived.Test.YtodiipjdnnnieaaGreatPa3
import Derived.Test.YtodiipjdnnnieaaGreatProg
import Derived.KernelRfl
import Derived.RangeFuncSeq
import Derived.RangeFuncIn
section
open Go Go.SE
namespace Go.Proofs
attribute [local irreducible] Calls
def jBD (v:Value):Prop:=∃n,v=xZ n
theorem tI {n n':Sp.Node}:xZ n=xZ n'↔n=n':=by
 constructor
 ·intro h;cases n;cases n';simp [xZ,uN] at h;simp [h]
 ·rintro rfl;rfl
theorem tH (n:Sp.Node):Instr.sameBits 10000 (xZ n) (xZ n)=true:=by
 have h:∀d,Instr.sameBits (d+1) (xZ n) (xZ n)=true:=fun d=>by
  have e:(n.text == n.text)=true:=by rw [beq_toListBytes];simp
  cases d <;> simp [Instr.sameBits,xZ,uN,e]
 exact h 9999
theorem uX:KeyOK Tryz.prog 176 jBD:=by
 refine KeyOK.of_struct Tryz.underlying176 ?_ ?_ ?_
 ·rintro _ ⟨n,rfl⟩ em w;kernel_rfl
 ·rintro _ _ w ⟨n,rfl⟩ ⟨n',rfl⟩;refine ⟨decide (n=n'),?_,by simp only [tI,decide_eq_true_eq];exact eq_comm⟩;obtain ⟨k,f,t,u,x,a,b⟩:=n;obtain ⟨k',f',t',u',x',a',b'⟩:=n';simp [Op.equal,Op.maxDepth,go_sem,tE,xZ,uN]
  repeat' split
  all_goals simp_all
 ·rintro _ ⟨n,rfl⟩;exact tH n
theorem xQ:SlType Tryz.prog 166 250 9 (16*5):=by
 refine ⟨Tryz.underlying166,⟨Tryz.t250,_,by kernel_rfl,(by kernel_rfl:Tryz.t250.zero=some (.agg #[.int .i64 0,.int .i64 0,.int .i64 0,.int .u64 0,.string ⟨#[]⟩,.int .i64 0,.int .i64 0,.int .i64 0,.int .i64 0])),by kernel_rfl,by kernel_rfl,rfl⟩,by omega⟩
theorem jGL {L:Sp.Pool} {i:Nat} {n:Sp.Node} {v:Value} (h:(qP L)[i]?=some (xZ n,v)):∃e,L[i]?=some e∧e.node=n∧v=.int .i64 (i+1:Nat):=by
 simp only [qP,List.getElem?_map,List.getElem?_zipIdx,Option.map_map,Option.map_eq_some_iff] at h;obtain ⟨e,he,h⟩:=h;simp only [Function.comp,Prod.mk.injEq] at h;exact ⟨e,he,tI.1 h.1,by rw [← h.2];simp⟩
theorem jGK {L:Sp.Pool} {n:Sp.Node} (h:∀q∈qP L,q.1≠xZ n):∀e∈L,e.node≠n:=by
 intro e he hn;obtain ⟨i,hi,rfl⟩:=List.mem_iff_getElem.1 he;refine h (xZ L[i].node,.int .i64 (i+1:Nat)) ?_ (by rw [hn]);exact List.mem_map.2 ⟨(L[i],i),by rw [List.mem_zipIdx_iff_getElem?];simp [hi],rfl⟩
theorem xV {L:Sp.Pool}:∀q∈qP L,jBD q.1:=by
 intro q hq;obtain ⟨x,_,rfl⟩:=List.mem_map.1 hq;exact ⟨_,rfl⟩
theorem jEQ (L:Sp.Pool) (e:Sp.Ent):qP (L++[e])=qP L++[(xZ e.node,.int .i64 (L.length+1:Nat))]:=by
 simp [qP,List.zipIdx_append]
theorem jIL {L:Sp.Pool} (hok:Sp.Ok L) {i:Nat} {e:Sp.Ent} (h:L[i]?=some e):Sp.find L e.node=some i:=by
 obtain ⟨hi,rfl⟩:=List.getElem?_eq_some_iff.1 h;unfold Sp.find;rw [List.findIdx?_eq_some_iff_getElem];refine ⟨hi,by simp,fun j hj=>?_⟩;have hnd:=hok.nodup;simp only [decide_eq_true_eq];intro e;exact List.pairwise_iff_getElem.1 hnd j i (by simp;omega) (by simpa using hi) hj (by simpa using e)
theorem jAN {L:Sp.Pool} {n:Sp.Node} (h:∀e∈L,e.node≠n):Sp.find L n=none:=by
 unfold Sp.find;rw [List.findIdx?_eq_none_iff];intro e he;simpa using h e he
theorem jCW (p:Addr) (k f t u:Int) (x:ByteArray) (a b:Int) (w:World) {L:Sp.Pool} {F:NP} (hP:jU w p L F) (hok:Sp.Ok L) :
  Calls Tryz.prog 161 #[.pointer (some p),.agg #[.int .i64 k,.int .i64 f,.int .i64 t,.int .u64 u,.string x,.int .i64 a,.int .i64 b]] w
   (fun e w'=>∃r1:Int,∃r2:Int,e=.returned (.tuple #[.int .i64 r1,.int .i64 r2])∧((r1,r2)=((Sp.make L ⟨k,f,t,u,x,a,b⟩).1,(Sp.make L ⟨k,f,t,u,x,a,b⟩).2.1)∧∃F',jU w' p (Sp.make L ⟨k,f,t,u,x,a,b⟩).2.2 F'∧Ext F w w'∧∀b,F' b→F b∨w.heap.size≤b)):=by
 suffices key:∀K:Int→Int→WP,(∀r1 r2 w',((r1,r2)=((Sp.make L ⟨k,f,t,u,x,a,b⟩).1,(Sp.make L ⟨k,f,t,u,x,a,b⟩).2.1)∧∃F',jU w' p (Sp.make L ⟨k,f,t,u,x,a,b⟩).2.2 F'∧Ext F w w'∧∀b,F' b→F b∨w.heap.size≤b)→K r1 r2 w')→m_W1 (some p) k f t u x a b w K from
  w_W1 _ _ _ _ _ _ _ _ w _ (key _ (fun _ _ _ h=>h))
 intro K hK
 unfold m_W1
 intro p2 w1 h1
 have b1:=Box.of_new h1
 have E1:Pure w w1:=Ext.new h1
 have o2:¬ F p2.block:=fun h=>by have:=hP.lt h;have:=h1.at_size;omega
 refine Br.f rfl ⟨_,_,_,_,_,_,_,b1.row,?_⟩
 refine (jIP p k f t u x a b w1 (hP.pure E1) hok).mono ?_
 rintro _ w2 ⟨sz,dp,er,rfl,hck,E2⟩
 refine ⟨_,_,_,rfl,?_⟩
 generalize hn:(⟨k,f,t,u,x,a,b⟩:Sp.Node)=n at *
 have E3:Pure w w2:=E1.trans E2
 have same:∀w',Pure w w'→∃F',jU w' p L F'∧Ext F w w'∧∀b,F' b→F b∨w.heap.size≤b:=fun w' E=>⟨F,hP.pure E,E.pure,fun _ h=>.inl h⟩
 refine ⟨fun h=>hK _ _ _ ?_,fun h=>?_⟩
 ·have he:er≠0:=by simpa using h
  have:Sp.make L n=(0,er,L):=by unfold Sp.make;simp [← hck,he]
  rw [this];exact ⟨rfl,same _ E3⟩
 ·have he:er=0:=by simpa using h
  subst he
  intro w3 hw3
  have E4:Pure w w3:=by rw [hw3];exact E3.trans (Ext.drew w2)
  have b3:=(b1.pure E2).pure (show Pure w2 w3 by rw [hw3];exact Ext.drew w2)
  clear hw3
  obtain ⟨s,m,hS,hF⟩:=hP.pure E4
  refine ⟨p,rfl,_,hS.box.cell (i:=1) rfl,_,_,_,_,_,_,_,b3.row,?_⟩
  have hkey:(Value.agg #[.int .i64 k,.int .i64 f,.int .i64 t,.int .u64 u,.string x,.int .i64 a,.int .i64 b])=xZ n:=by rw [← hn];rfl
  rw [hkey]
  rcases hS.map.lookup (P:=Tryz.prog) (T:=167) (E:=78) Tryz.underlying167 uX xV ⟨n,rfl⟩ (Tryz.zeroValue78 _) true with ⟨hnot,hrun⟩ | ⟨i,v,hi,hrun⟩
  ·refine ⟨_,_,hrun,Br.f rfl ⟨p,rfl,s,hS.box.cell0,?_⟩⟩
   have hno:=jGK hnot
   have hfn:=jAN hno
   have hlen:(s.len:Int)=L.length:=by rw [hS.rows.len];simp
   refine ⟨fun h=>hK _ _ _ ?_,fun h=>?_⟩
   ·have h2:65536≤L.length:=by have h:=of_decide_eq_true h;omega
    have:Sp.make L n=(0,6,L):=by unfold Sp.make;simp [← hck,hfn,h2]
    rw [this];exact ⟨rfl,same _ E4⟩
   ·have h2:¬ 65536≤L.length:=by have h:=of_decide_eq_false h;omega
    have hmk:Sp.make L n=((L.length:Int)+1,0,L++[⟨n,sz,dp⟩]):=by unfold Sp.make;simp [← hck,hfn,h2]
    refine ⟨fun w'=>w'.cell? p=some s.v∧Row w' p2 (uN n),⟨?_,?_⟩,?_⟩
    ·exact Ext.cell (F:=None) (Ext.drew w3) hS.box.cell0 id
    ·rw [← hn];exact Ext.row (F:=None) (Ext.drew w3) b3.row id
    intro w4 hw4
    have E5:Pure w3 w4:=by rw [hw4];exact Ext.drew w3
    clear hw4
    have hS4:PoolS w4 p L s m:=by
     exact ⟨hS.box.pure E5,hS.rows.pure E5,hS.map.ext E5 id,hS.n1,hS.n2,hS.n3⟩
    have b4:=b3.pure E5
    refine ⟨p,rfl,s,fun w' h=>h.1,k,f,t,u,x,a,b,fun w' h=>by have:=h.2;rw [← hn] at this;exact this,?_⟩
    intro p3 w5 h5
    have E6:Pure w4 w5:=Ext.new h5
    have o3:w.heap.size≤p3.block:=New.own (E4.trans E5) h5
    have b5:=Box.of_new h5
    have hrows5:=hS4.rows.pure E6
    have hbox5:=hS4.box.pure E6
    have hmap5:CMap w5 m (qP L):=hS4.map.ext E6 id
    have b45:=b4.pure E6
    have hrow:Row w5 p3 (jDU ⟨n,sz,dp⟩):=by rw [← hn];exact b5.row
    refine ⟨⟨hbox5.cell0,by rw [← hn];exact b45.row⟩,?_⟩
    obtain ⟨s1,w6,hr6,hrows6,E7,hb6⟩:=hrows5.append (P:=Tryz.prog) (ty:=166) xQ (c:=1) hrow (by simp [jDU,uN]) (by simp [jDU,uN,kA]) (by simp;omega) (by simp [maxLen];omega)
    have nb:∀b,s.blk b→b≠p2.block:=fun b hb e=>o2 (by rw [← e];exact (hF b).2 (.inr (.inl hb)))
    have hbox6:=hbox5.ext E7 hS.n2
    have hmap6:=hmap5.ext E7 hS.n3
    have b6:=b45.ext E7 (fun h=>nb _ h rfl)
    refine ⟨s1,w6,hr6,⟨hbox6.cell0,by rw [← hn];exact b6.row⟩,p,rfl,hbox6.canW0 (by simp),?_⟩
    intro w7 hw7
    have hbox7:Box w7 p [s1.v,.map (some m)] 169:=by rw [hw7];exact hbox6.set0
    have E8:Ext (·=p.block) w6 w7:=by rw [hw7];exact Ext.setCell p _
    clear hw7
    have hs1p:¬ s1.blk p.block:=fun h=>(hb6 _ h).elim hS.n2 (fun h=>by have:=hbox5.lt;omega)
    have hs1m:¬ s1.blk m:=fun h=>(hb6 _ h).elim hS.n3 (fun h=>by have:=hmap5.lt;omega)
    have hrows7:=hrows6.ext E8 (fun b hb e=>hs1p (by rw [← e];exact hb))
    have hmap7:=hmap6.ext E8 hS.n1
    have b7:=b6.ext E8 (fun e=>o2 (by rw [e];exact (hF _).2 (.inl rfl)))
    have hl1:(s1.len:Int)=L.length+1:=by rw [hrows6.len];simp
    refine ⟨p,rfl,s1,hbox7.cell0,?_⟩
    refine ⟨fun w'=>w'.cell? (p.add 1)=some (.map (some m))∧Row w' p2 (uN n),⟨?_,?_⟩,?_⟩
    ·exact Ext.cell (F:=None) (Ext.drew w7) (hbox7.cell (i:=1) rfl) id
    ·rw [← hn];exact Ext.row (F:=None) (Ext.drew w7) b7.row id
    intro w8 hw8
    have E9:Pure w7 w8:=by rw [hw8];exact Ext.drew w7
    clear hw8
    refine ⟨p,rfl,some m,fun w' h=>h.1,k,f,t,u,x,a,b,fun w' h=>by have:=h.2;rw [← hn] at this;exact this,?_⟩
    rw [hkey,hl1]
    have hmap8:CMap w8 m (qP L):=hmap7.ext E9 id
    obtain ⟨w9,hr9,hmap9,E10⟩:=hmap8.insert (P:=Tryz.prog) (v:=.int .i64 ((L.length:Int)+1)) Tryz.underlying167 uX xV ⟨n,rfl⟩ hnot
    refine ⟨w9,hr9,hK _ _ _ ?_⟩
    rw [hmk]
    have hbox9:=(hbox7.pure E9).ext E10 (fun e=>hS.n1 e.symm)
    have hrows9:=(hrows7.pure E9).ext E10 (fun b hb e=>hs1m (by rw [← e];exact hb))
    refine ⟨rfl,fun b=>b=p.block∨s1.blk b∨b=m,⟨s1,m,⟨hbox9,?_,?_,hS.n1,hs1p,hs1m⟩,fun _=>Iff.rfl⟩,?_,?_⟩
    ·simpa using hrows9
    ·rw [jEQ];simpa using hmap9
    ·have hF':∀b,F b↔(b=p.block∨s.blk b∨b=m):=hF
     have Ea:Ext F w w5:=((E4.trans E5).trans E6).pure
     have Eb:Ext F w w6:=Ea.trans' E7 (fun i _ h=>(hF' i).2 (.inr (.inl h)))
     have Ec:Ext F w w7:=Eb.trans' E8 (fun i _ h=>(hF' i).2 (.inl h))
     have Ed:Ext F w w8:=Ec.thenPure E9
     exact Ed.trans' E10 (fun i _ h=>(hF' i).2 (.inr (.inr h)))
    ·intro b hb
     rcases hb with rfl | hb | rfl
     ·exact .inl ((hF _).2 (.inl rfl))
     ·rcases hb6 b hb with h | h
      ·exact .inl ((hF _).2 (.inr (.inl h)))
      ·right;have:=((E4.trans E5).trans E6).size;omega
     ·exact .inl ((hF _).2 (.inr (.inr rfl)))
  ·obtain ⟨e,he,hen,rfl⟩:=jGL hi
   refine ⟨_,_,hrun,Br.t rfl (hK _ _ _ ?_)⟩
   have hfd:=jIL hok he
   rw [hen] at hfd
   have:Sp.make L n=((i:Int)+1,0,L):=by unfold Sp.make;simp [← hck,hfd]
   rw [this];exact ⟨by simp,same _ E4⟩
end Go.Proofs
end
section
namespace Go.Sp
inductive Tree where
 | mk (k f t u:Int) (x:ByteArray) (kids:List Tree)
def Tree.kids:Tree→List Tree | .mk _ _ _ _ _ ks=>ks
def Tree.node:Tree→Node | .mk k f t u x _=>⟨k,f,t,u,x,0,0⟩
theorem Tree.ind {P:Tree→Prop} (h:∀k f t u x (ks:List Tree),(∀i (hi:i<ks.length),P ks[i])→P (.mk k f t u x ks)) (t:Tree):P t:=by
 refine Tree.rec (motive_1:=P) (motive_2:=fun ks=>∀i (hi:i<ks.length),P ks[i]) ?_ ?_ ?_ t
 ·intro k f t u x ks ih;exact h _ _ _ _ _ _ ih
 ·intro i hi;simp at hi
 ·intro t ks ht hks i hi;cases i with
  | zero=>exact ht
  | succ i=>exact hks i (by simpa using hi)
def qE (n:Node) (len:Nat):Int :=
 let e:=if zK n=0 then if (len:Int)≠(shapeOf n.kind).kids then 53 else 0 else zK n
 if e=0 then zG (shapeOf n.kind) n else e
mutual
def kF (inside seen:Int):Tree→Int×Int
 | .mk k f t u x ks=>if 4096≤seen then (52,seen) else if 64≤inside then (52,seen) else zU (inside+1) (qE ⟨k,f,t,u,x,0,0⟩ ks.length) (seen+1) ks
def zU (inside e seen:Int):List Tree→Int×Int
 | []=>(e,seen)
 | t :: ts=>if e=0 then zU inside (kF inside seen t).1 (kF inside seen t).2 ts else (e,seen)
end
mutual
def grow (L:Pool):Tree→Int×Int×Pool
 | .mk k f t u x ks=>zO ⟨k,f,t,u,x,0,0⟩ 0 L ks
def zO (n:Node) (i:Nat) (L:Pool):List Tree→Int×Int×Pool
 | []=>make L n
 | t :: ts=>if (grow L t).2.1≠0 then (0,(grow L t).2.1,(grow L t).2.2) else zO (if i=0 then { n with a:=(grow L t).1 } else { n with b:=(grow L t).1 }) (i+1) (grow L t).2.2 ts
end
def of (L:Pool) (t:Tree):Int×Int×Pool :=
 if (kF 0 0 t).1≠0 then (0,(kF 0 0 t).1,L)
 else if (grow L t).2.1≠0 then (0,(grow L t).2.1,L) else ((grow L t).1,0,(grow L t).2.2)
theorem jDH (L:Pool) (n:Node):∃M,(make L n).2.2=L++M:=by
 unfold make;simp only;by_cases hc:(check L n).2.2=0
 ·simp only [hc];rw [if_neg (by simp)];split
  ·exact ⟨[],by simp⟩
  ·split
   ·exact ⟨[],by simp⟩
   ·exact ⟨_,rfl⟩
 ·rw [if_pos hc];exact ⟨[],by simp⟩
theorem jGX {L:Pool} {n:Node} (hok:Ok L) (h:(check L n).2.2=0):1≤(check L n).1∧(check L n).1≤4096∧1≤(check L n).2.1∧(check L n).2.1≤64:=by
 unfold check at h ⊢;simp only at h ⊢;by_cases h1:zK n≠0
 ·rw [if_pos h1] at h;exact absurd h h1
 rw [if_neg h1] at h ⊢;split at h
 ·simp at h
 rename_i h2;rw [if_neg h2];by_cases h3:zG (shapeOf n.kind) n≠0
 ·rw [if_pos h3] at h;exact absurd h h3
 rw [if_neg h3] at h ⊢;split at h
 ·simp at h
 rename_i h4;rw [if_neg h4];split at h
 ·simp at h
 rename_i h5;rw [if_neg h5];have hs:∀l:List Int,0≤(l.map (sizeOf L)).sum:=by
  intro l;induction l with
  | nil=>simp
  | cons y l ih=>have:=hok.sizeOf y;simp only [List.map_cons,List.sum_cons];omega
 have hd:∀(l:List Int) (d:Int),0≤d→0≤l.foldl (fun d t=>max d (depthOf L t)) d:=by
  intro l;induction l with
  | nil=>intro d h;exact h
  | cons y l ih=>intro d h;exact ih (max d (depthOf L y)) (by omega)
 have:=hs (zM n);have:=hd (zM n) 0 (by omega);simp only;omega
theorem lV {L:Pool} (hok:Ok L) (n:Node):Ok (make L n).2.2:=by
 by_cases hc:(check L n).2.2=0
 ·have:=jGX hok hc;unfold make;simp only [hc];rw [if_neg (by simp)];split
  ·exact hok
  ·rename_i hf;split
   ·exact hok
   ·rename_i hl;refine ⟨by simp;omega,?_,?_,?_⟩
    ·rw [List.map_append,List.nodup_append];refine ⟨hok.nodup,by simp,?_⟩;intro a ha b hb;simp only [List.map_cons,List.map_nil,List.mem_singleton] at hb;subst hb;obtain ⟨e,he,rfl⟩:=List.mem_map.1 ha;unfold find at hf;rw [List.findIdx?_eq_none_iff] at hf;simpa using hf e he
    ·intro e he;rcases List.mem_append.1 he with h | h
     ·exact hok.size e h
     ·simp only [List.mem_singleton] at h;subst h;simp;omega
    ·intro e he;rcases List.mem_append.1 he with h | h
     ·exact hok.depth e h
     ·simp only [List.mem_singleton] at h;subst h;simp;omega
 ·unfold make;simp only;rw [if_pos hc];exact hok
theorem yI (t:Tree):∀L,Ok L→Ok (grow L t).2.2∧∃M,(grow L t).2.2=L++M:=by
 induction t using Tree.ind with
 | h k f t u x ks ih =>
  have:∀(ks:List Tree),(∀i (hi:i<ks.length),∀L,Ok L→Ok (grow L ks[i]).2.2∧∃M,(grow L ks[i]).2.2=L++M)→∀n i L,Ok L→Ok (zO n i L ks).2.2∧∃M,(zO n i L ks).2.2=L++M:=by
   intro ks;induction ks with
   | nil=>intro _ n i L h;unfold zO;exact ⟨lV h n,jDH L n⟩
   | cons t ts iht =>
    intro hh n i L h
    have h0:=hh 0 (by simp) L h
    simp only [List.getElem_cons_zero] at h0
    unfold zO
    split
    ·exact h0
    ·obtain ⟨ho,M,hM⟩:=h0
     have:=iht (fun i hi=>hh (i+1) (by simpa using hi)) (if i=0 then { n with a:=(grow L t).1 } else { n with b:=(grow L t).1 }) (i+1) (grow L t).2.2 ho
     refine ⟨this.1,?_⟩
     obtain ⟨M2,hM2⟩:=this.2
     exact ⟨M++M2,by rw [hM2,hM,List.append_assoc]⟩
  intro L h
  unfold grow
  exact this ks ih _ _ L h
def isNum (n:Int):Prop:=0≤n∧n<18446744073709551616
inductive NumT:Tree→Prop
 | mk (k f t u:Int) (x:ByteArray) (ks:List Tree) (own:isNum u) (kids:∀i (hi:i<ks.length),NumT ks[i]):NumT (.mk k f t u x ks)
end Go.Sp
end
section
open Go Go.SE
namespace Go.Proofs
attribute [local irreducible] Calls
def qI (t:Sp.Tree) (s:Sl):List Value:=[.int .i64 t.node.kind,.int .i64 t.node.frm,.int .i64 t.node.to,.int .u64 t.node.num,.string t.node.text,s.v]
inductive TreeAt (S:NP) (w:World):Sl→Sp.Tree→Prop
 | mk (k f t u : Int) (x : ByteArray) (ks : List Sp.Tree) (s : Sl) (rs : Nat → Sl) (len : s.len = ks.length) (fit : ks.length ≤ 9223372036854775807)
   (row:∀i (h:i<ks.length),∃a,At s i 6 a∧S a.block∧Row w a (qI ks[i] (rs i))) (kid:∀i (h:i<ks.length),TreeAt S w (rs i) ks[i]):TreeAt S w s (.mk k f t u x ks)
theorem TreeAt.ext {S F:NP} {w w':World} {s:Sl} {t:Sp.Tree} (h:TreeAt S w s t) (hE:Ext F w w') (hd:∀b,S b→¬ F b):TreeAt S w' s t:=by
 induction h with
 | mk k f t u x ks s rs len fit row kid ih =>
  exact .mk k f t u x ks s rs len fit (fun i h=>let ⟨a,h1,h2,h3⟩:=row i h;⟨a,h1,h2,hE.row h3 (hd _ h2)⟩) ih
theorem TreeAt.pure {S:NP} {w w':World} {s:Sl} {t:Sp.Tree} (h:TreeAt S w s t) (hE:Pure w w'):TreeAt S w' s t:=h.ext hE (fun _ _ h=>h)
theorem TreeAt.mono {S S':NP} {w:World} {s:Sl} {t:Sp.Tree} (h:TreeAt S w s t) (hd:∀b,S b→S' b):TreeAt S' w s t:=by
 induction h with
 | mk k f t u x ks s rs len fit row kid ih =>
  exact .mk k f t u x ks s rs len fit (fun i h=>let ⟨a,h1,h2,h3⟩:=row i h;⟨a,h1,hd _ h2,h3⟩) ih
theorem TreeAt.lt {S:NP} {w:World} {s:Sl} {t:Sp.Tree} (h:TreeAt S w s t):TreeAt (fun b=>S b∧b<w.heap.size) w s t:=by
 induction h with
 | mk k f t u x ks s rs len fit row kid ih =>
  refine .mk k f t u x ks s rs len fit (fun i h=>let ⟨a,h1,h2,h3⟩:=row i h;⟨a,h1,⟨h2,?_⟩,h3⟩) ih
  have:=h3 0 (by simp [qI])
  unfold World.cell? at this
  refine Classical.byContradiction fun hge=>?_
  have:w.heap[(a.add 0).block]?=none:=by rw [jQ];exact Array.getElem?_eq_none (by omega)
  simp_all [qI]
theorem jCQ (k f t u:Int) (x:ByteArray) (s:Sl) (w:World) :
  Calls Tryz.prog 200 #[.agg #[.int .i64 k,.int .i64 f,.int .i64 t,.int .u64 u,.string x,s.v]] w
   (fun e w'=>∃k':Int,∃f':Int,∃t':Int,∃u':Int,∃x':ByteArray,∃a:Int,∃b:Int,e=.returned (.agg #[.int .i64 k',.int .i64 f',.int .i64 t',.int .u64 u',.string x',.int .i64 a,.int .i64 b])∧((⟨k',f',t',u',x',a,b⟩:Sp.Node)=⟨k,f,t,u,x,0,0⟩∧Pure w w')):=by
 refine w_N2 _ _ _ _ _ _ w (fun k' f' t' u' x' a b w'=>(⟨k',f',t',u',x',a,b⟩:Sp.Node)=⟨k,f,t,u,x,0,0⟩∧Pure w w') ?_
 unfold m_N2
 intro p1 w1 h1 p2 w2 h2
 have E1:Pure w w1:=Ext.new h1
 have b1:=(Box.of_new h1).pure (Ext.new h2)
 refine ⟨_,b1.cell0,_,b1.cell rfl,_,b1.cell rfl,_,b1.cell rfl,_,b1.cell rfl,?_⟩
 exact bx 7 (Box.of_new h2) rfl rfl (fun w' b E=>⟨_,_,_,_,_,_,_,b.row,rfl,(E1.trans (Ext.new h2)).own (New.own E1 h2) E⟩)
theorem oQ (t:Sp.Tree):∀i n:Int,0≤n→0≤(Sp.kF i n t).2:=by
 induction t using Sp.Tree.ind with
 | h k f t u x ks ih =>
  have:∀(ks:List Sp.Tree),(∀i (hi:i<ks.length),∀j n:Int,0≤n→0≤(Sp.kF j n ks[i]).2)→∀i e n:Int,0≤n→0≤(Sp.zU i e n ks).2:=by
   intro ks;induction ks with
   | nil=>intro _ i e n h;simpa [Sp.zU] using h
   | cons t ts iht =>
    intro hh i e n h
    unfold Sp.zU
    split
    ·exact iht (fun i hi=>hh (i+1) (by simpa using hi)) _ _ _ (hh 0 (by simp) i n h)
    ·exact h
  intro i n h
  unfold Sp.kF
  split
  ·exact h
  ·split
   ·exact h
   ·exact this ks ih _ _ _ (by omega)
theorem uG {ks:List Sp.Tree} {j:Nat} (hj:j<ks.length) (i n:Int):Sp.zU i 0 n (ks.drop j)=Sp.zU i (Sp.kF i n ks[j]).1 (Sp.kF i n ks[j]).2 (ks.drop (j+1)):=by
 rw [List.drop_eq_getElem_cons hj,Sp.zU,if_pos rfl]
theorem gO {ks:List Sp.Tree} {e:Int} (h:e≠0) (i n:Int):Sp.zU i e n ks=(e,n):=by
 cases ks <;> simp [Sp.zU,h]
theorem jIN {S:NP} (q:Addr) (hq:¬ S q.block) (T:TypeId) (t:Sp.Tree):∀(s:Sl) (inside seen:Int) (w:World),0≤inside→0≤seen→TreeAt S w s t→Box w q [.int .i64 seen] T →
  Calls Tryz.prog 144 #[.agg (qI t s).toArray,.int .i64 inside,.pointer (some q)] w
   (fun e w'=>∃r:Int,e=.returned (.int .i64 r)∧(r=(Sp.kF inside seen t).1∧Box w' q [.int .i64 (Sp.kF inside seen t).2] T∧Ext (·=q.block) w w')):=by
 induction t using Sp.Tree.ind with
 | h k f t u x ks ih =>
 intro s inside seen w hi0 hn0 hT hB
 suffices key:∀K:Int→WP,(∀r w',(r=(Sp.kF inside seen (.mk k f t u x ks)).1∧Box w' q [.int .i64 (Sp.kF inside seen (.mk k f t u x ks)).2] T∧Ext (·=q.block) w w')→K r w')→m_H k f t u x s inside (some q) w K from
  w_H _ _ _ _ _ _ _ _ w _ (key _ (fun _ _ h=>h))
 intro K hK
 unfold m_H
 intro p1 w1 h1
 have b1:=Box.of_new h1
 have E1:Pure w w1:=Ext.new h1
 have n1:q.block≠p1.block:=New.ne h1 hB.blk
 have hB1:=hB.pure E1
 have hT1:=hT.pure E1
 refine ⟨q,rfl,seen,hB1.cell0,fun h=>?_,fun h=>⟨fun h'=>?_,fun h'=>?_⟩⟩
 ·have h:=of_decide_eq_true h
  have:Sp.kF inside seen (.mk k f t u x ks)=(52,seen):=by rw [Sp.kF,if_pos (by omega)]
  rw [this] at hK;exact hK _ _ ⟨rfl,hB1,E1.pure⟩
 ·have h:=of_decide_eq_false h;have h':=of_decide_eq_true h'
  have:Sp.kF inside seen (.mk k f t u x ks)=(52,seen):=by rw [Sp.kF,if_neg (by omega),if_pos (by omega)]
  rw [this] at hK;exact hK _ _ ⟨rfl,hB1,E1.pure⟩
 have h:=of_decide_eq_false h;have h':=of_decide_eq_false h'
 have hsp:Sp.kF inside seen (.mk k f t u x ks)=Sp.zU (inside+1) (Sp.qE ⟨k,f,t,u,x,0,0⟩ ks.length) (seen+1) ks:=by rw [Sp.kF,if_neg (by omega),if_neg (by omega)]
 rw [hsp] at hK
 unfold m_H_j1
 refine ⟨q,rfl,seen,hB1.cell0,q,rfl,hB1.canW0 (by simp),?_⟩
 rw [i64 (n:=seen+1) (by omega) (by omega)]
 intro w2 hw2
 have hB2:Box w2 q [.int .i64 (seen+1)] T:=by rw [hw2];exact hB1.set0
 have E12:Ext (·=q.block) w1 w2:=by rw [hw2];exact Ext.setCell q _
 clear hw2
 have b2:=b1.ext E12 (fun e=>n1 e.symm)
 have hT2:=hT1.ext E12 (fun b hb e=>hq (e▸hb))
 have E2:Ext (·=q.block) w w2:=E1.pure.trans E12
 refine ⟨_,_,_,_,_,_,b2.row,?_⟩
 refine (jCQ _ _ _ _ _ _ w2).mono ?_
 rintro _ w3 ⟨k',f',t',u',x',a',b',rfl,hn,E23⟩
 cases hn
 refine ⟨_,_,_,_,_,_,_,rfl,?_⟩
 intro p2 w4 h4
 have n2:p1.block≠p2.block:=New.ne h4 (b2.pure E23).blk
 have E24:Pure w2 w4:=E23.trans (Ext.new h4)
 have o2:=New.own E23 h4
 refine bx 7 (Box.of_new h4) rfl rfl (fun w5 c2 E45=>?_)
 have E25:Pure w2 w5:=E24.own o2 E45
 refine ⟨_,_,_,_,_,_,_,c2.row,?_⟩
 refine (jFQ _ _ _ _ _ _ _ w5).mono ?_
 rintro _ w6 ⟨s1,s2,s3,s4,s5,pe,rfl,⟨hs,hpe⟩,E56⟩
 refine ⟨_,_,_,_,_,_,rfl,?_⟩
 intro p3 w7 h7
 have n3:p2.block≠p3.block:=New.ne h7 (c2.pure E56).blk
 have E27:Pure w2 w7:=(E25.trans E56).trans (Ext.new h7)
 have o3:=New.own (E25.trans E56) h7
 refine bx 5 (Box.of_new h7) rfl rfl (fun w8 c3 E78=>?_)
 have E28:Pure w2 w8:=E27.own o3 E78
 have d2:=((c2.pure E56).pure (Ext.new h7)).ext E78 n3
 have d1:=b2.pure E28
 have hB8:=hB2.pure E28
 have hT8:=hT2.pure E28
 have E8:Ext (·=q.block) w w8:=E2.thenPure E28
 clear E78 E27 E56 E25 E45 E24 E23 E12 c2 b2 b1 hT2 hT1 hB1 h1 h4 h7
 have hlen:s.len=ks.length:=by cases hT;assumption
 have hfit:ks.length≤9223372036854775807:=by cases hT;assumption
 have hsh:Sp.shapeOf k=⟨s1,s2,s3,s4,s5⟩:=hs.symm
 have J3:∀e w',Pure w8 w'→e=Sp.qE ⟨k,f,t,u,x,0,0⟩ ks.length→m_H_j3 inside (some q) p1 e w' K:=by
  intro e w' E hown;rw [← hown] at hK;unfold m_H_j3;refine ⟨fun e i w'=>∃j:Nat,i=j∧j≤ks.length∧∃n:Int,0≤n∧Ext (·=q.block) w8 w'∧Box w' q [.int .i64 n] T∧Sp.zU (inside+1) e n (ks.drop j)=Sp.zU (inside+1) (Sp.qE ⟨k,f,t,u,x,0,0⟩ ks.length) (seen+1) ks,fun _ i _=>((ks.length:Int) - i).toNat,⟨0,rfl,Nat.zero_le _,seen+1,by omega,E.pure,hB8.pure E,by rw [hown];rfl⟩,?_⟩;rintro e1 _ wl ⟨j,rfl,hj,n,hn,El,hBl,heq⟩;unfold m_H_l4;have dl:=d1.ext El (fun e=>n1 e.symm);have hTl:=hT8.ext El (fun b hb e=>hq (e▸hb));rw [← hown] at heq;have fin:∀n',Sp.zU (inside+1) e ((seen:Int)+1) ks=(e1,n')→n'=n→K e1 wl:=by
   rintro n' h rfl;refine hK _ _ ⟨by rw [h],by rw [h];exact hBl,E8.trans El⟩
  refine ⟨s,dl.cell rfl,fun hlt=>⟨fun he=>?_,fun he=>?_⟩,fun hlt=>?_⟩
  ·have hlt:j<ks.length:=by have h:=of_decide_eq_true hlt;omega
   have he:e1=0:=by simpa using he
   subst he;cases hTl with
   | mk _ _ _ _ _ _ _ rs len fit row kid =>
   obtain ⟨a,hat,ha,hr⟩:=row j hlt;refine ⟨s,dl.cell rfl,a,hat,_,_,_,_,_,rs j,hr,?_⟩;rw [i64 (n:=inside+1) (by omega) (by omega)];refine (ih j hlt (rs j) (inside+1) n wl (by omega) hn (kid j hlt) hBl).mono ?_;rintro _ w9 ⟨r,rfl,rfl,hB9,E9⟩;rw [uG hlt] at heq;refine ⟨_,rfl,⟨j+1,?_,hlt,_,oQ _ _ _ hn,El.trans E9,hB9,by rw [← hown];exact heq⟩,?_⟩
   ·rw [i64 (by omega) (by omega)];omega
   ·show ((ks.length:Int) - IntKind.i64.wrap ((j:Int)+1)).toNat<((ks.length:Int) - (j:Int)).toNat;rw [i64 (by omega) (by omega)];omega
  ·have he:e1≠0:=by simpa using he
   rw [gO he] at heq;exact fin _ heq.symm rfl
  ·have hge:j=ks.length:=by have h:=of_decide_eq_false hlt;omega
   rw [hge,List.drop_length,Sp.zU] at heq;exact fin _ heq.symm rfl
 have J2:∀e1,e1=(if pe=0 then if (ks.length:Int)≠s5 then 53 else 0 else pe)→m_H_j2 inside (some q) p1 p2 p3 e1 w8 K:=by
  intro e1 he1;have hown:Sp.qE ⟨k,f,t,u,x,0,0⟩ ks.length=if e1=0 then Sp.zG ⟨s1,s2,s3,s4,s5⟩ ⟨k,f,t,u,x,0,0⟩ else e1:=by
   unfold Sp.qE;simp only [hsh,← hpe,he1]
  unfold m_H_j2;refine ⟨fun h=>⟨_,_,_,_,_,c3.row,_,_,_,_,_,_,_,d2.row,?_⟩,fun h=>J3 _ _ (Ext.refl _) ?_⟩
  ·have h:e1=0:=by simpa using h
   refine (jCT _ _ _ _ _ _ _ _ _ _ _ _ _).mono ?_;rintro _ w9 ⟨_,rfl,rfl,E9⟩;exact ⟨_,rfl,J3 _ _ E9 (by rw [hown,if_pos h])⟩
  ·have h:e1≠0:=by simpa using h
   rw [hown,if_neg h]
 refine ⟨fun h=>⟨s,d1.cell rfl,s5,c3.cell rfl,fun h5=>J2 _ ?_,fun h5=>J2 _ ?_⟩,fun h=>J2 _ ?_⟩
 ·have h:pe=0:=by simpa using h
  have h5:(s.len:Int)≠s5:=by simpa using h5
  rw [if_pos h,if_pos (by omega)]
 ·have h:pe=0:=by simpa using h
  have h5:(s.len:Int)=s5:=by simpa using h5
  rw [if_pos h,if_neg (by omega),h]
 ·have h:pe≠0:=by simpa using h
  rw [if_neg h]
theorem c_New (w:World):Calls Tryz.prog 61 #[] w (fun e w'=>∃r:Option Addr,e=.returned (.pointer r)∧∃p,r=some p∧Pure w w'∧∃F,jU w' p [] F∧∀b,F b→w.heap.size≤b):=by
 refine w_H2 w (fun r w'=>∃p,r=some p∧Pure w w'∧∃F,jU w' p [] F∧∀b,F b→w.heap.size≤b) ?_;unfold m_H2;intro p1 w1 h1 p2 w2 h2;have E1:Pure w w1:=Ext.new h1;have m2:CMap w2 p1.block []:=(CMap.of_new h1).ext (Ext.new h2:Pure w1 w2) id;have n12:p1.block≠p2.block:=New.ne h2 h1.block_new;refine ⟨p2,rfl,E1.trans (Ext.new h2),fun b=>b=p2.block∨Sl.nil.blk b∨b=p1.block,⟨Sl.nil,p1.block,⟨Box.of_new h2,by simpa using Rws.nil _ _ _,by simpa [qP] using m2,n12,?_,?_⟩,fun _=>Iff.rfl⟩,?_⟩
 ·rintro ⟨a,h,_⟩;cases h
 ·rintro ⟨a,h,_⟩;cases h
 ·rintro b (rfl | ⟨a,h,_⟩ | rfl)
  ·exact New.own E1 h2
  ·cases h
  ·exact New.own (Ext.refl w) h1
theorem jEP (L:Sp.Pool) (n:Nat):qP (L.take n)=(qP L).take n:=by
 apply List.ext_getElem?;intro i;simp only [qP,List.getElem?_map,List.getElem?_zipIdx,List.getElem?_take];split <;> simp
theorem jGM (L:Sp.Pool):(qP L).map (·.1)=(L.map (·.node)).map xZ:=by
 apply List.ext_getElem?;intro i;simp only [qP,List.getElem?_map,List.getElem?_zipIdx];cases L[i]? <;> simp
theorem c_cut (p:Addr) (n:Nat) (w:World) {L:Sp.Pool} {F:NP} (hP:jU w p L F) (hok:Sp.Ok L) (hn:n≤L.length) :
  Calls Tryz.prog 146 #[.pointer (some p),.int .i64 n] w (fun e w'=>e=.returned (.tuple #[])∧jU w' p (L.take n) F∧Ext F w w'):=by
 suffices key:∀K:WP,(∀w',jU w' p (L.take n) F∧Ext F w w'→K w')→m_C1 (some p) n w K from
  w_C1 _ _ w _ (key _ (fun _ h=>h))
 intro K hK
 unfold m_C1
 obtain ⟨s,m,hS,hF⟩:=hP
 have hfew:=hok.few
 have hcap:s.len≤s.cap:=by
  have:=hS.rows.len;rcases hS.rows.own with ⟨rfl,_⟩ | ⟨g,cur,_,_,hc,_⟩
  ·simp [Sl.nil]
  ·omega
 obtain ⟨s1,hr1,hl1⟩:=hS.rows.lst.lo (P:=Tryz.prog) xQ hcap (k:=.i64) (n:=n) (by omega) (by simpa using hn)
 have hlen1:s1.len=L.length - n:=by rw [hl1.len];simp
 refine ⟨p,rfl,s,hS.box.cell0,s1,hr1,?_⟩
 refine ⟨fun x w'=>∃j:Nat,x=j∧j≤L.length - n∧Ext (·=m) w w'∧CMap w' m ((qP L).take n++(qP L).drop (n+j)),fun x _=>((L.length:Int) - x).toNat,⟨0,rfl,Nat.zero_le _,Ext.refl w,by simpa using hS.map⟩,?_⟩
 rintro _ wl ⟨j,rfl,hj,El,hml⟩
 have hboxl:=hS.box.ext El hS.n1.symm
 have hrowsl:=hS.rows.ext El (fun b hb e=>hS.n3 (e▸hb))
 unfold m_C1_l1
 refine ⟨fun h=>?_,fun h=>?_⟩
 ·have hlt:n+j<L.length:=by have h:=of_decide_eq_true h;omega
  have hll:=hl1.ext El (fun b hb e=>hS.n3 (e▸hb))
  obtain ⟨a,hat,_,hrow⟩:=hll.at_ j (by simp;omega)
  generalize he:L[n+j]=e at *
  have hrow':Row wl a (jDU e):=by
   have:((L.map jDU).drop ((n:Int).toNat))[j]'(by simp;omega)=jDU e:=by simp [he]
   rw [this] at hrow;exact hrow
  obtain ⟨nd,sz,dp⟩:=e
  obtain ⟨k,f,t,u,x,a1,b1⟩:=nd
  refine ⟨a,hat,_,_,_,_,_,_,_,_,_,hrow',?_⟩
  intro p2 w1 h1
  have E1:Pure wl w1:=Ext.new h1
  have o1:=New.own (Ext.refl wl) h1
  refine bx 9 (Box.of_new h1) rfl rfl (fun w2 b2 E=>?_)
  have E2:Pure wl w2:=E1.own o1 E
  refine ⟨fun w'=>w'.cell? (p.add 1)=some (.map (some m))∧Row w' p2 (uN ⟨k,f,t,u,x,a1,b1⟩),⟨(hboxl.pure (E2.thenPure (Ext.drew w2))).cell (i:=1) rfl,?_⟩,?_⟩
  ·have : Row w2 p2 (uN ⟨k, f, t, u, x, a1, b1⟩) := fun i hi => by
    have:=b2.row i (by simp [uN] at hi ⊢;omega);rw [this];have h7:i<7:=by simpa [uN] using hi
    have:i=0∨i=1∨i=2∨i=3∨i=4∨i=5∨i=6:=by omega
    rcases this with rfl | rfl | rfl | rfl | rfl | rfl | rfl <;> rfl
   exact Ext.row (F:=None) (Ext.drew w2) this id
  intro w3 hw3
  have E3:Pure wl w3:=by rw [hw3];exact E2.thenPure (Ext.drew w2)
  clear hw3
  refine ⟨p,rfl,some m,fun w' h=>h.1,k,f,t,u,x,a1,b1,fun w' h=>h.2,?_⟩
  have hm3:=hml.ext E3 id
  have hpl:(qP L).length=L.length:=by simp [qP]
  have hget:(qP L)[n+j]?=some (xZ ⟨k,f,t,u,x,a1,b1⟩,.int .i64 (n+j+1:Nat)):=by
   simp only [qP,List.getElem?_map,List.getElem?_zipIdx,List.getElem?_eq_getElem hlt,he];simp
  have hidx:((qP L).take n++(qP L).drop (n+j))[n]?=some (xZ ⟨k,f,t,u,x,a1,b1⟩,.int .i64 (n+j+1:Nat)):=by
   have e0:n+j+(n - ((qP L).take n).length)=n+j:=by rw [List.length_take];omega
   rw [List.getElem?_append_right (by rw [List.length_take];omega),List.getElem?_drop,e0,hget]
  have hnd:((qP L).map (·.1)).Nodup:=by
   rw [jGM,List.nodup_iff_pairwise_ne,List.pairwise_map];exact hok.nodup.imp (fun h e=>h (tI.1 e))
  have hsub:List.Sublist ((qP L).take n++(qP L).drop (n+j)) (qP L):=by
   conv=>rhs;rw [← List.take_append_drop n (qP L)]
   refine (List.Sublist.refl _).append ?_;have e0:(qP L).drop (n+j)=((qP L).drop n).drop j:=by rw [List.drop_drop]
   rw [e0];exact List.drop_sublist _ _
  have hnd2:(((qP L).take n++(qP L).drop (n+j)).map (·.1)).Nodup:=hnd.sublist (hsub.map _)
  obtain ⟨w4,hr4,hm4,E4⟩:=hm3.delete (P:=Tryz.prog) (Q:=176) (z:=0) Tryz.underlying167 uX (fun q hq=>xV q (hsub.subset hq)) ⟨_,rfl⟩ hidx (fun i u hi=>by
   obtain ⟨hi1,hi2⟩:=List.getElem?_eq_some_iff.1 hi;obtain ⟨hn1,hn2⟩:=List.getElem?_eq_some_iff.1 hidx;refine Classical.byContradiction fun hne=>?_;have hne:=List.pairwise_iff_getElem.1 hnd2;rcases Nat.lt_or_gt_of_ne ‹_› with hlt | hlt
   ·exact hne i n (by simpa using hi1) (by simpa using hn1) hlt (by rw [List.getElem_map,List.getElem_map,hi2,hn2])
   ·exact hne n i (by simpa using hn1) (by simpa using hi1) hlt (by rw [List.getElem_map,List.getElem_map,hi2,hn2]))
  refine ⟨w4,hr4,⟨j+1,?_,by omega,(El.trans E3.pure).trans E4,?_⟩,?_⟩
  ·rw [i64 (by omega) (by omega)];omega
  ·rw [List.eraseIdx_append_of_length_le (by rw [List.length_take];omega)] at hm4
   have:n - ((qP L).take n).length=0:=by rw [List.length_take];omega
   rw [this] at hm4
   have hd:((qP L).drop (n+j)).eraseIdx 0=(qP L).drop (n+(j+1)):=by
    rw [List.drop_eq_getElem_cons (by omega)];simp;rfl
   rw [hd] at hm4;exact hm4
  ·show ((L.length:Int) - IntKind.i64.wrap ((j:Int)+1)).toNat<((L.length:Int) - (j:Int)).toNat
   rw [i64 (by omega) (by omega)];omega
 ·have hge:n+j=L.length:=by have h:=of_decide_eq_false h;omega
  have hpl:(qP L).length=L.length:=by simp [qP]
  rw [hge,← hpl,List.drop_length,List.append_nil] at hml
  obtain ⟨s2,hr2,hrows2,hb2⟩:=hrowsl.hi (P:=Tryz.prog) xQ (k:=.i64) (n:=n) (by omega) (by simpa using hn)
  refine ⟨p,rfl,s,hboxl.cell0,s2,hr2,p,rfl,hboxl.canW0 (by simp),?_⟩
  rintro w5 hw5
  have hbox5:Box w5 p [s2.v,.map (some m)] 169:=by rw [hw5];exact hboxl.set0
  have E5:Ext (·=p.block) wl w5:=by rw [hw5];exact Ext.setCell p _
  clear hw5
  refine hK _ ⟨⟨s2,m,⟨hbox5,?_,?_,hS.n1,fun h=>hS.n2 ((hb2 _).1 h),fun h=>hS.n3 ((hb2 _).1 h)⟩,fun b=>by rw [hF b,hb2 b]⟩,?_⟩
  ·have:=hrows2.ext E5 (fun b hb e=>hS.n2 (by rw [← e];exact (hb2 _).1 hb))
   simpa using this
  ·rw [jEP];exact hml.ext E5 hS.n1
  ·exact (El.mono (fun i _ h=>(hF i).2 (.inr (.inr h)))).trans' E5 (fun i _ h=>(hF i).2 (.inl h))
theorem lX {n:Sp.Node} {i:Nat} {L:Sp.Pool} {t:Sp.Tree} {ts:List Sp.Tree} (h:(Sp.grow L t).2.1≠0):Sp.zO n i L (t :: ts)=(0,(Sp.grow L t).2.1,(Sp.grow L t).2.2):=by rw [Sp.zO,if_pos h]
theorem gQ {n:Sp.Node} {i:Nat} {L:Sp.Pool} {t:Sp.Tree} {ts:List Sp.Tree} (h:(Sp.grow L t).2.1=0):Sp.zO n i L (t :: ts)=Sp.zO (if i=0 then { n with a:=(Sp.grow L t).1 } else { n with b:=(Sp.grow L t).1 }) (i+1) (Sp.grow L t).2.2 ts:=by rw [Sp.zO,if_neg (by simp [h])]
def Sp.Tree.two (t:Sp.Tree):Prop:=Sp.Tree.rec (motive_1:=fun _=>Prop) (motive_2:=fun _=>Prop) (fun _ _ _ _ _ ks h=>ks.length≤2∧h) True (fun _ _ h1 h2=>h1∧h2) t
def tW:List Sp.Tree→Prop
 | []=>True
 | t :: ts=>Sp.Tree.two t∧tW ts
theorem jEF {k f t u:Int} {x:ByteArray} {ks:List Sp.Tree}:Sp.Tree.two (.mk k f t u x ks)↔ks.length≤2∧tW ks:=by
 have:∀ks:List Sp.Tree,(Sp.Tree.rec_1 (motive_1:=fun _=>Prop) (motive_2:=fun _=>Prop) (fun _ _ _ _ _ ks h=>ks.length≤2∧h) True (fun _ _ h1 h2=>h1∧h2) ks:Prop)=tW ks:=by
  intro ks;induction ks with
  | nil=>rfl
  | cons t ts ih=>show (Sp.Tree.two t∧_)=(Sp.Tree.two t∧_);rw [ih]
 show (ks.length≤2∧_)↔_;rw [this]
theorem oK {ks:List Sp.Tree} (h:tW ks) {i:Nat} (hi:i<ks.length):Sp.Tree.two ks[i]:=by
 induction ks generalizing i with
 | nil=>simp at hi
 | cons t ts ih =>
  cases i with
  | zero=>exact h.1
  | succ i=>exact ih h.2 (by simpa using hi)
theorem c_grow {S:NP} (p:Addr) (t:Sp.Tree):∀(s:Sl) (w:World) (L:Sp.Pool) (F:NP),Sp.Tree.two t→TreeAt S w s t→jU w p L F→Sp.Ok L→(∀b,F b→¬ S b)→(∀b,S b→b<w.heap.size) →
  Calls Tryz.prog 145 #[.pointer (some p),.agg (qI t s).toArray] w
   (fun e w'=>∃r1:Int,∃r2:Int,e=.returned (.tuple #[.int .i64 r1,.int .i64 r2])∧((r1,r2)=((Sp.grow L t).1,(Sp.grow L t).2.1)∧∃F',jU w' p (Sp.grow L t).2.2 F'∧Ext F w w'∧∀b,F' b→F b∨w.heap.size≤b)):=by
 induction t using Sp.Tree.ind with
 | h k f t u x ks ih =>
 intro s w L F h2 hT hP hok hFS hSw
 suffices key:∀K:Int→Int→WP,(∀r1 r2 w',((r1,r2)=((Sp.grow L (.mk k f t u x ks)).1,(Sp.grow L (.mk k f t u x ks)).2.1)∧∃F',jU w' p (Sp.grow L (.mk k f t u x ks)).2.2 F'∧Ext F w w'∧∀b,F' b→F b∨w.heap.size≤b)→K r1 r2 w')→m_B1 (some p) k f t u x s w K from
  w_B1 _ _ _ _ _ _ _ w _ (key _ (fun _ _ _ h=>h))
 intro K hK
 obtain ⟨hk2,hall⟩:=jEF.1 h2
 unfold m_B1
 intro p2 w1 h1
 have b1:=Box.of_new h1
 have E1:Pure w w1:=Ext.new h1
 refine ⟨_,_,_,_,_,_,b1.row,?_⟩
 refine (jCQ _ _ _ _ _ _ w1).mono ?_
 rintro _ w2 ⟨k',f',t',u',x',a',b',rfl,hn,E12⟩
 cases hn
 refine ⟨_,_,_,_,_,_,_,rfl,?_⟩
 intro p3 w3 h3
 have E3:Pure w w3:=(E1.trans E12).trans (Ext.new h3)
 have o3:=New.own (E1.trans E12) h3
 have n23:p2.block≠p3.block:=New.ne h3 (b1.pure E12).blk
 refine bx 7 (Box.of_new h3) rfl rfl (fun w4 b3 E34=>?_)
 have E4:Pure w w4:=E3.own o3 E34
 have b2:=((b1.pure E12).pure (Ext.new h3)).ext E34 n23
 intro p4 w5 h5
 have E5:Pure w w5:=E4.trans (Ext.new h5)
 have o4:=New.own E4 h5
 have n34:p3.block≠p4.block:=New.ne h5 b3.blk
 have c3:=b3.pure (Ext.new h5:Pure w4 w5)
 have c4:=Box.of_new h5
 have c2:=b2.pure (Ext.new h5:Pure w4 w5)
 refine ⟨s,c2.cell rfl,?_⟩
 have hsp:Sp.grow L (.mk k f t u x ks)=Sp.zO ⟨k,f,t,u,x,0,0⟩ 0 L ks:=by rw [Sp.grow]
 rw [hsp] at hK
 have hlen:s.len=ks.length:=by cases hT;assumption
 refine ⟨fun i w'=>∃j:Nat,i=j∧j≤ks.length∧∃(nd:Sp.Node) (L':Sp.Pool) (F':NP),Sp.zO ⟨k,f,t,u,x,0,0⟩ 0 L ks=Sp.zO nd j L' (ks.drop j)∧Sp.Ok L'∧jU w' p L' F'∧(∀b,F' b→F b∨w.heap.size≤b)∧¬ F' p3.block∧¬ F' p4.block∧Ext F w w'∧Box w' p3 (uN nd) 176∧Box w' p4 [.pointer (some (p3.add 5)),.pointer (some (p3.add 6))] 309,fun i _=>((ks.length:Int) - i).toNat,
  ⟨0,rfl,Nat.zero_le _,⟨k,f,t,u,x,0,0⟩,L,F,by simp,hok,hP.pure E5,fun b h=>.inl h,fun h=>by have:=hP.lt h;omega,fun h=>by have:=hP.lt h;omega,E5.pure,c3,c4⟩,?_⟩
 rintro _ wl ⟨j,rfl,hj,nd,L',F',heq,hok',hPl,hF',hn3,hn4,El,d3,d4⟩
 unfold m_B1_l1
 refine ⟨fun h=>?_,fun h=>?_⟩
 ·have hlt:j<ks.length:=by have h:=of_decide_eq_true h;omega
  have hTl:TreeAt S wl s (.mk k f t u x ks):=hT.ext El (fun b hs hf=>hFS b hf hs)
  have hkid:∀i (h:i<ks.length),∃a r,At s i 6 a∧Row wl a (qI ks[i] r)∧TreeAt S wl r ks[i]:=by
   cases hTl with
   | mk _ _ _ _ _ _ _ rs len fit row kid=>exact fun i h=>let ⟨a,h1,_,h3⟩:=row i h;⟨a,rs i,h1,h3,kid i h⟩
  obtain ⟨a,r,hat,hrow,hTk⟩:=hkid j hlt
  refine ⟨a,hat,_,_,_,_,_,r,hrow,?_⟩
  intro p5 w6 h6
  have o5:=New.own (Ext.refl wl) h6
  refine bx 6 (Box.of_new h6) rfl rfl (fun w7 b5 E67=>?_)
  have E7:Pure wl w7:=Ext.own (Ext.new h6) o5 E67
  refine ⟨_,_,_,_,_,r,b5.row,?_⟩
  have hsz:w.heap.size≤wl.heap.size:=El.size
  refine (ih j hlt r w7 L' F' (oK hall hlt) (hTk.pure E7) (hPl.pure E7) hok' (fun b hb hs=>(hF' b hb).elim (fun h=>hFS b h hs) (fun h=>by have:=hSw b hs;omega)) (fun b hs=>by have:=hSw b hs;have:=E7.size;omega)).mono ?_
  rintro _ w8 ⟨r1,r2,rfl,hr,F8,hP8,E8,hF8⟩
  have e1:r1=(Sp.grow L' ks[j]).1:=congrArg Prod.fst hr
  have e2:r2=(Sp.grow L' ks[j]).2.1:=congrArg Prod.snd hr
  rw [List.drop_eq_getElem_cons hlt] at heq
  have hF8':∀b,F8 b→F b∨w.heap.size≤b:=fun b hb=>(hF8 b hb).elim (hF' b) (fun h=>by right;have:=E7.size;omega)
  have Ew8:Ext F w w8:=(El.thenPure E7).trans' E8 (fun i hi h=>(hF' i h).elim id (fun h=>by omega))
  refine ⟨_,_,rfl,fun h=>?_,fun h=>?_⟩
  ·have h:(Sp.grow L' ks[j]).2.1≠0:=by rw [← e2];simpa using h
   rw [lX h] at heq
   refine hK _ _ _ ?_
   rw [heq];exact ⟨by rw [e2],F8,hP8,Ew8,hF8'⟩
  ·have h:(Sp.grow L' ks[j]).2.1=0:=by rw [← e2];simpa using h
   rw [gQ h] at heq
   have q3:=(d3.pure E7).ext E8 hn3
   have q4:=(d4.pure E7).ext E8 hn4
   have hs7:wl.heap.size≤w7.heap.size:=E7.size
   have n38:¬ F8 p3.block:=fun h=>(hF8 _ h).elim hn3 (fun h=>by have:=(d3.pure E7).lt;omega)
   have n48:¬ F8 p4.block:=fun h=>(hF8 _ h).elim hn4 (fun h=>by have:=(d4.pure E7).lt;omega)
   have hok8:=(Sp.yI ks[j] L' hok').1
   have fin : ∀ (w9 : World) (nd' : Sp.Node), nd' = (if j = 0 then { nd with a := (Sp.grow L' ks[j]).1 } else { nd with b := (Sp.grow L' ks[j]).1 }) → Box w9 p3 (uN nd') 176 → Ext (· = p3.block) w8 w9 →
     (∃j':Nat,IntKind.i64.wrap ((j:Int)+1)=j'∧j'≤ks.length∧∃(nd:Sp.Node) (L':Sp.Pool) (F':NP),Sp.zO ⟨k,f,t,u,x,0,0⟩ 0 L ks=Sp.zO nd j' L' (ks.drop j')∧Sp.Ok L'∧jU w9 p L' F'∧(∀b,F' b→F b∨w.heap.size≤b)∧¬ F' p3.block∧¬ F' p4.block∧Ext F w w9∧Box w9 p3 (uN nd) 176∧Box w9 p4 [.pointer (some (p3.add 5)),.pointer (some (p3.add 6))] 309)∧((ks.length:Int) - IntKind.i64.wrap ((j:Int)+1)).toNat<((ks.length:Int) - (j:Int)).toNat:=by
    intro w9 nd' hnd B9 E9
    rw [i64 (by omega) (by omega)]
    refine ⟨⟨j+1,by omega,hlt,nd',_,F8,by rw [heq,hnd],hok8,hP8.ext E9 (fun b hb e=>n38 (e▸hb)),hF8',n38,n48,Ew8.trans' E9 (fun i hi h=>by subst h;omega),B9,q4.ext E9 n34.symm⟩,by omega⟩
   have hj2:j=0∨j=1:=by omega
   rcases hj2 with rfl | rfl
   ·refine ⟨p4,⟨by omega,by simp,p4,rfl,rfl⟩,some (p3.add 5),q4.cell0,p3.add 5,rfl,q3.canW (by simp [uN]),?_⟩
    intro w9 hw9
    refine fin w9 _ rfl ?_ ?_
    ·rw [hw9,e1];exact q3.set 5 _
    ·rw [hw9];have:=Ext.setCell (w:=w8) (p3.add 5) (.int .i64 r1);rw [jQ] at this;exact this
   ·refine ⟨p4.add 1,⟨by omega,by simp,p4,rfl,rfl⟩,some (p3.add 6),q4.cell rfl,p3.add 6,rfl,q3.canW (by simp [uN]),?_⟩
    intro w9 hw9
    refine fin w9 _ rfl ?_ ?_
    ·rw [hw9,e1];exact q3.set 6 _
    ·rw [hw9];have:=Ext.setCell (w:=w8) (p3.add 6) (.int .i64 r1);rw [jQ] at this;exact this
 ·have hge:j=ks.length:=by have h:=of_decide_eq_false h;omega
  rw [hge,List.drop_length,Sp.zO] at heq
  obtain ⟨k0,f0,t0,u0,x0,a0,b0⟩:=nd
  refine ⟨_,_,_,_,_,_,_,d3.row,?_⟩
  refine (jCW p k0 f0 t0 u0 x0 a0 b0 wl hPl hok').mono ?_
  rintro _ w9 ⟨r1,r2,rfl,hr,F9,hP9,E9,hF9⟩
  have hsz:w.heap.size≤wl.heap.size:=El.size
  refine ⟨_,_,rfl,hK _ _ _ ?_⟩
  rw [heq]
  exact ⟨hr,F9,hP9,El.trans' E9 (fun i hi h=>(hF' i h).elim id (fun h=>by omega)),fun b hb=>(hF9 b hb).elim (hF' b) (fun h=>by right;omega)⟩
theorem jAI (t:Sp.Tree):∀i n:Int,(Sp.kF i n t).1=0→Sp.Tree.two t:=by
 induction t using Sp.Tree.ind with
 | h k f t u x ks ih =>
  have hA:∀(ks:List Sp.Tree),(∀i (hi:i<ks.length),∀j n:Int,(Sp.kF j n ks[i]).1=0→Sp.Tree.two ks[i])→∀i e n:Int,(Sp.zU i e n ks).1=0→e=0∧tW ks:=by
   intro ks;induction ks with
   | nil=>intro _ i e n h;exact ⟨by simpa [Sp.zU] using h,trivial⟩
   | cons t ts iht =>
    intro hh i e n h
    unfold Sp.zU at h
    split at h
    ·rename_i he
     have:=iht (fun i hi=>hh (i+1) (by simpa using hi)) _ _ _ h
     exact ⟨he,hh 0 (by simp) i n this.1,this.2⟩
    ·rename_i he;exact absurd h he
  intro i n h
  unfold Sp.kF at h
  split at h
  ·cases h
  ·split at h
   ·cases h
   ·have:=hA ks ih _ _ _ h
    refine jEF.2 ⟨?_,this.2⟩
    have ho:=this.1
    unfold Sp.qE at ho
    simp only at ho
    have hk:=Sp.tK k
    by_cases hp:Sp.zK ⟨k,f,t,u,x,0,0⟩=0
    ·rw [if_pos hp] at ho
     by_cases hl:(ks.length:Int)≠(Sp.shapeOf k).kids
     ·rw [if_pos hl] at ho;simp at ho
     ·omega
    ·rw [if_neg hp,if_neg hp] at ho;exact absurd ho hp
theorem c_Of {S:NP} (p:Addr) (t:Sp.Tree) (s:Sl) (w:World) {L:Sp.Pool} {F:NP} (hT:TreeAt S w s t) (hP:jU w p L F) (hok:Sp.Ok L) (hFS:∀b,F b→¬ S b) (hSw:∀b,S b→b<w.heap.size) :
  Calls Tryz.prog 77 #[.pointer (some p),.agg (qI t s).toArray] w
   (fun e w'=>∃r1:Int,∃r2:Int,e=.returned (.tuple #[.int .i64 r1,.int .i64 r2])∧((r1,r2)=((Sp.of L t).1,(Sp.of L t).2.1)∧∃F',jU w' p (Sp.of L t).2.2 F'∧Ext F w w'∧∀b,F' b→F b∨w.heap.size≤b)):=by
 obtain ⟨k,f,to,u,x,ks⟩:=t
 suffices key:∀K:Int→Int→WP,(∀r1 r2 w',((r1,r2)=((Sp.of L (.mk k f to u x ks)).1,(Sp.of L (.mk k f to u x ks)).2.1)∧∃F',jU w' p (Sp.of L (.mk k f to u x ks)).2.2 F'∧Ext F w w'∧∀b,F' b→F b∨w.heap.size≤b)→K r1 r2 w')→m_V1 (some p) k f to u x s w K from
  w_V1 _ _ _ _ _ _ _ w _ (key _ (fun _ _ _ h=>h))
 intro K hK
 unfold m_V1
 intro p2 w1 h1
 have b1:=Box.of_new h1
 have E1:Pure w w1:=Ext.new h1
 refine Br.f rfl ?_
 intro p3 w2 h2
 have E2:Pure w w2:=E1.trans (Ext.new h2)
 have o3:=New.own E1 h2
 have c3:=Box.of_new h2
 have n23:p2.block≠p3.block:=New.ne h2 b1.blk
 refine ⟨c3.canW0 (by simp),?_⟩
 intro w3 hw3
 have c3':Box w3 p3 [.int .i64 0] 3:=by rw [hw3];exact c3.set0
 have E23:Ext (·=p3.block) w2 w3:=by rw [hw3];exact Ext.setCell p3 _
 clear hw3
 have E3:Pure w w3:=E2.own o3 E23
 have b3:=(b1.pure (Ext.new h2:Pure w1 w2)).ext E23 n23
 refine ⟨_,_,_,_,_,s,b3.row,?_⟩
 generalize ht:Sp.Tree.mk k f to u x ks=t at *
 have htr:(Value.agg #[.int .i64 k,.int .i64 f,.int .i64 to,.int .u64 u,.string x,s.v])=.agg (qI t s).toArray:=by rw [← ht];rfl
 rw [htr]
 refine (jIN p3 (fun h=>by have:=hSw _ h;omega) _ t s 0 0 w3 (by omega) (by omega) (hT.pure E3) c3').mono ?_
 rintro _ w4 ⟨r1,rfl,rfl,_,E34⟩
 have E4:Pure w w4:=E3.own o3 E34
 have b4:=b3.ext E34 n23
 have same:∀w',Pure w w'→∃F',jU w' p L F'∧Ext F w w'∧∀b,F' b→F b∨w.heap.size≤b:=fun w' E=>⟨F,hP.pure E,E.pure,fun _ h=>.inl h⟩
 refine ⟨_,rfl,fun h=>?_,fun h=>?_⟩
 ·have h:(Sp.kF 0 0 t).1≠0:=by simpa using h
  have:Sp.of L t=(0,(Sp.kF 0 0 t).1,L):=by rw [Sp.of,if_pos h]
  refine hK _ _ _ ?_
  rw [this];exact ⟨rfl,same _ E4⟩
 ·have h:(Sp.kF 0 0 t).1=0:=by simpa using h
  have hP4:=hP.pure E4
  obtain ⟨s0,m0,hS0,hF0⟩:=id hP4
  have hl0:s0.len=L.length:=by rw [hS0.rows.len];simp
  refine ⟨p,rfl,s0,hS0.box.cell0,_,_,_,_,_,s,b4.row,?_⟩
  rw [htr]
  refine (c_grow p t s w4 L F (jAI t _ _ h) (hT.pure E4) hP4 hok hFS (fun b hb=>by have:=hSw b hb;have:=E4.size;omega)).mono ?_
  rintro _ w5 ⟨r1,r2,rfl,hr,F5,hP5,E45,hF5⟩
  have e1:r1=(Sp.grow L t).1:=congrArg Prod.fst hr
  have e2:r2=(Sp.grow L t).2.1:=congrArg Prod.snd hr
  have hs4:w.heap.size≤w4.heap.size:=E4.size
  have E5:Ext F w w5:=E4.pure.trans E45
  have hF5':∀b,F5 b→F b∨w.heap.size≤b:=fun b hb=>(hF5 b hb).elim .inl (fun h=>.inr (by omega))
  refine ⟨_,_,rfl,fun h'=>?_,fun h'=>?_⟩
  ·have h':(Sp.grow L t).2.1≠0:=by rw [← e2];simpa using h'
   obtain ⟨hok5,M,hM⟩:=Sp.yI t L hok
   rw [hl0]
   refine (c_cut p L.length w5 hP5 hok5 (by rw [hM];simp)).mono ?_
   rintro _ w6 ⟨rfl,hP6,E56⟩
   have:Sp.of L t=(0,(Sp.grow L t).2.1,L):=by rw [Sp.of,if_neg (by simp [h]),if_pos h']
   refine ⟨rfl,hK _ _ _ ?_⟩
   rw [this]
   rw [hM,List.take_left] at hP6
   exact ⟨by rw [e2],F5,hP6,E5.trans' E56 (fun i hi h=>(hF5' i h).elim id (fun h=>by omega)),hF5'⟩
  ·have h':(Sp.grow L t).2.1=0:=by rw [← e2];simpa using h'
   have:Sp.of L t=((Sp.grow L t).1,0,(Sp.grow L t).2.2):=by rw [Sp.of,if_neg (by simp [h]),if_neg (by simp [h'])]
   refine hK _ _ _ ?_
   rw [this]
   exact ⟨by rw [e1],F5,hP5,E5,hF5'⟩
end Go.Proofs
end
section
open Go Go.SE
open Go.IntKind renaming i64 → q6
namespace Go.Proofs
set_option maxRecDepth 100000
set_option maxHeartbeats 4000000
attribute [local irreducible] wpL wpX opE wpE Calls
def m_J_j2 (p2 p3 p5:Addr) (r3:Int) (w:World) (K:Int→Int→Int→ByteArray→Bool→Bool→WP):Prop :=Calls Tryz.prog 109 #[(vp (some p3)),(vi r3),(vi 2)] w (fun e w16=>∃bH bI bK aR bJ dB dC,e=.returned (Ad bH bI bK aR bJ dB dC)∧(∀j,j<5→zC w16 (p5.add j))∧∀w17,w17=storeRow w16 p5 (Ab 7 0 aR (⟨#[]⟩) false)→∃v6,w17.cell? (p3.add 1)=some (vb v6)∧Br v6 ((∀j,j<5→zC w17 (p2.add j))∧∀w18,w18=storeRow w17 p2 (Ab 0 0 0 (⟨#[]⟩) false)→∃bT bU dD bV dE,Row w18 p2 (Ab bT bU dD bV dE)∧K bT bU dD bV dE false w18) (∃dF dG gB dH gC,Row w17 p5 (Ab dF dG gB dH gC)∧(∀j,j<5→zC w17 (p2.add j))∧∀w19,w19=storeRow w17 p2 (Ab dF dG gB dH gC)→∃bW bX dI bY dJ,Row w19 p2 (Ab bW bX dI bY dJ)∧K bW bX dI bY dJ true w19))
def m_J_j3 (p2 p3 p5:Addr) (r3:Int) (w:World) (K:Int→Int→Int→ByteArray→Bool→Bool→WP):Prop :=∃v7,w.cell? (p3.add 1)=some (vb v7)∧Br v7 (∃v8,w.cell? (p3.add 1)=some (vb v8)∧Br v8 ((∀j,j<5→zC w (p2.add j))∧∀w20,w20=storeRow w p2 (Ab 0 0 0 (⟨#[]⟩) false)→∃bZ cA dK cB dL,Row w20 p2 (Ab bZ cA dK cB dL)∧K bZ cA dK cB dL false w20) (∃cY cZ gD dA gE,Row w p5 (Ab cY cZ gD dA gE)∧(∀j,j<5→zC w (p2.add j))∧∀w21,w21=storeRow w p2 (Ab cY cZ gD dA gE)→∃dM dN gF dO gG,Row w21 p2 (Ab dM dN gF dO gG)∧K dM dN gF dO gG true w21)) (m_J_j2 p2 p3 p5 r3 w K)
def m_J_j1 (t1:Int) (p2 p3 p5:Addr) (x1:Bool) (w:World) (K:Int→Int→Int→ByteArray→Bool→Bool→WP):Prop :=Br x1 (Calls Tryz.prog 107 #[(vp (some p3)),(vi t1)] w (fun e w11=>∃bO bP dU bG dV,e=.returned (Af bO bP dU bG dV)∧(∀j,j<5→zC w11 (p5.add j))∧∀w12,w12=storeRow w11 p5 (Ab bO bP dU bG dV)→∃v5,w12.cell? (p3.add 1)=some (vb v5)∧Br v5 ((∀j,j<5→zC w12 (p2.add j))∧∀w13,w13=storeRow w12 p2 (Ab 0 0 0 (⟨#[]⟩) false)→∃aU aV cC aW cD,Row w13 p2 (Ab aU aV cC aW cD)∧K aU aV cC aW cD false w13) (∃bB bC gH bD gI,Row w12 p5 (Ab bB bC gH bD gI)∧(∀j,j<5→zC w12 (p2.add j))∧∀w14,w14=storeRow w12 p2 (Ab bB bC gH bD gI)→∃cE cF dP cG dQ,Row w14 p2 (Ab cE cF dP cG dQ)∧K cE cF dP cG dQ true w14))) (Calls Tryz.prog 108 #[(vp (some p3)),(vi t1)] w (fun e w15=>∃r2 r3,e=.returned (.tuple #[(vs r2),(vi r3)])∧∃v9,w15.cell? (p3.add 1)=some (vb v9)∧Br v9 (zC w15 (p3.add 1)∧∀w22,w22=w15.setCell (p3.add 1) (vb true)→m_J_j3 p2 p3 p5 r3 w22 K) (zC w15 (p3.add 1)∧∀w23,w23=w15.setCell (p3.add 1) (vb (!(decide (r2=(⟨#[102,117,108,108]⟩:ByteArray)))))→m_J_j3 p2 p3 p5 r3 w23 K)))
def m_J (p1:Option Addr) (t1:Int) (w:World) (K:Int→Int→Int→ByteArray→Bool→Bool→WP):Prop :=∀p2 w1,New w (.cells #[(vi 0),(vi 0),(vu 0),(vs ⟨#[]⟩),(vb false)] 35) p2 w1→∀p3 w2,New w1 (.cells #[(vp p1),(vb false)] 182) p3 w2→Calls Tryz.prog 102 #[(vp p1),(vi t1)] w2 (fun e w3=>∃aE aF aG aD aH aX aY r1,e=.returned (.tuple #[(Ad aE aF aG aD aH aX aY),(vb r1)])∧∀p4 w4,New w3 (.cells #[(vi 0),(vi 0),(vi 0),(vu 0),(vs ⟨#[]⟩),(vi 0),(vi 0)] 176) p4 w4→(∀j,j<7→zC w4 (p4.add j))∧∀w5,w5=storeRow w4 p4 (Aa aE aF aG aD aH aX aY)→∀p5 w6,New w5 (.cells #[(vi 0),(vi 0),(vu 0),(vs ⟨#[]⟩),(vb false)] 35) p5 w6→∃v1,w6.cell? p4=some (vi v1)∧Br (v1 == 7) (∃v2,w6.cell? (p4.add 1)=some (vi v2)∧∃v3,w6.cell? (p4.add 5)=some (vi v3)∧Calls Tryz.prog 106 #[(vp (some p3)),(vi v2),(vi v3)] w6 (fun e w7=>∃bE bF bM aZ bN,e=.returned (Af bE bF bM aZ bN)∧(∀j,j<5→zC w7 (p5.add j))∧∀w8,w8=storeRow w7 p5 (Ab bE bF bM aZ bN)→∃v4,w8.cell? (p3.add 1)=some (vb v4)∧Br v4 ((∀j,j<5→zC w8 (p2.add j))∧∀w9,w9=storeRow w8 p2 (Ab 0 0 0 (⟨#[]⟩) false)→∃aA aB cH aC cI,Row w9 p2 (Ab aA aB cH aC cI)∧K aA aB cH aC cI false w9) (∃aL aM gJ aN gK,Row w8 p5 (Ab aL aM gJ aN gK)∧(∀j,j<5→zC w8 (p2.add j))∧∀w10,w10=storeRow w8 p2 (Ab aL aM gJ aN gK)→∃aO aP cJ aQ cK,Row w10 p2 (Ab aO aP cJ aQ cK)∧K aO aP cJ aQ cK true w10))) (Br (v1 == 8) (m_J_j1 t1 p2 p3 p5 (v1 == 8) w6 K) (m_J_j1 t1 p2 p3 p5 (v1 == 9) w6 K)))
theorem w_J (p1 t1 w K) (h:m_J p1 t1 w K):
  Calls Tryz.prog 51 #[(vp p1),(vi t1)] w (fun e w'=>∃cT cU fU cV fV r4,e=.returned (.tuple #[(Af cT cU fU cV fV),(vb r4)])∧K cT cU fU cV fV r4 w'):=by
 refine cw (args:=[(vp p1),(vi t1)]) Tryz.func51 Tryz.ntmps51 (eg (sn (O:=(.cells #[(vi 0),(vi 0),(vu 0),(vs ⟨#[]⟩),(vb false)] 35)) (jJ (Tryz.zeroValue35 _) rfl) ?_))
 intro p2 w1 hn18
 have h:=h p2 w1 hn18
 refine q (ln (jEA rfl (fun _ _ _ h=>h) (eg (q0 (vp p1) (q0 (.agg #[(vp p1),(vb false)]) (sn (O:=(.cells #[(vp p1),(vb false)] 182)) xb ?_))))))
 intro p3 w2 hn17
 have h:=h p3 w2 hn17
 refine q (ln (eg (qb (sc Tryz.call102 (h.mono fun e w3 ⟨aE,aF,aG,aD,aH,aX,aY,r1,k,h⟩=>⟨_,k,?_⟩)))))
 refine qc (nw1 h (jJ (Tryz.zeroValue176 _) rfl) fun p4 w4 h=>?_)
 obtain ⟨hp1,h⟩:=h
 refine jH (jE rfl) (xo p4 (Aa aE aF aG aD aH aX aY) (Tryz.sizeOf176 _) hp1) ?_
 intro w5 hn1
 have h:=h w5 hn1
 refine q (ln (eg (nw1 h (jJ (Tryz.zeroValue35 _) rfl) fun p5 w6 h=>ln (jA (jEB (jK (jA (eg (q0 (vp (some p4)) (ql (Tryz.isAgg3 _) h fun v1 h=>ln (jF (eg (qb (ln (cbr h ?_ ?_)))))))))))))))<;>intro h
 refine rg (qb (ql (Tryz.isAgg3 _) h fun v2 h=>q (ql (Tryz.isAgg78 _) h fun v3 h=>sc Tryz.call106 (h.mono fun e w7 ⟨bE,bF,bM,aZ,bN,k,h⟩=>⟨_,k,?_⟩))))
 obtain ⟨hp2,h⟩:=h
 refine jH (jE rfl) (xo p5 (Ab bE bF bM aZ bN) (Tryz.sizeOf35 _) hp2) ?_
 intro w8 hn2
 have h:=h w8 hn2
 refine jC (vD (jK (jA (eg (qc (ql (Tryz.isAgg4 _) h fun v4 h=>ln (cbr h ?_ ?_)))))))<;>intro h
 refine eg (q ?_)
 obtain ⟨hp3,h⟩:=h
 refine jH (jE rfl) (xo p2 (Ab 0 0 0 (⟨#[]⟩) false) (Tryz.sizeOf35 _) hp3) ?_
 intro w9 hn3
 have h:=h w9 hn3
 refine q (ln (er (jW ?_)))
 obtain ⟨aA,aB,cH,aC,cI,hv1,h⟩:=h
 refine gg2 Tryz.results51 (rva (Tryz.isAgg35 _) (Tryz.sizeOf35 _) hv1) (rvU (vb false)) ⟨aA,aB,cH,aC,cI,false,rfl,h⟩
 refine jB (jK (eg ?_))
 obtain ⟨aL,aM,gJ,aN,gK,hv3,h⟩:=h
 refine qa (Tryz.isAgg35 _) (Tryz.sizeOf35 _) hv3 ?_
 obtain ⟨hp4,h⟩:=h
 refine jH (jE rfl) (xo p2 (Ab aL aM gJ aN gK) (Tryz.sizeOf35 _) hp4) ?_
 intro w10 hn4
 have h:=h w10 hn4
 refine q (ln (er ?_))
 obtain ⟨aO,aP,cJ,aQ,cK,hv2,h⟩:=h
 refine gg2 Tryz.results51 (rva (Tryz.isAgg35 _) (Tryz.sizeOf35 _) hv2) (rvU (vb true)) ⟨aO,aP,cJ,aQ,cK,true,rfl,h⟩
 refine zZ (fun ρ w=>∃x1,Has ρ [(1,(vi t1)),(4,(vp (some p2))),(6,(vp (some p3))),(9,(vp (some p5))),(57,(vb x1))]∧m_J_j1 t1 p2 p3 p5 x1 w K) ?_ ?_
 rintro ρ w ⟨x1,hH,h⟩
 refine jO hH (cbr h ?_ ?_)<;>intro h
 refine rg (qb (sc Tryz.call107 (h.mono fun e w11 ⟨bO,bP,dU,bG,dV,k,h⟩=>⟨_,k,?_⟩)))
 obtain ⟨hp5,h⟩:=h
 refine jH (jE rfl) (xo p5 (Ab bO bP dU bG dV) (Tryz.sizeOf35 _) hp5) ?_
 intro w12 hn5
 have h:=h w12 hn5
 refine jC (vD (jK (jA (eg (qc (ql (Tryz.isAgg4 _) h fun v5 h=>ln (cbr h ?_ ?_)))))))<;>intro h
 refine eg (q ?_)
 obtain ⟨hp6,h⟩:=h
 refine jH (jE rfl) (xo p2 (Ab 0 0 0 (⟨#[]⟩) false) (Tryz.sizeOf35 _) hp6) ?_
 intro w13 hn6
 have h:=h w13 hn6
 refine q (ln (er (jW ?_)))
 obtain ⟨aU,aV,cC,aW,cD,hv7,h⟩:=h
 refine gg2 Tryz.results51 (rva (Tryz.isAgg35 _) (Tryz.sizeOf35 _) hv7) (rvU (vb false)) ⟨aU,aV,cC,aW,cD,false,rfl,h⟩
 refine jB (jK (eg ?_))
 obtain ⟨bB,bC,gH,bD,gI,hv9,h⟩:=h
 refine qa (Tryz.isAgg35 _) (Tryz.sizeOf35 _) hv9 ?_
 obtain ⟨hp7,h⟩:=h
 refine jH (jE rfl) (xo p2 (Ab bB bC gH bD gI) (Tryz.sizeOf35 _) hp7) ?_
 intro w14 hn7
 have h:=h w14 hn7
 refine q (ln (er ?_))
 obtain ⟨cE,cF,dP,cG,dQ,hv8,h⟩:=h
 refine gg2 Tryz.results51 (rva (Tryz.isAgg35 _) (Tryz.sizeOf35 _) hv8) (rvU (vb true)) ⟨cE,cF,dP,cG,dQ,true,rfl,h⟩
 refine eg (qb (sc Tryz.call108 (h.mono fun e w15 ⟨r2,r3,k,h⟩=>⟨_,k,?_⟩)))
 refine q (qd (ln (zZ (fun ρ w=>Has ρ [(4,(vp (some p2))),(6,(vp (some p3))),(9,(vp (some p5))),(11,(vi r3))]∧m_J_j2 p2 p3 p5 r3 w K) ?_ ?_)))
 rintro ρ w ⟨hH,h⟩
 refine jO hH (rg (qb (sc Tryz.call109 (h.mono fun e w16 ⟨bH,bI,bK,aR,bJ,dB,dC,k,h⟩=>⟨_,k,?_⟩))))
 refine qb ?_
 obtain ⟨hp8,h⟩:=h
 refine jH (jE rfl) (xo p5 (Ab 7 0 aR (⟨#[]⟩) false) (Tryz.sizeOf35 _) hp8) ?_
 intro w17 hn8
 have h:=h w17 hn8
 refine jC (vD (jK (jA (eg (qc (ql (Tryz.isAgg4 _) h fun v6 h=>ln (cbr h ?_ ?_)))))))<;>intro h
 refine eg (q ?_)
 obtain ⟨hp9,h⟩:=h
 refine jH (jE rfl) (xo p2 (Ab 0 0 0 (⟨#[]⟩) false) (Tryz.sizeOf35 _) hp9) ?_
 intro w18 hn9
 have h:=h w18 hn9
 refine q (ln (er (jW ?_)))
 obtain ⟨bT,bU,dD,bV,dE,hv11,h⟩:=h
 refine gg2 Tryz.results51 (rva (Tryz.isAgg35 _) (Tryz.sizeOf35 _) hv11) (rvU (vb false)) ⟨bT,bU,dD,bV,dE,false,rfl,h⟩
 refine jB (jK (eg ?_))
 obtain ⟨dF,dG,gB,dH,gC,hv13,h⟩:=h
 refine qa (Tryz.isAgg35 _) (Tryz.sizeOf35 _) hv13 ?_
 obtain ⟨hp10,h⟩:=h
 refine jH (jE rfl) (xo p2 (Ab dF dG gB dH gC) (Tryz.sizeOf35 _) hp10) ?_
 intro w19 hn10
 have h:=h w19 hn10
 refine q (ln (er ?_))
 obtain ⟨bW,bX,dI,bY,dJ,hv12,h⟩:=h
 refine gg2 Tryz.results51 (rva (Tryz.isAgg35 _) (Tryz.sizeOf35 _) hv12) (rvU (vb true)) ⟨bW,bX,dI,bY,dJ,true,rfl,h⟩
 refine zZ (fun ρ w=>Has ρ [(4,(vp (some p2))),(6,(vp (some p3))),(9,(vp (some p5))),(11,(vi r3))]∧m_J_j3 p2 p3 p5 r3 w K) ?_ ?_
 rintro ρ w ⟨hH,h⟩
 refine jO hH (eg (qc (ql (Tryz.isAgg4 _) h fun v7 h=>ln (cbr h ?_ ?_))))<;>intro h
 refine zB (kX (kV (jK (jA (eg (q0 (vp (some p3)) (q0 (vp (some p3)) (q0 (vp (some (p3.add 1))) (ql (Tryz.isAgg4 _) h fun v8 h=>ln (cbr h ?_ ?_))))))))))<;>intro h
 refine eg (q ?_)
 obtain ⟨hp11,h⟩:=h
 refine jH (jE rfl) (xo p2 (Ab 0 0 0 (⟨#[]⟩) false) (Tryz.sizeOf35 _) hp11) ?_
 intro w20 hn11
 have h:=h w20 hn11
 refine q (ln (er (jW ?_)))
 obtain ⟨bZ,cA,dK,cB,dL,hv15,h⟩:=h
 refine gg2 Tryz.results51 (rva (Tryz.isAgg35 _) (Tryz.sizeOf35 _) hv15) (rvU (vb false)) ⟨bZ,cA,dK,cB,dL,false,rfl,h⟩
 refine jB (jK (eg ?_))
 obtain ⟨cY,cZ,gD,dA,gE,hv17,h⟩:=h
 refine qa (Tryz.isAgg35 _) (Tryz.sizeOf35 _) hv17 ?_
 obtain ⟨hp12,h⟩:=h
 refine jH (jE rfl) (xo p2 (Ab cY cZ gD dA gE) (Tryz.sizeOf35 _) hp12) ?_
 intro w21 hn12
 have h:=h w21 hn12
 refine q (ln (er ?_))
 obtain ⟨dM,dN,gF,dO,gG,hv16,h⟩:=h
 refine gg2 Tryz.results51 (rva (Tryz.isAgg35 _) (Tryz.sizeOf35 _) hv16) (rvU (vb true)) ⟨dM,dN,gF,dO,gG,true,rfl,h⟩
 refine jB (jK ⟨hm,h⟩)
 refine rg (qd (ql (Tryz.isAgg4 _) h fun v9 h=>q ?_))
 rcases Bool.eq_false_or_eq_true v9 with hg1 | hg1
 have h:=h.1 hg1
 refine sj2 34 hg1 (q2 (vb true) (xT hg1) (qb ?_))
 obtain ⟨hp13,h⟩:=h
 refine jH (jE rfl) (zJ (a:=(p3.add 1)) (v:=(vb true)) (by kernel_rfl) (by kernel_rfl) rfl (Tryz.sizeOf4 _) hp13) ?_
 intro w22 hn13
 have h:=h w22 hn13
 refine ln ⟨hm,h⟩
 have h:=h.2 hg1
 refine qk 34 hg1 (stq (v:=(vb (!(decide (r2=(⟨#[102,117,108,108]⟩:ByteArray)))))) (wy 34 hg1) (qL (by kernel_rfl) (by kernel_rfl)) (q2 (vb (!(decide (r2=(⟨#[102,117,108,108]⟩:ByteArray))))) (xF hg1) (qb ?_)))
 obtain ⟨hp14,h⟩:=h
 refine jH (jE rfl) (zJ (a:=(p3.add 1)) (v:=(vb (!(decide (r2=(⟨#[102,117,108,108]⟩:ByteArray)))))) (by kernel_rfl) (by kernel_rfl) rfl (Tryz.sizeOf4 _) hp14) ?_
 intro w23 hn14
 have h:=h w23 hn14
 refine ln ⟨hm,h⟩
 refine eg (qb (ln (cbr h ?_ ?_)))<;>intro h
 refine jB (jK ⟨(v1 == 8),hm,h⟩)
 refine rg (qb (ln ⟨(v1 == 9),hm,h⟩))
def m_A_j7 (who1:Int) (p1 a1 a2:Addr) (w:World) (K:Int→Int→Int→ByteArray→Bool→WP):Prop :=∃v1,w.cell? (a1.add 2)=some (vu v1)∧∃v2,w.cell? (a1.add 3)=some (vs v2)∧∃v3,w.cell? (a1.add 4)=some (vb v3)∧Br v3 ((∀j,j<5→zC w (p1.add j))∧∀w14,w14=storeRow w p1 (Ab 4 who1 v1 v2 true)→∃bT bU dD bV dE,Row w14 p1 (Ab bT bU dD bV dE)∧K bT bU dD bV dE w14) (∃v4,w.cell? (a2.add 4)=some (vb v4)∧(∀j,j<5→zC w (p1.add j))∧∀w15,w15=storeRow w p1 (Ab 4 who1 v1 v2 v4)→∃bW bX dI bY dJ,Row w15 p1 (Ab bW bX dI bY dJ)∧K bW bX dI bY dJ w15)
def m_A_j10 (r1:Option Addr) (who1:Int) (p1 a1 a2:Addr) (x8:Bool) (w:World) (K:Int→Int→Int→ByteArray→Bool→WP):Prop :=Br x8 (∃a4,r1=some a4∧zC w (a4.add 1)∧∀w16,w16=w.setCell (a4.add 1) (vb true)→m_A_j7 who1 p1 a1 a2 w16 K) (∃v6,w.cell? (a1.add 3)=some (vs v6)∧∃v7,w.cell? (a2.add 3)=some (vs v7)∧∃a5,r1=some a5∧zC w (a5.add 1)∧∀w17,w17=w.setCell (a5.add 1) (vb (!(decide (v6=v7))))→m_A_j7 who1 p1 a1 a2 w17 K)
def m_A_j9 (r1:Option Addr) (who1:Int) (p1 a1 a2:Addr) (x7:Bool) (w:World) (K:Int→Int→Int→ByteArray→Bool→WP):Prop :=Br x7 (m_A_j10 r1 who1 p1 a1 a2 true w K) (∃v8,w.cell? (a1.add 2)=some (vu v8)∧∃v9,w.cell? (a2.add 2)=some (vu v9)∧m_A_j10 r1 who1 p1 a1 a2 (v8 != v9) w K)
def m_A_j8 (r1:Option Addr) (who1:Int) (p1 a1 a2:Addr) (x6:Bool) (w:World) (K:Int→Int→Int→ByteArray→Bool→WP):Prop :=Br x6 (m_A_j9 r1 who1 p1 a1 a2 true w K) (∃v10,w.cell? (a2.add 1)=some (vi v10)∧m_A_j9 r1 who1 p1 a1 a2 (v10 != 1) w K)
def m_A_j6 (r1:Option Addr) (who1:Int) (p1 a1 a2:Addr) (w:World) (K:Int→Int→Int→ByteArray→Bool→WP):Prop :=∃a3,r1=some a3∧∃v5,w.cell? (a3.add 1)=some (vb v5)∧Br v5 (m_A_j8 r1 who1 p1 a1 a2 true w K) (∃v11,w.cell? (a1.add 1)=some (vi v11)∧m_A_j8 r1 who1 p1 a1 a2 (v11 != 0) w K)
def m_A_j5 (r1:Option Addr) (who1:Int) (p1:Addr) (r3:Int) (x5:Bool) (w:World) (K:Int→Int→Int→ByteArray→Bool→WP):Prop :=Br x5 (Calls Tryz.prog 109 #[(vp r1),(vi r3),(vi 4)] w (fun e w11=>∃bO bP cW cX bG fZ gA,e=.returned (Ad bO bP cW cX bG fZ gA)∧∀p2 w12,New w11 (.cells #[(vi 0),(vi 0),(vi 0),(vu 0),(vs ⟨#[]⟩),(vi 0),(vi 0)] 176) p2 w12→(∀j,j<7→zC w12 (p2.add j))∧∀w13,w13=storeRow w12 p2 (Aa bO bP cW cX bG fZ gA)→∃C1:WP,C1 w13.drew∧∀w18,w18=w13.drew→∃v12,(∀w',C1 w'→w'.cell? (p2.add 5)=some (vi v12))∧∃v13,(∀w',C1 w'→w'.cell? (p2.add 6)=some (vi v13))∧(Calls Tryz.prog 107 #[(vp r1),(vi v12)] w18 (fun e w19=>∃bH bI bM bJ bN,e=.returned (Af bH bI bM bJ bN)∧C1 w19∧(Calls Tryz.prog 107 #[(vp r1),(vi v13)] w19 (fun e w20=>∃cT cU dU cV dV,e=.returned (Af cT cU dU cV dV)∧(∀p3 w21,New w20 (.cells #[(vi 0),(vi 0),(vu 0),(vs ⟨#[]⟩),(vb false)] 35) p3 w21→C1 w21∧∀p4 w22,New w21 (.cells #[(vi 0),(vi 0),(vu 0),(vs ⟨#[]⟩),(vb false)] 35) p4 w22→C1 w22∧(∀j,j<5→zC w22 (p3.add j))∧∀w23,w23=storeRow w22 p3 (Ab bH bI bM bJ bN)→(∀j,j<5→zC w23 (p4.add j))∧∀w24,w24=storeRow w23 p4 (Ab cT cU dU cV dV)→m_A_j6 r1 who1 p1 p3 p4 w24 K)∧(∀p5 w25,New w20 (.cells #[(vi 0),(vi 0),(vu 0),(vs ⟨#[]⟩),(vb false)] 35) p5 w25→C1 w25∧∀p6 w26,New w25 (.cells #[(vi 0),(vi 0),(vu 0),(vs ⟨#[]⟩),(vb false)] 35) p6 w26→C1 w26∧(∀j,j<5→zC w26 (p6.add j))∧∀w27,w27=storeRow w26 p6 (Ab bH bI bM bJ bN)→(∀j,j<5→zC w27 (p5.add j))∧∀w28,w28=storeRow w27 p5 (Ab cT cU dU cV dV)→m_A_j6 r1 who1 p1 p6 p5 w28 K)))∧(∀p7 w29,New w19 (.cells #[(vi 0),(vi 0),(vu 0),(vs ⟨#[]⟩),(vb false)] 35) p7 w29→C1 w29∧(Calls Tryz.prog 107 #[(vp r1),(vi v13)] w29 (fun e w30=>∃dW dX fU dY fV,e=.returned (Af dW dX fU dY fV)∧∀p8 w31,New w30 (.cells #[(vi 0),(vi 0),(vu 0),(vs ⟨#[]⟩),(vb false)] 35) p8 w31→C1 w31∧(∀j,j<5→zC w31 (p7.add j))∧∀w32,w32=storeRow w31 p7 (Ab bH bI bM bJ bN)→(∀j,j<5→zC w32 (p8.add j))∧∀w33,w33=storeRow w32 p8 (Ab dW dX fU dY fV)→m_A_j6 r1 who1 p1 p7 p8 w33 K))∧(∀p9 w34,New w29 (.cells #[(vi 0),(vi 0),(vu 0),(vs ⟨#[]⟩),(vb false)] 35) p9 w34→C1 w34∧Calls Tryz.prog 107 #[(vp r1),(vi v13)] w34 (fun e w35=>∃eI eJ kY eK kZ,e=.returned (Af eI eJ kY eK kZ)∧(∀j,j<5→zC w35 (p7.add j))∧∀w36,w36=storeRow w35 p7 (Ab bH bI bM bJ bN)→(∀j,j<5→zC w36 (p9.add j))∧∀w37,w37=storeRow w36 p9 (Ab eI eJ kY eK kZ)→m_A_j6 r1 who1 p1 p7 p9 w37 K)))∧(∀p10 w38,New w19 (.cells #[(vi 0),(vi 0),(vu 0),(vs ⟨#[]⟩),(vb false)] 35) p10 w38→C1 w38∧(Calls Tryz.prog 107 #[(vp r1),(vi v13)] w38 (fun e w39=>∃dZ eA lA eB lB,e=.returned (Af dZ eA lA eB lB)∧∀p11 w40,New w39 (.cells #[(vi 0),(vi 0),(vu 0),(vs ⟨#[]⟩),(vb false)] 35) p11 w40→C1 w40∧(∀j,j<5→zC w40 (p11.add j))∧∀w41,w41=storeRow w40 p11 (Ab bH bI bM bJ bN)→(∀j,j<5→zC w41 (p10.add j))∧∀w42,w42=storeRow w41 p10 (Ab dZ eA lA eB lB)→m_A_j6 r1 who1 p1 p11 p10 w42 K))∧(∀p12 w43,New w38 (.cells #[(vi 0),(vi 0),(vu 0),(vs ⟨#[]⟩),(vb false)] 35) p12 w43→C1 w43∧Calls Tryz.prog 107 #[(vp r1),(vi v13)] w43 (fun e w44=>∃eL eM lC eN lD,e=.returned (Af eL eM lC eN lD)∧(∀j,j<5→zC w44 (p12.add j))∧∀w45,w45=storeRow w44 p12 (Ab bH bI bM bJ bN)→(∀j,j<5→zC w45 (p10.add j))∧∀w46,w46=storeRow w45 p10 (Ab eL eM lC eN lD)→m_A_j6 r1 who1 p1 p12 p10 w46 K)))))∧(∀p13 w47,New w18 (.cells #[(vi 0),(vi 0),(vu 0),(vs ⟨#[]⟩),(vb false)] 35) p13 w47→C1 w47∧(Calls Tryz.prog 107 #[(vp r1),(vi v12)] w47 (fun e w48=>∃eC eD iH eE iI,e=.returned (Af eC eD iH eE iI)∧C1 w48∧(Calls Tryz.prog 107 #[(vp r1),(vi v13)] w48 (fun e w49=>∃fF fG lE fH lF,e=.returned (Af fF fG lE fH lF)∧∀p14 w50,New w49 (.cells #[(vi 0),(vi 0),(vu 0),(vs ⟨#[]⟩),(vb false)] 35) p14 w50→C1 w50∧(∀j,j<5→zC w50 (p13.add j))∧∀w51,w51=storeRow w50 p13 (Ab eC eD iH eE iI)→(∀j,j<5→zC w51 (p14.add j))∧∀w52,w52=storeRow w51 p14 (Ab fF fG lE fH lF)→m_A_j6 r1 who1 p1 p13 p14 w52 K))∧(∀p15 w53,New w48 (.cells #[(vi 0),(vi 0),(vu 0),(vs ⟨#[]⟩),(vb false)] 35) p15 w53→C1 w53∧Calls Tryz.prog 107 #[(vp r1),(vi v13)] w53 (fun e w54=>∃fI fJ lG fK lH,e=.returned (Af fI fJ lG fK lH)∧(∀j,j<5→zC w54 (p13.add j))∧∀w55,w55=storeRow w54 p13 (Ab eC eD iH eE iI)→(∀j,j<5→zC w55 (p15.add j))∧∀w56,w56=storeRow w55 p15 (Ab fI fJ lG fK lH)→m_A_j6 r1 who1 p1 p13 p15 w56 K))))∧(∀p16 w57,New w47 (.cells #[(vi 0),(vi 0),(vu 0),(vs ⟨#[]⟩),(vb false)] 35) p16 w57→C1 w57∧Calls Tryz.prog 107 #[(vp r1),(vi v12)] w57 (fun e w58=>∃eO eP lI eQ lJ,e=.returned (Af eO eP lI eQ lJ)∧C1 w58∧Calls Tryz.prog 107 #[(vp r1),(vi v13)] w58 (fun e w59=>∃fL fM lK fN lL,e=.returned (Af fL fM lK fN lL)∧(∀j,j<5→zC w59 (p13.add j))∧∀w60,w60=storeRow w59 p13 (Ab eO eP lI eQ lJ)→(∀j,j<5→zC w60 (p16.add j))∧∀w61,w61=storeRow w60 p16 (Ab fL fM lK fN lL)→m_A_j6 r1 who1 p1 p13 p16 w61 K))))∧(∀p17 w62,New w18 (.cells #[(vi 0),(vi 0),(vu 0),(vs ⟨#[]⟩),(vb false)] 35) p17 w62→C1 w62∧(Calls Tryz.prog 107 #[(vp r1),(vi v12)] w62 (fun e w63=>∃eF eG iJ eH iK,e=.returned (Af eF eG iJ eH iK)∧C1 w63∧(Calls Tryz.prog 107 #[(vp r1),(vi v13)] w63 (fun e w64=>∃fO fP lM fQ lN,e=.returned (Af fO fP lM fQ lN)∧∀p18 w65,New w64 (.cells #[(vi 0),(vi 0),(vu 0),(vs ⟨#[]⟩),(vb false)] 35) p18 w65→C1 w65∧(∀j,j<5→zC w65 (p18.add j))∧∀w66,w66=storeRow w65 p18 (Ab eF eG iJ eH iK)→(∀j,j<5→zC w66 (p17.add j))∧∀w67,w67=storeRow w66 p17 (Ab fO fP lM fQ lN)→m_A_j6 r1 who1 p1 p18 p17 w67 K))∧(∀p19 w68,New w63 (.cells #[(vi 0),(vi 0),(vu 0),(vs ⟨#[]⟩),(vb false)] 35) p19 w68→C1 w68∧Calls Tryz.prog 107 #[(vp r1),(vi v13)] w68 (fun e w69=>∃eR eS lO eT lP,e=.returned (Af eR eS lO eT lP)∧(∀j,j<5→zC w69 (p19.add j))∧∀w70,w70=storeRow w69 p19 (Ab eF eG iJ eH iK)→(∀j,j<5→zC w70 (p17.add j))∧∀w71,w71=storeRow w70 p17 (Ab eR eS lO eT lP)→m_A_j6 r1 who1 p1 p19 p17 w71 K))))∧(∀p20 w72,New w62 (.cells #[(vi 0),(vi 0),(vu 0),(vs ⟨#[]⟩),(vb false)] 35) p20 w72→C1 w72∧Calls Tryz.prog 107 #[(vp r1),(vi v12)] w72 (fun e w73=>∃eU eV lQ eW lR,e=.returned (Af eU eV lQ eW lR)∧C1 w73∧Calls Tryz.prog 107 #[(vp r1),(vi v13)] w73 (fun e w74=>∃fR fS lS fT lT,e=.returned (Af fR fS lS fT lT)∧(∀j,j<5→zC w74 (p20.add j))∧∀w75,w75=storeRow w74 p20 (Ab eU eV lQ eW lR)→(∀j,j<5→zC w75 (p17.add j))∧∀w76,w76=storeRow w75 p17 (Ab fR fS lS fT lT)→m_A_j6 r1 who1 p1 p20 p17 w76 K)))))) (∃a6,r1=some a6∧zC w (a6.add 1)∧∀w77,w77=w.setCell (a6.add 1) (vb true)→(∀j,j<5→zC w77 (p1.add j))∧∀w78,w78=storeRow w77 p1 (Ab 0 0 0 (⟨#[]⟩) false)→∃bZ cA dK cB dL,Row w78 p1 (Ab bZ cA dK cB dL)∧K bZ cA dK cB dL w78)
def m_A_j4 (r1:Option Addr) (who1 body1:Int) (p1:Addr) (r2:ByteArray) (r3:Int) (x4:Bool) (w:World) (K:Int→Int→Int→ByteArray→Bool→WP):Prop :=Br x4 (Calls Tryz.prog 170 #[(vp r1),(vi body1)] w (fun e w9=>∃r6 r7,e=.returned (.tuple #[(vu r6),(vs r7)])∧(∀j,j<5→zC w9 (p1.add j))∧∀w10,w10=storeRow w9 p1 (Ab 2 who1 r6 r7 false)→∃cE cF dP cG dQ,Row w10 p1 (Ab cE cF dP cG dQ)∧K cE cF dP cG dQ w10)) (Br (decide (r2=(⟨#[114,101,115,111,108,118,101]⟩:ByteArray))) (m_A_j5 r1 who1 p1 r3 (decide (who1≤1)) w K) (m_A_j5 r1 who1 p1 r3 false w K))
def m_A_j3 (r1:Option Addr) (who1 body1:Int) (p1:Addr) (r2:ByteArray) (r3:Int) (x3:Bool) (w:World) (K:Int→Int→Int→ByteArray→Bool→WP):Prop :=Br x3 (Calls Tryz.prog 170 #[(vp r1),(vi r3)] w (fun e w7=>∃r4 r5,e=.returned (.tuple #[(vu r4),(vs r5)])∧(∀j,j<5→zC w7 (p1.add j))∧∀w8,w8=storeRow w7 p1 (Ab 6 0 r4 r5 false)→∃aU aV cC aW cD,Row w8 p1 (Ab aU aV cC aW cD)∧K aU aV cC aW cD w8)) (Br (decide (r2=(⟨#[100,101,97,108]⟩:ByteArray))) (m_A_j4 r1 who1 body1 p1 r2 r3 (decide (who1≤1)) w K) (m_A_j4 r1 who1 body1 p1 r2 r3 false w K))
def m_A_j2 (r1:Option Addr) (who1 body1:Int) (p1:Addr) (r2:ByteArray) (r3:Int) (x2:Bool) (w:World) (K:Int→Int→Int→ByteArray→Bool→WP):Prop :=Br x2 (Calls Tryz.prog 109 #[(vp r1),(vi r3),(vi 2)] w (fun e w5=>∃bE bF bK aR aZ dB dC,e=.returned (Ad bE bF bK aR aZ dB dC)∧(∀j,j<5→zC w5 (p1.add j))∧∀w6,w6=storeRow w5 p1 (Ab 5 0 aR (⟨#[]⟩) false)→∃aO aP cJ aQ cK,Row w6 p1 (Ab aO aP cJ aQ cK)∧K aO aP cJ aQ cK w6)) (Br (decide (r2=(⟨#[105,110,115,116,101,97,100]⟩:ByteArray))) (m_A_j3 r1 who1 body1 p1 r2 r3 (who1 == 2) w K) (m_A_j3 r1 who1 body1 p1 r2 r3 false w K))
def m_A_j1 (r1:Option Addr) (who1 body1:Int) (p1:Addr) (r2:ByteArray) (r3:Int) (x1:Bool) (w:World) (K:Int→Int→Int→ByteArray→Bool→WP):Prop :=Br x1 (Calls Tryz.prog 109 #[(vp r1),(vi r3),(vi 2)] w (fun e w3=>∃aE aF aG aD aH aX aY,e=.returned (Ad aE aF aG aD aH aX aY)∧(∀j,j<5→zC w3 (p1.add j))∧∀w4,w4=storeRow w3 p1 (Ab 3 0 aD (⟨#[]⟩) false)→∃aA aB cH aC cI,Row w4 p1 (Ab aA aB cH aC cI)∧K aA aB cH aC cI w4)) (Br (decide (r2=(⟨#[97,98,111,114,116,101,100]⟩:ByteArray))) (m_A_j2 r1 who1 body1 p1 r2 r3 (who1 == 2) w K) (m_A_j2 r1 who1 body1 p1 r2 r3 false w K))
def m_A (r1:Option Addr) (who1 body1:Int) (w:World) (K:Int→Int→Int→ByteArray→Bool→WP):Prop :=∀p1 w1,New w (.cells #[(vi 0),(vi 0),(vu 0),(vs ⟨#[]⟩),(vb false)] 35) p1 w1→Calls Tryz.prog 108 #[(vp r1),(vi body1)] w1 (fun e w2=>∃r2 r3,e=.returned (.tuple #[(vs r2),(vi r3)])∧Br (decide (r2=(⟨#[97,98,111,114,116]⟩:ByteArray))) (m_A_j1 r1 who1 body1 p1 r2 r3 (who1 == 0) w2 K) (m_A_j1 r1 who1 body1 p1 r2 r3 false w2 K))
theorem w_A (r1 who1 body1 w K) (h:m_A r1 who1 body1 w K):
  Calls Tryz.prog 106 #[(vp r1),(vi who1),(vi body1)] w (fun e w'=>∃hI hJ pM hK pN,e=.returned (Af hI hJ pM hK pN)∧K hI hJ pM hK pN w'):=by
 refine cw (args:=[(vp r1),(vi who1),(vi body1)]) Tryz.func106 Tryz.ntmps106 (eg (sn (O:=(.cells #[(vi 0),(vi 0),(vu 0),(vs ⟨#[]⟩),(vb false)] 35)) (jJ (Tryz.zeroValue35 _) rfl) ?_))
 intro p1 w1 hn55
 have h:=h p1 w1 hn55
 refine ln (eg (qb (sc Tryz.call108 (h.mono fun e w2 ⟨r2,r3,k,h⟩=>⟨_,k,?_⟩))))
 refine q (qd (ln (jA (jF (zZ (fun ρ w=>∃x1,Has ρ [(0,(vp r1)),(1,(vi who1)),(2,(vi body1)),(6,(vp (some p1))),(7,(vs r2)),(8,(vi r3)),(22,(vb x1))]∧m_A_j1 r1 who1 body1 p1 r2 r3 x1 w K) ?_ ?_)))))
 rintro ρ w ⟨x1,hH,h⟩
 refine jO hH (cbr h ?_ ?_)<;>intro h
 refine eg (qb (sc Tryz.call109 (h.mono fun e w3 ⟨aE,aF,aG,aD,aH,aX,aY,k,h⟩=>⟨_,k,?_⟩)))
 refine qb ?_
 obtain ⟨hp1,h⟩:=h
 refine jH (jE rfl) (xo p1 (Ab 3 0 aD (⟨#[]⟩) false) (Tryz.sizeOf35 _) hp1) ?_
 intro w4 hn1
 have h:=h w4 hn1
 refine ln (er (kR (jW ?_)))
 obtain ⟨aA,aB,cH,aC,cI,hv1,h⟩:=h
 refine gg1 Tryz.results106 (rva (Tryz.isAgg35 _) (Tryz.sizeOf35 _) hv1) ⟨aA,aB,cH,aC,cI,rfl,h⟩
 refine zZ (fun ρ w=>∃x2,Has ρ [(0,(vp r1)),(1,(vi who1)),(2,(vi body1)),(6,(vp (some p1))),(7,(vs r2)),(8,(vi r3)),(34,(vb x2))]∧m_A_j2 r1 who1 body1 p1 r2 r3 x2 w K) ?_ ?_
 rintro ρ w ⟨x2,hH,h⟩
 refine jO hH (cbr h ?_ ?_)<;>intro h
 refine eg (qb (sc Tryz.call109 (h.mono fun e w5 ⟨bE,bF,bK,aR,aZ,dB,dC,k,h⟩=>⟨_,k,?_⟩)))
 refine qb ?_
 obtain ⟨hp2,h⟩:=h
 refine jH (jE rfl) (xo p1 (Ab 5 0 aR (⟨#[]⟩) false) (Tryz.sizeOf35 _) hp2) ?_
 intro w6 hn2
 have h:=h w6 hn2
 refine ln (er (kR (jW ?_)))
 obtain ⟨aO,aP,cJ,aQ,cK,hv2,h⟩:=h
 refine gg1 Tryz.results106 (rva (Tryz.isAgg35 _) (Tryz.sizeOf35 _) hv2) ⟨aO,aP,cJ,aQ,cK,rfl,h⟩
 refine zZ (fun ρ w=>∃x3,Has ρ [(0,(vp r1)),(1,(vi who1)),(2,(vi body1)),(6,(vp (some p1))),(7,(vs r2)),(8,(vi r3)),(46,(vb x3))]∧m_A_j3 r1 who1 body1 p1 r2 r3 x3 w K) ?_ ?_
 rintro ρ w ⟨x3,hH,h⟩
 refine jO hH (cbr h ?_ ?_)<;>intro h
 refine eg (qb (sc Tryz.call170 (h.mono fun e w7 ⟨r4,r5,k,h⟩=>⟨_,k,?_⟩)))
 refine q (qd (ln (eg (qc ?_))))
 obtain ⟨hp3,h⟩:=h
 refine jH (jE rfl) (xo p1 (Ab 6 0 r4 r5 false) (Tryz.sizeOf35 _) hp3) ?_
 intro w8 hn3
 have h:=h w8 hn3
 refine ln (er (kR (jW ?_)))
 obtain ⟨aU,aV,cC,aW,cD,hv3,h⟩:=h
 refine gg1 Tryz.results106 (rva (Tryz.isAgg35 _) (Tryz.sizeOf35 _) hv3) ⟨aU,aV,cC,aW,cD,rfl,h⟩
 refine zZ (fun ρ w=>∃x4,Has ρ [(0,(vp r1)),(1,(vi who1)),(2,(vi body1)),(6,(vp (some p1))),(7,(vs r2)),(8,(vi r3)),(62,(vb x4))]∧m_A_j4 r1 who1 body1 p1 r2 r3 x4 w K) ?_ ?_
 rintro ρ w ⟨x4,hH,h⟩
 refine jO hH (cbr h ?_ ?_)<;>intro h
 refine eg (qb (sc Tryz.call170 (h.mono fun e w9 ⟨r6,r7,k,h⟩=>⟨_,k,?_⟩)))
 refine q (qd (ln (eg (qc (q ?_)))))
 obtain ⟨hp4,h⟩:=h
 refine jH (jE rfl) (xo p1 (Ab 2 who1 r6 r7 false) (Tryz.sizeOf35 _) hp4) ?_
 intro w10 hn4
 have h:=h w10 hn4
 refine ln (er (kR (jW ?_)))
 obtain ⟨cE,cF,dP,cG,dQ,hv4,h⟩:=h
 refine gg1 Tryz.results106 (rva (Tryz.isAgg35 _) (Tryz.sizeOf35 _) hv4) ⟨cE,cF,dP,cG,dQ,rfl,h⟩
 refine zZ (fun ρ w=>∃x5,Has ρ [(0,(vp r1)),(1,(vi who1)),(6,(vp (some p1))),(8,(vi r3)),(79,(vb x5))]∧m_A_j5 r1 who1 p1 r3 x5 w K) ?_ ?_
 rintro ρ w ⟨x5,hH,h⟩
 refine jO hH (cbr h ?_ ?_)<;>intro h
 refine eg (qb (sc Tryz.call109 (h.mono fun e w11 ⟨bO,bP,cW,cX,bG,fZ,gA,k,h⟩=>⟨_,k,?_⟩)))
 refine nw1 h (jJ (Tryz.zeroValue176 _) rfl) fun p2 w12 h=>?_
 obtain ⟨hp5,h⟩:=h
 refine jH (jE rfl) (xo p2 (Aa bO bP cW cX bG fZ gA) (Tryz.sizeOf176 _) hp5) ?_
 intro w13 hn5
 have h:=h w13 hn5
 refine ln (zZ (fun ρ w=>∃a1 a2:Addr,Has ρ [(0,(vp r1)),(1,(vi who1)),(6,(vp (some p1))),(14,(vp (some a1))),(15,(vp (some a2)))]∧m_A_j6 r1 who1 p1 a1 a2 w K) ?_ ?_)
 rintro ρ w ⟨a1,a2,hH,h⟩
 refine jO hH (zZ (fun ρ w=>Has ρ [(1,(vi who1)),(6,(vp (some p1))),(14,(vp (some a1))),(15,(vp (some a2)))]∧m_A_j7 who1 p1 a1 a2 w K) ?_ ?_)
 rintro ρ w ⟨hH,h⟩
 refine jO hH (eg (qb (ql (Tryz.isAgg23 _) h fun v1 h=>q (ql (Tryz.isAgg9 _) h fun v2 h=>q (ql (Tryz.isAgg4 _) h fun v3 h=>q ?_)))))
 rcases Bool.eq_false_or_eq_true v3 with hg1 | hg1
 have h:=h.1 hg1
 refine sj2 135 hg1 (q2 (vb true) (xT hg1) (q ?_))
 obtain ⟨hp6,h⟩:=h
 refine jH (jE rfl) (xo p1 (Ab 4 who1 v1 v2 true) (Tryz.sizeOf35 _) hp6) ?_
 intro w14 hn6
 have h:=h w14 hn6
 refine ln (er (kR (jW ?_)))
 obtain ⟨bT,bU,dD,bV,dE,hv5,h⟩:=h
 refine gg1 Tryz.results106 (rva (Tryz.isAgg35 _) (Tryz.sizeOf35 _) hv5) ⟨bT,bU,dD,bV,dE,rfl,h⟩
 have h:=h.2 hg1
 refine qk 135 hg1 ?_
 obtain ⟨v4,hv7,h⟩:=h
 refine q4 135 hg1 (xl (Tryz.isAgg4 _) hv7) (q2 (vb v4) (xF hg1) (q ?_))
 obtain ⟨hp7,h⟩:=h
 refine jH (jE rfl) (xo p1 (Ab 4 who1 v1 v2 v4) (Tryz.sizeOf35 _) hp7) ?_
 intro w15 hn7
 have h:=h w15 hn7
 refine ln (er (kR (jW ?_)))
 obtain ⟨bW,bX,dI,bY,dJ,hv6,h⟩:=h
 refine gg1 Tryz.results106 (rva (Tryz.isAgg35 _) (Tryz.sizeOf35 _) hv6) ⟨bW,bX,dI,bY,dJ,rfl,h⟩
 refine rg (qb ?_)
 obtain ⟨a3,hp8,h⟩:=h
 refine q2 (vp (some a3)) (jD (p:=r1) (by kernel_rfl) hp8) (q (ql (Tryz.isAgg4 _) h fun v5 h=>q (jL 4 (fun ρ w=>∃x6,Has ρ [(1,(vi who1)),(6,(vp (some p1))),(14,(vp (some a1))),(15,(vp (some a2))),(97,(vp r1)),(106,(vb x6))]∧m_A_j8 r1 who1 p1 a1 a2 x6 w K) ?_ ?_)))
 rintro ρ w ⟨x6,hH,h⟩
 refine jN hH (q (jL 4 (fun ρ w=>∃x7,Has ρ [(1,(vi who1)),(6,(vp (some p1))),(14,(vp (some a1))),(15,(vp (some a2))),(97,(vp r1)),(111,(vb x7))]∧m_A_j9 r1 who1 p1 a1 a2 x7 w K) ?_ ?_))
 rintro ρ w ⟨x7,hH,h⟩
 refine jN hH (q (jL 6 (fun ρ w=>∃x8,Has ρ [(1,(vi who1)),(6,(vp (some p1))),(14,(vp (some a1))),(15,(vp (some a2))),(97,(vp r1)),(118,(vb x8))]∧m_A_j10 r1 who1 p1 a1 a2 x8 w K) ?_ ?_))
 rintro ρ w ⟨x8,hH,h⟩
 refine jN hH (q ?_)
 rcases Bool.eq_false_or_eq_true x8 with hg2 | hg2
 have h:=h.1 hg2
 refine sj5 119 hg2 (q2 (vb true) (xT hg2) ?_)
 obtain ⟨a4,hp9,h⟩:=h
 refine q2 (vp (some a4)) (jD (p:=r1) (by kernel_rfl) hp9) (q ?_)
 obtain ⟨hp10,h⟩:=h
 refine jH (jE rfl) (zJ (a:=(a4.add 1)) (v:=(vb true)) (by kernel_rfl) (by kernel_rfl) rfl (Tryz.sizeOf4 _) hp10) ?_
 intro w16 hn8
 have h:=h w16 hn8
 refine ln ⟨hm,h⟩
 have h:=h.2 hg2
 refine qk 119 hg2 ?_
 obtain ⟨v6,hv12,h⟩:=h
 refine q4 119 hg2 (xl (Tryz.isAgg9 _) hv12) (qk 119 hg2 ?_)
 obtain ⟨v7,hv11,h⟩:=h
 refine q4 119 hg2 (xl (Tryz.isAgg9 _) hv11) (stq (v:=(vb (!(decide (v6=v7))))) (wy 119 hg2) (qL (by kernel_rfl) (by kernel_rfl)) (q2 (vb (!(decide (v6=v7)))) (xF hg2) ?_))
 obtain ⟨a5,hp11,h⟩:=h
 refine q2 (vp (some a5)) (jD (p:=r1) (by kernel_rfl) hp11) (q ?_)
 obtain ⟨hp12,h⟩:=h
 refine jH (jE rfl) (zJ (a:=(a5.add 1)) (v:=(vb (!(decide (v6=v7))))) (by kernel_rfl) (by kernel_rfl) rfl (Tryz.sizeOf4 _) hp12) ?_
 intro w17 hn9
 have h:=h w17 hn9
 refine ln ⟨hm,h⟩
 rcases Bool.eq_false_or_eq_true x7 with hg3 | hg3
 have h:=h.1 hg3
 refine sj5 112 hg3 (q2 (vb true) (xT hg3) (jC ⟨true,hm,h⟩))
 have h:=h.2 hg3
 refine qk 112 hg3 ?_
 obtain ⟨v8,hv14,h⟩:=h
 refine q4 112 hg3 (xl (Tryz.isAgg23 _) hv14) (qk 112 hg3 ?_)
 obtain ⟨v9,hv13,h⟩:=h
 refine q4 112 hg3 (xl (Tryz.isAgg23 _) hv13) (qk 112 hg3 (q2 (vb (v8 != v9)) (xF hg3) (jC ⟨(v8 != v9),hm,h⟩)))
 rcases Bool.eq_false_or_eq_true x6 with hg4 | hg4
 have h:=h.1 hg4
 refine sj3 107 hg4 (q2 (vb true) (xT hg4) (jC ⟨true,hm,h⟩))
 have h:=h.2 hg4
 refine qk 107 hg4 ?_
 obtain ⟨v10,hv15,h⟩:=h
 refine q4 107 hg4 (xl (Tryz.isAgg3 _) hv15) (qk 107 hg4 (q2 (vb (v10 != 1)) (xF hg4) (jC ⟨(v10 != 1),hm,h⟩)))
 rcases Bool.eq_false_or_eq_true v5 with hg5 | hg5
 have h:=h.1 hg5
 refine sj3 102 hg5 (q2 (vb true) (xT hg5) (jC ⟨true,hm,h⟩))
 have h:=h.2 hg5
 refine qk 102 hg5 ?_
 obtain ⟨v11,hv16,h⟩:=h
 refine q4 102 hg5 (xl (Tryz.isAgg3 _) hv16) (qk 102 hg5 (q2 (vb (v11 != 0)) (xF hg5) (jC ⟨(v11 != 0),hm,h⟩)))
 obtain ⟨C1,hC,h⟩:=h
 refine dr1 C1 [3,7,8,9,10,11] [7,10,11] hC h fun w18 h=>qx 0 (vp r1) Kp0 (qx 1 (vp (some (p2.add 5))) Kp1 (qg 2 ?_))
 obtain ⟨v12,hv19,h⟩:=h
 refine sy Kp2 (fun _ k=>xl (Tryz.isAgg78 _) (hv19 _ k)) (qx 4 (vp r1) Kp4 (qx 5 (vp (some (p2.add 6))) Kp5 (qg 6 ?_)))
 obtain ⟨v13,hv18,h⟩:=h
 refine sy Kp6 (fun _ k=>xl (Tryz.isAgg78 _) (hv18 _ k)) (lgo3 (k:=3) (k':=8) (k'':=9) (by kernel_rfl) ?_ ?_ ?_)
 have h:=h.1
 refine jP Kp3 (jE rfl) (by kernel_rfl) (xc Tryz.call107) (h.mono ?_)
 rintro e w19 ⟨bH,bI,bM,bJ,bN,rfl,hC,h⟩
 refine ⟨_,rfl,.inr hC,?_⟩
 refine lgo3 (k:=7) (k':=8) (k'':=9) (by kernel_rfl) ?_ ?_ ?_
 have h:=h.1
 refine jP Kp7 (jE rfl) (by kernel_rfl) (xc Tryz.call107) (h.mono ?_)
 rintro e w20 ⟨cT,cU,dU,cV,dV,rfl,h⟩
 refine ⟨_,rfl,.inl (by kernel_rfl),?_⟩
 refine jGQ (k:=8) (k':=9) (by kernel_rfl) ?_ ?_
 have h:=h.1
 refine kC (O:=(.cells #[(vi 0),(vi 0),(vu 0),(vs ⟨#[]⟩),(vb false)] 35)) (fun p=>.pointer (some p)) Kp8 (jE rfl) (by kernel_rfl) (jJ (Tryz.zeroValue35 _) rfl) ?_
 intro p3 w21 hn13
 have h:=h p3 w21 hn13
 refine ⟨.inr h.1,?_⟩
 have h:=h.2
 refine lg 9 (kC (O:=(.cells #[(vi 0),(vi 0),(vu 0),(vs ⟨#[]⟩),(vb false)] 35)) (fun p=>.pointer (some p)) Kp9 (jE rfl) (by kernel_rfl) (jJ (Tryz.zeroValue35 _) rfl) ?_)
 intro p4 w22 hn12
 have h:=h p4 w22 hn12
 refine ⟨.inr h.1,?_⟩
 have h:=h.2
 refine lg 10 (slo (jS (S8 (jG (jG jR)))) (Tryz.sizeOf35 _) h fun w23 h=>⟨.inl (by kernel_rfl),?_⟩)
 refine lg 11 (slo (jS (S8 (jG (jG (jG jR))))) (Tryz.sizeOf35 _) h fun w24 h=>⟨.inl (by kernel_rfl),?_⟩)
 refine wn (jK ⟨p3,p4,hm,h⟩)
 have h:=h.2
 refine kC (O:=(.cells #[(vi 0),(vi 0),(vu 0),(vs ⟨#[]⟩),(vb false)] 35)) (fun p=>.pointer (some p)) Kp9 (jE rfl) (by kernel_rfl) (jJ (Tryz.zeroValue35 _) rfl) ?_
 intro p5 w25 hn17
 have h:=h p5 w25 hn17
 refine ⟨.inr h.1,?_⟩
 have h:=h.2
 refine lg 8 (kC (O:=(.cells #[(vi 0),(vi 0),(vu 0),(vs ⟨#[]⟩),(vb false)] 35)) (fun p=>.pointer (some p)) Kp8 (jE rfl) (by kernel_rfl) (jJ (Tryz.zeroValue35 _) rfl) ?_)
 intro p6 w26 hn16
 have h:=h p6 w26 hn16
 refine ⟨.inr h.1,?_⟩
 have h:=h.2
 refine lg 10 (slo (jS (S8 (jG (jG jR)))) (Tryz.sizeOf35 _) h fun w27 h=>⟨.inl (by kernel_rfl),?_⟩)
 refine lg 11 (slo (jS (S8 (jG (jG (jG jR))))) (Tryz.sizeOf35 _) h fun w28 h=>⟨.inl (by kernel_rfl),?_⟩)
 refine wn (jK ⟨p6,p5,hm,h⟩)
 have h:=h.2.1
 refine kC (O:=(.cells #[(vi 0),(vi 0),(vu 0),(vs ⟨#[]⟩),(vb false)] 35)) (fun p=>.pointer (some p)) Kp8 (jE rfl) (by kernel_rfl) (jJ (Tryz.zeroValue35 _) rfl) ?_
 intro p7 w29 hn24
 have h:=h p7 w29 hn24
 refine ⟨.inr h.1,?_⟩
 have h:=h.2
 refine jGQ (k:=7) (k':=9) (by kernel_rfl) ?_ ?_
 have h:=h.1
 refine jP Kp7 (jE rfl) (by kernel_rfl) (xc Tryz.call107) (h.mono ?_)
 rintro e w30 ⟨dW,dX,fU,dY,fV,rfl,h⟩
 refine ⟨_,rfl,.inl (by kernel_rfl),?_⟩
 refine lg 9 (kC (O:=(.cells #[(vi 0),(vi 0),(vu 0),(vs ⟨#[]⟩),(vb false)] 35)) (fun p=>.pointer (some p)) Kp9 (jE rfl) (by kernel_rfl) (jJ (Tryz.zeroValue35 _) rfl) ?_)
 intro p8 w31 hn20
 have h:=h p8 w31 hn20
 refine ⟨.inr h.1,?_⟩
 have h:=h.2
 refine lg 10 (slo (jS (S8 (jG (jG jR)))) (Tryz.sizeOf35 _) h fun w32 h=>⟨.inl (by kernel_rfl),?_⟩)
 refine lg 11 (slo (jS (S8 (jG (jG (jG jR))))) (Tryz.sizeOf35 _) h fun w33 h=>⟨.inl (by kernel_rfl),?_⟩)
 refine wn (jK ⟨p7,p8,hm,h⟩)
 have h:=h.2
 refine kC (O:=(.cells #[(vi 0),(vi 0),(vu 0),(vs ⟨#[]⟩),(vb false)] 35)) (fun p=>.pointer (some p)) Kp9 (jE rfl) (by kernel_rfl) (jJ (Tryz.zeroValue35 _) rfl) ?_
 intro p9 w34 hn23
 have h:=h p9 w34 hn23
 refine ⟨.inr h.1,?_⟩
 have h:=h.2
 refine lg 7 (jP Kp7 (jE rfl) (by kernel_rfl) (xc Tryz.call107) (h.mono ?_))
 rintro e w35 ⟨eI,eJ,kY,eK,kZ,rfl,h⟩
 refine ⟨_,rfl,.inl (by kernel_rfl),?_⟩
 refine lg 10 (slo (jS (S8 (jG (jG jR)))) (Tryz.sizeOf35 _) h fun w36 h=>⟨.inl (by kernel_rfl),?_⟩)
 refine lg 11 (slo (jS (S8 (jG (jG (jG jR))))) (Tryz.sizeOf35 _) h fun w37 h=>⟨.inl (by kernel_rfl),?_⟩)
 refine wn (jK ⟨p7,p9,hm,h⟩)
 have h:=h.2.2
 refine kC (O:=(.cells #[(vi 0),(vi 0),(vu 0),(vs ⟨#[]⟩),(vb false)] 35)) (fun p=>.pointer (some p)) Kp9 (jE rfl) (by kernel_rfl) (jJ (Tryz.zeroValue35 _) rfl) ?_
 intro p10 w38 hn31
 have h:=h p10 w38 hn31
 refine ⟨.inr h.1,?_⟩
 have h:=h.2
 refine jGQ (k:=7) (k':=8) (by kernel_rfl) ?_ ?_
 have h:=h.1
 refine jP Kp7 (jE rfl) (by kernel_rfl) (xc Tryz.call107) (h.mono ?_)
 rintro e w39 ⟨dZ,eA,lA,eB,lB,rfl,h⟩
 refine ⟨_,rfl,.inl (by kernel_rfl),?_⟩
 refine lg 8 (kC (O:=(.cells #[(vi 0),(vi 0),(vu 0),(vs ⟨#[]⟩),(vb false)] 35)) (fun p=>.pointer (some p)) Kp8 (jE rfl) (by kernel_rfl) (jJ (Tryz.zeroValue35 _) rfl) ?_)
 intro p11 w40 hn27
 have h:=h p11 w40 hn27
 refine ⟨.inr h.1,?_⟩
 have h:=h.2
 refine lg 10 (slo (jS (S8 (jG (jG jR)))) (Tryz.sizeOf35 _) h fun w41 h=>⟨.inl (by kernel_rfl),?_⟩)
 refine lg 11 (slo (jS (S8 (jG (jG (jG jR))))) (Tryz.sizeOf35 _) h fun w42 h=>⟨.inl (by kernel_rfl),?_⟩)
 refine wn (jK ⟨p11,p10,hm,h⟩)
 have h:=h.2
 refine kC (O:=(.cells #[(vi 0),(vi 0),(vu 0),(vs ⟨#[]⟩),(vb false)] 35)) (fun p=>.pointer (some p)) Kp8 (jE rfl) (by kernel_rfl) (jJ (Tryz.zeroValue35 _) rfl) ?_
 intro p12 w43 hn30
 have h:=h p12 w43 hn30
 refine ⟨.inr h.1,?_⟩
 have h:=h.2
 refine lg 7 (jP Kp7 (jE rfl) (by kernel_rfl) (xc Tryz.call107) (h.mono ?_))
 rintro e w44 ⟨eL,eM,lC,eN,lD,rfl,h⟩
 refine ⟨_,rfl,.inl (by kernel_rfl),?_⟩
 refine lg 10 (slo (jS (S8 (jG (jG jR)))) (Tryz.sizeOf35 _) h fun w45 h=>⟨.inl (by kernel_rfl),?_⟩)
 refine lg 11 (slo (jS (S8 (jG (jG (jG jR))))) (Tryz.sizeOf35 _) h fun w46 h=>⟨.inl (by kernel_rfl),?_⟩)
 refine wn (jK ⟨p12,p10,hm,h⟩)
 have h:=h.2.1
 refine kC (O:=(.cells #[(vi 0),(vi 0),(vu 0),(vs ⟨#[]⟩),(vb false)] 35)) (fun p=>.pointer (some p)) Kp8 (jE rfl) (by kernel_rfl) (jJ (Tryz.zeroValue35 _) rfl) ?_
 intro p13 w47 hn41
 have h:=h p13 w47 hn41
 refine ⟨.inr h.1,?_⟩
 have h:=h.2
 refine jGQ (k:=3) (k':=9) (by kernel_rfl) ?_ ?_
 have h:=h.1
 refine jP Kp3 (jE rfl) (by kernel_rfl) (xc Tryz.call107) (h.mono ?_)
 rintro e w48 ⟨eC,eD,iH,eE,iI,rfl,hC,h⟩
 refine ⟨_,rfl,.inr hC,?_⟩
 refine jGQ (k:=7) (k':=9) (by kernel_rfl) ?_ ?_
 have h:=h.1
 refine jP Kp7 (jE rfl) (by kernel_rfl) (xc Tryz.call107) (h.mono ?_)
 rintro e w49 ⟨fF,fG,lE,fH,lF,rfl,h⟩
 refine ⟨_,rfl,.inl (by kernel_rfl),?_⟩
 refine lg 9 (kC (O:=(.cells #[(vi 0),(vi 0),(vu 0),(vs ⟨#[]⟩),(vb false)] 35)) (fun p=>.pointer (some p)) Kp9 (jE rfl) (by kernel_rfl) (jJ (Tryz.zeroValue35 _) rfl) ?_)
 intro p14 w50 hn34
 have h:=h p14 w50 hn34
 refine ⟨.inr h.1,?_⟩
 have h:=h.2
 refine lg 10 (slo (jS (S8 (jG (jG jR)))) (Tryz.sizeOf35 _) h fun w51 h=>⟨.inl (by kernel_rfl),?_⟩)
 refine lg 11 (slo (jS (S8 (jG (jG (jG jR))))) (Tryz.sizeOf35 _) h fun w52 h=>⟨.inl (by kernel_rfl),?_⟩)
 refine wn (jK ⟨p13,p14,hm,h⟩)
 have h:=h.2
 refine kC (O:=(.cells #[(vi 0),(vi 0),(vu 0),(vs ⟨#[]⟩),(vb false)] 35)) (fun p=>.pointer (some p)) Kp9 (jE rfl) (by kernel_rfl) (jJ (Tryz.zeroValue35 _) rfl) ?_
 intro p15 w53 hn37
 have h:=h p15 w53 hn37
 refine ⟨.inr h.1,?_⟩
 have h:=h.2
 refine lg 7 (jP Kp7 (jE rfl) (by kernel_rfl) (xc Tryz.call107) (h.mono ?_))
 rintro e w54 ⟨fI,fJ,lG,fK,lH,rfl,h⟩
 refine ⟨_,rfl,.inl (by kernel_rfl),?_⟩
 refine lg 10 (slo (jS (S8 (jG (jG jR)))) (Tryz.sizeOf35 _) h fun w55 h=>⟨.inl (by kernel_rfl),?_⟩)
 refine lg 11 (slo (jS (S8 (jG (jG (jG jR))))) (Tryz.sizeOf35 _) h fun w56 h=>⟨.inl (by kernel_rfl),?_⟩)
 refine wn (jK ⟨p13,p15,hm,h⟩)
 have h:=h.2
 refine kC (O:=(.cells #[(vi 0),(vi 0),(vu 0),(vs ⟨#[]⟩),(vb false)] 35)) (fun p=>.pointer (some p)) Kp9 (jE rfl) (by kernel_rfl) (jJ (Tryz.zeroValue35 _) rfl) ?_
 intro p16 w57 hn40
 have h:=h p16 w57 hn40
 refine ⟨.inr h.1,?_⟩
 have h:=h.2
 refine lg 3 (jP Kp3 (jE rfl) (by kernel_rfl) (xc Tryz.call107) (h.mono ?_))
 rintro e w58 ⟨eO,eP,lI,eQ,lJ,rfl,hC,h⟩
 refine ⟨_,rfl,.inr hC,?_⟩
 refine lg 7 (jP Kp7 (jE rfl) (by kernel_rfl) (xc Tryz.call107) (h.mono ?_))
 rintro e w59 ⟨fL,fM,lK,fN,lL,rfl,h⟩
 refine ⟨_,rfl,.inl (by kernel_rfl),?_⟩
 refine lg 10 (slo (jS (S8 (jG (jG jR)))) (Tryz.sizeOf35 _) h fun w60 h=>⟨.inl (by kernel_rfl),?_⟩)
 refine lg 11 (slo (jS (S8 (jG (jG (jG jR))))) (Tryz.sizeOf35 _) h fun w61 h=>⟨.inl (by kernel_rfl),?_⟩)
 refine wn (jK ⟨p13,p16,hm,h⟩)
 have h:=h.2.2
 refine kC (O:=(.cells #[(vi 0),(vi 0),(vu 0),(vs ⟨#[]⟩),(vb false)] 35)) (fun p=>.pointer (some p)) Kp9 (jE rfl) (by kernel_rfl) (jJ (Tryz.zeroValue35 _) rfl) ?_
 intro p17 w62 hn51
 have h:=h p17 w62 hn51
 refine ⟨.inr h.1,?_⟩
 have h:=h.2
 refine jGQ (k:=3) (k':=8) (by kernel_rfl) ?_ ?_
 have h:=h.1
 refine jP Kp3 (jE rfl) (by kernel_rfl) (xc Tryz.call107) (h.mono ?_)
 rintro e w63 ⟨eF,eG,iJ,eH,iK,rfl,hC,h⟩
 refine ⟨_,rfl,.inr hC,?_⟩
 refine jGQ (k:=7) (k':=8) (by kernel_rfl) ?_ ?_
 have h:=h.1
 refine jP Kp7 (jE rfl) (by kernel_rfl) (xc Tryz.call107) (h.mono ?_)
 rintro e w64 ⟨fO,fP,lM,fQ,lN,rfl,h⟩
 refine ⟨_,rfl,.inl (by kernel_rfl),?_⟩
 refine lg 8 (kC (O:=(.cells #[(vi 0),(vi 0),(vu 0),(vs ⟨#[]⟩),(vb false)] 35)) (fun p=>.pointer (some p)) Kp8 (jE rfl) (by kernel_rfl) (jJ (Tryz.zeroValue35 _) rfl) ?_)
 intro p18 w65 hn44
 have h:=h p18 w65 hn44
 refine ⟨.inr h.1,?_⟩
 have h:=h.2
 refine lg 10 (slo (jS (S8 (jG (jG jR)))) (Tryz.sizeOf35 _) h fun w66 h=>⟨.inl (by kernel_rfl),?_⟩)
 refine lg 11 (slo (jS (S8 (jG (jG (jG jR))))) (Tryz.sizeOf35 _) h fun w67 h=>⟨.inl (by kernel_rfl),?_⟩)
 refine wn (jK ⟨p18,p17,hm,h⟩)
 have h:=h.2
 refine kC (O:=(.cells #[(vi 0),(vi 0),(vu 0),(vs ⟨#[]⟩),(vb false)] 35)) (fun p=>.pointer (some p)) Kp8 (jE rfl) (by kernel_rfl) (jJ (Tryz.zeroValue35 _) rfl) ?_
 intro p19 w68 hn47
 have h:=h p19 w68 hn47
 refine ⟨.inr h.1,?_⟩
 have h:=h.2
 refine lg 7 (jP Kp7 (jE rfl) (by kernel_rfl) (xc Tryz.call107) (h.mono ?_))
 rintro e w69 ⟨eR,eS,lO,eT,lP,rfl,h⟩
 refine ⟨_,rfl,.inl (by kernel_rfl),?_⟩
 refine lg 10 (slo (jS (S8 (jG (jG jR)))) (Tryz.sizeOf35 _) h fun w70 h=>⟨.inl (by kernel_rfl),?_⟩)
 refine lg 11 (slo (jS (S8 (jG (jG (jG jR))))) (Tryz.sizeOf35 _) h fun w71 h=>⟨.inl (by kernel_rfl),?_⟩)
 refine wn (jK ⟨p19,p17,hm,h⟩)
 have h:=h.2
 refine kC (O:=(.cells #[(vi 0),(vi 0),(vu 0),(vs ⟨#[]⟩),(vb false)] 35)) (fun p=>.pointer (some p)) Kp8 (jE rfl) (by kernel_rfl) (jJ (Tryz.zeroValue35 _) rfl) ?_
 intro p20 w72 hn50
 have h:=h p20 w72 hn50
 refine ⟨.inr h.1,?_⟩
 have h:=h.2
 refine lg 3 (jP Kp3 (jE rfl) (by kernel_rfl) (xc Tryz.call107) (h.mono ?_))
 rintro e w73 ⟨eU,eV,lQ,eW,lR,rfl,hC,h⟩
 refine ⟨_,rfl,.inr hC,?_⟩
 refine lg 7 (jP Kp7 (jE rfl) (by kernel_rfl) (xc Tryz.call107) (h.mono ?_))
 rintro e w74 ⟨fR,fS,lS,fT,lT,rfl,h⟩
 refine ⟨_,rfl,.inl (by kernel_rfl),?_⟩
 refine lg 10 (slo (jS (S8 (jG (jG jR)))) (Tryz.sizeOf35 _) h fun w75 h=>⟨.inl (by kernel_rfl),?_⟩)
 refine lg 11 (slo (jS (S8 (jG (jG (jG jR))))) (Tryz.sizeOf35 _) h fun w76 h=>⟨.inl (by kernel_rfl),?_⟩)
 refine wn (jK ⟨p20,p17,hm,h⟩)
 refine jB (vD (jK (eg (q ?_))))
 obtain ⟨a6,hp37,h⟩:=h
 refine q2 (vp (some a6)) (jD (p:=r1) (by kernel_rfl) hp37) (q ?_)
 obtain ⟨hp38,h⟩:=h
 refine jH (jE rfl) (zJ (a:=(a6.add 1)) (v:=(vb true)) (by kernel_rfl) (by kernel_rfl) rfl (Tryz.sizeOf4 _) hp38) ?_
 intro w77 hn53
 have h:=h w77 hn53
 refine ln (eg (q ?_))
 obtain ⟨hp39,h⟩:=h
 refine jH (jE rfl) (xo p1 (Ab 0 0 0 (⟨#[]⟩) false) (Tryz.sizeOf35 _) hp39) ?_
 intro w78 hn54
 have h:=h w78 hn54
 refine ln (er ?_)
 obtain ⟨bZ,cA,dK,cB,dL,hv20,h⟩:=h
 refine gg1 Tryz.results106 (rva (Tryz.isAgg35 _) (Tryz.sizeOf35 _) hv20) ⟨bZ,cA,dK,cB,dL,rfl,h⟩
 refine rg (q (q2 (vb (decide (r2=(⟨#[114,101,115,111,108,118,101]⟩:ByteArray)))) (uP (by kernel_rfl) (by kernel_rfl)) (q ?_)))
 rcases Bool.eq_false_or_eq_true (decide (r2=(⟨#[114,101,115,111,108,118,101]⟩:ByteArray))) with hg6 | hg6
 have h:=h.1 hg6
 refine qk 82 hg6 (qk 82 hg6 (q2 (vb (decide (who1≤1))) (xT hg6) (q (ln ⟨(decide (who1≤1)),hm,h⟩))))
 have h:=h.2 hg6
 refine sj2 82 hg6 (q2 (vb false) (xF hg6) (q (ln ⟨false,hm,h⟩)))
 refine rg (q (q2 (vb (decide (r2=(⟨#[100,101,97,108]⟩:ByteArray)))) (uP (by kernel_rfl) (by kernel_rfl)) (q ?_)))
 rcases Bool.eq_false_or_eq_true (decide (r2=(⟨#[100,101,97,108]⟩:ByteArray))) with hg7 | hg7
 have h:=h.1 hg7
 refine qk 65 hg7 (qk 65 hg7 (q2 (vb (decide (who1≤1))) (xT hg7) (q (ln ⟨(decide (who1≤1)),hm,h⟩))))
 have h:=h.2 hg7
 refine sj2 65 hg7 (q2 (vb false) (xF hg7) (q (ln ⟨false,hm,h⟩)))
 refine rg (q (q2 (vb (decide (r2=(⟨#[105,110,115,116,101,97,100]⟩:ByteArray)))) (uP (by kernel_rfl) (by kernel_rfl)) (q ?_)))
 rcases Bool.eq_false_or_eq_true (decide (r2=(⟨#[105,110,115,116,101,97,100]⟩:ByteArray))) with hg8 | hg8
 have h:=h.1 hg8
 refine qk 49 hg8 (qk 49 hg8 (q2 (vb (who1 == 2)) (xT hg8) (q (ln ⟨(who1 == 2),hm,h⟩))))
 have h:=h.2 hg8
 refine sj2 49 hg8 (q2 (vb false) (xF hg8) (q (ln ⟨false,hm,h⟩)))
 refine rg (q (q2 (vb (decide (r2=(⟨#[97,98,111,114,116,101,100]⟩:ByteArray)))) (uP (by kernel_rfl) (by kernel_rfl)) (q ?_)))
 rcases Bool.eq_false_or_eq_true (decide (r2=(⟨#[97,98,111,114,116,101,100]⟩:ByteArray))) with hg9 | hg9
 have h:=h.1 hg9
 refine qk 37 hg9 (qk 37 hg9 (q2 (vb (who1 == 2)) (xT hg9) (q (ln ⟨(who1 == 2),hm,h⟩))))
 have h:=h.2 hg9
 refine sj2 37 hg9 (q2 (vb false) (xF hg9) (q (ln ⟨false,hm,h⟩)))
 refine rg (q (q2 (vb (decide (r2=(⟨#[97,98,111,114,116]⟩:ByteArray)))) (uP (by kernel_rfl) (by kernel_rfl)) (q ?_)))
 rcases Bool.eq_false_or_eq_true (decide (r2=(⟨#[97,98,111,114,116]⟩:ByteArray))) with hg10 | hg10
 have h:=h.1 hg10
 refine qk 25 hg10 (qk 25 hg10 (q2 (vb (who1 == 0)) (xT hg10) (q (ln ⟨(who1 == 0),hm,h⟩))))
 have h:=h.2 hg10
 refine sj2 25 hg10 (q2 (vb false) (xF hg10) (q (ln ⟨false,hm,h⟩)))
def m_K_j1 (r1:Option Addr) (p1 p2:Addr) (w:World) (K:Int→Int→Int→ByteArray→Bool→WP):Prop :=∃v2,w.cell? (p2.add 5)=some (vi v2)∧Calls Tryz.prog 170 #[(vp r1),(vi v2)] w (fun e w5=>∃r3 r4,e=.returned (.tuple #[(vu r3),(vs r4)])∧∃v3,w5.cell? (p2.add 1)=some (vi v3)∧∃v4,w5.cell? p2=some (vi v4)∧(∀j,j<5→zC w5 (p1.add j))∧∀w6,w6=storeRow w5 p1 (Ab 1 v3 r3 r4 (v4 == 9))→∃aA aB cH aC cI,Row w6 p1 (Ab aA aB cH aC cI)∧K aA aB cH aC cI w6)
def m_K_j3 (r1:Option Addr) (p1 p2:Addr) (x2:Bool) (w:World) (K:Int→Int→Int→ByteArray→Bool→WP):Prop :=Br x2 (∃a2,r1=some a2∧zC w (a2.add 1)∧∀w7,w7=w.setCell (a2.add 1) (vb true)→(∀j,j<5→zC w7 (p1.add j))∧∀w8,w8=storeRow w7 p1 (Ab 0 0 0 (⟨#[]⟩) false)→∃aO aP cJ aQ cK,Row w8 p1 (Ab aO aP cJ aQ cK)∧K aO aP cJ aQ cK w8) (∃v6,w.cell? (p2.add 2)=some (vi v6)∧∃v7,w.cell? (p2.add 1)=some (vi v7)∧Br (v6 != (q6.wrap (1 - v7))) (∃a3,r1=some a3∧zC w (a3.add 1)∧∀w9,w9=w.setCell (a3.add 1) (vb true)→(∀j,j<5→zC w9 (p1.add j))∧∀w10,w10=storeRow w9 p1 (Ab 0 0 0 (⟨#[]⟩) false)→∃aU aV cC aW cD,Row w10 p1 (Ab aU aV cC aW cD)∧K aU aV cC aW cD w10) (m_K_j1 r1 p1 p2 w K))
def m_K_j2 (r1:Option Addr) (p1 p2:Addr) (x1:Bool) (w:World) (K:Int→Int→Int→ByteArray→Bool→WP):Prop :=Br x1 (m_K_j3 r1 p1 p2 true w K) (∃v8,w.cell? (p2.add 1)=some (vi v8)∧m_K_j3 r1 p1 p2 (decide (v8>1)) w K)
def m_K (r1:Option Addr) (t1:Int) (w:World) (K:Int→Int→Int→ByteArray→Bool→WP):Prop :=∀p1 w1,New w (.cells #[(vi 0),(vi 0),(vu 0),(vs ⟨#[]⟩),(vb false)] 35) p1 w1→∃a1,r1=some a1∧∃v1,w1.cell? a1=some (vp v1)∧Calls Tryz.prog 102 #[(vp v1),(vi t1)] w1 (fun e w2=>∃aE aF aG aD aH aX aY r2,e=.returned (.tuple #[(Ad aE aF aG aD aH aX aY),(vb r2)])∧∀p2 w3,New w2 (.cells #[(vi 0),(vi 0),(vi 0),(vu 0),(vs ⟨#[]⟩),(vi 0),(vi 0)] 176) p2 w3→(∀j,j<7→zC w3 (p2.add j))∧∀w4,w4=storeRow w3 p2 (Aa aE aF aG aD aH aX aY)→∃v5,w4.cell? p2=some (vi v5)∧Br (v5 != 8) (∃v9,w4.cell? p2=some (vi v9)∧m_K_j2 r1 p1 p2 (v9 != 9) w4 K) (m_K_j2 r1 p1 p2 false w4 K))
theorem w_K (r1 t1 w K) (h:m_K r1 t1 w K):
  Calls Tryz.prog 107 #[(vp r1),(vi t1)] w (fun e w'=>∃bE bF bM aZ bN,e=.returned (Af bE bF bM aZ bN)∧K bE bF bM aZ bN w'):=by
 refine cw (args:=[(vp r1),(vi t1)]) Tryz.func107 Tryz.ntmps107 (eg (sn (O:=(.cells #[(vi 0),(vi 0),(vu 0),(vs ⟨#[]⟩),(vb false)] 35)) (jJ (Tryz.zeroValue35 _) rfl) ?_))
 intro p1 w1 hn8
 have h:=h p1 w1 hn8
 refine ln (eg (q ?_))
 obtain ⟨a1,hp1,h⟩:=h
 refine q2 (vp (some a1)) (jD (p:=r1) (by kernel_rfl) hp1) (q (ql (Tryz.isAgg68 _) h fun v1 h=>q (sc Tryz.call102 (h.mono fun e w2 ⟨aE,aF,aG,aD,aH,aX,aY,r2,k,h⟩=>⟨_,k,?_⟩))))
 refine qc (nw1 h (jJ (Tryz.zeroValue176 _) rfl) fun p2 w3 h=>?_)
 obtain ⟨hp2,h⟩:=h
 refine jH (jE rfl) (xo p2 (Aa aE aF aG aD aH aX aY) (Tryz.sizeOf176 _) hp2) ?_
 intro w4 hn1
 have h:=h w4 hn1
 refine q (ln (zZ (fun ρ w=>Has ρ [(0,(vp r1)),(4,(vp (some p1))),(5,(vp (some p2)))]∧m_K_j1 r1 p1 p2 w K) ?_ ?_))
 rintro ρ w ⟨hH,h⟩
 refine jO hH (eg (qb (ql (Tryz.isAgg78 _) h fun v2 h=>sc Tryz.call170 (h.mono fun e w5 ⟨r3,r4,k,h⟩=>⟨_,k,?_⟩))))
 refine q (qd (ln (eg (q (ql (Tryz.isAgg3 _) h fun v3 h=>qc (ql (Tryz.isAgg3 _) h fun v4 h=>qb ?_))))))
 obtain ⟨hp3,h⟩:=h
 refine jH (jE rfl) (xo p1 (Ab 1 v3 r3 r4 (v4 == 9)) (Tryz.sizeOf35 _) hp3) ?_
 intro w6 hn2
 have h:=h w6 hn2
 refine ln (er ?_)
 obtain ⟨aA,aB,cH,aC,cI,hv1,h⟩:=h
 refine gg1 Tryz.results107 (rva (Tryz.isAgg35 _) (Tryz.sizeOf35 _) hv1) ⟨aA,aB,cH,aC,cI,rfl,h⟩
 refine eg (q (ql (Tryz.isAgg3 _) h fun v5 h=>qb (jL 4 (fun ρ w=>∃x1,Has ρ [(0,(vp r1)),(4,(vp (some p1))),(5,(vp (some p2))),(25,(vb x1))]∧m_K_j2 r1 p1 p2 x1 w K) ?_ ?_)))
 rintro ρ w ⟨x1,hH,h⟩
 refine jN hH (q (jL 4 (fun ρ w=>∃x2,Has ρ [(0,(vp r1)),(4,(vp (some p1))),(5,(vp (some p2))),(30,(vb x2))]∧m_K_j3 r1 p1 p2 x2 w K) ?_ ?_))
 rintro ρ w ⟨x2,hH,h⟩
 refine jN hH (q ?_)
 rcases Bool.eq_false_or_eq_true x2 with hg1 | hg1
 have h:=h.1 hg1
 refine sj 31 hg1 (sj5 31 hg1 (q2 (vb true) (xT hg1) (ln (kN (by kernel_rfl) (eg (q ?_))))))
 obtain ⟨a2,hp4,h⟩:=h
 refine q2 (vp (some a2)) (jD (p:=r1) (by kernel_rfl) hp4) (q ?_)
 obtain ⟨hp5,h⟩:=h
 refine jH (jE rfl) (zJ (a:=(a2.add 1)) (v:=(vb true)) (by kernel_rfl) (by kernel_rfl) rfl (Tryz.sizeOf4 _) hp5) ?_
 intro w7 hn3
 have h:=h w7 hn3
 refine ln (eg (q ?_))
 obtain ⟨hp6,h⟩:=h
 refine jH (jE rfl) (xo p1 (Ab 0 0 0 (⟨#[]⟩) false) (Tryz.sizeOf35 _) hp6) ?_
 intro w8 hn4
 have h:=h w8 hn4
 refine ln (er (jW ?_))
 obtain ⟨aO,aP,cJ,aQ,cK,hv5,h⟩:=h
 refine gg1 Tryz.results107 (rva (Tryz.isAgg35 _) (Tryz.sizeOf35 _) hv5) ⟨aO,aP,cJ,aQ,cK,rfl,h⟩
 have h:=h.2 hg1
 refine qk 31 hg1 ?_
 obtain ⟨v6,hv8,h⟩:=h
 refine q4 31 hg1 (xl (Tryz.isAgg3 _) hv8) (qk 31 hg1 ?_)
 obtain ⟨v7,hv7,h⟩:=h
 refine q4 31 hg1 (xl (Tryz.isAgg3 _) hv7) (qk 31 hg1 (qk 31 hg1 (q2 (vb (v6 != (q6.wrap (1 - v7)))) (xF hg1) (ln (cbr h ?_ ?_)))))<;>intro h
 refine eg (q ?_)
 obtain ⟨a3,hp7,h⟩:=h
 refine q2 (vp (some a3)) (jD (p:=r1) (by kernel_rfl) hp7) (q ?_)
 obtain ⟨hp8,h⟩:=h
 refine jH (jE rfl) (zJ (a:=(a3.add 1)) (v:=(vb true)) (by kernel_rfl) (by kernel_rfl) rfl (Tryz.sizeOf4 _) hp8) ?_
 intro w9 hn5
 have h:=h w9 hn5
 refine ln (eg (q ?_))
 obtain ⟨hp9,h⟩:=h
 refine jH (jE rfl) (xo p1 (Ab 0 0 0 (⟨#[]⟩) false) (Tryz.sizeOf35 _) hp9) ?_
 intro w10 hn6
 have h:=h w10 hn6
 refine ln (er (jW ?_))
 obtain ⟨aU,aV,cC,aW,cD,hv6,h⟩:=h
 refine gg1 Tryz.results107 (rva (Tryz.isAgg35 _) (Tryz.sizeOf35 _) hv6) ⟨aU,aV,cC,aW,cD,rfl,h⟩
 refine jB (jK ⟨hm,h⟩)
 rcases Bool.eq_false_or_eq_true x1 with hg2 | hg2
 have h:=h.1 hg2
 refine sj3 26 hg2 (q2 (vb true) (xT hg2) (jC ⟨true,hm,h⟩))
 have h:=h.2 hg2
 refine qk 26 hg2 ?_
 obtain ⟨v8,hv9,h⟩:=h
 refine q4 26 hg2 (xl (Tryz.isAgg3 _) hv9) (qk 26 hg2 (q2 (vb (decide (v8>1))) (xF hg2) (jC ⟨(decide (v8>1)),hm,h⟩)))
 rcases Bool.eq_false_or_eq_true (v5 != 8) with hg3 | hg3
 have h:=h.1 hg3
 refine qk 21 hg3 ?_
 obtain ⟨v9,hv10,h⟩:=h
 refine q4 21 hg3 (xl (Tryz.isAgg3 _) hv10) (qk 21 hg3 (q2 (vb (v9 != 9)) (xT hg3) (jC ⟨(v9 != 9),hm,h⟩)))
 have h:=h.2 hg3
 refine sj3 21 hg3 (q2 (vb false) (xF hg3) (jC ⟨false,hm,h⟩))
def m_X1 (r1:Option Addr) (t1:Int) (w:World) (K:ByteArray→Int→WP):Prop :=Calls Tryz.prog 109 #[(vp r1),(vi t1),(vi 4)] w (fun e w1=>∃aE aF aG aD aH aX aY,e=.returned (Ad aE aF aG aD aH aX aY)∧∀p1 w2,New w1 (.cells #[(vi 0),(vi 0),(vi 0),(vu 0),(vs ⟨#[]⟩),(vi 0),(vi 0)] 176) p1 w2→(∀j,j<7→zC w2 (p1.add j))∧∀w3,w3=storeRow w2 p1 (Aa aE aF aG aD aH aX aY)→∃C1:WP,C1 w3.drew∧∀w4,w4=w3.drew→∃v1,(∀w',C1 w'→w'.cell? (p1.add 5)=some (vi v1))∧∃v2,(∀w',C1 w'→w'.cell? (p1.add 6)=some (vi v2))∧Calls Tryz.prog 109 #[(vp r1),(vi v1),(vi 3)] w4 (fun e w5=>∃bE bF bK aR aZ dB dC,e=.returned (Ad bE bF bK aR aZ dB dC)∧C1 w5∧K aZ v2 w5))
theorem w_X1 (r1 t1 w K) (h:m_X1 r1 t1 w K):
  Calls Tryz.prog 108 #[(vp r1),(vi t1)] w (fun e w'=>∃r2 r3,e=.returned (.tuple #[(vs r2),(vi r3)])∧K r2 r3 w'):=by
 refine cw (args:=[(vp r1),(vi t1)]) Tryz.func108 Tryz.ntmps108 (eg (q0 (vs ⟨#[]⟩) (q0 (vi 0) (ln (eg (q0 (vp r1) (q0 (vi t1) ?_)))))))
 refine sc Tryz.call109 (h.mono fun e w1 ⟨aE,aF,aG,aD,aH,aX,aY,k,h⟩=>⟨_,k,?_⟩)
 refine nw1 h (jJ (Tryz.zeroValue176 _) rfl) fun p1 w2 h=>?_
 obtain ⟨hp1,h⟩:=h
 refine jH (jE rfl) (xo p1 (Aa aE aF aG aD aH aX aY) (Tryz.sizeOf176 _) hp1) ?_
 intro w3 hn1
 have h:=h w3 hn1
 refine ln (jA ?_)
 obtain ⟨C1,hC,h⟩:=h
 refine dr1 C1 [3] [] hC h fun w4 h=>qx 0 (vp r1) Kp0 (qx 1 (vp (some (p1.add 5))) Kp1 (qg 2 ?_))
 obtain ⟨v1,hv2,h⟩:=h
 refine sy Kp2 (fun _ k=>xl (Tryz.isAgg78 _) (hv2 _ k)) (qx 5 (vp (some (p1.add 6))) Kp5 (qg 6 ?_))
 obtain ⟨v2,hv1,h⟩:=h
 refine sy Kp6 (fun _ k=>xl (Tryz.isAgg78 _) (hv1 _ k)) (lg 3 (jP Kp3 (jE rfl) (by kernel_rfl) (xc Tryz.call109) (h.mono ?_)))
 rintro e w5 ⟨bE,bF,bK,aR,aZ,dB,dC,rfl,hC,h⟩
 refine ⟨_,rfl,.inr hC,?_⟩
 refine qx 4 (vs aZ) Kp4 (qx 7 (vs aZ) Kp7 (qx 8 (vi v2) Kp8 (wn (jK (er (qJ (.inl rfl) Tryz.results108 (v:=(vs aZ)) (by kernel_rfl) (v':=(vi v2)) (by kernel_rfl) ⟨aZ,v2,rfl,h⟩))))))
def m_Y1 (r1:Option Addr) (t1 kind1:Int) (w:World) (K:Int→Int→Int→Int→ByteArray→Int→Int→WP):Prop :=∀p1 w1,New w (.cells #[(vi 0),(vi 0),(vi 0),(vu 0),(vs ⟨#[]⟩),(vi 0),(vi 0)] 176) p1 w1→∃a1,r1=some a1∧∃v1,w1.cell? a1=some (vp v1)∧Calls Tryz.prog 102 #[(vp v1),(vi t1)] w1 (fun e w2=>∃aE aF aG aD aH aX aY r2,e=.returned (.tuple #[(Ad aE aF aG aD aH aX aY),(vb r2)])∧∀p2 w3,New w2 (.cells #[(vi 0),(vi 0),(vi 0),(vu 0),(vs ⟨#[]⟩),(vi 0),(vi 0)] 176) p2 w3→(∀j,j<7→zC w3 (p2.add j))∧∀w4,w4=storeRow w3 p2 (Aa aE aF aG aD aH aX aY)→Br (!r2) (∃a2,r1=some a2∧zC w4 (a2.add 1)∧∀w5,w5=w4.setCell (a2.add 1) (vb true)→(∀j,j<7→zC w5 (p1.add j))∧∀w6,w6=storeRow w5 p1 (Aa 0 0 0 0 (⟨#[]⟩) 0 0)→∃aA aB aI aJ aC iL iM,Row w6 p1 (Aa aA aB aI aJ aC iL iM)∧K aA aB aI aJ aC iL iM w6) (∃v2,w4.cell? p2=some (vi v2)∧Br (v2 != kind1) (∃a3,r1=some a3∧zC w4 (a3.add 1)∧∀w7,w7=w4.setCell (a3.add 1) (vb true)→(∀j,j<7→zC w7 (p1.add j))∧∀w8,w8=storeRow w7 p1 (Aa 0 0 0 0 (⟨#[]⟩) 0 0)→∃aO aP cL cM aQ iN iO,Row w8 p1 (Aa aO aP cL cM aQ iN iO)∧K aO aP cL cM aQ iN iO w8) (∃aL aM aS aT aN iP iQ,Row w4 p2 (Aa aL aM aS aT aN iP iQ)∧(∀j,j<7→zC w4 (p1.add j))∧∀w9,w9=storeRow w4 p1 (Aa aL aM aS aT aN iP iQ)→∃aU aV dS dT aW iR iS,Row w9 p1 (Aa aU aV dS dT aW iR iS)∧K aU aV dS dT aW iR iS w9)))
theorem w_Y1 (r1 t1 kind1 w K) (h:m_Y1 r1 t1 kind1 w K):
  Calls Tryz.prog 109 #[(vp r1),(vi t1),(vi kind1)] w (fun e w'=>∃bE bF bK aR aZ dB dC,e=.returned (Ad bE bF bK aR aZ dB dC)∧K bE bF bK aR aZ dB dC w'):=by
 refine cw (args:=[(vp r1),(vi t1),(vi kind1)]) Tryz.func109 Tryz.ntmps109 (eg (sn (O:=(.cells #[(vi 0),(vi 0),(vi 0),(vu 0),(vs ⟨#[]⟩),(vi 0),(vi 0)] 176)) (jJ (Tryz.zeroValue176 _) rfl) ?_))
 intro p1 w1 hn8
 have h:=h p1 w1 hn8
 refine ln (eg (q ?_))
 obtain ⟨a1,hp1,h⟩:=h
 refine q2 (vp (some a1)) (jD (p:=r1) (by kernel_rfl) hp1) (q (ql (Tryz.isAgg68 _) h fun v1 h=>q (sc Tryz.call102 (h.mono fun e w2 ⟨aE,aF,aG,aD,aH,aX,aY,r2,k,h⟩=>⟨_,k,?_⟩))))
 refine qc (nw1 h (jJ (Tryz.zeroValue176 _) rfl) fun p2 w3 h=>?_)
 obtain ⟨hp2,h⟩:=h
 refine jH (jE rfl) (xo p2 (Aa aE aF aG aD aH aX aY) (Tryz.sizeOf176 _) hp2) ?_
 intro w4 hn1
 have h:=h w4 hn1
 refine q (ln (jA (eg (qc ?_))))
 rcases Bool.eq_false_or_eq_true (!r2) with hg1 | hg1
 have h:=h.1 hg1
 refine sj4 20 hg1 (q2 (vb true) (xT hg1) (ln (kN (by kernel_rfl) (eg (q0 (vp r1) ?_)))))
 obtain ⟨a2,hp3,h⟩:=h
 refine q2 (vp (some a2)) (jD (p:=r1) (by kernel_rfl) hp3) (q ?_)
 obtain ⟨hp4,h⟩:=h
 refine jH (jE rfl) (zJ (a:=(a2.add 1)) (v:=(vb true)) (by kernel_rfl) (by kernel_rfl) rfl (Tryz.sizeOf4 _) hp4) ?_
 intro w5 hn2
 have h:=h w5 hn2
 refine ln (eg (q ?_))
 obtain ⟨hp5,h⟩:=h
 refine jH (jE rfl) (xo p1 (Aa 0 0 0 0 (⟨#[]⟩) 0 0) (Tryz.sizeOf176 _) hp5) ?_
 intro w6 hn3
 have h:=h w6 hn3
 refine ln (er (jW ?_))
 obtain ⟨aA,aB,aI,aJ,aC,iL,iM,hv1,h⟩:=h
 refine gg1 Tryz.results109 (rva (Tryz.isAgg176 _) (Tryz.sizeOf176 _) hv1) ⟨aA,aB,aI,aJ,aC,iL,iM,rfl,h⟩
 have h:=h.2 hg1
 refine qk 20 hg1 ?_
 obtain ⟨v2,hv5,h⟩:=h
 refine q4 20 hg1 (xl (Tryz.isAgg3 _) hv5) (qk 20 hg1 (qk 20 hg1 (q2 (vb (v2 != kind1)) (xF hg1) (ln (cbr h ?_ ?_)))))<;>intro h
 refine eg (q ?_)
 obtain ⟨a3,hp6,h⟩:=h
 refine q2 (vp (some a3)) (jD (p:=r1) (by kernel_rfl) hp6) (q ?_)
 obtain ⟨hp7,h⟩:=h
 refine jH (jE rfl) (zJ (a:=(a3.add 1)) (v:=(vb true)) (by kernel_rfl) (by kernel_rfl) rfl (Tryz.sizeOf4 _) hp7) ?_
 intro w7 hn4
 have h:=h w7 hn4
 refine ln (eg (q ?_))
 obtain ⟨hp8,h⟩:=h
 refine jH (jE rfl) (xo p1 (Aa 0 0 0 0 (⟨#[]⟩) 0 0) (Tryz.sizeOf176 _) hp8) ?_
 intro w8 hn5
 have h:=h w8 hn5
 refine ln (er (jW ?_))
 obtain ⟨aO,aP,cL,cM,aQ,iN,iO,hv2,h⟩:=h
 refine gg1 Tryz.results109 (rva (Tryz.isAgg176 _) (Tryz.sizeOf176 _) hv2) ⟨aO,aP,cL,cM,aQ,iN,iO,rfl,h⟩
 refine jB (jK (eg ?_))
 obtain ⟨aL,aM,aS,aT,aN,iP,iQ,hv4,h⟩:=h
 refine qa (Tryz.isAgg176 _) (Tryz.sizeOf176 _) hv4 ?_
 obtain ⟨hp9,h⟩:=h
 refine jH (jE rfl) (xo p1 (Aa aL aM aS aT aN iP iQ) (Tryz.sizeOf176 _) hp9) ?_
 intro w9 hn6
 have h:=h w9 hn6
 refine ln (er ?_)
 obtain ⟨aU,aV,dS,dT,aW,iR,iS,hv3,h⟩:=h
 refine gg1 Tryz.results109 (rva (Tryz.isAgg176 _) (Tryz.sizeOf176 _) hv3) ⟨aU,aV,dS,dT,aW,iR,iS,rfl,h⟩
def m_U_j1 (r1:Option Addr) (p1:Addr) (w:World) (K:Int→ByteArray→WP):Prop :=∃C1:WP,C1 w.drew∧∀w5,w5=w.drew→∃v1,(∀w',C1 w'→w'.cell? (p1.add 5)=some (vi v1))∧∃v2,(∀w',C1 w'→w'.cell? (p1.add 6)=some (vi v2))∧Calls Tryz.prog 109 #[(vp r1),(vi v1),(vi 2)] w5 (fun e w6=>∃bE bF bK aR aZ dB dC,e=.returned (Ad bE bF bK aR aZ dB dC)∧C1 w6∧Calls Tryz.prog 109 #[(vp r1),(vi v2),(vi 3)] w6 (fun e w7=>∃bO bP cW cX bG fZ gA,e=.returned (Ad bO bP cW cX bG fZ gA)∧C1 w7∧K aR bG w7))
def m_U (r1:Option Addr) (t1:Int) (w:World) (K:Int→ByteArray→WP):Prop :=Calls Tryz.prog 108 #[(vp r1),(vi t1)] w (fun e w1=>∃r2 r3,e=.returned (.tuple #[(vs r2),(vi r3)])∧Calls Tryz.prog 109 #[(vp r1),(vi r3),(vi 4)] w1 (fun e w2=>∃aE aF aG aD aH aX aY,e=.returned (Ad aE aF aG aD aH aX aY)∧∀p1 w3,New w2 (.cells #[(vi 0),(vi 0),(vi 0),(vu 0),(vs ⟨#[]⟩),(vi 0),(vi 0)] 176) p1 w3→(∀j,j<7→zC w3 (p1.add j))∧∀w4,w4=storeRow w3 p1 (Aa aE aF aG aD aH aX aY)→∃a1,r1=some a1∧∃v3,w4.cell? (a1.add 1)=some (vb v3)∧Br v3 (∃a2,r1=some a2∧zC w4 (a2.add 1)∧∀w8,w8=w4.setCell (a2.add 1) (vb true)→m_U_j1 r1 p1 w8 K) (∃a3,r1=some a3∧zC w4 (a3.add 1)∧∀w9,w9=w4.setCell (a3.add 1) (vb (!(decide (r2=(⟨#[100,101,97,108]⟩:ByteArray)))))→m_U_j1 r1 p1 w9 K)))
theorem w_U (r1 t1 w K) (h:m_U r1 t1 w K):
  Calls Tryz.prog 170 #[(vp r1),(vi t1)] w (fun e w'=>∃r4 r5,e=.returned (.tuple #[(vu r4),(vs r5)])∧K r4 r5 w'):=by
 refine cw (args:=[(vp r1),(vi t1)]) Tryz.func170 Tryz.ntmps170 (eg (q0 (vu 0) (q0 (vs ⟨#[]⟩) (ln (eg (q0 (vp r1) (q0 (vi t1) ?_)))))))
 refine sc Tryz.call108 (h.mono fun e w1 ⟨r2,r3,k,h⟩=>⟨_,k,?_⟩)
 refine q (qd (ln (eg (qb (sc Tryz.call109 (h.mono fun e w2 ⟨aE,aF,aG,aD,aH,aX,aY,k,h⟩=>⟨_,k,?_⟩))))))
 refine nw1 h (jJ (Tryz.zeroValue176 _) rfl) fun p1 w3 h=>?_
 obtain ⟨hp1,h⟩:=h
 refine jH (jE rfl) (xo p1 (Aa aE aF aG aD aH aX aY) (Tryz.sizeOf176 _) hp1) ?_
 intro w4 hn1
 have h:=h w4 hn1
 refine ln (zZ (fun ρ w=>Has ρ [(0,(vp r1)),(8,(vp (some p1)))]∧m_U_j1 r1 p1 w K) ?_ ?_)
 rintro ρ w ⟨hH,h⟩
 refine jO hH (jA ?_)
 obtain ⟨C1,hC,h⟩:=h
 refine dr1 C1 [3,8] [] hC h fun w5 h=>qx 0 (vp r1) Kp0 (qx 1 (vp (some (p1.add 5))) Kp1 (qg 2 ?_))
 obtain ⟨v1,hv2,h⟩:=h
 refine sy Kp2 (fun _ k=>xl (Tryz.isAgg78 _) (hv2 _ k)) (qx 5 (vp r1) Kp5 (qx 6 (vp (some (p1.add 6))) Kp6 (qg 7 ?_)))
 obtain ⟨v2,hv1,h⟩:=h
 refine sy Kp7 (fun _ k=>xl (Tryz.isAgg78 _) (hv1 _ k)) (lg 3 (jP Kp3 (jE rfl) (by kernel_rfl) (xc Tryz.call109) (h.mono ?_)))
 rintro e w6 ⟨bE,bF,bK,aR,aZ,dB,dC,rfl,hC,h⟩
 refine ⟨_,rfl,.inr hC,?_⟩
 refine qx 4 (vu aR) Kp4 (lg 8 (jP Kp8 (jE rfl) (by kernel_rfl) (xc Tryz.call109) (h.mono ?_)))
 rintro e w7 ⟨bO,bP,cW,cX,bG,fZ,gA,rfl,hC,h⟩
 refine ⟨_,rfl,.inr hC,?_⟩
 refine qx 9 (vs bG) Kp9 (qx 10 (vu aR) (jS (S8 (jG (jG jR)))) (qx 11 (vs bG) (jS (S8 (jG (jG (jG jR))))) (wn (jK (er (qJ (.inl rfl) Tryz.results170 (v:=(vu aR)) (by kernel_rfl) (v':=(vs bG)) (by kernel_rfl) ⟨aR,bG,rfl,h⟩))))))
 refine rg (qb ?_)
 obtain ⟨a1,hp2,h⟩:=h
 refine q2 (vp (some a1)) (jD (p:=r1) (by kernel_rfl) hp2) (q (ql (Tryz.isAgg4 _) h fun v3 h=>q ?_))
 rcases Bool.eq_false_or_eq_true v3 with hg1 | hg1
 have h:=h.1 hg1
 refine sj2 23 hg1 (q2 (vb true) (xT hg1) ?_)
 obtain ⟨a2,hp3,h⟩:=h
 refine q2 (vp (some a2)) (jD (p:=r1) (by kernel_rfl) hp3) (q ?_)
 obtain ⟨hp4,h⟩:=h
 refine jH (jE rfl) (zJ (a:=(a2.add 1)) (v:=(vb true)) (by kernel_rfl) (by kernel_rfl) rfl (Tryz.sizeOf4 _) hp4) ?_
 intro w8 hn2
 have h:=h w8 hn2
 refine ln ⟨hm,h⟩
 have h:=h.2 hg1
 refine qk 23 hg1 (stq (v:=(vb (!(decide (r2=(⟨#[100,101,97,108]⟩:ByteArray)))))) (wy 23 hg1) (qL (by kernel_rfl) (by kernel_rfl)) (q2 (vb (!(decide (r2=(⟨#[100,101,97,108]⟩:ByteArray))))) (xF hg1) ?_))
 obtain ⟨a3,hp5,h⟩:=h
 refine q2 (vp (some a3)) (jD (p:=r1) (by kernel_rfl) hp5) (q ?_)
 obtain ⟨hp6,h⟩:=h
 refine jH (jE rfl) (zJ (a:=(a3.add 1)) (v:=(vb (!(decide (r2=(⟨#[100,101,97,108]⟩:ByteArray)))))) (by kernel_rfl) (by kernel_rfl) rfl (Tryz.sizeOf4 _) hp6) ?_
 intro w9 hn3
 have h:=h w9 hn3
 refine ln ⟨hm,h⟩
end Go.Proofs
end
section
open Go Go.SE
namespace Go.Sp
def yT (x:ByteArray):Tree:=.mk 3 0 0 0 x []
def jGO (n:Int):Tree:=.mk 2 0 0 n ⟨#[]⟩ []
def gW (a b:Tree):Tree:=.mk 4 0 0 0 ⟨#[]⟩ [a,b]
def tY (n:Int) (a:Tree):Tree:=.mk 7 n 0 0 ⟨#[]⟩ [a]
def jDF (n:Int) (a:Tree) (fake:Bool):Tree:=.mk (if fake then 9 else 8) n (1 - n) 0 ⟨#[]⟩ [a]
def uS:ByteArray:=⟨#[100,101,97,108]⟩
def tN (c:Int) (x:ByteArray):Tree:=gW (yT uS) (gW (jGO c) (yT x))
end Go.Sp
namespace Go.Proofs
attribute [local irreducible] Calls
theorem TreeAt.leaf {S:NP} {w:World} {k f t u:Int} {x:ByteArray}:TreeAt S w Sl.nil (.mk k f t u x []) :=
 .mk k f t u x [] Sl.nil (fun _=>Sl.nil) rfl (by simp) (fun i h=>by simp at h) (fun i h=>by simp at h)
theorem TreeAt.one {S:NP} {w:World} {k f t u:Int} {x:ByteArray} {p:Addr} {A:Sp.Tree} {sa:Sl} {T:TypeId} (hB:Box w p (qI A sa) T) (hS:S p.block) (hA:TreeAt S w sa A):TreeAt S w ⟨some p,1,1⟩ (.mk k f t u x [A]):=by
 refine .mk k f t u x [A] _ (fun _=>sa) rfl (by simp) (fun i h=>?_) (fun i h=>?_)
 ·have:i=0:=by simpa using h
  subst this;exact ⟨p,⟨by omega,by simp,p,rfl,rfl⟩,hS,hB.row⟩
 ·have:i=0:=by simpa using h
  subst this;exact hA
theorem TreeAt.pair {S:NP} {w:World} {k f t u:Int} {x:ByteArray} {p:Addr} {A B:Sp.Tree} {sa sb:Sl} {T:TypeId} (hB:Box w p (qI A sa++qI B sb) T) (hS:S p.block) (hA:TreeAt S w sa A) (hB2:TreeAt S w sb B):TreeAt S w ⟨some p,2,2⟩ (.mk k f t u x [A,B]):=by
 refine .mk k f t u x [A,B] _ (fun i=>if i=0 then sa else sb) rfl (by simp) (fun i h=>?_) (fun i h=>?_)
 ·have:i=0∨i=1:=by simp at h;omega
  rcases this with rfl | rfl
  ·refine ⟨p,⟨by omega,by simp,p,rfl,rfl⟩,hS,fun i hi=>?_⟩;have:=hB.row i (by simp [qI] at hi ⊢;omega);have hi':i<6:=by simpa [qI] using hi
   rw [this];exact List.getElem?_append_left (by simp [qI];omega)
  ·refine ⟨p.add (1*6),⟨by omega,by simp,p,rfl,rfl⟩,by rw [jQ];exact hS,fun i hi=>?_⟩;have hi':i<6:=by simpa [qI] using hi
   have:=hB.row (6+i) (by simp [qI];omega);rw [qC,this,List.getElem?_append_right (by simp [qI])];simp [qI]
 ·have:i=0∨i=1:=by simp at h;omega
  rcases this with rfl | rfl
  ·exact hA
  ·exact hB2
end Go.Proofs
end
section
open Go Go.SE
namespace Go.Sp
structure Letter where
 kind:Int
 frm:Int
 c:Int
 text:ByteArray
 fake:Bool
deriving DecidableEq
def vK:Letter:=⟨0,0,0,⟨#[]⟩,false⟩
def qT:ByteArray:=⟨#[97,98,111,114,116]⟩
def vJ:ByteArray:=⟨#[114,101,115,111,108,118,101]⟩
def kS:ByteArray:=⟨#[97,98,111,114,116,101,100]⟩
def vB:ByteArray:=⟨#[105,110,115,116,101,97,100]⟩
def jDA:ByteArray:=⟨#[102,117,108,108]⟩
def vH (l:Letter) (first second:Bool):Tree :=
 if l.kind=1 then jDF l.frm (tN l.c l.text) l.fake
 else if l.kind=2 then tY l.frm (tN l.c l.text)
 else if l.kind=3 then tY 0 (gW (yT qT) (jGO l.c))
 else if l.kind=4 then tY l.frm (gW (yT vJ) (gW (jDF 0 (tN l.c l.text) (l.fake && first)) (jDF 1 (tN l.c l.text) (l.fake && second))))
 else if l.kind=5 then tY 2 (gW (yT kS) (jGO l.c))
 else if l.kind=6 then tY 2 (gW (yT vB) (tN l.c l.text))
 else gW (yT jDA) (jGO l.c)
end Go.Sp
namespace Go.Proofs
attribute [local irreducible] Calls
end Go.Proofs
end
section
open Go Go.SE
namespace Go.Sp
def jZ (L:Pool) (t kind:Int):Node×Bool:=if inP L t=true∧(jI L t).kind=kind then (jI L t,false) else (oO,true)
def jY (L:Pool) (t:Int):(ByteArray×Int)×Bool :=
 (((jZ L (jZ L t 4).1.a 3).1.text,(jZ L t 4).1.b),(jZ L t 4).2 || (jZ L (jZ L t 4).1.a 3).2)
def zX (L:Pool) (t:Int):(Int×ByteArray)×Bool :=
 let g:=jY L t
 let n:=jZ L g.1.2 4
 (((jZ L n.1.a 2).1.num,(jZ L n.1.b 3).1.text),g.2 || n.2 || !decide (g.1.1=uS) || (jZ L n.1.a 2).2 || (jZ L n.1.b 3).2)
end Go.Sp
namespace Go.Proofs
attribute [local irreducible] Calls
def uZ (w:World) (q:Option Addr) (L:Sp.Pool) (F:NP):Prop:=match q with
 | some p=>jU w p L F
 | none=>L=[]∧∀b,¬ F b
theorem uZ.ext {G:NP} {w w':World} {p:Option Addr} {L:Sp.Pool} {F:NP} (h:uZ w p L F) (hE:Ext G w w') (hd:∀b,F b→¬ G b):uZ w' p L F:=by
 cases p with
 | none=>exact h
 | some p=>exact jU.ext h hE hd
theorem uZ.pure {w w':World} {p:Option Addr} {L:Sp.Pool} {F:NP} (h:uZ w p L F) (hE:Pure w w'):uZ w' p L F:=h.ext hE (fun _ _ h=>h)
theorem uZ.lt {w:World} {p:Option Addr} {L:Sp.Pool} {F:NP} (h:uZ w p L F) {b:Nat} (hb:F b):b<w.heap.size:=by
 cases p with
 | none=>exact absurd hb (h.2 b)
 | some p=>exact jU.lt h hb
theorem jBW (p:Option Addr) (t:Int) (w:World) {L:Sp.Pool} {F:NP} (hP:uZ w p L F) (hok:Sp.Ok L):Calls Tryz.prog 102 #[.pointer p,.int .i64 t] w
  (fun e w'=>∃k:Int,∃f:Int,∃t':Int,∃u:Int,∃x:ByteArray,∃a:Int,∃b:Int,∃r:Bool,e=.returned (.tuple #[.agg #[.int .i64 k,.int .i64 f,.int .i64 t',.int .u64 u,.string x,.int .i64 a,.int .i64 b],.bool r])∧(((⟨k,f,t',u,x,a,b⟩:Sp.Node)=Sp.jI L t∧r=Sp.inP L t)∧Pure w w')):=by
 cases p with
 | some p=>exact jCV p t w hP hok
 | none =>
  obtain ⟨rfl,_⟩:=hP
  have hin0:Sp.inP [] t=false:=by cases h:Sp.inP [] t;rfl;have:=Sp.kM.1 h;simp at this;omega
  have hno:Sp.jI [] t=⟨0,0,0,0,⟨#[]⟩,0,0⟩:=by unfold Sp.jI Sp.get;split <;> simp [Sp.oO]
  rw [hin0,hno]
  refine w_R1 none t w (fun k f t' u x a b r w'=>((⟨k,f,t',u,x,a,b⟩:Sp.Node)=⟨0,0,0,0,⟨#[]⟩,0,0⟩∧r=false)∧Pure w w') ?_
  unfold m_R1
  intro p1 w1 h1
  have E1:Pure w w1:=Ext.new h1
  have b1:=Box.of_new h1
  have hp:=New.own (Ext.refl w) h1
  have hin:Calls Tryz.prog 168 #[.pointer none,.int .i64 t] w1 (fun e w'=>∃r,e=.returned (.bool r)∧(r=false∧w'=w1)):=by
   refine w_P _ _ w1 (fun r w'=>r=false∧w'=w1) ?_;unfold m_P;have j1:m_P_j1 none t false w1 (fun r w'=>r=false∧w'=w1):=by
    unfold m_P_j1
    first
     | exact Br.f rfl ⟨rfl,rfl⟩
     | exact ⟨rfl,rfl⟩
     | (unfold m_P_j2;exact Br.f rfl ⟨rfl,rfl⟩)
     | (refine Br.f rfl ?_;unfold m_P_j2;exact ⟨rfl,rfl⟩)
   first
    | exact Br.f rfl j1
    | exact Br.t rfl j1
  refine hin.mono ?_
  rintro _ _ ⟨_,rfl,rfl,rfl⟩
  exact ⟨_,rfl,fun h1=>bx 7 b1 rfl rfl (fun w' b E=>⟨_,_,_,_,_,_,_,b.row,⟨rfl,rfl⟩,E1.own hp E⟩),fun h1=>by cases h1⟩
structure ReaderAt (w:World) (r:Addr) (p:Option Addr) (bad:Bool) (L:Sp.Pool) (F:NP):Prop where
 box:Box w r [.pointer p,.bool bad] 182
 pool:uZ w p L F
 ok:Sp.Ok L
 out:¬ F r.block
theorem ReaderAt.pure {w w':World} {r:Addr} {p:Option Addr} {bad:Bool} {L:Sp.Pool} {F:NP} (h:ReaderAt w r p bad L F) (E:Pure w w'):ReaderAt w' r p bad L F:=⟨h.box.pure E,h.pool.pure E,h.ok,h.out⟩
theorem vG (r:Addr) (p:Option Addr) (t kind:Int) (bad:Bool) (w:World) {L:Sp.Pool} {F:NP} (hR:ReaderAt w r p bad L F) :
  Calls Tryz.prog 109 #[.pointer (some r),.int .i64 t,.int .i64 kind] w
   (fun e w'=>∃k':Int,∃f':Int,∃t':Int,∃u':Int,∃x':ByteArray,∃a':Int,∃b':Int,e=.returned (.agg #[.int .i64 k',.int .i64 f',.int .i64 t',.int .u64 u',.string x',.int .i64 a',.int .i64 b'])∧((⟨k',f',t',u',x',a',b'⟩:Sp.Node)=(Sp.jZ L t kind).1∧ReaderAt w' r p (bad || (Sp.jZ L t kind).2) L F∧Ext (·=r.block) w w')):=by
 suffices key:∀K:Int→Int→Int→Int→ByteArray→Int→Int→WP,(∀k' f' t' u' x' a' b' w',((⟨k',f',t',u',x',a',b'⟩:Sp.Node)=(Sp.jZ L t kind).1∧ReaderAt w' r p (bad || (Sp.jZ L t kind).2) L F∧Ext (·=r.block) w w')→K k' f' t' u' x' a' b' w')→m_Y1 (some r) t kind w K from
  w_Y1 _ _ _ w _ (key _ (fun _ _ _ _ _ _ _ _ h=>h))
 intro K hK
 unfold m_Y1
 intro p1 w1 h1
 have E1:Pure w w1:=Ext.new h1
 have o1:=New.own (Ext.refl w) h1
 have lr:=hR.box.lt
 have b1:=Box.of_new h1
 refine ⟨r,rfl,p,(hR.box.pure E1).cell0,?_⟩
 refine (jBW p t w1 (hR.pool.pure E1) hR.ok).mono ?_
 rintro _ w2 ⟨k',f',t',u',x',a',b',ok,rfl,⟨hn,hok⟩,E12⟩
 refine ⟨_,_,_,_,_,_,_,_,rfl,?_⟩
 intro p2 w3 h3
 have E2:Pure w w2:=E1.trans E12
 have o3:=New.own E2 h3
 have n12:p1.block≠p2.block:=New.ne h3 (b1.pure E12).blk
 refine bx 7 (Box.of_new h3) rfl rfl (fun w4 b2 E'=>?_)
 have E4:Pure w w4:=(E2.trans (Ext.new h3)).own o3 E'
 have c1:=((b1.pure E12).pure (Ext.new h3)).ext E' n12
 have hR4:=hR.pure E4
 clear E' E2 E12 b1 h1 h3
 have bad1 : Sp.jZ L t kind = (Sp.oO, true) → zC w4 (r.add 1) ∧ ∀ w5 : World, w5 = w4.setCell (r.add 1) (.bool true) →
   (∀j,j<7→zC w5 (p1.add j))∧∀w6:World,w6=storeRow w5 p1 [(.int .i64 0),(.int .i64 0),(.int .i64 0),(.int .u64 0),(.string (⟨#[]⟩:ByteArray)),(.int .i64 0),(.int .i64 0)] →
   ∃qKind1:Int,∃qFrom1:Int,∃qTo1:Int,∃qNum1:Int,∃qText1:ByteArray,∃qA1:Int,∃qB1:Int,Row w6 p1 [(.int .i64 qKind1),(.int .i64 qFrom1),(.int .i64 qTo1),(.int .u64 qNum1),(.string qText1),(.int .i64 qA1),(.int .i64 qB1)] ∧
   K qKind1 qFrom1 qTo1 qNum1 qText1 qA1 qB1 w6:=by
  intro hrd
  refine ⟨hR4.box.canW (by simp),?_⟩
  intro w5 hw5
  have d5:Box w5 r [.pointer p,.bool true] 182:=by rw [hw5];exact hR4.box.set 1 _
  have E5:Ext (·=r.block) w4 w5:=by rw [hw5];have:=Ext.setCell (w:=w4) (r.add 1) (.bool true);rw [jQ] at this;exact this
  clear hw5
  have n1r:p1.block≠r.block:=by omega
  refine bx 7 (c1.ext E5 n1r) rfl rfl (fun w6 b6 E6=>⟨_,_,_,_,_,_,_,b6.row,hK _ _ _ _ _ _ _ _ ⟨by rw [hrd];rfl,⟨?_,?_,hR.ok,hR.out⟩,?_⟩⟩)
  ·rw [hrd];simp only [Bool.or_true];exact d5.ext E6 n1r.symm
  ·exact (hR4.pool.ext E5 (fun b hb e=>hR.out (e▸hb))).ext E6 (fun b hb e=>by have:=hR.pool.lt hb;omega)
  ·exact (E4.pure.trans E5).trans' E6 (fun i hi h=>by omega)
 refine ⟨fun h=>⟨r,rfl,?_⟩,fun h=>⟨k',b2.cell0,fun h2=>⟨r,rfl,?_⟩,fun h2=>?_⟩⟩
 ·refine bad1 ?_
  have:¬ Sp.inP L t=true:=by rw [← hok];simpa using h
  unfold Sp.jZ;rw [if_neg (fun h=>this h.1)]
 ·refine bad1 ?_
  have:(Sp.jI L t).kind≠kind:=by rw [← hn];simpa using h2
  unfold Sp.jZ;rw [if_neg (fun h=>this h.2)]
 ·have hi:Sp.inP L t=true:=by rw [← hok];simpa using h
  have hk:(Sp.jI L t).kind=kind:=by rw [← hn];simpa using h2
  have hrd:Sp.jZ L t kind=(Sp.jI L t,false):=by unfold Sp.jZ;rw [if_pos ⟨hi,hk⟩]
  refine ⟨_,_,_,_,_,_,_,b2.row,bx 7 c1 rfl rfl (fun w6 b6 E6=>⟨_,_,_,_,_,_,_,b6.row,hK _ _ _ _ _ _ _ _ ⟨by rw [hrd];exact hn,?_,?_⟩⟩)⟩
  ·rw [hrd];simp only [Bool.or_false]
   exact hR.pure (E4.own o1 E6)
  ·exact (E4.own o1 E6).pure
theorem yW (r:Addr) (p:Option Addr) (t:Int) (bad:Bool) (w:World) {L:Sp.Pool} {F:NP} (hR:ReaderAt w r p bad L F) :
  Calls Tryz.prog 108 #[.pointer (some r),.int .i64 t] w
   (fun e w'=>∃x:ByteArray,∃b:Int,e=.returned (.tuple #[.string x,.int .i64 b])∧((x,b)=(Sp.jY L t).1∧ReaderAt w' r p (bad || (Sp.jY L t).2) L F∧Ext (·=r.block) w w')):=by
 suffices key:∀K:ByteArray→Int→WP,(∀x b w',((x,b)=(Sp.jY L t).1∧ReaderAt w' r p (bad || (Sp.jY L t).2) L F∧Ext (·=r.block) w w')→K x b w')→m_X1 (some r) t w K from
  w_X1 _ _ w _ (key _ (fun _ _ _ h=>h))
 intro K hK
 unfold m_X1
 refine (vG r p t 4 bad w hR).mono ?_
 rintro _ w1 ⟨k1,f1,t1,u1,x1,a1,b1,rfl,hn,hR1,E1⟩
 refine ⟨_,_,_,_,_,_,_,rfl,?_⟩
 intro p1 w2 h2
 have o2:=New.own (Ext.refl w1) h2
 refine bx 7 (Box.of_new h2) rfl rfl (fun w3 b3 E'=>?_)
 have E3:Pure w1 w3:=Ext.own (Ext.new h2) o2 E'
 have l1:=hR1.box.lt
 refine ⟨fun w'=>Box w' p1 [.int .i64 k1,.int .i64 f1,.int .i64 t1,.int .u64 u1,.string x1,.int .i64 a1,.int .i64 b1] 176,b3.pure (Ext.drew w3),?_⟩
 intro w4 hw4
 have E4:Pure w1 w4:=by rw [hw4];exact E3.thenPure (Ext.drew w3)
 have c4:Box w4 p1 [.int .i64 k1,.int .i64 f1,.int .i64 t1,.int .u64 u1,.string x1,.int .i64 a1,.int .i64 b1] 176:=by rw [hw4];exact b3.pure (Ext.drew w3)
 clear hw4
 refine ⟨a1,fun w' h=>h.cell rfl,b1,fun w' h=>h.cell rfl,?_⟩
 refine (vG r p a1 3 _ w4 (hR1.pure E4)).mono ?_
 rintro _ w5 ⟨k2,f2,t2,u2,x2,a2,b2,rfl,hn2,hR2,E5⟩
 refine ⟨_,_,_,_,_,_,_,rfl,c4.ext E5 (by omega),hK _ _ _ ⟨?_,?_,?_⟩⟩
 ·have ea:a1=(Sp.jZ L t 4).1.a:=by rw [← hn]
  have eb:b1=(Sp.jZ L t 4).1.b:=by rw [← hn]
  simp only [Sp.jY,← ea,← eb,← hn2]
 ·have ea:a1=(Sp.jZ L t 4).1.a:=by rw [← hn]
  rw [ea] at hR2
  simp only [Sp.jY,← Bool.or_assoc]
  exact hR2
 ·exact (E1.thenPure E4).trans E5
end Go.Proofs
end
section
open Go Go.SE
namespace Go.Sp
def jV (L:Pool) (t:Int):Letter×Bool :=
 let n:=jI L t
 if (n.kind≠8∧n.kind≠9)∨1<n.frm∨n.to≠IntKind.i64.wrap (1 - n.frm) then (vK,true)
 else (⟨1,n.frm,(zX L n.a).1.1,(zX L n.a).1.2,n.kind == 9⟩,(zX L n.a).2)
end Go.Sp
namespace Go.Proofs
attribute [local irreducible] Calls
theorem jAY (r:Addr) (p:Option Addr) (t:Int) (bad:Bool) (w:World) {L:Sp.Pool} {F:NP} (hR:ReaderAt w r p bad L F) :
  Calls Tryz.prog 170 #[.pointer (some r),.int .i64 t] w
   (fun e w'=>∃c:Int,∃x:ByteArray,e=.returned (.tuple #[.int .u64 c,.string x])∧((c,x)=(Sp.zX L t).1∧ReaderAt w' r p (bad || (Sp.zX L t).2) L F∧Ext (·=r.block) w w')):=by
 suffices key:∀K:Int→ByteArray→WP,(∀c x w',((c,x)=(Sp.zX L t).1∧ReaderAt w' r p (bad || (Sp.zX L t).2) L F∧Ext (·=r.block) w w')→K c x w')→m_U (some r) t w K from
  w_U _ _ w _ (key _ (fun _ _ _ h=>h))
 intro K hK
 unfold m_U
 refine (yW r p t bad w hR).mono ?_
 rintro _ w1 ⟨x1,y1,rfl,hg,hR1,E1⟩
 refine ⟨_,_,rfl,?_⟩
 refine (vG r p y1 4 _ w1 hR1).mono ?_
 rintro _ w2 ⟨k2,f2,t2,u2,x2,a2,b2,rfl,hn,hR2,E2⟩
 refine ⟨_,_,_,_,_,_,_,rfl,?_⟩
 intro p1 w3 h3
 have o3:=New.own (Ext.refl w2) h3
 have l2:=hR2.box.lt
 refine bx 7 (Box.of_new h3) rfl rfl (fun w4 b4 E'=>?_)
 have E4:Pure w2 w4:=Ext.own (Ext.new h3) o3 E'
 have hR4:=hR2.pure E4
 clear E' h3
 have ey:y1=(Sp.jY L t).1.2:=congrArg Prod.snd hg
 have ex:x1=(Sp.jY L t).1.1:=congrArg Prod.fst hg
 have ea:a2=(Sp.jZ L y1 4).1.a:=by rw [← hn]
 have eb:b2=(Sp.jZ L y1 4).1.b:=by rw [← hn]
 generalize hb4:(bad || (Sp.jY L t).2 || (Sp.jZ L y1 4).2)=bad4 at *
 have fin:∀(v:Bool) (w5:World),(v=(bad4 || !decide (x1=Sp.uS)))→Box w5 r [.pointer p,.bool v] 182→Ext (·=r.block) w4 w5→m_U_j1 (some r) p1 w5 K:=by
  intro v w5 hv B5 E5;have hR5:ReaderAt w5 r p v L F:=⟨B5,hR4.pool.ext E5 (fun b hb e=>hR.out (e▸hb)),hR.ok,hR.out⟩;have c5:=b4.ext E5 (by omega);unfold m_U_j1;refine ⟨fun w'=>Box w' p1 [.int .i64 k2,.int .i64 f2,.int .i64 t2,.int .u64 u2,.string x2,.int .i64 a2,.int .i64 b2] 176,c5.pure (Ext.drew w5),?_⟩;intro w6 hw6;have E6:Pure w5 w6:=by rw [hw6];exact Ext.drew w5
  clear hw6;have c6:=c5.pure E6;refine ⟨a2,fun w' h=>h.cell rfl,b2,fun w' h=>h.cell rfl,?_⟩;refine (vG r p a2 2 _ w6 (hR5.pure E6)).mono ?_;rintro _ w7 ⟨k3,f3,t3,u3,x3,a3,b3,rfl,hn3,hR7,E7⟩;have c7:=c6.ext E7 (by omega);refine ⟨_,_,_,_,_,_,_,rfl,c7,?_⟩;refine (vG r p b2 3 _ w7 hR7).mono ?_;rintro _ w8 ⟨k4,f4,t4,u4,x4,a4,b4',rfl,hn4,hR8,E8⟩;have e3:u3=(Sp.jZ L a2 2).1.num:=by rw [← hn3]
  have e4:x4=(Sp.jZ L b2 3).1.text:=by rw [← hn4]
  refine ⟨_,_,_,_,_,_,_,rfl,c7.ext E8 (by omega),hK _ _ _ ⟨?_,?_,?_⟩⟩
  ·simp only [Sp.zX,← ey,← ea,← eb,← e3,← e4]
  ·have : (bad || (Sp.zX L t).2) = (v || (Sp.jZ L a2 2).2 || (Sp.jZ L b2 3).2) := by
    simp only [Sp.zX,← ey,← ea,← eb,← ex,hv,← hb4,Bool.or_assoc]
   rw [this];exact hR8
  ·exact ((((E1.trans E2).thenPure E4).trans E5).thenPure E6 |>.trans E7).trans E8
 have setr:∀v:Bool,Box (w4.setCell (r.add 1) (.bool v)) r [.pointer p,.bool v] 182∧Ext (·=r.block) w4 (w4.setCell (r.add 1) (.bool v)):=fun v =>
  ⟨hR4.box.set 1 _,by have:=Ext.setCell (w:=w4) (r.add 1) (.bool v);rw [jQ] at this;exact this⟩
 refine ⟨r,rfl,bad4,hR4.box.cell rfl,fun h=>⟨r,rfl,hR4.box.canW (by simp),?_⟩,fun h=>⟨r,rfl,hR4.box.canW (by simp),?_⟩⟩
 ·intro w8 hw8
  have:=setr true
  exact fin true w8 (by rw [h];rfl) (by rw [hw8];exact this.1) (by rw [hw8];exact this.2)
 ·intro w8 hw8
  have:=setr (!decide (x1=Sp.uS))
  exact fin (!decide (x1=Sp.uS)) w8 (by rw [h];rfl) (by rw [hw8];exact this.1) (by rw [hw8];exact this.2)
theorem jX (r:Addr) (p:Option Addr) (t:Int) (bad:Bool) (w:World) {L:Sp.Pool} {F:NP} (hR:ReaderAt w r p bad L F) :
  Calls Tryz.prog 107 #[.pointer (some r),.int .i64 t] w
   (fun e w'=>∃k:Int,∃f:Int,∃c:Int,∃x:ByteArray,∃fk:Bool,e=.returned (.agg #[.int .i64 k,.int .i64 f,.int .u64 c,.string x,.bool fk])∧((⟨k,f,c,x,fk⟩:Sp.Letter)=(Sp.jV L t).1∧ReaderAt w' r p (bad || (Sp.jV L t).2) L F∧Ext (·=r.block) w w')):=by
 suffices key:∀K:Int→Int→Int→ByteArray→Bool→WP,(∀k f c x fk w',((⟨k,f,c,x,fk⟩:Sp.Letter)=(Sp.jV L t).1∧ReaderAt w' r p (bad || (Sp.jV L t).2) L F∧Ext (·=r.block) w w')→K k f c x fk w')→m_K (some r) t w K from
  w_K _ _ w _ (key _ (fun _ _ _ _ _ _ h=>h))
 intro K hK
 unfold m_K
 intro p1 w1 h1
 have E1:Pure w w1:=Ext.new h1
 have o1:=New.own (Ext.refl w) h1
 have lr:=hR.box.lt
 have b1:=Box.of_new h1
 refine ⟨r,rfl,p,(hR.box.pure E1).cell0,?_⟩
 refine (jBW p t w1 (hR.pool.pure E1) hR.ok).mono ?_
 rintro _ w2 ⟨k,f,t',u,x,a,b,ok,rfl,⟨hn,hok⟩,E12⟩
 refine ⟨_,_,_,_,_,_,_,_,rfl,?_⟩
 intro p2 w3 h3
 have E2:Pure w w2:=E1.trans E12
 have o3:=New.own E2 h3
 have n12:p1.block≠p2.block:=New.ne h3 (b1.pure E12).blk
 refine bx 7 (Box.of_new h3) rfl rfl (fun w4 b2 E'=>?_)
 have E4:Pure w w4:=(E2.trans (Ext.new h3)).own o3 E'
 have c1:=((b1.pure E12).pure (Ext.new h3)).ext E' n12
 have hR4:=hR.pure E4
 clear E' E2 E12 b1 h1 h3
 have n1r:p1.block≠r.block:=by omega
 have hsp:Sp.jV L t=if (k≠8∧k≠9)∨1<f∨t'≠IntKind.i64.wrap (1 - f) then (Sp.vK,true) else (⟨1,f,(Sp.zX L a).1.1,(Sp.zX L a).1.2,k == 9⟩,(Sp.zX L a).2):=by
  simp only [Sp.jV,← hn]
 have bad1 : ((k ≠ 8 ∧ k ≠ 9) ∨ 1 < f ∨ t' ≠ IntKind.i64.wrap (1 - f)) → zC w4 (r.add 1) ∧ ∀ w5 : World, w5 = w4.setCell (r.add 1) (.bool true) →
   (∀j,j<5→zC w5 (p1.add j))∧∀w6:World,w6=storeRow w5 p1 [(.int .i64 0),(.int .i64 0),(.int .u64 0),(.string (⟨#[]⟩:ByteArray)),(.bool false)] →
   ∃qKind1:Int,∃qFrom1:Int,∃qC1:Int,∃qText1:ByteArray,∃qFake1:Bool,Row w6 p1 [(.int .i64 qKind1),(.int .i64 qFrom1),(.int .u64 qC1),(.string qText1),(.bool qFake1)] ∧
   K qKind1 qFrom1 qC1 qText1 qFake1 w6:=by
  intro hc
  rw [if_pos hc] at hsp
  refine ⟨hR4.box.canW (by simp),?_⟩
  intro w5 hw5
  have d5:Box w5 r [.pointer p,.bool true] 182:=by rw [hw5];exact hR4.box.set 1 _
  have E5:Ext (·=r.block) w4 w5:=by rw [hw5];have:=Ext.setCell (w:=w4) (r.add 1) (.bool true);rw [jQ] at this;exact this
  clear hw5
  refine bx 5 (c1.ext E5 n1r) rfl rfl (fun w6 b6 E6=>⟨0,0,0,⟨#[]⟩,false,b6.row,hK _ _ _ _ _ _ ⟨by rw [hsp];rfl,⟨?_,?_,hR.ok,hR.out⟩,?_⟩⟩)
  ·rw [hsp];simp only [Bool.or_true];exact d5.ext E6 n1r.symm
  ·exact (hR4.pool.ext E5 (fun b hb e=>hR.out (e▸hb))).ext E6 (fun b hb e=>by have:=hR.pool.lt hb;omega)
  ·exact (E4.pure.trans E5).trans' E6 (fun i hi h=>by omega)
 have J1:¬ ((k≠8∧k≠9)∨1<f∨t'≠IntKind.i64.wrap (1 - f))→m_K_j1 (some r) p1 p2 w4 K:=by
  intro hc;rw [if_neg hc] at hsp;unfold m_K_j1;refine ⟨a,b2.cell rfl,?_⟩;refine (jAY r p a bad w4 hR4).mono ?_;rintro _ w5 ⟨c,y,rfl,hd,hR5,E5⟩;have d2:=b2.ext E5 (by omega);have d1:=c1.ext E5 n1r;have ec:c=(Sp.zX L a).1.1:=congrArg Prod.fst hd;have ey:y=(Sp.zX L a).1.2:=congrArg Prod.snd hd;refine ⟨_,_,rfl,f,d2.cell rfl,k,d2.cell0,bx 5 d1 rfl rfl (fun w6 b6 E6=>⟨1,f,c,y,k == 9,b6.row,hK _ _ _ _ _ _ ⟨?_,?_,?_⟩⟩)⟩
  ·rw [hsp];simp only [← ec,← ey]
  ·rw [hsp];exact ⟨hR5.box.ext E6 n1r.symm,hR5.pool.ext E6 (fun b hb e=>by have:=hR.pool.lt hb;omega),hR.ok,hR.out⟩
  ·exact (E4.pure.trans E5).trans' E6 (fun i hi h=>by omega)
 have J3:∀x2,x2=((k != 8 && k != 9) || decide (1<f))→m_K_j3 (some r) p1 p2 x2 w4 K:=by
  intro x2 hx;unfold m_K_j3;refine ⟨fun h=>⟨r,rfl,bad1 ?_⟩,fun h=>⟨t',b2.cell rfl,f,b2.cell rfl,fun h2=>⟨r,rfl,bad1 ?_⟩,fun h2=>J1 ?_⟩⟩
  ·rw [h] at hx;have hx:=hx.symm;simp at hx;rcases hx with hx | hx
   ·exact .inl hx
   ·exact .inr (.inl hx)
  ·exact .inr (.inr (by simpa using h2))
  ·rw [h] at hx;have hx:=hx.symm;simp only [Bool.or_eq_false_iff,decide_eq_false_iff_not] at hx;rintro (h3 | h3 | h3)
   ·have:=hx.1;simp [h3.1,h3.2] at this
   ·exact hx.2 h3
   ·have h2:t'=IntKind.i64.wrap (1 - f):=by simpa using h2
    exact h3 h2
 have J2:∀x1,x1=(k != 8 && k != 9)→m_K_j2 (some r) p1 p2 x1 w4 K:=by
  intro x1 hx;unfold m_K_j2;exact ⟨fun h=>J3 _ (by rw [← hx,h];rfl),fun h=>⟨f,b2.cell rfl,J3 _ (by rw [← hx,h];rfl)⟩⟩
 exact ⟨k,b2.cell0,fun h=>⟨k,b2.cell0,J2 _ (by rw [h];rfl)⟩,fun h=>J2 _ (by rw [h];rfl)⟩
end Go.Proofs
end
section
open Go Go.SE
namespace Go.Sp
def kB (L:Pool) (who n:Int):Letter×Bool :=
 let m:=jZ L n 4
 let a:=jV L m.1.a
 let b:=jV L m.1.b
 (⟨4,who,a.1.c,a.1.text,a.1.fake || b.1.fake⟩,m.2 || a.2 || b.2 || a.1.frm != 0 || b.1.frm != 1 || a.1.c != b.1.c || !decide (a.1.text=b.1.text))
def kP (L:Pool) (who body:Int):Letter×Bool :=
 let g:=jY L body
 if g.1.1=qT∧who=0 then (⟨3,0,(jZ L g.1.2 2).1.num,⟨#[]⟩,false⟩,g.2 || (jZ L g.1.2 2).2)
 else if g.1.1=kS∧who=2 then (⟨5,0,(jZ L g.1.2 2).1.num,⟨#[]⟩,false⟩,g.2 || (jZ L g.1.2 2).2)
 else if g.1.1=vB∧who=2 then (⟨6,0,(zX L g.1.2).1.1,(zX L g.1.2).1.2,false⟩,g.2 || (zX L g.1.2).2)
 else if g.1.1=uS∧who≤1 then (⟨2,who,(zX L body).1.1,(zX L body).1.2,false⟩,g.2 || (zX L body).2)
 else if g.1.1=vJ∧who≤1 then ((kB L who g.1.2).1,g.2 || (kB L who g.1.2).2)
 else (vK,true)
end Go.Sp
namespace Go.Proofs
attribute [local irreducible] Calls
def lz:List Value:=[.int .i64 0,.int .i64 0,.int .u64 0,.string ⟨#[]⟩,.bool false]
theorem jAX (r:Addr) (p:Option Addr) (p1:Addr) (who n:Int) (bad:Bool) (w:World) {L:Sp.Pool} {F:NP} (hR:ReaderAt w r p bad L F) (hB:Box w p1 lz 35) (hne:p1.block≠r.block) (K:Int→Int→Int→ByteArray→Bool→WP)
  (hK:∀w6 w',ReaderAt w6 r p (bad || (Sp.kB L who n).2) L F→Ext (·=r.block) w w6→Box w' p1 [.int .i64 4,.int .i64 who,.int .u64 (Sp.kB L who n).1.c,.string (Sp.kB L who n).1.text,.bool (Sp.kB L who n).1.fake] 35→Ext (·=p1.block) w6 w'→K 4 who (Sp.kB L who n).1.c (Sp.kB L who n).1.text (Sp.kB L who n).1.fake w') :
  m_A_j5 (some r) who p1 n true w K:=by
 unfold m_A_j5
 refine Br.t rfl ?_
 refine (vG r p n 4 bad w hR).mono ?_
 rintro _ w11 ⟨k2,f2,t2,u2,x2,a2,b2,rfl,hn,hR11,E11⟩
 refine ⟨_,_,_,_,_,_,_,rfl,?_⟩
 intro p2 w12 h12
 have o12:=New.own (Ext.refl w11) h12
 have l11:=hR11.box.lt
 have l1:=hB.lt
 have s11:=E11.size
 refine bx 7 (Box.of_new h12) rfl rfl (fun w13 b13 E'=>?_)
 have E13:Pure w11 w13:=Ext.own (Ext.new h12) o12 E'
 have hB11:=hB.ext E11 hne
 clear E' h12
 refine ⟨fun w'=>Box w' p2 [.int .i64 k2,.int .i64 f2,.int .i64 t2,.int .u64 u2,.string x2,.int .i64 a2,.int .i64 b2] 176,b13.pure (Ext.drew w13),?_⟩
 intro w18 hw18
 have E18:Pure w11 w18:=by rw [hw18];exact E13.thenPure (Ext.drew w13)
 have cN:Box w18 p2 [.int .i64 k2,.int .i64 f2,.int .i64 t2,.int .u64 u2,.string x2,.int .i64 a2,.int .i64 b2] 176:=by rw [hw18];exact b13.pure (Ext.drew w13)
 clear hw18
 have hR18:=hR11.pure E18
 have hB18:=hB11.pure E18
 have s18:=E18.size
 have Ew18:Ext (·=r.block) w w18:=E11.thenPure E18
 have ea:a2=(Sp.jZ L n 4).1.a:=by rw [← hn]
 have eb:b2=(Sp.jZ L n 4).1.b:=by rw [← hn]
 generalize hbad:(bad || (Sp.jZ L n 4).2)=bad2 at *
 have leaf : ∀ (pA pB : Addr) (w' : World) (ka fa ca : Int) (xa : ByteArray) (ga : Bool) (kb fb cb : Int) (xb : ByteArray) (gb : Bool), (⟨ka, fa, ca, xa, ga⟩ : Sp.Letter) = (Sp.jV L a2).1 → (⟨kb, fb, cb, xb, gb⟩ : Sp.Letter) = (Sp.jV L b2).1 →
   ReaderAt w' r p (bad2 || (Sp.jV L a2).2 || (Sp.jV L b2).2) L F→Ext (·=r.block) w18 w'→Box w' pA [.int .i64 0,.int .i64 0,.int .u64 0,.string ⟨#[]⟩,.bool false] 35→Box w' pB [.int .i64 0,.int .i64 0,.int .u64 0,.string ⟨#[]⟩,.bool false] 35→pA.block≠pB.block→w18.heap.size≤pA.block→w18.heap.size≤pB.block →
   (∀j,j<5→zC w' (pA.add j))∧∀w23:World,w23=storeRow w' pA [.int .i64 ka,.int .i64 fa,.int .u64 ca,.string xa,.bool ga] →
   (∀j,j<5→zC w23 (pB.add j))∧∀w24:World,w24=storeRow w23 pB [.int .i64 kb,.int .i64 fb,.int .u64 cb,.string xb,.bool gb]→m_A_j6 (some r) who p1 pA pB w24 K:=by
  intro pA pB w' ka fa ca xa ga kb fb cb xb gb hla hlb hR' E' hA hBb hAB hoA hoB
  have s':=E'.size
  refine bx 5 hA rfl rfl (fun w23 bA E23=>?_)
  refine bx 5 (hBb.ext E23 hAB.symm) rfl rfl (fun w24 bB E24=>?_)
  have dA:=bA.ext E24 hAB
  have hR24:ReaderAt w24 r p (bad2 || (Sp.jV L a2).2 || (Sp.jV L b2).2) L F:=⟨(hR'.box.ext E23 (by omega)).ext E24 (by omega),(hR'.pool.ext E23 (fun b hb e=>by have:=hR.pool.lt hb;omega)).ext E24 (fun b hb e=>by have:=hR.pool.lt hb;omega),hR'.ok,hR'.out⟩
  have hB24:Box w24 p1 lz 35:=((hB18.ext E' hne).ext E23 (by omega)).ext E24 (by omega)
  have E24':Ext (·=r.block) w w24:=((Ew18.trans E').trans' E23 (fun i hi h=>by omega)).trans' E24 (fun i hi h=>by omega)
  have e1:fa=(Sp.jV L a2).1.frm:=by rw [← hla]
  have e2:fb=(Sp.jV L b2).1.frm:=by rw [← hlb]
  have e3:ca=(Sp.jV L a2).1.c:=by rw [← hla]
  have e4:cb=(Sp.jV L b2).1.c:=by rw [← hlb]
  have e5:xa=(Sp.jV L a2).1.text:=by rw [← hla]
  have e6:xb=(Sp.jV L b2).1.text:=by rw [← hlb]
  have e7:ga=(Sp.jV L a2).1.fake:=by rw [← hla]
  have e8:gb=(Sp.jV L b2).1.fake:=by rw [← hlb]
  generalize hb3:(bad2 || (Sp.jV L a2).2 || (Sp.jV L b2).2)=bad3 at *
  have hsp:Sp.kB L who n=(⟨4,who,ca,xa,ga || gb⟩,(Sp.jZ L n 4).2 || (Sp.jV L a2).2 || (Sp.jV L b2).2 || fa != 0 || fb != 1 || ca != cb || !decide (xa=xb)):=by
   simp only [Sp.kB,← ea,← eb,← e1,← e2,← e3,← e4,← e5,← e6,← e7,← e8]
  have hbb:(bad || (Sp.kB L who n).2)=(bad3 || fa != 0 || fb != 1 || ca != cb || !decide (xa=xb)):=by
   rw [hsp,← hb3,← hbad];simp only [Bool.or_assoc]
  rw [hbb] at hK
  rw [hsp] at hK
  have J7:∀(v:Bool) (w5:World),v=(bad3 || fa != 0 || fb != 1 || ca != cb || !decide (xa=xb))→Box w5 r [.pointer p,.bool v] 182→Ext (·=r.block) w24 w5→m_A_j7 who p1 pA pB w5 K:=by
   intro v w5 hv B5 E5;have hR5:ReaderAt w5 r p v L F:=⟨B5,hR24.pool.ext E5 (fun b hb e=>hR.out (e▸hb)),hR.ok,hR.out⟩;have dA5:=dA.ext E5 (by omega);have dB5:=bB.ext E5 (by omega);have h15:=hB24.ext E5 hne;unfold m_A_j7;refine ⟨ca,dA5.cell rfl,xa,dA5.cell rfl,ga,dA5.cell rfl,fun hg=>?_,fun hg=>⟨gb,dB5.cell rfl,?_⟩⟩
   ·refine bx 5 h15 rfl rfl (fun w6 b6 E6=>⟨4,who,ca,xa,true,b6.row,?_⟩);have:=hK w5 w6 (by rw [← hv];exact hR5) (E24'.trans E5) (by rw [hg];exact b6) E6;rw [hg] at this;exact this
   ·refine bx 5 h15 rfl rfl (fun w6 b6 E6=>⟨4,who,ca,xa,gb,b6.row,?_⟩);have:=hK w5 w6 (by rw [← hv];exact hR5) (E24'.trans E5) (by rw [hg];exact b6) E6;rw [hg] at this;exact this
  have setr:∀v:Bool,Box (w24.setCell (r.add 1) (.bool v)) r [.pointer p,.bool v] 182∧Ext (·=r.block) w24 (w24.setCell (r.add 1) (.bool v)):=fun v =>
   ⟨hR24.box.set 1 _,by have:=Ext.setCell (w:=w24) (r.add 1) (.bool v);rw [jQ] at this;exact this⟩
  have J10:∀x,x=(bad3 || fa != 0 || fb != 1 || ca != cb)→m_A_j10 (some r) who p1 pA pB x w24 K:=by
   intro x hx;unfold m_A_j10;refine ⟨fun h=>⟨r,rfl,hR24.box.canW (by simp),?_⟩,fun h=>⟨xa,dA.cell rfl,xb,bB.cell rfl,r,rfl,hR24.box.canW (by simp),?_⟩⟩
   ·intro w16 hw;exact J7 true w16 (by rw [← hx,h];rfl) (by rw [hw];exact (setr _).1) (by rw [hw];exact (setr _).2)
   ·intro w16 hw;exact J7 (!decide (xa=xb)) w16 (by rw [← hx,h];rfl) (by rw [hw];exact (setr _).1) (by rw [hw];exact (setr _).2)
  have J9:∀x,x=(bad3 || fa != 0 || fb != 1)→m_A_j9 (some r) who p1 pA pB x w24 K:=by
   intro x hx;unfold m_A_j9;exact ⟨fun h=>J10 _ (by rw [← hx,h];rfl),fun h=>⟨ca,dA.cell rfl,cb,bB.cell rfl,J10 _ (by rw [← hx,h];rfl)⟩⟩
  have J8:∀x,x=(bad3 || fa != 0)→m_A_j8 (some r) who p1 pA pB x w24 K:=by
   intro x hx;unfold m_A_j8;exact ⟨fun h=>J9 _ (by rw [← hx,h];rfl),fun h=>⟨fb,bB.cell rfl,J9 _ (by rw [← hx,h];rfl)⟩⟩
  unfold m_A_j6
  exact ⟨r,rfl,bad3,hR24.box.cell rfl,fun h=>J8 _ (by rw [h];rfl),fun h=>⟨fa,dA.cell rfl,J8 _ (by rw [h];rfl)⟩⟩
 have l18:=hR18.box.lt
 have Er18:Ext (·=r.block) w18 w18:=Ext.refl w18
 refine ⟨a2,fun w' h=>h.cell rfl,b2,fun w' h=>h.cell rfl,?_⟩
 ·skip
  refine ⟨?_,?_,?_⟩
  ·skip
   refine (jX r p a2 _ w18 hR18).mono ?_
   rintro _ v1 ⟨k1,f1,c1,x1,g1,rfl,hl1,R1,e1⟩
   have E1:=Er18.trans e1
   have s1:=E1.size
   refine ⟨_,_,_,_,_,rfl,cN.ext E1 (by omega),?_⟩
   refine ⟨?_,?_,?_⟩
   ·skip
    refine (jX r p b2 _ v1 R1).mono ?_
    rintro _ v2 ⟨k2,f2,c2,x2,g2,rfl,hl2,R2,e2⟩
    have E2:=E1.trans e2
    have s2:=E2.size
    refine ⟨_,_,_,_,_,rfl,?_⟩
    refine ⟨?_,?_⟩
    ·skip
     intro q3 v3 h3
     have e3:Pure v2 v3:=Ext.new h3
     have o3:=h3.at_size
     have R3:=R2.pure e3
     have E3:=E2.thenPure e3
     have s3:=E3.size
     have t3:=(E2).size
     have bA3:=Box.of_new h3
     refine ⟨cN.ext E3 (by omega),?_⟩
     intro q4 v4 h4
     have e4:Pure v3 v4:=Ext.new h4
     have o4:=h4.at_size
     have R4:=R3.pure e4
     have E4:=E3.thenPure e4
     have s4:=E4.size
     have t4:=(E3).size
     have bA4:=bA3.pure e4
     have lA4:=bA3.lt
     have bB4:=Box.of_new h4
     refine ⟨cN.ext E4 (by omega),?_⟩
     exact leaf q3 q4 v4 _ _ _ _ _ _ _ _ _ _ hl1 hl2 R4 E4 bA4 bB4 (by omega) (by omega) (by omega)
    ·skip
     intro q5 v5 h5
     have e5:Pure v2 v5:=Ext.new h5
     have o5:=h5.at_size
     have R5:=R2.pure e5
     have E5:=E2.thenPure e5
     have s5:=E5.size
     have t5:=(E2).size
     have bB5:=Box.of_new h5
     refine ⟨cN.ext E5 (by omega),?_⟩
     intro q6 v6 h6
     have e6:Pure v5 v6:=Ext.new h6
     have o6:=h6.at_size
     have R6:=R5.pure e6
     have E6:=E5.thenPure e6
     have s6:=E6.size
     have t6:=(E5).size
     have bB6:=bB5.pure e6
     have lB6:=bB5.lt
     have bA6:=Box.of_new h6
     refine ⟨cN.ext E6 (by omega),?_⟩
     exact leaf q6 q5 v6 _ _ _ _ _ _ _ _ _ _ hl1 hl2 R6 E6 bA6 bB6 (by omega) (by omega) (by omega)
   ·skip
    intro q7 v7 h7
    have e7:Pure v1 v7:=Ext.new h7
    have o7:=h7.at_size
    have R7:=R1.pure e7
    have E7:=E1.thenPure e7
    have s7:=E7.size
    have t7:=(E1).size
    have bA7:=Box.of_new h7
    refine ⟨cN.ext E7 (by omega),?_⟩
    refine ⟨?_,?_⟩
    ·skip
     refine (jX r p b2 _ v7 R7).mono ?_
     rintro _ v8 ⟨k8,f8,c8,x8,g8,rfl,hl2,R8,e8⟩
     have E8:=E7.trans e8
     have bA8:=bA7.ext e8 (by omega)
     have s8:=E8.size
     refine ⟨_,_,_,_,_,rfl,?_⟩
     intro q9 v9 h9
     have e9:Pure v8 v9:=Ext.new h9
     have o9:=h9.at_size
     have R9:=R8.pure e9
     have E9:=E8.thenPure e9
     have s9:=E9.size
     have t9:=(E8).size
     have bA9:=bA8.pure e9
     have lA9:=bA8.lt
     have bB9:=Box.of_new h9
     refine ⟨cN.ext E9 (by omega),?_⟩
     exact leaf q7 q9 v9 _ _ _ _ _ _ _ _ _ _ hl1 hl2 R9 E9 bA9 bB9 (by omega) (by omega) (by omega)
    ·skip
     intro q10 v10 h10
     have e10:Pure v7 v10:=Ext.new h10
     have o10:=h10.at_size
     have R10:=R7.pure e10
     have E10:=E7.thenPure e10
     have s10:=E10.size
     have t10:=(E7).size
     have bA10:=bA7.pure e10
     have lA10:=bA7.lt
     have bB10:=Box.of_new h10
     refine ⟨cN.ext E10 (by omega),?_⟩
     refine (jX r p b2 _ v10 R10).mono ?_
     rintro _ v11 ⟨k11,f11,c11,x11,g11,rfl,hl2,R11,e11⟩
     have E11:=E10.trans e11
     have bA11:=bA10.ext e11 (by omega)
     have bB11:=bB10.ext e11 (by omega)
     have s11:=E11.size
     refine ⟨_,_,_,_,_,rfl,?_⟩
     exact leaf q7 q10 v11 _ _ _ _ _ _ _ _ _ _ hl1 hl2 R11 E11 bA11 bB11 (by omega) (by omega) (by omega)
   ·skip
    intro q12 v12 h12
    have e12:Pure v1 v12:=Ext.new h12
    have o12:=h12.at_size
    have R12:=R1.pure e12
    have E12:=E1.thenPure e12
    have s12:=E12.size
    have t12:=(E1).size
    have bB12:=Box.of_new h12
    refine ⟨cN.ext E12 (by omega),?_⟩
    refine ⟨?_,?_⟩
    ·skip
     refine (jX r p b2 _ v12 R12).mono ?_
     rintro _ v13 ⟨k13,f13,c13,x13,g13,rfl,hl2,R13,e13⟩
     have E13:=E12.trans e13
     have bB13:=bB12.ext e13 (by omega)
     have s13:=E13.size
     refine ⟨_,_,_,_,_,rfl,?_⟩
     intro q14 v14 h14
     have e14:Pure v13 v14:=Ext.new h14
     have o14:=h14.at_size
     have R14:=R13.pure e14
     have E14:=E13.thenPure e14
     have s14:=E14.size
     have t14:=(E13).size
     have bB14:=bB13.pure e14
     have lB14:=bB13.lt
     have bA14:=Box.of_new h14
     refine ⟨cN.ext E14 (by omega),?_⟩
     exact leaf q14 q12 v14 _ _ _ _ _ _ _ _ _ _ hl1 hl2 R14 E14 bA14 bB14 (by omega) (by omega) (by omega)
    ·skip
     intro q15 v15 h15
     have e15:Pure v12 v15:=Ext.new h15
     have o15:=h15.at_size
     have R15:=R12.pure e15
     have E15:=E12.thenPure e15
     have s15:=E15.size
     have t15:=(E12).size
     have bB15:=bB12.pure e15
     have lB15:=bB12.lt
     have bA15:=Box.of_new h15
     refine ⟨cN.ext E15 (by omega),?_⟩
     refine (jX r p b2 _ v15 R15).mono ?_
     rintro _ v16 ⟨k16,f16,c16,x16,g16,rfl,hl2,R16,e16⟩
     have E16:=E15.trans e16
     have bA16:=bA15.ext e16 (by omega)
     have bB16:=bB15.ext e16 (by omega)
     have s16:=E16.size
     refine ⟨_,_,_,_,_,rfl,?_⟩
     exact leaf q15 q12 v16 _ _ _ _ _ _ _ _ _ _ hl1 hl2 R16 E16 bA16 bB16 (by omega) (by omega) (by omega)
  ·skip
   intro q17 v17 h17
   have e17:Pure w18 v17:=Ext.new h17
   have o17:=h17.at_size
   have R17:=hR18.pure e17
   have E17:=Er18.thenPure e17
   have s17:=E17.size
   have t17:=(Er18).size
   have bA17:=Box.of_new h17
   refine ⟨cN.ext E17 (by omega),?_⟩
   refine ⟨?_,?_⟩
   ·skip
    refine (jX r p a2 _ v17 R17).mono ?_
    rintro _ v18 ⟨k18,f18,c18,x18,g18,rfl,hl1,R18,e18⟩
    have E18:=E17.trans e18
    have bA18:=bA17.ext e18 (by omega)
    have s18:=E18.size
    refine ⟨_,_,_,_,_,rfl,cN.ext E18 (by omega),?_⟩
    refine ⟨?_,?_⟩
    ·skip
     refine (jX r p b2 _ v18 R18).mono ?_
     rintro _ v19 ⟨k19,f19,c19,x19,g19,rfl,hl2,R19,e19⟩
     have E19:=E18.trans e19
     have bA19:=bA18.ext e19 (by omega)
     have s19:=E19.size
     refine ⟨_,_,_,_,_,rfl,?_⟩
     intro q20 v20 h20
     have e20:Pure v19 v20:=Ext.new h20
     have o20:=h20.at_size
     have R20:=R19.pure e20
     have E20:=E19.thenPure e20
     have s20:=E20.size
     have t20:=(E19).size
     have bA20:=bA19.pure e20
     have lA20:=bA19.lt
     have bB20:=Box.of_new h20
     refine ⟨cN.ext E20 (by omega),?_⟩
     exact leaf q17 q20 v20 _ _ _ _ _ _ _ _ _ _ hl1 hl2 R20 E20 bA20 bB20 (by omega) (by omega) (by omega)
    ·skip
     intro q21 v21 h21
     have e21:Pure v18 v21:=Ext.new h21
     have o21:=h21.at_size
     have R21:=R18.pure e21
     have E21:=E18.thenPure e21
     have s21:=E21.size
     have t21:=(E18).size
     have bA21:=bA18.pure e21
     have lA21:=bA18.lt
     have bB21:=Box.of_new h21
     refine ⟨cN.ext E21 (by omega),?_⟩
     refine (jX r p b2 _ v21 R21).mono ?_
     rintro _ v22 ⟨k22,f22,c22,x22,g22,rfl,hl2,R22,e22⟩
     have E22:=E21.trans e22
     have bA22:=bA21.ext e22 (by omega)
     have bB22:=bB21.ext e22 (by omega)
     have s22:=E22.size
     refine ⟨_,_,_,_,_,rfl,?_⟩
     exact leaf q17 q21 v22 _ _ _ _ _ _ _ _ _ _ hl1 hl2 R22 E22 bA22 bB22 (by omega) (by omega) (by omega)
   ·skip
    intro q23 v23 h23
    have e23:Pure v17 v23:=Ext.new h23
    have o23:=h23.at_size
    have R23:=R17.pure e23
    have E23:=E17.thenPure e23
    have s23:=E23.size
    have t23:=(E17).size
    have bA23:=bA17.pure e23
    have lA23:=bA17.lt
    have bB23:=Box.of_new h23
    refine ⟨cN.ext E23 (by omega),?_⟩
    refine (jX r p a2 _ v23 R23).mono ?_
    rintro _ v24 ⟨k24,f24,c24,x24,g24,rfl,hl1,R24,e24⟩
    have E24:=E23.trans e24
    have bA24:=bA23.ext e24 (by omega)
    have bB24:=bB23.ext e24 (by omega)
    have s24:=E24.size
    refine ⟨_,_,_,_,_,rfl,cN.ext E24 (by omega),?_⟩
    refine (jX r p b2 _ v24 R24).mono ?_
    rintro _ v25 ⟨k25,f25,c25,x25,g25,rfl,hl2,R25,e25⟩
    have E25:=E24.trans e25
    have bA25:=bA24.ext e25 (by omega)
    have bB25:=bB24.ext e25 (by omega)
    have s25:=E25.size
    refine ⟨_,_,_,_,_,rfl,?_⟩
    exact leaf q17 q23 v25 _ _ _ _ _ _ _ _ _ _ hl1 hl2 R25 E25 bA25 bB25 (by omega) (by omega) (by omega)
  ·skip
   intro q26 v26 h26
   have e26:Pure w18 v26:=Ext.new h26
   have o26:=h26.at_size
   have R26:=hR18.pure e26
   have E26:=Er18.thenPure e26
   have s26:=E26.size
   have t26:=(Er18).size
   have bB26:=Box.of_new h26
   refine ⟨cN.ext E26 (by omega),?_⟩
   refine ⟨?_,?_⟩
   ·skip
    refine (jX r p a2 _ v26 R26).mono ?_
    rintro _ v27 ⟨k27,f27,c27,x27,g27,rfl,hl1,R27,e27⟩
    have E27:=E26.trans e27
    have bB27:=bB26.ext e27 (by omega)
    have s27:=E27.size
    refine ⟨_,_,_,_,_,rfl,cN.ext E27 (by omega),?_⟩
    refine ⟨?_,?_⟩
    ·skip
     refine (jX r p b2 _ v27 R27).mono ?_
     rintro _ v28 ⟨k28,f28,c28,x28,g28,rfl,hl2,R28,e28⟩
     have E28:=E27.trans e28
     have bB28:=bB27.ext e28 (by omega)
     have s28:=E28.size
     refine ⟨_,_,_,_,_,rfl,?_⟩
     intro q29 v29 h29
     have e29:Pure v28 v29:=Ext.new h29
     have o29:=h29.at_size
     have R29:=R28.pure e29
     have E29:=E28.thenPure e29
     have s29:=E29.size
     have t29:=(E28).size
     have bB29:=bB28.pure e29
     have lB29:=bB28.lt
     have bA29:=Box.of_new h29
     refine ⟨cN.ext E29 (by omega),?_⟩
     exact leaf q29 q26 v29 _ _ _ _ _ _ _ _ _ _ hl1 hl2 R29 E29 bA29 bB29 (by omega) (by omega) (by omega)
    ·skip
     intro q30 v30 h30
     have e30:Pure v27 v30:=Ext.new h30
     have o30:=h30.at_size
     have R30:=R27.pure e30
     have E30:=E27.thenPure e30
     have s30:=E30.size
     have t30:=(E27).size
     have bB30:=bB27.pure e30
     have lB30:=bB27.lt
     have bA30:=Box.of_new h30
     refine ⟨cN.ext E30 (by omega),?_⟩
     refine (jX r p b2 _ v30 R30).mono ?_
     rintro _ v31 ⟨k31,f31,c31,x31,g31,rfl,hl2,R31,e31⟩
     have E31:=E30.trans e31
     have bA31:=bA30.ext e31 (by omega)
     have bB31:=bB30.ext e31 (by omega)
     have s31:=E31.size
     refine ⟨_,_,_,_,_,rfl,?_⟩
     exact leaf q30 q26 v31 _ _ _ _ _ _ _ _ _ _ hl1 hl2 R31 E31 bA31 bB31 (by omega) (by omega) (by omega)
   ·skip
    intro q32 v32 h32
    have e32:Pure v26 v32:=Ext.new h32
    have o32:=h32.at_size
    have R32:=R26.pure e32
    have E32:=E26.thenPure e32
    have s32:=E32.size
    have t32:=(E26).size
    have bB32:=bB26.pure e32
    have lB32:=bB26.lt
    have bA32:=Box.of_new h32
    refine ⟨cN.ext E32 (by omega),?_⟩
    refine (jX r p a2 _ v32 R32).mono ?_
    rintro _ v33 ⟨k33,f33,c33,x33,g33,rfl,hl1,R33,e33⟩
    have E33:=E32.trans e33
    have bA33:=bA32.ext e33 (by omega)
    have bB33:=bB32.ext e33 (by omega)
    have s33:=E33.size
    refine ⟨_,_,_,_,_,rfl,cN.ext E33 (by omega),?_⟩
    refine (jX r p b2 _ v33 R33).mono ?_
    rintro _ v34 ⟨k34,f34,c34,x34,g34,rfl,hl2,R34,e34⟩
    have E34:=E33.trans e34
    have bA34:=bA33.ext e34 (by omega)
    have bB34:=bB33.ext e34 (by omega)
    have s34:=E34.size
    refine ⟨_,_,_,_,_,rfl,?_⟩
    exact leaf q32 q26 v34 _ _ _ _ _ _ _ _ _ _ hl1 hl2 R34 E34 bA34 bB34 (by omega) (by omega) (by omega)
end Go.Proofs
end
section
open Go Go.SE
namespace Go.Sp
def jDE (L:Pool) (t:Int):Letter×Bool :=
 let n:=jI L t
 if n.kind=7 then kP L n.frm n.a else if n.kind=8∨n.kind=9 then jV L t
 else if ((jY L t).2 || !decide ((jY L t).1.1=jDA))=true then (vK,true)
 else (⟨7,0,(jZ L (jY L t).1.2 2).1.num,⟨#[]⟩,false⟩,(jZ L (jY L t).1.2 2).2)
def oE (L:Pool) (t:Int):Letter×Bool:=if (jDE L t).2=true then (vK,false) else ((jDE L t).1,true)
end Go.Sp
namespace Go.Proofs
attribute [local irreducible] Calls
theorem jBV (r:Addr) (p:Option Addr) (who body:Int) (bad:Bool) (w:World) {L:Sp.Pool} {F:NP} (hR:ReaderAt w r p bad L F) :
  Calls Tryz.prog 106 #[.pointer (some r),.int .i64 who,.int .i64 body] w
   (fun e w'=>∃k:Int,∃f:Int,∃c:Int,∃x:ByteArray,∃fk:Bool,e=.returned (.agg #[.int .i64 k,.int .i64 f,.int .u64 c,.string x,.bool fk])∧((⟨k,f,c,x,fk⟩:Sp.Letter)=(Sp.kP L who body).1∧ReaderAt w' r p (bad || (Sp.kP L who body).2) L F∧Ext (·=r.block) w w')):=by
 suffices key:∀K:Int→Int→Int→ByteArray→Bool→WP,(∀k f c x fk w',((⟨k,f,c,x,fk⟩:Sp.Letter)=(Sp.kP L who body).1∧ReaderAt w' r p (bad || (Sp.kP L who body).2) L F∧Ext (·=r.block) w w')→K k f c x fk w')→m_A (some r) who body w K from
  w_A _ _ _ w _ (key _ (fun _ _ _ _ _ _ h=>h))
 intro K hK
 unfold m_A
 intro p1 w1 h1
 have E1:Pure w w1:=Ext.new h1
 have o1:=New.own (Ext.refl w) h1
 have lr:=hR.box.lt
 have b1:Box w1 p1 lz 35:=Box.of_new h1
 have ne:p1.block≠r.block:=by omega
 refine (yW r p body bad w1 (hR.pure E1)).mono ?_
 rintro _ w2 ⟨x,y,rfl,hg,hR2,E12⟩
 refine ⟨_,_,rfl,?_⟩
 have b2:=b1.ext E12 ne
 have E2:Ext (·=r.block) w w2:=E1.pure.trans E12
 have ex:x=(Sp.jY L body).1.1:=congrArg Prod.fst hg
 have ey:y=(Sp.jY L body).1.2:=congrArg Prod.snd hg
 have hsp:Sp.kP L who body=if x=Sp.qT∧who=0 then (⟨3,0,(Sp.jZ L y 2).1.num,⟨#[]⟩,false⟩,(Sp.jY L body).2 || (Sp.jZ L y 2).2)
  else if x=Sp.kS∧who=2 then (⟨5,0,(Sp.jZ L y 2).1.num,⟨#[]⟩,false⟩,(Sp.jY L body).2 || (Sp.jZ L y 2).2)
  else if x=Sp.vB∧who=2 then (⟨6,0,(Sp.zX L y).1.1,(Sp.zX L y).1.2,false⟩,(Sp.jY L body).2 || (Sp.zX L y).2)
  else if x=Sp.uS∧who≤1 then (⟨2,who,(Sp.zX L body).1.1,(Sp.zX L body).1.2,false⟩,(Sp.jY L body).2 || (Sp.zX L body).2)
  else if x=Sp.vJ∧who≤1 then ((Sp.kB L who y).1,(Sp.jY L body).2 || (Sp.kB L who y).2)
  else (Sp.vK,true):=by
  simp only [Sp.kP,← ex,← ey]
 clear ex ey hg
 generalize hbg:(Sp.jY L body).2=g2 at *
 have fin : ∀ (k f c : Int) (z : ByteArray) (fk v : Bool) (w5 : World), Sp.kP L who body = (⟨k, f, c, z, fk⟩, v) → ReaderAt w5 r p (bad || v) L F → Ext (· = r.block) w2 w5 →
   (∀j,j<5→zC w5 (p1.add j))∧∀w6:World,w6=storeRow w5 p1 [(.int .i64 k),(.int .i64 f),(.int .u64 c),(.string z),(.bool fk)] →
   ∃qKind1:Int,∃qFrom1:Int,∃qC1:Int,∃qText1:ByteArray,∃qFake1:Bool,Row w6 p1 [(.int .i64 qKind1),(.int .i64 qFrom1),(.int .u64 qC1),(.string qText1),(.bool qFake1)] ∧
   K qKind1 qFrom1 qC1 qText1 qFake1 w6:=by
  intro k f c z fk v w5 hs hR5 E5
  refine bx 5 (b2.ext E5 ne) rfl rfl (fun w6 b6 E6=>⟨k,f,c,z,fk,b6.row,hK _ _ _ _ _ _ ⟨by rw [hs],?_,?_⟩⟩)
  ·rw [hs];exact ⟨hR5.box.ext E6 ne.symm,hR5.pool.ext E6 (fun b hb e=>by have:=hR.pool.lt hb;omega),hR.ok,hR.out⟩
  ·exact (E2.trans E5).trans' E6 (fun i hi h=>by omega)
 have nodeCase : ∀ (k : Int), Sp.kP L who body = (⟨k, 0, (Sp.jZ L y 2).1.num, ⟨#[]⟩, false⟩, g2 || (Sp.jZ L y 2).2) →
   Calls Tryz.prog 109 #[.pointer (some r),.int .i64 y,.int .i64 2] w2 (fun e w3=>∃rKind1:Int,∃rFrom1:Int,∃rTo1:Int,∃rNum1:Int,∃rText1:ByteArray,∃rA1:Int,∃rB1:Int,e=.returned (.agg #[(.int .i64 rKind1),(.int .i64 rFrom1),(.int .i64 rTo1),(.int .u64 rNum1),(.string rText1),(.int .i64 rA1),(.int .i64 rB1)]) ∧
    (∀j,j<5→zC w3 (p1.add j))∧∀w4:World,w4=storeRow w3 p1 [(.int .i64 k),(.int .i64 0),(.int .u64 rNum1),(.string (⟨#[]⟩:ByteArray)),(.bool false)] →
    ∃qKind1:Int,∃qFrom1:Int,∃qC1:Int,∃qText1:ByteArray,∃qFake1:Bool,Row w4 p1 [(.int .i64 qKind1),(.int .i64 qFrom1),(.int .u64 qC1),(.string qText1),(.bool qFake1)] ∧
    K qKind1 qFrom1 qC1 qText1 qFake1 w4):=by
  intro k hs
  refine (vG r p y 2 _ w2 hR2).mono ?_
  rintro _ w3 ⟨k3,f3,t3,u3,x3,a3,b3,rfl,hn3,hR3,E3⟩
  have e3:u3=(Sp.jZ L y 2).1.num:=by rw [← hn3]
  refine ⟨_,_,_,_,_,_,_,rfl,?_⟩
  rw [← e3] at hs
  exact fin _ _ _ _ _ _ w3 hs (by rw [← Bool.or_assoc];exact hR3) E3
 have dealCase : ∀ (k f t : Int), Sp.kP L who body = (⟨k, f, (Sp.zX L t).1.1, (Sp.zX L t).1.2, false⟩, g2 || (Sp.zX L t).2) →
   Calls Tryz.prog 170 #[.pointer (some r),.int .i64 t] w2 (fun e w7=>∃r4:Int,∃r5:ByteArray,e=.returned (.tuple #[(.int .u64 r4),(.string r5)]) ∧
    (∀j,j<5→zC w7 (p1.add j))∧∀w8:World,w8=storeRow w7 p1 [(.int .i64 k),(.int .i64 f),(.int .u64 r4),(.string r5),(.bool false)] →
    ∃qKind1:Int,∃qFrom1:Int,∃qC1:Int,∃qText1:ByteArray,∃qFake1:Bool,Row w8 p1 [(.int .i64 qKind1),(.int .i64 qFrom1),(.int .u64 qC1),(.string qText1),(.bool qFake1)] ∧
    K qKind1 qFrom1 qC1 qText1 qFake1 w8):=by
  intro k f t hs
  refine (jAY r p t _ w2 hR2).mono ?_
  rintro _ w3 ⟨c,z,rfl,hd,hR3,E3⟩
  have e1:c=(Sp.zX L t).1.1:=congrArg Prod.fst hd
  have e2:z=(Sp.zX L t).1.2:=congrArg Prod.snd hd
  refine ⟨_,_,rfl,?_⟩
  rw [← e1,← e2] at hs
  exact fin _ _ _ _ _ _ w3 hs (by rw [← Bool.or_assoc];exact hR3) E3
 have J5:∀b,b=decide (x=Sp.vJ∧who≤1)→¬ (x=Sp.qT∧who=0)→¬ (x=Sp.kS∧who=2)→¬ (x=Sp.vB∧who=2)→¬ (x=Sp.uS∧who≤1)→m_A_j5 (some r) who p1 y b w2 K:=by
  intro b hb h1 h2 h3 h4;rw [if_neg h1,if_neg h2,if_neg h3,if_neg h4] at hsp;cases hbv:b with
  | true =>
   have hc:x=Sp.vJ∧who≤1:=of_decide_eq_true (by rw [← hb,hbv])
   rw [if_pos hc] at hsp
   refine jAX r p p1 who y _ w2 hR2 b2 ne K (fun w6 w' hR6 E6 b' E'=>hK _ _ _ _ _ _ ⟨by rw [hsp];rfl,?_,?_⟩)
   ·rw [hsp];simp only [← Bool.or_assoc]
    exact ⟨hR6.box.ext E' ne.symm,hR6.pool.ext E' (fun b hb e=>by have:=hR.pool.lt hb;omega),hR.ok,hR.out⟩
   ·exact (E2.trans E6).trans' E' (fun i hi h=>by omega)
  | false =>
   have hc:¬ (x=Sp.vJ∧who≤1):=of_decide_eq_false (by rw [← hb,hbv])
   rw [if_neg hc] at hsp
   unfold m_A_j5
   refine Br.f rfl ⟨r,rfl,hR2.box.canW (by simp),?_⟩
   intro w77 hw
   have d5:Box w77 r [.pointer p,.bool true] 182:=by rw [hw];exact hR2.box.set 1 _
   have E5:Ext (·=r.block) w2 w77:=by rw [hw];have:=Ext.setCell (w:=w2) (r.add 1) (.bool true);rw [jQ] at this;exact this
   exact fin 0 0 0 ⟨#[]⟩ false true w77 hsp (by rw [Bool.or_true];exact ⟨d5,hR2.pool.ext E5 (fun b hb e=>hR.out (e▸hb)),hR.ok,hR.out⟩) E5
 have J4:∀b,b=decide (x=Sp.uS∧who≤1)→¬ (x=Sp.qT∧who=0)→¬ (x=Sp.kS∧who=2)→¬ (x=Sp.vB∧who=2)→m_A_j4 (some r) who body p1 x y b w2 K:=by
  intro b hb h1 h2 h3;unfold m_A_j4;refine ⟨fun h=>dealCase 2 who body ?_,fun h=>?_⟩
  ·rw [hsp,if_neg h1,if_neg h2,if_neg h3,if_pos (of_decide_eq_true (by rw [← hb,h]))]
  ·have h4:¬ (x=Sp.uS∧who≤1):=of_decide_eq_false (by rw [← hb,h]);exact ⟨fun hw=>J5 _ (by have:x=Sp.vJ:=of_decide_eq_true hw;simp [this]) h1 h2 h3 h4,fun hw=>J5 _ (by have:¬ x=Sp.vJ:=of_decide_eq_false hw;simp [this]) h1 h2 h3 h4⟩
 have J3:∀b,b=decide (x=Sp.vB∧who=2)→¬ (x=Sp.qT∧who=0)→¬ (x=Sp.kS∧who=2)→m_A_j3 (some r) who body p1 x y b w2 K:=by
  intro b hb h1 h2;unfold m_A_j3;refine ⟨fun h=>dealCase 6 0 y ?_,fun h=>?_⟩
  ·rw [hsp,if_neg h1,if_neg h2,if_pos (of_decide_eq_true (by rw [← hb,h]))]
  ·have h3:¬ (x=Sp.vB∧who=2):=of_decide_eq_false (by rw [← hb,h]);exact ⟨fun hw=>J4 _ (by have:x=Sp.uS:=of_decide_eq_true hw;simp [this]) h1 h2 h3,fun hw=>J4 _ (by have:¬ x=Sp.uS:=of_decide_eq_false hw;simp [this]) h1 h2 h3⟩
 have J2:∀b,b=decide (x=Sp.kS∧who=2)→¬ (x=Sp.qT∧who=0)→m_A_j2 (some r) who body p1 x y b w2 K:=by
  intro b hb h1;unfold m_A_j2;refine ⟨fun h=>nodeCase 5 ?_,fun h=>?_⟩
  ·rw [hsp,if_neg h1,if_pos (of_decide_eq_true (by rw [← hb,h]))]
  ·have h2:¬ (x=Sp.kS∧who=2):=of_decide_eq_false (by rw [← hb,h]);exact ⟨fun hw=>J3 _ (by have:x=Sp.vB:=of_decide_eq_true hw;simp [this];rfl) h1 h2,fun hw=>J3 _ (by have:¬ x=Sp.vB:=of_decide_eq_false hw;simp [this]) h1 h2⟩
 have J1:∀b,b=decide (x=Sp.qT∧who=0)→m_A_j1 (some r) who body p1 x y b w2 K:=by
  intro b hb;unfold m_A_j1;refine ⟨fun h=>nodeCase 3 ?_,fun h=>?_⟩
  ·rw [hsp,if_pos (of_decide_eq_true (by rw [← hb,h]))]
  ·have h1:¬ (x=Sp.qT∧who=0):=of_decide_eq_false (by rw [← hb,h]);exact ⟨fun hw=>J2 _ (by have:x=Sp.kS:=of_decide_eq_true hw;simp [this];rfl) h1,fun hw=>J2 _ (by have:¬ x=Sp.kS:=of_decide_eq_false hw;simp [this]) h1⟩
 exact ⟨fun hw=>J1 _ (by have:x=Sp.qT:=of_decide_eq_true hw;simp [this];rfl),fun hw=>J1 _ (by have:¬ x=Sp.qT:=of_decide_eq_false hw;simp [this])⟩
end Go.Proofs
end
section
open Go Go.SE
namespace Go.Proofs
attribute [local irreducible] Calls
theorem qB (p:Option Addr) (t:Int) (w:World) {L:Sp.Pool} {F:NP} (hP:uZ w p L F) (hok:Sp.Ok L) :
  Calls Tryz.prog 51 #[.pointer p,.int .i64 t] w
   (fun e w'=>∃k:Int,∃f:Int,∃c:Int,∃x:ByteArray,∃fk:Bool,∃ok:Bool,e=.returned (.tuple #[.agg #[.int .i64 k,.int .i64 f,.int .u64 c,.string x,.bool fk],.bool ok])∧(((⟨k,f,c,x,fk⟩:Sp.Letter),ok)=Sp.oE L t∧Pure w w')):=by
 suffices key:∀K:Int→Int→Int→ByteArray→Bool→Bool→WP,(∀k f c x fk ok w',(((⟨k,f,c,x,fk⟩:Sp.Letter),ok)=Sp.oE L t∧Pure w w')→K k f c x fk ok w')→m_J p t w K from
  w_J _ _ w _ (key _ (fun _ _ _ _ _ _ _ h=>h))
 intro K hK
 unfold m_J
 intro p2 w1 h1 p3 w2 h2
 have E1:Pure w w1:=Ext.new h1
 have E2:Pure w w2:=E1.trans (Ext.new h2)
 have o2:=New.own (Ext.refl w) h1
 have o3:=New.own E1 h2
 have n23:p2.block≠p3.block:=New.ne h2 (Box.of_new h1).blk
 have b2:Box w2 p2 lz 35:=(Box.of_new h1).pure (Ext.new h2)
 have hout:¬ F p3.block:=fun h=>by have:=hP.lt h;omega
 have hR2:ReaderAt w2 p3 p false L F:=⟨Box.of_new h2,hP.pure E2,hok,hout⟩
 refine (jBW p t w2 hR2.pool hok).mono ?_
 rintro _ w3 ⟨k,f,t',u,x,a,b,ok,rfl,⟨hn,_⟩,E23⟩
 refine ⟨_,_,_,_,_,_,_,_,rfl,?_⟩
 intro p4 w4 h4
 have E3:Pure w2 w3:=E23
 have o4:=New.own (Ext.refl w3) h4
 have l3:=(hR2.pure E3).box.lt
 have l2:=(b2.pure E3).lt
 refine bx 7 (Box.of_new h4) rfl rfl (fun w5 b4 E'=>?_)
 have E5:Pure w3 w5:=Ext.own (Ext.new h4) o4 E'
 intro p5 w6 h6
 have E6:Pure w3 w6:=E5.trans (Ext.new h6)
 have o5:=New.own E5 h6
 have n45:p4.block≠p5.block:=New.ne h6 b4.blk
 have c4:=b4.pure (Ext.new h6:Pure w5 w6)
 have c5:Box w6 p5 lz 35:=Box.of_new h6
 have c2:=b2.pure (E3.trans E6)
 have hR6:=hR2.pure (E3.trans E6)
 have E26:Pure w w6:=(E2.trans E3).trans E6
 clear E' h1 h2 h4 h6
 have n35:p3.block≠p5.block:=by omega
 have n25:p2.block≠p5.block:=by omega
 have hq:Sp.jDE L t=if k=7 then Sp.kP L f a else if k=8∨k=9 then Sp.jV L t else if ((Sp.jY L t).2 || !decide ((Sp.jY L t).1.1=Sp.jDA))=true then (Sp.vK,true) else (⟨7,0,(Sp.jZ L (Sp.jY L t).1.2 2).1.num,⟨#[]⟩,false⟩,(Sp.jZ L (Sp.jY L t).1.2 2).2):=by
  simp only [Sp.jDE,← hn]
 have bad1 : ∀ (w8 : World), (Sp.jDE L t).2 = true → Ext (fun b => b = p3.block ∨ b = p5.block) w6 w8 → (∀ j, j < 5 → zC w8 (p2.add j)) ∧ ∀ w9 : World, w9 = storeRow w8 p2 [(.int .i64 0), (.int .i64 0), (.int .u64 0), (.string (⟨#[]⟩ : ByteArray)), (.bool false)] →
   ∃qKind1:Int,∃qFrom1:Int,∃qC1:Int,∃qText1:ByteArray,∃qFake1:Bool,Row w9 p2 [(.int .i64 qKind1),(.int .i64 qFrom1),(.int .u64 qC1),(.string qText1),(.bool qFake1)]∧K qKind1 qFrom1 qC1 qText1 qFake1 false w9:=by
  intro w8 hb E8
  refine bx 5 (c2.ext E8 (by rintro (h | h) <;> omega)) rfl rfl (fun w9 b9 E9=>⟨0,0,0,⟨#[]⟩,false,b9.row,hK _ _ _ _ _ _ _ ⟨?_,?_⟩⟩)
  ·rw [Sp.oE,if_pos hb];rfl
  ·exact (E26.trans' E8 (fun i hi h=>by rcases h with h | h <;> omega)).trans' E9 (fun i hi h=>by omega)
 have good1 : ∀ (w8 : World) (l : Sp.Letter), Sp.jDE L t = (l, false) → Ext (fun b => b = p3.block ∨ b = p5.block) w6 w8 → Box w8 p5 [.int .i64 l.kind, .int .i64 l.frm, .int .u64 l.c, .string l.text, .bool l.fake] 35 →
   ∃vKind1:Int,∃vFrom1:Int,∃vC1:Int,∃vText1:ByteArray,∃vFake1:Bool,Row w8 p5 [(.int .i64 vKind1),(.int .i64 vFrom1),(.int .u64 vC1),(.string vText1),(.bool vFake1)] ∧
   (∀j,j<5→zC w8 (p2.add j))∧∀w9:World,w9=storeRow w8 p2 [(.int .i64 vKind1),(.int .i64 vFrom1),(.int .u64 vC1),(.string vText1),(.bool vFake1)] →
   ∃qKind1:Int,∃qFrom1:Int,∃qC1:Int,∃qText1:ByteArray,∃qFake1:Bool,Row w9 p2 [(.int .i64 qKind1),(.int .i64 qFrom1),(.int .u64 qC1),(.string qText1),(.bool qFake1)]∧K qKind1 qFrom1 qC1 qText1 qFake1 true w9:=by
  intro w8 l hb E8 B8
  refine ⟨_,_,_,_,_,B8.row,?_⟩
  refine bx 5 (c2.ext E8 (by rintro (h | h) <;> omega)) rfl rfl (fun w9 b9 E9=>⟨l.kind,l.frm,l.c,l.text,l.fake,b9.row,hK _ _ _ _ _ _ _ ⟨?_,?_⟩⟩)
  ·rw [Sp.oE,if_neg (by rw [hb];simp),hb]
  ·exact (E26.trans' E8 (fun i hi h=>by rcases h with h | h <;> omega)).trans' E9 (fun i hi h=>by omega)
 have up:∀{w7 w8:World},Ext (·=p3.block) w6 w7→Ext (·=p5.block) w7 w8→Ext (fun b=>b=p3.block∨b=p5.block) w6 w8:=fun h h'=>(h.mono (fun _ _ h=>.inl h)).trans' h' (fun _ _ h=>.inr h)
 have J1p:∀b,b=true→k≠7→(k=8∨k=9)→m_J_j1 t p2 p3 p5 b w6 K:=by
  rintro _ rfl h7 h89;rw [if_neg h7,if_pos h89] at hq;unfold m_J_j1;refine Br.t rfl ?_;refine (jX p3 p t false w6 hR6).mono ?_;rintro _ w7 ⟨k7,f7,c7,x7,g7,rfl,hl,hR7,E7⟩;refine ⟨_,_,_,_,_,rfl,bx 5 (c5.ext E7 n35.symm) rfl rfl (fun w8 b8 E8=>⟨(Sp.jV L t).2,?_,fun h=>bad1 w8 (by rw [hq];exact h) (up E7 E8),fun h=>good1 w8 ⟨k7,f7,c7,x7,g7⟩ (by rw [hq,hl,← h]) (up E7 E8) b8⟩)⟩;have:=(hR7.box.ext E8 n35).cell (i:=1) rfl;simpa using this
 have J1t:∀b,b=false→k≠7→¬ (k=8∨k=9)→m_J_j1 t p2 p3 p5 b w6 K:=by
  rintro _ rfl h7 h89;rw [if_neg h7,if_neg h89] at hq;unfold m_J_j1;refine Br.f rfl ?_;refine (yW p3 p t false w6 hR6).mono ?_;rintro _ w7 ⟨x7,y7,rfl,hg,hR7,E7⟩;have ex:x7=(Sp.jY L t).1.1:=congrArg Prod.fst hg;have ey:y7=(Sp.jY L t).1.2:=congrArg Prod.snd hg;rw [← ex,← ey] at hq;have setr:∀v:Bool,Box (w7.setCell (p3.add 1) (.bool v)) p3 [.pointer p,.bool v] 182∧Ext (·=p3.block) w7 (w7.setCell (p3.add 1) (.bool v)):=fun v =>
   ⟨hR7.box.set 1 _,by have:=Ext.setCell (w:=w7) (p3.add 1) (.bool v);rw [jQ] at this;exact this⟩
  have J3:∀(v:Bool) (w8:World),v=((Sp.jY L t).2 || !decide (x7=Sp.jDA))→Box w8 p3 [.pointer p,.bool v] 182→Ext (·=p3.block) w7 w8→m_J_j3 p2 p3 p5 y7 w8 K:=by
   intro v w8 hv B8 E8;have E68:=E7.trans E8;have E68':Ext (fun b=>b=p3.block∨b=p5.block) w6 w8:=E68.mono (fun _ _ h=>.inl h);unfold m_J_j3;refine ⟨v,B8.cell rfl,fun h=>⟨v,B8.cell rfl,fun _=>bad1 w8 (by rw [hq,← hv,if_pos h]) E68',fun h'=>(by rw [h] at h';cases h')⟩,fun h=>?_⟩;rw [← hv,if_neg (by rw [h];simp)] at hq;subst h;unfold m_J_j2;refine (vG p3 p y7 2 false w8 ⟨B8,hR7.pool.ext E8 (fun b hb e=>hout (e▸hb)),hok,hout⟩).mono ?_;rintro _ w16 ⟨k3,f3,t3,u3,x3,a3,b3,rfl,hn3,hR3,E16⟩;have e3:u3=(Sp.jZ L y7 2).1.num:=by rw [← hn3]
   rw [← e3] at hq;have E616:=E68.trans E16;refine ⟨_,_,_,_,_,_,_,rfl,bx 5 (c5.ext E616 n35.symm) rfl rfl (fun w17 b17 E17=>⟨(Sp.jZ L y7 2).2,?_,fun h=>bad1 w17 (by rw [hq];exact h) (up E616 E17),fun h=>good1 w17 ⟨7,0,u3,⟨#[]⟩,false⟩ (by rw [hq,h]) (up E616 E17) b17⟩)⟩;have:=(hR3.box.ext E17 n35).cell (i:=1) rfl;simpa using this
  refine ⟨_,_,rfl,(Sp.jY L t).2,?_,fun h=>⟨hR7.box.canW (by simp),?_⟩,fun h=>⟨hR7.box.canW (by simp),?_⟩⟩
  ·have:=hR7.box.cell (i:=1) rfl;simpa using this
  ·intro w22 hw;exact J3 true w22 (by rw [h];rfl) (by rw [hw];exact (setr _).1) (by rw [hw];exact (setr _).2)
  ·intro w22 hw;exact J3 (!decide (x7=Sp.jDA)) w22 (by rw [h];rfl) (by rw [hw];exact (setr _).1) (by rw [hw];exact (setr _).2)
 refine ⟨k,c4.cell0,fun h=>⟨f,c4.cell rfl,a,c4.cell rfl,?_⟩,fun h=>⟨fun h8=>?_,fun h8=>?_⟩⟩
 ·have h7:k=7:=by simpa using h
  rw [if_pos h7] at hq
  refine (jBV p3 p f a false w6 hR6).mono ?_
  rintro _ w7 ⟨k7,f7,c7,x7,g7,rfl,hl,hR7,E7⟩
  refine ⟨_,_,_,_,_,rfl,bx 5 (c5.ext E7 n35.symm) rfl rfl (fun w8 b8 E8=>⟨(Sp.kP L f a).2,?_,fun h=>bad1 w8 (by rw [hq];exact h) (up E7 E8),fun h=>good1 w8 ⟨k7,f7,c7,x7,g7⟩ (by rw [hq,hl,← h]) (up E7 E8) b8⟩)⟩
  have:=(hR7.box.ext E8 n35).cell (i:=1) rfl
  simpa using this
 ·have h7:k≠7:=by simpa using h
  have h8:k=8:=by simpa using h8
  exact J1p _ (by simp [h8]) h7 (.inl h8)
 ·have h7:k≠7:=by simpa using h
  have h8:k≠8:=by simpa using h8
  by_cases h9:k=9
  ·exact J1p _ (by simp [h9]) h7 (.inr h9)
  ·exact J1t _ (by simpa using h9) h7 (by rintro (h | h) <;> omega)
theorem qS (p:Addr) (t:Int) (w:World) {L:Sp.Pool} {F:NP} (hP:jU w p L F) (hok:Sp.Ok L) :
  Calls Tryz.prog 51 #[.pointer (some p),.int .i64 t] w
   (fun e w'=>∃k:Int,∃f:Int,∃c:Int,∃x:ByteArray,∃fk:Bool,∃ok:Bool,e=.returned (.tuple #[.agg #[.int .i64 k,.int .i64 f,.int .u64 c,.string x,.bool fk],.bool ok])∧(((⟨k,f,c,x,fk⟩:Sp.Letter),ok)=Sp.oE L t∧Pure w w')):=qB (some p) t w hP hok
end Go.Proofs
end
section
open Go Go.SE
open Go.IntKind renaming i64 → q6
namespace Go.Proofs
set_option maxRecDepth 100000
set_option maxHeartbeats 4000000
attribute [local irreducible] wpL wpX opE wpE Calls
def m_L1_l1 (s1:Sl) (v1 x1:Int) (wl1:World) (Kc1:Int→WP) (K:Int→WP):Prop :=Br (decide (x1<(s1.len:Int))) (∃a1:Addr,At s1 x1 1 a1∧∃v2,wl1.cell? a1=some (vi v2)∧Br (v1 == v2) (K x1 wl1) (Kc1 (q6.wrap (x1+1)) wl1)) (K (-1) wl1)
def m_L1 (s1:Sl) (v1:Int) (w0:World) (K:Int→WP):Prop :=∃(I1:Int→WP) (mu1:Int→World→Nat),I1 0 w0∧∀(x1:Int) (wl1:World),I1 x1 wl1→m_L1_l1 s1 v1 x1 wl1 (fun y'0 w'=>I1 y'0 w'∧mu1 y'0 w'<mu1 x1 wl1) K
theorem w_L1 (s1 v1 w0 K) (h:m_L1 s1 v1 w0 K):
  Calls Tryz.prog 190 #[s1.v,(vi v1)] w0 (fun e w'=>∃r1,e=.returned (vi r1)∧K r1 w'):=by
 refine cw (args:=[s1.v,(vi v1)]) Tryz.func190 Tryz.ntmps190 (eg (q0 (vi 0) (ln (jA (eg (q0 s1.v (q0 (vi (s1.len:Int)) (q0 (vi 0) ?_))))))))
 refine ln (jF ?_)
 obtain ⟨I1,mu1,h0,hr⟩:=h
 refine zH (σ:=Int×World) (fun s ρ w=>w=s.2∧Has ρ [(0,s1.v),(1,(vi v1)),(7,(vi (s1.len:Int))),(8,(vi s.1))]∧I1 s.1 s.2) (fun s=>mu1 s.1 s.2) (0,w0) ⟨rfl,hm,h0⟩ ?_
 rintro ⟨x1,wl1⟩ ρ w ⟨hw,hH,hI⟩
 dsimp only at hw hH;subst w
 have h:=hr x1 wl1 hI
 refine jO hH (eg (q (ln (jA (cbr h ?_ ?_)))))<;>intro h
 refine jB (jK (jA (jF (eg (qb (ln (eg (qc (qi (Tryz.runUnderlying46 _) (Tryz.sizeOf78 _) h fun a1 h=>ql (Tryz.isAgg78 _) h fun v2 h=>q (ln (cbr h ?_ ?_)))))))))))<;>intro h
 refine eg (qb (ln (er (kR (jW (jW (kR (jW (rs1 Tryz.results190 ⟨x1,rfl,h⟩)))))))))
 refine jB (vD (jK (rg (qb (ln ⟨((q6.wrap (x1+1)),wl1),⟨rfl,hm,h.1⟩,h.2⟩)))))
 refine zB (kX (kX (kV (jK (eg (q0 (vi (-1)) (ln (er (rs1 Tryz.results190 ⟨(-1),rfl,h⟩)))))))))
def m_R2 (s1:Sl) (v1:Int) (w0:World) (K:Bool→WP):Prop :=Calls Tryz.prog 190 #[s1.v,(vi v1)] w0 (fun e w1=>∃r1,e=.returned (vi r1)∧K (decide (r1≥0)) w1)
theorem w_R2 (s1 v1 w0 K) (h:m_R2 s1 v1 w0 K):
  Calls Tryz.prog 150 #[s1.v,(vi v1)] w0 (fun e w'=>∃r2,e=.returned (vb r2)∧K r2 w'):=by
 refine cw (args:=[s1.v,(vi v1)]) Tryz.func150 Tryz.ntmps150 (eg (q0 (vb false) (ln (eg (q0 s1.v (q0 (vi v1) ?_))))))
 refine sc Tryz.call190 (h.mono fun e w1 ⟨r1,k,h⟩=>⟨_,k,?_⟩)
 refine qb (ln (er (rs1 Tryz.results150 ⟨(decide (r1≥0)),rfl,h⟩)))
end Go.Proofs
end
section
open Go Go.SE
namespace Go.SE
section
variable {P:Program} {t e:TypeId} {sz bytes:Nat}
theorem xR (T:SlType P t e sz bytes) (w:World) (ty:TypeId) (s x:Sl) (hc:s.len≤s.cap) (hx:x.len=0):(Builtin.append_ #[t,t] ty #[s.v,x.v]).run P w=.ok s.v w:=by
 obtain ⟨a,n,c⟩:=s;obtain ⟨b,m,d⟩:=x;simp only at hc hx;subst hx;cases b <;> cases a <;> simp [Builtin.append_,Sl.v,run_underlying T.ht,T.sizeOf,Builtin.lenOf,Builtin.firstCells,loadCells,loadCellsFrom,storeCells,hc]
end
theorem jCK {w:World} {sz:Nat}:∀{rs:List (List Value)} {p:Addr},(∀r∈rs,r.length=sz)→(∀i (h:i<rs.length),Row w (p.add (i*sz)) rs[i])→Row w p rs.flatten
 | [],p,_,_=>fun i h=>by simp at h
 | r :: rs,p,hl,h=>by
  have hr:Row w p r:=by have:=h 0 (by simp);simpa [Addr.add] using this
  have hsz:=hl r (by simp);have ih:=jCK (rs:=rs) (p:=p.add sz) (fun q hq=>hl q (List.mem_cons_of_mem _ hq)) (fun i hi=>by
   have:=h (i+1) (by simpa using hi);rw [qC,show sz+i*sz=(i+1)*sz by rw [Nat.succ_mul];omega];simpa using this)
  intro i hi;rw [List.flatten_cons] at hi ⊢;by_cases hlt:i<r.length
  ·rw [hr i hlt,List.getElem?_append_left hlt]
  ·have:=ih (i - r.length) (by rw [List.length_append] at hi;omega);rw [qC,show sz+(i - r.length)=i by omega] at this;rw [this,List.getElem?_append_right (by omega)]
section
variable {P:Program} {t e:TypeId} {sz bytes:Nat}
theorem Rws.appendL (T:SlType P t e sz bytes) {w:World} {ty:TypeId} {s x:Sl} {rs qs:List (List Value)} (h:Rws w e sz s rs) {S:NP} (hx:Lst S w sz x qs) (hl:∀q∈qs,q.length=sz) (h1:∀q∈qs,q.all kA=true) (hb:(rs.length+qs.length)*bytes≤140737488355328) (hm:rs.length+qs.length≤maxLen) :
  ∃s' w',(Builtin.append_ #[t,t] ty #[s.v,x.v]).run P w=.ok s'.v w'∧Rws w' e sz s' (rs++qs)∧Ext s.blk w w'∧(∀b,s'.blk b→s.blk b∨w.heap.size≤b):=by
 cases hq:qs with
 | nil =>
  subst hq
  have hc:s.len≤s.cap:=by
   rcases h.own with ⟨rfl,_⟩ | ⟨g,cur,_,_,hc,_⟩
   ·exact Nat.le_refl _
   ·rw [h.len];exact hc
  exact ⟨s,w,xR T w ty s x hc hx.len,by simpa using h,Ext.refl w,fun b hb=>.inl hb⟩
 | cons q0 rest =>
  rw [← hq]
  have hne:qs≠[]:=by rw [hq];simp
  have hpos:=List.length_pos_iff.2 hne
  obtain ⟨_,⟨_,_,p,hp,_⟩,_,_⟩:=hx.at_ 0 hpos
  have hrow:Row w p qs.flatten:=jCK hl (fun i hi=>by
   obtain ⟨a,⟨_,_,b,hb',rfl⟩,_,hr⟩:=hx.at_ i hi;rw [hp] at hb';cases hb';simpa using hr)
  have hxv:x.v=(Sl.mk (some p) qs.length x.cap).v:=by unfold Sl.v;rw [hp,hx.len]
  rw [hxv]
  exact h.appends T hrow hl h1 hne hb hm
end
def look {α:Type}:List (Int×α)→Int→Option α
 | [],_=>none
 | p :: M,k=>if p.1=k then some p.2 else look M k
theorem uH {α:Type} {M:List (Int×α)} {k:Int}:look M k=none↔k ∉ M.map Prod.fst:=by
 induction M with
 | nil=>simp [look]
 | cons p M ih =>
  rw [look]
  split
  ·rename_i h;simp [h]
  ·rename_i h;rw [ih,List.map_cons,List.mem_cons];exact ⟨fun h1 h2=>h2.elim (fun e=>h e.symm) h1,fun h1 h2=>h1 (.inr h2)⟩
theorem tJ {α:Type} {M:List (Int×α)} {k:Int} {v:α} (h:look M k=some v):(k,v)∈M:=by
 induction M with
 | nil=>cases h
 | cons p M ih =>
  rw [look] at h
  split at h
  ·rename_i e;cases h;subst e;simp
  ·exact List.mem_cons_of_mem _ (ih h)
theorem jEW {α:Type} {M:List (Int×α)} (hn:(M.map Prod.fst).Nodup) {i:Nat} {k:Int} {v:α} (h:M[i]?=some (k,v)):look M k=some v:=by
 induction M generalizing i with
 | nil=>simp at h
 | cons p M ih =>
  rw [List.map_cons,List.nodup_cons] at hn
  rw [look]
  cases i with
  | zero=>simp at h;subst h;simp
  | succ i =>
   have h':M[i]?=some (k,v):=by simpa using h
   have hne:p.1≠k:=fun e=>hn.1 (by rw [e];exact List.mem_map.2 ⟨_,List.mem_of_getElem? h',rfl⟩)
   rw [if_neg hne]
   exact ih hn.2 h'
theorem jBN {α:Type} {M:List (Int×α)} (hn:(M.map Prod.fst).Nodup) {k:Int} {v:α} (h:(k,v)∈M):look M k=some v:=by
 obtain ⟨i,hi,e⟩:=List.getElem_of_mem h;exact jEW hn (by rw [List.getElem?_eq_getElem hi,e])
def jCM (k:Int):Value:=.int .i64 k
structure IMap {α:Type} (f:α→Value) (w:World) (m:Nat) (M:List (Int×α)):Prop where
 map:CMap w m (M.map fun p=>(jCM p.1,f p.2))
 nd:(M.map Prod.fst).Nodup
section
variable {α:Type} {f:α→Value} {w w':World} {m:Nat} {M:List (Int×α)} {P:Program} {T K E:TypeId}
theorem IMap.ext {F:NP} (h:IMap f w m M) (hE:Ext F w w') (hf:¬ F m):IMap f w' m M:=⟨h.map.ext hE hf,h.nd⟩
theorem IMap.pure (h:IMap f w m M) (hE:Pure w w'):IMap f w' m M:=h.ext hE id
theorem IMap.lt (h:IMap f w m M):m<w.heap.size:=h.map.lt
theorem IMap.of_new {p:Addr} (h:New w (.map #[] 0) p w'):IMap f w' p.block []:=⟨CMap.of_new h,List.nodup_nil⟩
theorem IMap.keys (M:List (Int×α)):∀p∈M.map (fun p=>(jCM p.1,f p.2)),∃n,p.1=.int .i64 n:=by
 intro p hp;obtain ⟨q,_,rfl⟩:=List.mem_map.1 hp;exact ⟨_,rfl⟩
theorem IMap.get (h:IMap f w m M) (hT:P.underlying T=some (.map K E)) (hK:P.underlying K=some (.int .i64)) {z:Value} (hz:(zeroValue E).run P w=.ok z w) (k:Int) (ok:Bool) :
  (look M k=none∧(Instr.lookup T (.map (some m)) (.int .i64 k) ok).run P w=.ok (if ok then .tuple #[z,.bool false] else z) w)∨∃v,look M k=some v∧(Instr.lookup T (.map (some m)) (.int .i64 k) ok).run P w=.ok (if ok then .tuple #[f v,.bool true] else f v) w:=by
 rcases h.map.lookup hT (KeyOK.of_int hK) (IMap.keys M) (k:=jCM k) ⟨k,rfl⟩ hz ok with ⟨h1,h2⟩ | ⟨i,v,h1,h2⟩
 ·refine .inl ⟨uH.2 fun hm=>?_,h2⟩
  obtain ⟨q,hq,rfl⟩:=List.mem_map.1 hm
  exact h1 _ (List.mem_map.2 ⟨q,hq,rfl⟩) rfl
 ·rw [List.getElem?_map] at h1
  cases hi:M[i]? with
  | none=>rw [hi] at h1;cases h1
  | some q =>
   rw [hi] at h1
   obtain ⟨a,b⟩:=q
   simp [jCM] at h1
   obtain ⟨rfl,rfl⟩:=h1
   exact .inr ⟨b,jEW h.nd hi,h2⟩
theorem IMap.put (h:IMap f w m M) (hT:P.underlying T=some (.map K E)) (hK:P.underlying K=some (.int .i64)) {k:Int} (hn:look M k=none) (v:α) :
  ∃w',(Instr.mapUpdate T (.map (some m)) (.int .i64 k) (f v)).run P w=.ok () w'∧IMap f w' m (M++[(k,v)])∧Ext (·=m) w w':=by
 have hn':=uH.1 hn
 obtain ⟨w',h1,h2,h3⟩:=h.map.insert hT (KeyOK.of_int hK) (IMap.keys M) (k:=jCM k) (v:=f v) ⟨k,rfl⟩ (fun p hp e=>by
  obtain ⟨q,hq,rfl⟩:=List.mem_map.1 hp;simp only [jCM,Value.int.injEq,true_and] at e;exact hn' (List.mem_map.2 ⟨q,hq,e⟩))
 refine ⟨w',h1,⟨by simpa using h2,?_⟩,h3⟩
 rw [List.map_append,List.nodup_append]
 exact ⟨h.nd,by simp,fun x hx y hy e=>by simp at hy;subst hy;exact hn' (e▸hx)⟩
theorem IMap.again (h:IMap f w m M) (hT:P.underlying T=some (.map K E)) (hK:P.underlying K=some (.int .i64)) {k:Int} {v:α} (hv:look M k=some v) :
  ∃w',(Instr.mapUpdate T (.map (some m)) (.int .i64 k) (f v)).run P w=.ok () w'∧IMap f w' m M∧Ext (·=m) w w':=by
 obtain ⟨i,hi,e⟩:=List.getElem_of_mem (tJ hv)
 have hes:(M.map fun p=>(jCM p.1,f p.2))[i]?=some (jCM k,f v):=by simp [hi,e]
 obtain ⟨w',h1,h2,h3⟩:=h.map.update hT (KeyOK.of_int hK) (IMap.keys M) (k:=jCM k) (v:=f v) (v':=f v) ⟨k,rfl⟩ hes (fun j u hj=>by
  rw [List.getElem?_map] at hj;cases hq:M[j]? with
  | none=>rw [hq] at hj;cases hj
  | some q =>
   rw [hq] at hj
   simp [jCM] at hj
   obtain ⟨hj',hje⟩:=List.getElem?_eq_some_iff.1 hq
   have h4:(M.map Prod.fst)[j]'(by simpa using hj')=(M.map Prod.fst)[i]'(by simpa using hi):=by simp [hje,e,hj.1]
   exact (List.getElem_inj h.nd).1 h4)
 have hset:(M.map fun p=>(jCM p.1,f p.2)).set i (jCM k,f v)=M.map fun p=>(jCM p.1,f p.2):=by
  apply List.ext_getElem?;intro n;rw [List.getElem?_set];by_cases hn:i=n
  ·subst hn;rw [if_pos rfl];simp [hi,e]
  ·rw [if_neg hn]
 rw [hset] at h2
 exact ⟨w',h1,⟨h2,h.nd⟩,h3⟩
end
end Go.SE
end
section
open Go Go.SE
namespace Go.Proofs
attribute [local irreducible] Calls
def tmr (ts:List Int):List (List Value):=ts.map fun t=>[.int .i64 t]
theorem zT (ts:List Int):(tmr ts).length=ts.length:=by simp [tmr]
theorem jEJ (ts:List Int):∀q∈tmr ts,q.all kA=true:=by intro q hq;obtain ⟨t,_,rfl⟩:=List.mem_map.1 hq;rfl
theorem jHG (ts:List Int):∀q∈tmr ts,q.length=1:=by intro q hq;obtain ⟨t,_,rfl⟩:=List.mem_map.1 hq;rfl
theorem xP:SlType Tryz.prog 46 78 1 8:=by
 refine ⟨Tryz.underlying46,⟨Tryz.t78,_,by kernel_rfl,(by kernel_rfl:Tryz.t78.zero=some (.int .i64 0)),by kernel_rfl,by kernel_rfl,rfl⟩,by omega⟩
structure RetO (w:World) (e:TypeId) (sz:Nat) (rs:List (List Value)) (s:Sl) (w':World):Prop where
 rows:Rws w' e sz s rs
 own:∀b,s.blk b→w.heap.size≤b
 pure:Pure w w'
theorem RetO.kept {w:World} {H:NP} {e:TypeId} {sz:Nat} {rs:List (List Value)} {s:Sl} {w':World} (h:RetO w e sz rs s w'):Kept H w w':=h.pure.keptP
theorem uB {S:NP} {w:World} {s:Sl} {ts:List Int} (h:Lst S w 1 s (tmr ts)) {j:Nat} (hj:j<ts.length):∃a,At s j 1 a∧S a.block∧w.cell? a=some (.int .i64 ts[j]):=by
 obtain ⟨a,h1,h2,h3⟩:=h.at_ j (by simpa [tmr] using hj);exact ⟨a,h1,h2,gY (by simpa [tmr] using h3)⟩
theorem jFL {S:NP} (s:Sl) (ts:List Int) (v:Int) (w0:World) (hs:Lst S w0 1 s (tmr ts)) (hn:ts.length≤1000000) :
  Calls Tryz.prog 190 #[s.v,.int .i64 v] w0 (fun e w'=>∃r:Int,e=.returned (.int .i64 r)∧((decide (r≥0)=decide (v∈ts))∧w'=w0)):=by
 refine w_L1 _ _ w0 (fun r w'=>(decide (r≥0)=decide (v∈ts))∧w'=w0) ?_
 unfold m_L1
 have hl:s.len=ts.length:=by rw [hs.len,zT]
 refine ⟨fun i w'=>w'=w0∧∃j:Nat,i=j∧j≤ts.length∧v ∉ ts.take j,fun i _=>((ts.length:Int) - i).toNat,⟨rfl,0,rfl,Nat.zero_le _,by simp⟩,?_⟩
 rintro _ _ ⟨rfl,j,rfl,hj,hv⟩
 unfold m_L1_l1
 refine ⟨fun h=>?_,fun h=>?_⟩
 ·have hlt:=zQ hl h
  obtain ⟨a,hat,_,hc⟩:=uB hs hlt
  have htk:ts.take (j+1)=ts.take j++[ts[j]]:=List.take_succ_eq_append_getElem hlt
  refine ⟨a,hat,_,hc,fun h=>⟨?_,rfl⟩,fun h=>?_⟩
  ·have:v=ts[j]:=by simpa using h
   rw [decide_eq_true (by omega),decide_eq_true]
   rw [this];exact List.getElem_mem hlt
  ·rw [zA hlt (by omega)]
   refine ⟨⟨rfl,j+1,rfl,hlt,?_⟩,kO hlt⟩
   rw [htk,List.mem_append,List.mem_singleton]
   rintro (h' | h')
   ·exact hv h'
   ·simp [h'] at h
 ·have hge:=zV hl hj h
  subst hge
  rw [List.take_length] at hv
  exact ⟨by simp [hv],rfl⟩
theorem jAT {S:NP} (s:Sl) (ts:List Int) (v:Int) (w0:World) (hs:Lst S w0 1 s (tmr ts)) (hn:ts.length≤1000000) :
  Calls Tryz.prog 150 #[s.v,.int .i64 v] w0 (fun e w'=>∃r:Bool,e=.returned (.bool r)∧(r=decide (v∈ts)∧w'=w0)):=by
 refine w_R2 _ _ w0 (fun r w'=>r=decide (v∈ts)∧w'=w0) ?_
 unfold m_R2
 refine (jFL s ts v w0 hs hn).mono ?_
 rintro _ _ ⟨r,rfl,hr,rfl⟩
 exact ⟨_,rfl,hr,rfl⟩
end Go.Proofs
end
section
open Go Go.SE
namespace Go.SE
theorem Ext.putObj (w:World) (r:Nat) (o:Obj):Ext (·=r) w (w.putObj r o):=⟨rfl,rfl,rfl,(by first | exact Nat.le_refl _ | exact Nat.le_succ _),by simp,fun b _ hne=>World.putObj_heap_other hne⟩
abbrev Yld (P:Program) (l:Nat) (args:Array Value) (w:World) (R:Ending→WP):Prop:=YieldAt Fence.wide 0 P l args w R
def jCD (P:Program) (gf:FuncId) (lb:Array Value) {α:Type} (encs:α→Array Value) (xs:List α) (Rd:WP) (w:World):Prop :=
 ∀(l:Nat) (J Jx:List α→NP→WP) (W:World),Pure w W →
  (∀pre X A,J pre X A→Rd A) →
  (∀pre X A X' A',J pre X A→Hst W X A X' A'→J pre X' A') →
  (∀pre X A X' A',Jx pre X A→Hst W X A X' A'→Jx pre X' A') →
  (∀pre y X A,J pre X A→Hst W X A X A→(∃post,xs=pre++y :: post)→Yld P l (encs y) A (fun e A'=>(e=.returned (.bool true)∧Kept X A A'∧J (pre++[y]) X A')∨(e=.returned (.bool false)∧Kept X A A'∧Jx (pre++[y]) X A'))) →
  J [] None W →
  Calls P gf (#[.func (.yield l) #[] #[]]++lb) W (fun e A=>(∃v,e=.returned v)∧∃X,Hst W X A X A∧(J xs X A∨∃pre,Jx pre X A))
def jGH:List Nat→List Value→Env→Env
 | p :: ps,v :: vs,ρ=>jGH ps vs (upd ρ p v)
 | _,_,ρ=>ρ
theorem jAD {n:Nat}:∀(ps:List Nat) (vs:List Value) (ρ:Env) (t:Array Value),(∀p∈ps,p<n)→Rep [] n ρ { tmps:=t,defers:=[] } →
  Rep [] n (jGH ps vs ρ) { tmps:=(ps.zip vs).foldl (fun t (x:Nat×Value)=>t.setIfInBounds x.1 x.2) t,defers:=[] }
 | [],vs,ρ,t,_,h=>by cases vs <;> exact h
 | p :: ps,[],ρ,t,_,h=>h
 | p :: ps,v :: vs,ρ,t,hp,h=>by
  rw [List.zip_cons_cons,List.foldl_cons];exact jAD ps vs _ _ (fun q hq=>hp q (by simp [hq])) (h.put (d:=some p) (fun k hk=>by cases hk;exact hp p (by simp)) v)
def jHK (id:Nat) (Y:NP) (A:World) (I Ix Ir:NP→WP):Exit→Env→WP
 | .normal,_,A'=>Kept Y A A'∧I Y A'
 | .exit id',_,A'=>id'=id∧Kept Y A A'∧Ix Y A'
 | .ret,_,A'=>Kept Y A A'∧Ir Y A'
 | _,_,_=>False
def jHR (D:Nat) (Q:Exit→Env→WP):Exit→Env→WP
 | .ret,ρ,w=>w.heap[D]?=some (.deferred (some []))∧Q .ret ρ (w.putObj D (.deferred none))
 | _,_,_=>False
theorem Kept.trans {H:NP} {a b c:World} (h:Kept H a b) (k:Kept H b c):Kept H a c:=⟨Nat.le_trans h.size k.size,fun i hi hH=>(k.keep i (Nat.lt_of_lt_of_le hi h.size) hH).trans (h.keep i hi hH)⟩
theorem Kept.mono {H H':NP} {a b:World} (h:Kept H a b) (hs:∀b,H' b→H b):Kept H' a b:=⟨h.size,fun i hi hH=>h.keep i hi (hs i hH)⟩
structure RngI {α:Type} (w0:World) (Rd:WP) (I Ix Ir:List α→NP→WP):Prop where
 rd:∀pre Y A,I pre Y A→Rd A
 i:∀pre Y A Y' A',I pre Y A→Hst w0 Y A Y' A'→I pre Y' A'
 x:∀pre Y A Y' A',Ix pre Y A→Hst w0 Y A Y' A'→Ix pre Y' A'
 r:∀pre Y A Y' A',Ir pre Y A→Hst w0 Y A Y' A'→Ir pre Y' A'
def wpB (P:Program) (n:Nat) (c y:Code) (Q:Exit→Env→WP) (ρ:Env) (w:World):Prop:=∀a,Rep [] n ρ a→c.wpIn (fen none) 0 P (Exit.then (fun a w=>y.wpIn (fen none) 0 P (jGA ⟨none,[]⟩ n Q) a w) (jGA ⟨none,[]⟩ n Q)) a w
theorem jGC {P:Program} {n:Nat} {Q:Exit→Env→WP} {ρ:Env} {w:World} {a c y:Code} (h:wpE (x:=⟨none,[]⟩) P n a (uT (fun ρ w=>wpB P n c y Q ρ w) Q) ρ w):wpE (x:=⟨none,[]⟩) P n (.seq (.seq a c) y) Q ρ w:=fun a ha =>
 wpIn_seq (wpIn_seq (wpIn_mono (h a ha) (fun e a w hl=>by
  cases e with
  | normal=>obtain ⟨ρ',hr,hq⟩:=lW hl;exact hq a hr
  | _=>exact hl)))
theorem af_r {D:Nat} {Q:Exit→Env→WP} {ρ:Env} {w:World} (h1:w.heap[D]?=some (.deferred (some []))) (h:∀w1,w1=w.putObj D (.deferred none)→Q .ret ρ w1):jHR D Q .ret ρ w:=⟨h1,h _ rfl⟩
theorem rd_n {id:Nat} {Y:NP} {A A':World} {I Ix Ir:NP→WP} {ρ:Env} (h:Kept Y A A'∧I Y A'):jHK id Y A I Ix Ir .normal ρ A':=h
theorem HBZ.behind {H Y:NP} {w A:World} {l:List HBx} {D:Nat} (hb:HB H w l) (hk:Kept H w A) (hH:∀b,H b→Y b) (hD:Y D) (hDe:A.heap[D]?=some (.deferred (some []))):HBZ [(D,.deferred (some []))] Y A l :=
 ⟨(hb.kept hk).box,fun x hx=>hH _ (hb.hid x hx),hb.ne,fun x hx=>by
  cases List.mem_singleton.1 hx;exact ⟨hD,hDe,rfl⟩⟩
theorem HBZ.leave {w0 wv:World} {Hv H:NP} {w:World} {l:List HBx} {D:Nat} (hb:HBZ [(D,.deferred (some []))] H w l) (hs:Hst w0 Hv wv H w) {w1:World} (h1:w1=w.putObj D (.deferred none)):Hst w0 Hv wv H w1∧HB H w1 l:=by
 have hz:=hb.fz _ (List.mem_singleton.2 rfl);have E:Ext (·=D) w w1:=by rw [h1];exact Ext.putObj w D _
 refine ⟨⟨h1▸hs.ext.trans' (Ext.putObj w D _) (fun b _ e=>by subst e;exact hz.1),hs.sub,hs.new,hs.old,fun b hb=>Nat.lt_of_lt_of_le (hs.lt b hb) E.size,Nat.le_trans hs.base E.size⟩,?_⟩;refine ⟨fun x hx=>(hb.box x hx).ext E (fun e=>?_),hb.hid,hb.ne,fun x hx=>by cases hx⟩;have h2:=(hb.box x hx).blk;rw [e,hz.2.1] at h2;cases h2
theorem HBZ.dead {H:NP} {w:World} {l:List HBx} {D:Nat} (hb:HBZ [(D,.deferred (some []))] H w l):w.heap[D]?=some (.deferred (some [])):=(hb.fz _ (List.mem_singleton.2 rfl)).2.1
theorem jHS {P:Program} {ε:Operand→Value} {w w':World} {d:Option Tmp} {ty:TypeId} {pos:String} {aft:Array Edge} {g:Option (Nat×Bool)} {l:Nat} {x:Operand} {v:Value} {c:List Operand} {ts:Array TypeId} {args:Array Value} {r:Next} (hx:ε x=v) (hv:v=.func (.yield l) #[] #[]) (ha:(c.map ε).toArray=args) (hr:(Instr.yield l args).run P w=.ok r w') :
  (execOp ε ⟨d,.call ⟨.value x,c.toArray,ts⟩,ty,pos,aft,g⟩).run P w=.ok r w':=by
 subst hv;subst ha
 simp [execOp,resolve,hx,Deferred.ofValue,invoke,hr]
theorem jGE {P:Program} {ops:Array Oper} {Q:Env→WP} {ρ:Env} {w:World} {rest:List Oper} {d:Option Tmp} {ty:TypeId} {pos:String} {aft:Array Edge} {g:Option (Nat×Bool)} {l:Nat} {x:Operand} {v:Value} {c:List Operand} {ts:Array TypeId} {args:Array Value}
  (hw:Region.wanted ⟨d,.call ⟨.value x,c.toArray,ts⟩,ty,pos,aft,g⟩ (jM ops ρ)=true) (hx:evE ρ x=v) (hv:v=.func (.yield l) #[] #[]) (ha:(c.map (evE ρ)).toArray=args)
  (h:Yld P l args w (fun e w''=>∃v,e=.returned v∧wpL P ops Q rest (put ρ d v) w'')):wpL P ops Q (⟨d,.call ⟨.value x,c.toArray,ts⟩,ty,pos,aft,g⟩ :: rest) ρ w:=by
 obtain ⟨fn,tmps,assign,body,hr,hR⟩:=h
 unfold wpL
 rw [if_pos hw]
 unfold yld
 rw [jHS hx hv ha hr]
 exact hR
theorem Yld.mono {P:Program} {l:Nat} {args:Array Value} {w:World} {R R':Ending→WP} (h:Yld P l args w R) (hr:∀e w,R e w→R' e w):Yld P l args w R':=by
 obtain ⟨fn,tmps,assign,body,h1,h2⟩:=h;exact ⟨fn,tmps,assign,body,h1,RoundIn.mono h2 hr⟩
section
variable {P:Program} {n:Nat} {Q:Exit→Env→WP} {ρ:Env} {w w0:World} {H Hv:NP} {wv:World}
theorem jEC {id:Nat} {g:Operand} {ps:Array Tmp} {assign body y:Code} {gf:FuncId} {lb:Array Value} {α:Type} {encs:α→Array Value} {xs:List α} {Rd:WP}
  (hg:evE ρ g=.func (.func gf) #[] lb) (eg:∀args w,(callFunc gf args).run P w=.ok (.enter gf args) w) (hit:jCD P gf lb encs xs Rd w) (hps:∀z,(encs z).size=ps.size) (hpn:∀p∈ps.toList,p<n)
  (hs:Hst w0 Hv wv H w) (I Ix Ir:List α→NP→WP) (hRI:RngI w0 Rd I Ix Ir)
  (h0:I [] H w)
  (hround:∀l z A,wpE (x:=⟨some l,[]⟩) P n assign (uT (fun ρ' A'=>A'=A∧∀pre Y A,I pre Y A→Hst w0 Y A Y A→(∃post,xs=pre++z :: post)→wpE (x:=⟨some l,[]⟩) P n body (jHK id Y A (I (pre++[z])) (Ix (pre++[z])) (Ir (pre++[z]))) ρ' A) (fun _ _ _=>False)) (jGH ps.toList (encs z).toList ρ) A)
  (hrest:∀D Y A,Hst w0 Y A Y A→Y D→A.heap[D]?=some (.deferred (some []))→(∀b,H b→Y b)→Kept H w A→(I xs Y A∨∃pre,Ix pre Y A)→wpE (x:=⟨none,[jIG D]⟩) P n y (jHR D Q) ρ A)
  (hret:∀D pre Y A,Hst w0 Y A Y A→Y D→A.heap[D]?=some (.deferred (some []))→Ir pre Y A→Q .ret ρ (A.putObj D (.deferred none))) :
  wpB P n (.block id (.rangeFunc g ps assign body)) y Q ρ w:=by
 obtain ⟨hRd,hI,hIx,hIr⟩:=hRI
 intro a ha
 refine wpIn_block (wpIn_rangeFunc ?_)
 intro fn _
 obtain ⟨rec,hrec⟩:∃rec:LoopState→Option Code→Loop,rec=fun st pe=>{ state:=st,pending:=pe,fn,tmps:=a.tmps,params:=ps,assign,body,defers:=w.heap.size }:=⟨_,rfl⟩
 obtain ⟨W1,hW1⟩:∃W1,(w.alloc (.deferred (some []))).alloc (.loop (rec .ready none))=W1:=⟨_,rfl⟩
 have hL1:W1.heap[w.heap.size+1]?=some (.loop (rec .ready none)):=by
  rw [← hW1];have:=World.alloc_heap_new (w.alloc (.deferred (some []))) (.loop (rec .ready none));rwa [World.size_alloc] at this
 have hK1:W1.heap[w.heap.size]?=some (.deferred (some [])):=by
  rw [← hW1];exact (RowKit.Below.heap_alloc _ _ _ (by simp)).trans (World.alloc_heap_new w _)
 have hsz:W1.heap.size=w.heap.size+2:=by rw [← hW1];simp
 have E1:Pure w W1:=by
  rw [← hW1];exact ⟨rfl,rfl,rfl,(by first | exact Nat.le_refl _ | exact Nat.le_succ _),by simp;omega,fun b hb _=>(RowKit.Below.heap_alloc _ _ _ (by simp;omega)).trans (RowKit.Below.heap_alloc _ _ _ hb)⟩
 let Yo:NP→NP:=fun X b=>H b∨b=w.heap.size∨b=w.heap.size+1∨X b
 have hHlt:∀b,H b→b<w.heap.size:=hs.lt
 have here:∀{X:NP} {A:World},Hst W1 X A X A→Hst w0 (Yo X) A (Yo X) A:=fun {X A} h =>
  ⟨Ext.refl _,fun _ h=>h,fun _ h=>.inl h,fun b hb=>by
   rcases hb with hb | rfl | rfl | hb
   ·exact hs.old b hb
   ·exact hs.base
   ·have:=hs.base;omega
   ·have:=h.old b hb;have:=hs.base;omega,fun b hb=>by
   have z:=h.base;rcases hb with hb | rfl | rfl | hb
   ·have:=hHlt b hb;omega
   ·omega
   ·omega
   ·exact h.lt b hb,by have:=h.base;have:=hs.base;omega⟩
 have up:∀{X X':NP} {A A':World},Hst W1 X A X A→Hst W1 X A X' A'→Hst w0 (Yo X) A (Yo X') A':=fun {X X' A A'} h k =>
  ⟨k.ext.mono (fun b _ hb=>.inr (.inr (.inr hb))),fun b hb=>by
   rcases hb with hb | hb | hb | hb
   ·exact .inl hb
   ·exact .inr (.inl hb)
   ·exact .inr (.inr (.inl hb))
   ·exact .inr (.inr (.inr (k.sub b hb))),fun b hb=>by
   rcases hb with hb | hb | hb | hb
   ·exact .inl (.inl hb)
   ·exact .inl (.inr (.inl hb))
   ·exact .inl (.inr (.inr (.inl hb)))
   ·exact (k.new b hb).imp_left (fun h=>.inr (.inr (.inr h))),(here k.here).old,(here k.here).lt,(here k.here).base⟩
 have nX:∀{X:NP} {A:World},Hst W1 X A X A→∀b,b<w.heap.size+2→¬ X b:=fun h b hb hx=>by have:=h.old b hx;omega
 have keepH:∀{X X':NP} {A A':World},Kept H w A→Hst W1 X A X' A'→Kept H w A':=fun {X X' A A'} hk k =>
  hk.trans (k.ext.kept (fun b hb hx=>nX k.here b (by have:=hHlt b hb;omega) hx))
 have turn:∀{X:NP} {A:World} (o:Obj),Hst W1 X A X A→Hst w0 (Yo X) A (Yo X) (A.putObj (w.heap.size+1) o):=fun {X A} o h =>
  ⟨(Ext.putObj A _ o).mono (fun b _ e=>by subst e;exact .inr (.inr (.inl rfl))),fun _ h=>h,fun _ h=>.inl h,(here h).old,fun b hb=>by have:=(here h).lt b hb;simpa using this,by simpa using (here h).base⟩
 have hstW:∀{X:NP} {A:World} (o:Obj),Hst W1 X A X A→Hst W1 X (A.putObj (w.heap.size+1) o) X (A.putObj (w.heap.size+1) o):=fun o h =>
  ⟨Ext.refl _,fun _ h=>h,fun _ h=>.inl h,h.old,fun b hb=>by have:=h.lt b hb;simpa using this,by simpa using h.base⟩
 have keepT:∀{A:World} (o:Obj),Kept H w A→Kept H w (A.putObj (w.heap.size+1) o):=fun {A} o hk=>hk.trans ((Ext.putObj A _ o).kept (fun b hb e=>by have:=hHlt b hb;omega))
 let Jc:Code→List α→NP→WP:=fun c pre Y A=>match c with
  | .ret=>Ir pre Y A
  | .exit id'=>id'=id∧Ix pre Y A
  | _=>False
 have hJc:∀c pre Y A Y' A',Jc c pre Y A→Hst w0 Y A Y' A'→Jc c pre Y' A':=by
  intro c pre Y A Y' A' h k;cases c <;> first | exact hIr _ _ _ _ _ h k | exact ⟨h.1,hIx _ _ _ _ _ h.2 k⟩ | exact h
 refine ⟨w.heap.size+1,[jIG w.heap.size],W1,{ target:=.fn (.func gf) lb,args:=#[.func (.yield (w.heap.size+1)) #[] #[]] },W1,gf,
  #[.func (.yield (w.heap.size+1)) #[] #[]]++lb,W1,?_,?_,fun _ _=>trivial,?_,(fun h=>by cases h),callsIn_wide.2 ?_⟩
 ·rw [← hW1,hrec];exact run_enterLoop_outer _ _ _ _ _
 ·have hev:a.eval g=.func (.func gf) #[] lb:=by rw [ha.eval];exact hg
  simp only [resolve,hev]
  simp [go_sem]
 ·simp [invoke,go_sem,eg]
 have hst1:Hst W1 None W1 None W1:=Hst.start W1
 refine (hit (w.heap.size+1)
  (fun pre X A=>Hst W1 X A X A∧I pre (Yo X) A∧A.heap[w.heap.size+1]?=some (.loop (rec .ready none))∧A.heap[w.heap.size]?=some (.deferred (some []))∧Kept H w A)
  (fun pre X A=>Hst W1 X A X A∧∃c,Jc c pre (Yo X) A∧A.heap[w.heap.size+1]?=some (.loop (rec .done (some c)))∧A.heap[w.heap.size]?=some (.deferred (some []))∧Kept H w A)
  W1 E1 (fun pre X A h=>hRd _ _ _ h.2.1)
  (fun pre X A X' A' h k=>⟨k.here,hI _ _ _ _ _ h.2.1 (up h.1 k),k.ext.heap h.2.2.1 (nX k.here _ (by omega)),k.ext.heap h.2.2.2.1 (nX k.here _ (by omega)),keepH h.2.2.2.2 k⟩)
  (fun pre X A X' A' h k=>by
   obtain ⟨h1,c,h2,h3,h4,h5⟩:=h;exact ⟨k.here,c,hJc _ _ _ _ _ _ h2 (up h1 k),k.ext.heap h3 (nX k.here _ (by omega)),k.ext.heap h4 (nX k.here _ (by omega)),keepH h5 k⟩)
  ?_ ⟨hst1,hI _ _ _ _ _ h0 ⟨E1.pure,fun b hb=>.inl hb,fun b hb=>?_,(here hst1).old,(here hst1).lt,(here hst1).base⟩,hL1,hK1,E1.keptP⟩).mono ?_
 ·-- one round
  rintro pre z X A ⟨hX,hi,hl,hk,hkH⟩ _ hpost
  have hlt:w.heap.size+1<A.heap.size:=(Array.getElem?_eq_some_iff.1 hl).1
  have hy:=run_yield (P:=P) (args:=encs z) hl (by rw [hrec];exact hps z)
  rw [hrec] at hy
  refine ⟨fn,_,assign,body,hy,roundIn_of_wpIn (F:=Fence.wide) trivial ?_⟩
  have hrep:Rep [] n (jGH ps.toList (encs z).toList ρ) { tmps:=(ps.zip (encs z)).foldl (fun t (x:Nat×Value)=>t.setIfInBounds x.1 x.2) a.tmps,defers:=[] }:=by
   have:=jAD ps.toList (encs z).toList ρ a.tmps hpn ⟨rfl,ha.size,ha.get⟩;rw [← Array.foldl_toList,Array.toList_zip];exact this
  refine wpIn_mono (hround (w.heap.size+1) z A _ hrep) ?_
  rintro e a1 A1 ⟨ρ',hor⟩
  have hor:=hor.resolve_right (fun h=>by cases h.2.1)
  obtain ⟨hr1,hq⟩:=hor
  cases e <;> first | exact hq.elim | skip
  obtain ⟨rfl,hbody⟩:=hq
  refine ⟨_,run_beginRound hl (by rw [hrec]),?_⟩
  have T1:=turn (.loop { rec .ready none with state:=.busy }) hX
  have hX1:=hstW (.loop { rec .ready none with state:=.busy }) hX
  have hl2:(A1.putObj (w.heap.size+1) (.loop { rec .ready none with state:=.busy })).heap[w.heap.size+1]?=some (.loop { rec .ready none with state:=.busy }):=World.putObj_heap_same hlt
  have hk2:(A1.putObj (w.heap.size+1) (.loop { rec .ready none with state:=.busy })).heap[w.heap.size]?=some (.deferred (some [])):=(World.putObj_heap_other (by omega)).trans hk
  have hkH2:=keepT (.loop { rec .ready none with state:=.busy }) hkH
  have hi2:=hI _ _ _ _ _ hi T1
  refine wpIn_mono (hbody pre (Yo X) _ hi2 T1.here hpost a1 hr1) ?_
  have fin : ∀ (jump : Option Code) (A3 : World), Kept (Yo X) (A1.putObj (w.heap.size + 1) (.loop { rec .ready none with state := .busy })) A3 →
    (Instr.endRound (w.heap.size+1) jump).run P A3=.ok (.bool jump.isNone) (A3.putObj (w.heap.size+1) (.loop (rec (if jump.isNone then .ready else .done) jump))) ∧
    Hst W1 X (A3.putObj (w.heap.size+1) (.loop (rec (if jump.isNone then .ready else .done) jump))) X (A3.putObj (w.heap.size+1) (.loop (rec (if jump.isNone then .ready else .done) jump))) ∧
    Hst w0 (Yo X) A3 (Yo X) (A3.putObj (w.heap.size+1) (.loop (rec (if jump.isNone then .ready else .done) jump))) ∧
    (A3.putObj (w.heap.size+1) (.loop (rec (if jump.isNone then .ready else .done) jump))).heap[w.heap.size+1]?=some (.loop (rec (if jump.isNone then .ready else .done) jump)) ∧
    (A3.putObj (w.heap.size+1) (.loop (rec (if jump.isNone then .ready else .done) jump))).heap[w.heap.size]?=some (.deferred (some [])) ∧
    Kept H w (A3.putObj (w.heap.size+1) (.loop (rec (if jump.isNone then .ready else .done) jump))) ∧
    Kept X A1 (A3.putObj (w.heap.size+1) (.loop (rec (if jump.isNone then .ready else .done) jump))):=fun jump A3 hk3=>by
   have hl3:A3.heap[w.heap.size+1]?=some (.loop { rec .ready none with state:=.busy }):=by
    rw [hk3.keep _ (by simpa using hlt) (.inr (.inr (.inl rfl)))];exact hl2
   have hD3:A3.heap[w.heap.size]?=some (.deferred (some [])):=by
    rw [hk3.keep _ (by simp;omega) (.inr (.inl rfl))];exact hk2
   have hX3:Hst W1 X A3 X A3:=hX1.again (hk3.mono (fun b hb=>.inr (.inr (.inr hb))))
   have hrun:=run_endRound (P:=P) jump hl3
   rw [hrec] at hrun
   refine ⟨by rw [hrec];exact hrun,hstW _ hX3,turn _ hX3,World.putObj_heap_same (Array.getElem?_eq_some_iff.1 hl3).1,(World.putObj_heap_other (by omega)).trans hD3,keepT _ (hkH2.trans (hk3.mono (fun b hb=>.inl hb))),?_⟩
   have k1:Kept X A1 (A1.putObj (w.heap.size+1) (.loop { rec .ready none with state:=.busy })):=(Ext.putObj A1 _ _).kept (fun b hb e=>by have:=hX.old b hb;omega)
   exact (k1.trans (hk3.mono (fun b hb=>.inr (.inr (.inr hb))))).trans ((Ext.putObj A3 _ _).kept (fun b hb e=>by have:=hX.old b hb;omega))
  rintro e a3 A3 ⟨ρ3,hor⟩
  have hor:=hor.resolve_right (fun h=>by cases h.2.1)
  obtain ⟨hr3,hq⟩:=hor
  cases e with
  | normal =>
   obtain ⟨hk3,hi3⟩:=hq
   obtain ⟨f1,f2,f3,f4,f5,f6,f7⟩:=fin none A3 hk3
   exact ⟨_,_,f1,.inl ⟨rfl,f7,f2,hI _ _ _ _ _ hi3 f3,f4,f5,f6⟩⟩
  | ret =>
   obtain ⟨hk3,hi3⟩:=hq
   obtain ⟨f1,f2,f3,f4,f5,f6,f7⟩:=fin (some .ret) A3 hk3
   exact ⟨_,_,f1,.inr ⟨rfl,f7,f2,.ret,hIr _ _ _ _ _ hi3 f3,f4,f5,f6⟩⟩
  | exit id' =>
   obtain ⟨rfl,hk3,hi3⟩:=hq
   obtain ⟨f1,f2,f3,f4,f5,f6,f7⟩:=fin (some (.exit id')) A3 hk3
   exact ⟨_,_,f1,.inr ⟨rfl,f7,f2,.exit id',⟨rfl,hIx _ _ _ _ _ hi3 f3⟩,f4,f5,f6⟩⟩
  | goto t=>exact hq.elim
  | panic ch=>exact hq.elim
  | outgrown=>exact hq.elim
 ·rcases hb with hb | rfl | rfl | hb
  ·exact .inl hb
  ·exact .inr (Nat.le_refl _)
  ·exact .inr (by omega)
  ·exact hb.elim
 ·-- behind the iterator
  have hrepM:Rep [jIG w.heap.size] n ρ { a with defers:=[jIG w.heap.size]++a.defers }:=⟨by rw [show a.defers=[] from ha.defers];rfl,ha.size,ha.get⟩
  have go:∀(A:World),Hst w0 (Yo fun b=>H b∨b=w.heap.size∨b=w.heap.size+1) A (Yo fun b=>H b∨b=w.heap.size∨b=w.heap.size+1) A→True:=fun _ _=>trivial
  have rest : ∀ (X : NP) (A : World), Hst w0 (Yo X) A (Yo X) A → A.heap[w.heap.size]? = some (.deferred (some [])) → Kept H w A → (I xs (Yo X) A ∨ ∃ pre, Ix pre (Yo X) A) →
    y.wpIn (fen none) 0 P (jGA ⟨none,[]⟩ n Q) { a with defers:=[jIG w.heap.size]++a.defers } A:=by
   intro X A hA hD hkA hIA
   refine wpIn_mono (hrest w.heap.size (Yo X) A hA (.inr (.inl rfl)) hD (fun b hb=>.inl hb) hkA hIA _ hrepM) ?_
   rintro e a2 A2 ⟨ρ2,⟨hr2,hq⟩ | ⟨_,_,h,_⟩⟩
   ·cases e <;> first | exact hq.elim | skip
    exact ⟨ρ2,.inr ⟨rfl,rfl,rfl,w.heap.size,hr2,hq.1,hq.2⟩⟩
   ·cases h
  rintro e A ⟨⟨v,rfl⟩,X,_,⟨hX,hi,hl,hk,hkH⟩ | ⟨pre,hX,c,hc,hl,hk,hkH⟩⟩
  ·obtain ⟨o, hrun⟩ : ∃ o, (Instr.endLoop (w.heap.size + 1)).run P A = .ok none (A.putObj (w.heap.size + 1) o) := by
    have:=run_endLoop (P:=P) hl (by rw [hrec];simp);rw [hrec] at this;exact ⟨_,this⟩
   have T:=turn o hX
   exact ⟨none,_,hrun,rest X _ T.here ((World.putObj_heap_other (by omega)).trans hk) (keepT _ hkH) (.inl (hI _ _ _ _ _ hi T))⟩
  ·obtain ⟨o, hrun⟩ : ∃ o, (Instr.endLoop (w.heap.size + 1)).run P A = .ok (some c) (A.putObj (w.heap.size + 1) o) := by
    have:=run_endLoop (P:=P) hl (by rw [hrec];simp);rw [hrec] at this;exact ⟨_,this⟩
   have T:=turn o hX
   refine ⟨some c,_,hrun,?_⟩
   have hc':=hJc _ _ _ _ _ _ hc T
   have hD:=(World.putObj_heap_other (w:=A) (r:=w.heap.size+1) (o:=o) (k:=w.heap.size) (by omega)).trans hk
   cases c <;> first | exact hc.elim | skip
   case exit id' =>
    obtain ⟨rfl,hx⟩:=hc'
    refine wpIn_exit ?_
    simp only [Exit.inBlock,if_true]
    exact rest X _ T.here hD (keepT _ hkH) (.inr ⟨pre,hx⟩)
   case ret =>
    refine wpIn_ret ?_
    exact ⟨ρ,.inr ⟨rfl,rfl,rfl,w.heap.size,hrepM,hD,hret w.heap.size pre (Yo X) _ T.here (.inr (.inl rfl)) hD hc'⟩⟩
end
end Go.SE
namespace Go.SE
end Go.SE
end
