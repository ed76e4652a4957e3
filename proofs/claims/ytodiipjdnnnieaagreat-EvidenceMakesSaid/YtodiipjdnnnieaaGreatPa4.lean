import Derived.Test.YtodiipjdnnnieaaGreatPa3
import Derived.Test.YtodiipjdnnnieaaGreatProg
import Derived.KernelRfl
section
open Go Go.SE
namespace Go.Proofs
open Tryz
attribute [local irreducible] Calls
def jIF (v:Value):Prop:=∃n,v=jEB n
theorem jFX {n n':Sp.Node}:jEB n=jEB n'↔n=n':=by
 constructor
 ·intro h;cases n;cases n';simp [jEB,jBR] at h;simp [h]
 ·rintro rfl;rfl
theorem jFS (n:Sp.Node):Instr.sameBits 10000 (jEB n) (jEB n)=true:=by
 have h:∀d,Instr.sameBits (d+1) (jEB n) (jEB n)=true:=fun d=>by
  have e:(n.text == n.text)=true:=by rw [beq_toListBytes];simp
  cases d <;> simp [Instr.sameBits,jEB,jBR,e]
 exact h 9999
theorem jBZ:KeyOK prog 176 jIF:=by
 refine KeyOK.of_struct underlying176 ?_ ?_ ?_
 ·rintro _ ⟨n,rfl⟩ em w;kernel_rfl
 ·rintro _ _ w ⟨n,rfl⟩ ⟨n',rfl⟩;refine ⟨decide (n=n'),?_,by simp only [jFX,decide_eq_true_eq];exact eq_comm⟩;obtain ⟨k,f,t,u,x,a,b⟩:=n;obtain ⟨k',f',t',u',x',a',b'⟩:=n';simp [Op.equal,Op.maxDepth,go_sem,jGR,jEB,jBR]
  repeat' split
  all_goals simp_all
 ·rintro _ ⟨n,rfl⟩;exact jFS n
theorem jDJ:SlType prog 166 250 9 (16*5):=by
 refine ⟨underlying166,⟨t250,_,by kernel_rfl,(by kernel_rfl:t250.zero=some (.agg #[.int .i64 0,.int .i64 0,.int .i64 0,.int .u64 0,.string ⟨#[]⟩,.int .i64 0,.int .i64 0,.int .i64 0,.int .i64 0])),by kernel_rfl,by kernel_rfl,rfl⟩,by omega⟩
theorem jOC {L:Sp.Pool} {i:Nat} {n:Sp.Node} {v:Value} (h:(tK L)[i]?=some (jEB n,v)):∃e,L[i]?=some e∧e.node=n∧v=.int .i64 (i+1:Nat):=by
 simp only [tK,List.getElem?_map,List.getElem?_zipIdx,Option.map_map,Option.map_eq_some_iff] at h;obtain ⟨e,he,h⟩:=h;simp only [Function.comp,Prod.mk.injEq] at h;exact ⟨e,he,jFX.1 h.1,by rw [← h.2];simp⟩
theorem jOB {L:Sp.Pool} {n:Sp.Node} (h:∀q∈tK L,q.1≠jEB n):∀e∈L,e.node≠n:=by
 intro e he hn;obtain ⟨i,hi,rfl⟩:=List.mem_iff_getElem.1 he;refine h (jEB L[i].node,.int .i64 (i+1:Nat)) ?_ (by rw [hn]);exact List.mem_map.2 ⟨(L[i],i),by rw [List.mem_zipIdx_iff_getElem?];simp [hi],rfl⟩
theorem jDX {L:Sp.Pool}:∀q∈tK L,jIF q.1:=by
 intro q hq;obtain ⟨x,_,rfl⟩:=List.mem_map.1 hq;exact ⟨_,rfl⟩
theorem jMI (L:Sp.Pool) (e:Sp.Ent):tK (L++[e])=tK L++[(jEB e.node,.int .i64 (L.length+1:Nat))]:=by
 simp [tK,List.zipIdx_append]
theorem jMU {L:Sp.Pool} (hok:Sp.Ok L) {i:Nat} {e:Sp.Ent} (h:L[i]?=some e):Sp.find L e.node=some i:=by
 obtain ⟨hi,rfl⟩:=List.getElem?_eq_some_iff.1 h;unfold Sp.find;rw [List.findIdx?_eq_some_iff_getElem];refine ⟨hi,by simp,fun j hj=>?_⟩;have hnd:=hok.nodup;simp only [decide_eq_true_eq];intro e;exact List.pairwise_iff_getElem.1 hnd j i (by simp;omega) (by simpa using hi) hj (by simpa using e)
theorem jHN {L:Sp.Pool} {n:Sp.Node} (h:∀e∈L,e.node≠n):Sp.find L n=none:=by
 unfold Sp.find;rw [List.findIdx?_eq_none_iff];intro e he;simpa using h e he
theorem jKM (p:Addr) (k f t u:Int) (x:ByteArray) (a b:Int) (w:World) {L:Sp.Pool} {F:NP} (hP:vD w p L F) (hok:Sp.Ok L) :
  Calls prog 161 #[.pointer (some p),.agg #[.int .i64 k,.int .i64 f,.int .i64 t,.int .u64 u,.string x,.int .i64 a,.int .i64 b]] w
   (fun e w'=>∃r1:Int,∃r2:Int,e=.returned (.tuple #[.int .i64 r1,.int .i64 r2])∧((r1,r2)=((Sp.make L ⟨k,f,t,u,x,a,b⟩).1,(Sp.make L ⟨k,f,t,u,x,a,b⟩).2.1)∧∃F',vD w' p (Sp.make L ⟨k,f,t,u,x,a,b⟩).2.2 F'∧Ext F w w'∧∀b,F' b→F b∨w.heap.size≤b)):=by
 suffices key:∀K:Int→Int→WP,(∀r1 r2 w',((r1,r2)=((Sp.make L ⟨k,f,t,u,x,a,b⟩).1,(Sp.make L ⟨k,f,t,u,x,a,b⟩).2.1)∧∃F',vD w' p (Sp.make L ⟨k,f,t,u,x,a,b⟩).2.2 F'∧Ext F w w'∧∀b,F' b→F b∨w.heap.size≤b)→K r1 r2 w')→m_Y1 (some p) k f t u x a b w K from
  w_Y1 _ _ _ _ _ _ _ _ w _ (key _ (fun _ _ _ h=>h))
 intro K hK
 unfold m_Y1
 intro p2 w1 h1
 have b1:=Box.of_new h1
 have E1:Pure w w1:=Ext.new h1
 have o2:¬ F p2.block:=fun h=>by have:=hP.lt h;have:=h1.at_size;omega
 refine Br.f rfl ⟨_,_,_,_,_,_,_,b1.row,?_⟩
 refine (jQG p k f t u x a b w1 (hP.pure E1) hok).mono ?_
 rintro _ w2 ⟨sz,dp,er,rfl,hck,E2⟩
 refine ⟨_,_,_,rfl,?_⟩
 generalize hn:(⟨k,f,t,u,x,a,b⟩:Sp.Node)=n at *
 have E3:Pure w w2:=E1.trans E2
 have jDM:∀w',Pure w w'→∃F',vD w' p L F'∧Ext F w w'∧∀b,F' b→F b∨w.heap.size≤b:=fun w' E=>⟨F,hP.pure E,E.pure,fun _ h=>.inl h⟩
 refine ⟨fun h=>hK _ _ _ ?_,fun h=>?_⟩
 ·have he:er≠0:=by simpa using h
  have:Sp.make L n=(0,er,L):=by unfold Sp.make;simp [← hck,he]
  rw [this];exact ⟨rfl,jDM _ E3⟩
 ·have he:er=0:=by simpa using h
  subst he
  intro w3 hw3
  have E4:Pure w w3:=by rw [hw3];exact E3.trans (Ext.drew w2)
  have b3:=(b1.pure E2).pure (show Pure w2 w3 by rw [hw3];exact Ext.drew w2)
  clear hw3
  obtain ⟨s,m,hS,hF⟩:=hP.pure E4
  refine ⟨p,rfl,_,hS.box.cell (i:=1) rfl,_,_,_,_,_,_,_,b3.row,?_⟩
  have hkey:(Value.agg #[.int .i64 k,.int .i64 f,.int .i64 t,.int .u64 u,.string x,.int .i64 a,.int .i64 b])=jEB n:=by rw [← hn];rfl
  rw [hkey]
  rcases hS.map.lookup (P:=prog) (T:=167) (E:=78) underlying167 jBZ jDX ⟨n,rfl⟩ (zeroValue78 _) true with ⟨hnot,hrun⟩ | ⟨i,v,hi,hrun⟩
  ·refine ⟨_,_,hrun,Br.f rfl ⟨p,rfl,s,hS.box.cell0,?_⟩⟩
   have hno:=jOB hnot
   have hfn:=jHN hno
   have hlen:(s.len:Int)=L.length:=by rw [hS.rows.len];simp
   refine ⟨fun h=>hK _ _ _ ?_,fun h=>?_⟩
   ·have h2:65536≤L.length:=by have h:=of_decide_eq_true h;omega
    have:Sp.make L n=(0,6,L):=by unfold Sp.make;simp [← hck,hfn,h2]
    rw [this];exact ⟨rfl,jDM _ E4⟩
   ·have h2:¬ 65536≤L.length:=by have h:=of_decide_eq_false h;omega
    have hmk:Sp.make L n=((L.length:Int)+1,0,L++[⟨n,sz,dp⟩]):=by unfold Sp.make;simp [← hck,hfn,h2]
    refine ⟨fun w'=>w'.cell? p=some s.v∧Row w' p2 (jBR n),⟨?_,?_⟩,?_⟩
    ·exact Ext.cell (F:=None) (Ext.drew w3) hS.box.cell0 id
    ·rw [← hn];exact Ext.row (F:=None) (Ext.drew w3) b3.row id
    intro w4 hw4
    have E5:Pure w3 w4:=by rw [hw4];exact Ext.drew w3
    clear hw4
    have hS4:PoolS w4 p L s m:=by
     exact ⟨hS.box.pure E5,hS.rows.pure E5,hS.map.ext E5 id,hS.n1,hS.n2,hS.n3⟩
    have b4:=b3.pure E5
    refine ⟨p,rfl,s,fun w' h=>h.1,k,f,t,u,x,a,b,fun w' h=>by have:=h.2;rw [← hn] at this;exact this,?_⟩
    intro p3 w5 h5
    have E6:Pure w4 w5:=Ext.new h5
    have o3:w.heap.size≤p3.block:=New.own (E4.trans E5) h5
    have b5:=Box.of_new h5
    have hrows5:=hS4.rows.pure E6
    have hbox5:=hS4.box.pure E6
    have hmap5:CMap w5 m (tK L):=hS4.map.ext E6 id
    have b45:=b4.pure E6
    have hrow:Row w5 p3 (jLH ⟨n,sz,dp⟩):=by rw [← hn];exact b5.row
    refine ⟨⟨hbox5.cell0,by rw [← hn];exact b45.row⟩,?_⟩
    obtain ⟨s1,w6,hr6,hrows6,E7,hb6⟩:=hrows5.append (P:=prog) (ty:=166) jDJ (c:=1) hrow (by simp [jLH,jBR]) (by simp [jLH,jBR,qE]) (by simp;omega) (by simp [maxLen];omega)
    have nb:∀b,s.blk b→b≠p2.block:=fun b hb e=>o2 (by rw [← e];exact (hF b).2 (.inr (.inl hb)))
    have hbox6:=hbox5.ext E7 hS.n2
    have hmap6:=hmap5.ext E7 hS.n3
    have b6:=b45.ext E7 (fun h=>nb _ h rfl)
    refine ⟨s1,w6,hr6,⟨hbox6.cell0,by rw [← hn];exact b6.row⟩,p,rfl,hbox6.canW0 (by simp),?_⟩
    intro w7 hw7
    have hbox7:Box w7 p [s1.v,.map (some m)] 169:=by rw [hw7];exact hbox6.set0
    have E8:Ext (·=p.block) w6 w7:=by rw [hw7];exact Ext.setCell p _
    clear hw7
    have hs1p:¬ s1.blk p.block:=fun h=>(hb6 _ h).elim hS.n2 (fun h=>by have:=hbox5.lt;omega)
    have hs1m:¬ s1.blk m:=fun h=>(hb6 _ h).elim hS.n3 (fun h=>by have:=hmap5.lt;omega)
    have hrows7:=hrows6.ext E8 (fun b hb e=>hs1p (by rw [← e];exact hb))
    have hmap7:=hmap6.ext E8 hS.n1
    have b7:=b6.ext E8 (fun e=>o2 (by rw [e];exact (hF _).2 (.inl rfl)))
    have hl1:(s1.len:Int)=L.length+1:=by rw [hrows6.len];simp
    refine ⟨p,rfl,s1,hbox7.cell0,?_⟩
    refine ⟨fun w'=>w'.cell? (p.add 1)=some (.map (some m))∧Row w' p2 (jBR n),⟨?_,?_⟩,?_⟩
    ·exact Ext.cell (F:=None) (Ext.drew w7) (hbox7.cell (i:=1) rfl) id
    ·rw [← hn];exact Ext.row (F:=None) (Ext.drew w7) b7.row id
    intro w8 hw8
    have E9:Pure w7 w8:=by rw [hw8];exact Ext.drew w7
    clear hw8
    refine ⟨p,rfl,some m,fun w' h=>h.1,k,f,t,u,x,a,b,fun w' h=>by have:=h.2;rw [← hn] at this;exact this,?_⟩
    rw [hkey,hl1]
    have hmap8:CMap w8 m (tK L):=hmap7.ext E9 id
    obtain ⟨w9,hr9,hmap9,E10⟩:=hmap8.insert (P:=prog) (v:=.int .i64 ((L.length:Int)+1)) underlying167 jBZ jDX ⟨n,rfl⟩ hnot
    refine ⟨w9,hr9,hK _ _ _ ?_⟩
    rw [hmk]
    have hbox9:=(hbox7.pure E9).ext E10 (fun e=>hS.n1 e.symm)
    have hrows9:=(hrows7.pure E9).ext E10 (fun b hb e=>hs1m (by rw [← e];exact hb))
    refine ⟨rfl,fun b=>b=p.block∨s1.blk b∨b=m,⟨s1,m,⟨hbox9,?_,?_,hS.n1,hs1p,hs1m⟩,fun _=>Iff.rfl⟩,?_,?_⟩
    ·simpa using hrows9
    ·rw [jMI];simpa using hmap9
    ·have hF':∀b,F b↔(b=p.block∨s.blk b∨b=m):=hF
     have Ea:Ext F w w5:=((E4.trans E5).trans E6).pure
     have Eb:Ext F w w6:=Ea.trans' E7 (fun i _ h=>(hF' i).2 (.inr (.inl h)))
     have Ec:Ext F w w7:=Eb.trans' E8 (fun i _ h=>(hF' i).2 (.inl h))
     have Ed:Ext F w w8:=Ec.thenPure E9
     exact Ed.trans' E10 (fun i _ h=>(hF' i).2 (.inr (.inr h)))
    ·intro b hb
     rcases hb with rfl | hb | rfl
     ·exact .inl ((hF _).2 (.inl rfl))
     ·rcases hb6 b hb with h | h
      ·exact .inl ((hF _).2 (.inr (.inl h)))
      ·right;have:=((E4.trans E5).trans E6).size;omega
     ·exact .inl ((hF _).2 (.inr (.inr rfl)))
  ·obtain ⟨e,he,hen,rfl⟩:=jOC hi
   refine ⟨_,_,hrun,Br.t rfl (hK _ _ _ ?_)⟩
   have hfd:=jMU hok he
   rw [hen] at hfd
   have:Sp.make L n=((i:Int)+1,0,L):=by unfold Sp.make;simp [← hck,hfd]
   rw [this];exact ⟨by simp,jDM _ E4⟩
end Go.Proofs
end
section
namespace Go.Sp
inductive Tree where
 | mk (k f t u:Int) (x:ByteArray) (kids:List Tree)
def Tree.kids:Tree→List Tree | .mk _ _ _ _ _ ks=>ks
def Tree.node:Tree→Node | .mk k f t u x _=>⟨k,f,t,u,x,0,0⟩
theorem Tree.ind {P:Tree→Prop} (h:∀k f t u x (ks:List Tree),(∀i (hi:i<ks.length),P ks[i])→P (.mk k f t u x ks)) (t:Tree):P t:=by
 refine Tree.rec (motive_1:=P) (motive_2:=fun ks=>∀i (hi:i<ks.length),P ks[i]) ?_ ?_ ?_ t
 ·intro k f t u x ks ih;exact h _ _ _ _ _ _ ih
 ·intro i hi;simp at hi
 ·intro t ks ht hks i hi;cases i with
  | zero=>exact ht
  | succ i=>exact hks i (by simpa using hi)
def yX (n:Node) (len:Nat):Int :=
 let e:=if vC n=0 then if (len:Int)≠(shapeOf n.kind).kids then 53 else 0 else vC n
 if e=0 then vB (shapeOf n.kind) n else e
mutual
def qJ (inside seen:Int):Tree→Int×Int
 | .mk k f t u x ks=>if 4096≤seen then (52,seen) else if 64≤inside then (52,seen) else vJ (inside+1) (yX ⟨k,f,t,u,x,0,0⟩ ks.length) (seen+1) ks
def vJ (inside e seen:Int):List Tree→Int×Int
 | []=>(e,seen)
 | t :: ts=>if e=0 then vJ inside (qJ inside seen t).1 (qJ inside seen t).2 ts else (e,seen)
end
mutual
def grow (L:Pool):Tree→Int×Int×Pool
 | .mk k f t u x ks=>vG ⟨k,f,t,u,x,0,0⟩ 0 L ks
def vG (n:Node) (i:Nat) (L:Pool):List Tree→Int×Int×Pool
 | []=>make L n
 | t :: ts=>if (grow L t).2.1≠0 then (0,(grow L t).2.1,(grow L t).2.2) else vG (if i=0 then { n with a:=(grow L t).1 } else { n with b:=(grow L t).1 }) (i+1) (grow L t).2.2 ts
end
def of (L:Pool) (t:Tree):Int×Int×Pool :=
 if (qJ 0 0 t).1≠0 then (0,(qJ 0 0 t).1,L)
 else if (grow L t).2.1≠0 then (0,(grow L t).2.1,L) else ((grow L t).1,0,(grow L t).2.2)
theorem jEV (L:Pool) (n:Node):∃M,(make L n).2.2=L++M:=by
 unfold make;simp only;by_cases hc:(check L n).2.2=0
 ·simp only [hc];rw [if_neg (by simp)];split
  ·exact ⟨[],by simp⟩
  ·split
   ·exact ⟨[],by simp⟩
   ·exact ⟨_,rfl⟩
 ·rw [if_pos hc];exact ⟨[],by simp⟩
theorem jOO {L:Pool} {n:Node} (hok:Ok L) (h:(check L n).2.2=0):1≤(check L n).1∧(check L n).1≤4096∧1≤(check L n).2.1∧(check L n).2.1≤64:=by
 unfold check at h ⊢;simp only at h ⊢;by_cases h1:vC n≠0
 ·rw [if_pos h1] at h;exact absurd h h1
 rw [if_neg h1] at h ⊢;split at h
 ·simp at h
 rename_i h2;rw [if_neg h2];by_cases h3:vB (shapeOf n.kind) n≠0
 ·rw [if_pos h3] at h;exact absurd h h3
 rw [if_neg h3] at h ⊢;split at h
 ·simp at h
 rename_i h4;rw [if_neg h4];split at h
 ·simp at h
 rename_i h5;rw [if_neg h5];have hs:∀l:List Int,0≤(l.map (sizeOf L)).sum:=by
  intro l;induction l with
  | nil=>simp
  | cons y l ih=>have:=hok.sizeOf y;simp only [List.map_cons,List.sum_cons];omega
 have hd:∀(l:List Int) (d:Int),0≤d→0≤l.foldl (fun d t=>max d (depthOf L t)) d:=by
  intro l;induction l with
  | nil=>intro d h;exact h
  | cons y l ih=>intro d h;exact ih (max d (depthOf L y)) (by omega)
 have:=hs (zS n);have:=hd (zS n) 0 (by omega);simp only;omega
theorem jEC {L:Pool} (hok:Ok L) (n:Node):Ok (make L n).2.2:=by
 by_cases hc:(check L n).2.2=0
 ·have:=jOO hok hc;unfold make;simp only [hc];rw [if_neg (by simp)];split
  ·exact hok
  ·rename_i hf;split
   ·exact hok
   ·rename_i hl;refine ⟨by simp;omega,?_,?_,?_⟩
    ·rw [List.map_append,List.nodup_append];refine ⟨hok.nodup,by simp,?_⟩;intro a ha b hb;simp only [List.map_cons,List.map_nil,List.mem_singleton] at hb;subst hb;obtain ⟨e,he,rfl⟩:=List.mem_map.1 ha;unfold find at hf;rw [List.findIdx?_eq_none_iff] at hf;simpa using hf e he
    ·intro e he;rcases List.mem_append.1 he with h | h
     ·exact hok.size e h
     ·simp only [List.mem_singleton] at h;subst h;simp;omega
    ·intro e he;rcases List.mem_append.1 he with h | h
     ·exact hok.depth e h
     ·simp only [List.mem_singleton] at h;subst h;simp;omega
 ·unfold make;simp only;rw [if_pos hc];exact hok
theorem uY (t:Tree):∀L,Ok L→Ok (grow L t).2.2∧∃M,(grow L t).2.2=L++M:=by
 induction t using Tree.ind with
 | h k f t u x ks ih =>
  have:∀(ks:List Tree),(∀i (hi:i<ks.length),∀L,Ok L→Ok (grow L ks[i]).2.2∧∃M,(grow L ks[i]).2.2=L++M)→∀n i L,Ok L→Ok (vG n i L ks).2.2∧∃M,(vG n i L ks).2.2=L++M:=by
   intro ks;induction ks with
   | nil=>intro _ n i L h;unfold vG;exact ⟨jEC h n,jEV L n⟩
   | cons t ts iht =>
    intro hh n i L h
    have h0:=hh 0 (by simp) L h
    simp only [List.getElem_cons_zero] at h0
    unfold vG
    split
    ·exact h0
    ·obtain ⟨ho,M,hM⟩:=h0
     have:=iht (fun i hi=>hh (i+1) (by simpa using hi)) (if i=0 then { n with a:=(grow L t).1 } else { n with b:=(grow L t).1 }) (i+1) (grow L t).2.2 ho
     refine ⟨this.1,?_⟩
     obtain ⟨M2,hM2⟩:=this.2
     exact ⟨M++M2,by rw [hM2,hM,List.append_assoc]⟩
  intro L h
  unfold grow
  exact this ks ih _ _ L h
def isNum (n:Int):Prop:=0≤n∧n<18446744073709551616
inductive NumT:Tree→Prop
 | mk (k f t u:Int) (x:ByteArray) (ks:List Tree) (own:isNum u) (kids:∀i (hi:i<ks.length),NumT ks[i]):NumT (.mk k f t u x ks)
end Go.Sp
end
section
open Go Go.SE
namespace Go.Proofs
open Tryz
attribute [local irreducible] Calls
def qU (t:Sp.Tree) (s:Sl):List Value:=[.int .i64 t.node.kind,.int .i64 t.node.frm,.int .i64 t.node.to,.int .u64 t.node.num,.string t.node.text,s.v]
inductive TreeAt (S:NP) (w:World):Sl→Sp.Tree→Prop
 | mk (k f t u : Int) (x : ByteArray) (ks : List Sp.Tree) (s : Sl) (rs : Nat → Sl) (len : s.len = ks.length) (fit : ks.length ≤ 9223372036854775807)
   (row:∀i (h:i<ks.length),∃a,At s i 6 a∧S a.block∧Row w a (qU ks[i] (rs i))) (kid:∀i (h:i<ks.length),TreeAt S w (rs i) ks[i]):TreeAt S w s (.mk k f t u x ks)
theorem TreeAt.ext {S F:NP} {w w':World} {s:Sl} {t:Sp.Tree} (h:TreeAt S w s t) (hE:Ext F w w') (hd:∀b,S b→¬ F b):TreeAt S w' s t:=by
 induction h with
 | mk k f t u x ks s rs len fit row kid ih =>
  exact .mk k f t u x ks s rs len fit (fun i h=>let ⟨a,h1,h2,h3⟩:=row i h;⟨a,h1,h2,hE.row h3 (hd _ h2)⟩) ih
theorem TreeAt.pure {S:NP} {w w':World} {s:Sl} {t:Sp.Tree} (h:TreeAt S w s t) (hE:Pure w w'):TreeAt S w' s t:=h.ext hE (fun _ _ h=>h)
theorem TreeAt.mono {S S':NP} {w:World} {s:Sl} {t:Sp.Tree} (h:TreeAt S w s t) (hd:∀b,S b→S' b):TreeAt S' w s t:=by
 induction h with
 | mk k f t u x ks s rs len fit row kid ih =>
  exact .mk k f t u x ks s rs len fit (fun i h=>let ⟨a,h1,h2,h3⟩:=row i h;⟨a,h1,hd _ h2,h3⟩) ih
theorem TreeAt.lt {S:NP} {w:World} {s:Sl} {t:Sp.Tree} (h:TreeAt S w s t):TreeAt (fun b=>S b∧b<w.heap.size) w s t:=by
 induction h with
 | mk k f t u x ks s rs len fit row kid ih =>
  refine .mk k f t u x ks s rs len fit (fun i h=>let ⟨a,h1,h2,h3⟩:=row i h;⟨a,h1,⟨h2,?_⟩,h3⟩) ih
  have:=h3 0 (by simp [qU])
  unfold World.cell? at this
  refine Classical.byContradiction fun hge=>?_
  have:w.heap[(a.add 0).block]?=none:=by rw [zW];exact Array.getElem?_eq_none (by omega)
  simp_all [qU]
theorem jKI (k f t u:Int) (x:ByteArray) (s:Sl) (w:World) :
  Calls prog 200 #[.agg #[.int .i64 k,.int .i64 f,.int .i64 t,.int .u64 u,.string x,s.v]] w
   (fun e w'=>∃k':Int,∃f':Int,∃t':Int,∃u':Int,∃x':ByteArray,∃a:Int,∃b:Int,e=.returned (.agg #[.int .i64 k',.int .i64 f',.int .i64 t',.int .u64 u',.string x',.int .i64 a,.int .i64 b])∧((⟨k',f',t',u',x',a,b⟩:Sp.Node)=⟨k,f,t,u,x,0,0⟩∧Pure w w')):=by
 refine w_T2 _ _ _ _ _ _ w (fun k' f' t' u' x' a b w'=>(⟨k',f',t',u',x',a,b⟩:Sp.Node)=⟨k,f,t,u,x,0,0⟩∧Pure w w') ?_
 unfold m_T2
 intro p1 w1 h1 p2 w2 h2
 have E1:Pure w w1:=Ext.new h1
 have b1:=(Box.of_new h1).pure (Ext.new h2)
 refine ⟨_,b1.cell0,_,b1.cell rfl,_,b1.cell rfl,_,b1.cell rfl,_,b1.cell rfl,?_⟩
 exact bx 7 (Box.of_new h2) rfl rfl (fun w' b E=>⟨_,_,_,_,_,_,_,b.row,rfl,(E1.trans (Ext.new h2)).own (New.own E1 h2) E⟩)
theorem jEW (t:Sp.Tree):∀i n:Int,0≤n→0≤(Sp.qJ i n t).2:=by
 induction t using Sp.Tree.ind with
 | h k f t u x ks ih =>
  have:∀(ks:List Sp.Tree),(∀i (hi:i<ks.length),∀j n:Int,0≤n→0≤(Sp.qJ j n ks[i]).2)→∀i e n:Int,0≤n→0≤(Sp.vJ i e n ks).2:=by
   intro ks;induction ks with
   | nil=>intro _ i e n h;simpa [Sp.vJ] using h
   | cons t ts iht =>
    intro hh i e n h
    unfold Sp.vJ
    split
    ·exact iht (fun i hi=>hh (i+1) (by simpa using hi)) _ _ _ (hh 0 (by simp) i n h)
    ·exact h
  intro i n h
  unfold Sp.qJ
  split
  ·exact h
  ·split
   ·exact h
   ·exact this ks ih _ _ _ (by omega)
theorem jBL {ks:List Sp.Tree} {j:Nat} (hj:j<ks.length) (i n:Int):Sp.vJ i 0 n (ks.drop j)=Sp.vJ i (Sp.qJ i n ks[j]).1 (Sp.qJ i n ks[j]).2 (ks.drop (j+1)):=by
 rw [List.drop_eq_getElem_cons hj,Sp.vJ,if_pos rfl]
theorem jCH {ks:List Sp.Tree} {e:Int} (h:e≠0) (i n:Int):Sp.vJ i e n ks=(e,n):=by
 cases ks <;> simp [Sp.vJ,h]
theorem jQE {S:NP} (q:Addr) (hq:¬ S q.block) (T:TypeId) (t:Sp.Tree):∀(s:Sl) (inside seen:Int) (w:World),0≤inside→0≤seen→TreeAt S w s t→Box w q [.int .i64 seen] T →
  Calls prog 144 #[.agg (qU t s).toArray,.int .i64 inside,.pointer (some q)] w
   (fun e w'=>∃r:Int,e=.returned (.int .i64 r)∧(r=(Sp.qJ inside seen t).1∧Box w' q [.int .i64 (Sp.qJ inside seen t).2] T∧Ext (·=q.block) w w')):=by
 induction t using Sp.Tree.ind with
 | h k f t u x ks ih =>
 intro s inside seen w hi0 hn0 hT hB
 suffices key:∀K:Int→WP,(∀r w',(r=(Sp.qJ inside seen (.mk k f t u x ks)).1∧Box w' q [.int .i64 (Sp.qJ inside seen (.mk k f t u x ks)).2] T∧Ext (·=q.block) w w')→K r w')→m_I k f t u x s inside (some q) w K from
  w_I _ _ _ _ _ _ _ _ w _ (key _ (fun _ _ h=>h))
 intro K hK
 unfold m_I
 intro p1 w1 h1
 have b1:=Box.of_new h1
 have E1:Pure w w1:=Ext.new h1
 have n1:q.block≠p1.block:=New.ne h1 hB.blk
 have hB1:=hB.pure E1
 have hT1:=hT.pure E1
 refine ⟨q,rfl,seen,hB1.cell0,fun h=>?_,fun h=>⟨fun h'=>?_,fun h'=>?_⟩⟩
 ·have h:=of_decide_eq_true h
  have:Sp.qJ inside seen (.mk k f t u x ks)=(52,seen):=by rw [Sp.qJ,if_pos (by omega)]
  rw [this] at hK;exact hK _ _ ⟨rfl,hB1,E1.pure⟩
 ·have h:=of_decide_eq_false h;have h':=of_decide_eq_true h'
  have:Sp.qJ inside seen (.mk k f t u x ks)=(52,seen):=by rw [Sp.qJ,if_neg (by omega),if_pos (by omega)]
  rw [this] at hK;exact hK _ _ ⟨rfl,hB1,E1.pure⟩
 have h:=of_decide_eq_false h;have h':=of_decide_eq_false h'
 have hsp:Sp.qJ inside seen (.mk k f t u x ks)=Sp.vJ (inside+1) (Sp.yX ⟨k,f,t,u,x,0,0⟩ ks.length) (seen+1) ks:=by rw [Sp.qJ,if_neg (by omega),if_neg (by omega)]
 rw [hsp] at hK
 unfold m_I_j1
 refine ⟨q,rfl,seen,hB1.cell0,q,rfl,hB1.canW0 (by simp),?_⟩
 rw [i64 (n:=seen+1) (by omega) (by omega)]
 intro w2 hw2
 have hB2:Box w2 q [.int .i64 (seen+1)] T:=by rw [hw2];exact hB1.set0
 have E12:Ext (·=q.block) w1 w2:=by rw [hw2];exact Ext.setCell q _
 clear hw2
 have b2:=b1.ext E12 (fun e=>n1 e.symm)
 have hT2:=hT1.ext E12 (fun b hb e=>hq (e▸hb))
 have E2:Ext (·=q.block) w w2:=E1.pure.trans E12
 refine ⟨_,_,_,_,_,_,b2.row,?_⟩
 refine (jKI _ _ _ _ _ _ w2).mono ?_
 rintro _ w3 ⟨k',f',t',u',x',a',b',rfl,hn,E23⟩
 cases hn
 refine ⟨_,_,_,_,_,_,_,rfl,?_⟩
 intro p2 w4 h4
 have n2:p1.block≠p2.block:=New.ne h4 (b2.pure E23).blk
 have E24:Pure w2 w4:=E23.trans (Ext.new h4)
 have o2:=New.own E23 h4
 refine bx 7 (Box.of_new h4) rfl rfl (fun w5 c2 E45=>?_)
 have E25:Pure w2 w5:=E24.own o2 E45
 refine ⟨_,_,_,_,_,_,_,c2.row,?_⟩
 refine (jNE _ _ _ _ _ _ _ w5).mono ?_
 rintro _ w6 ⟨s1,s2,s3,s4,s5,pe,rfl,⟨hs,hpe⟩,E56⟩
 refine ⟨_,_,_,_,_,_,rfl,?_⟩
 intro p3 w7 h7
 have n3:p2.block≠p3.block:=New.ne h7 (c2.pure E56).blk
 have E27:Pure w2 w7:=(E25.trans E56).trans (Ext.new h7)
 have o3:=New.own (E25.trans E56) h7
 refine bx 5 (Box.of_new h7) rfl rfl (fun w8 c3 E78=>?_)
 have E28:Pure w2 w8:=E27.own o3 E78
 have d2:=((c2.pure E56).pure (Ext.new h7)).ext E78 n3
 have d1:=b2.pure E28
 have hB8:=hB2.pure E28
 have hT8:=hT2.pure E28
 have E8:Ext (·=q.block) w w8:=E2.thenPure E28
 clear E78 E27 E56 E25 E45 E24 E23 E12 c2 b2 b1 hT2 hT1 hB1 h1 h4 h7
 have hlen:s.len=ks.length:=by cases hT;assumption
 have hfit:ks.length≤9223372036854775807:=by cases hT;assumption
 have hsh:Sp.shapeOf k=⟨s1,s2,s3,s4,s5⟩:=hs.symm
 have J3:∀e w',Pure w8 w'→e=Sp.yX ⟨k,f,t,u,x,0,0⟩ ks.length→m_I_j3 inside (some q) p1 e w' K:=by
  intro e w' E hown;rw [← hown] at hK;unfold m_I_j3;refine ⟨fun e i w'=>∃j:Nat,i=j∧j≤ks.length∧∃n:Int,0≤n∧Ext (·=q.block) w8 w'∧Box w' q [.int .i64 n] T∧Sp.vJ (inside+1) e n (ks.drop j)=Sp.vJ (inside+1) (Sp.yX ⟨k,f,t,u,x,0,0⟩ ks.length) (seen+1) ks,fun _ i _=>((ks.length:Int) - i).toNat,⟨0,rfl,Nat.zero_le _,seen+1,by omega,E.pure,hB8.pure E,by rw [hown];rfl⟩,?_⟩;rintro e1 _ wl ⟨j,rfl,hj,n,hn,El,hBl,heq⟩;unfold m_I_l4;have dl:=d1.ext El (fun e=>n1 e.symm);have hTl:=hT8.ext El (fun b hb e=>hq (e▸hb));rw [← hown] at heq;have fin:∀n',Sp.vJ (inside+1) e ((seen:Int)+1) ks=(e1,n')→n'=n→K e1 wl:=by
   rintro n' h rfl;refine hK _ _ ⟨by rw [h],by rw [h];exact hBl,E8.trans El⟩
  refine ⟨s,dl.cell rfl,fun hlt=>⟨fun he=>?_,fun he=>?_⟩,fun hlt=>?_⟩
  ·have hlt:j<ks.length:=by have h:=of_decide_eq_true hlt;omega
   have he:e1=0:=by simpa using he
   subst he;cases hTl with
   | mk _ _ _ _ _ _ _ rs len fit row kid =>
   obtain ⟨a,hat,ha,hr⟩:=row j hlt;refine ⟨s,dl.cell rfl,a,hat,_,_,_,_,_,rs j,hr,?_⟩;rw [i64 (n:=inside+1) (by omega) (by omega)];refine (ih j hlt (rs j) (inside+1) n wl (by omega) hn (kid j hlt) hBl).mono ?_;rintro _ w9 ⟨r,rfl,rfl,hB9,E9⟩;rw [jBL hlt] at heq;refine ⟨_,rfl,⟨j+1,?_,hlt,_,jEW _ _ _ hn,El.trans E9,hB9,by rw [← hown];exact heq⟩,?_⟩
   ·rw [i64 (by omega) (by omega)];omega
   ·show ((ks.length:Int) - IntKind.i64.wrap ((j:Int)+1)).toNat<((ks.length:Int) - (j:Int)).toNat;rw [i64 (by omega) (by omega)];omega
  ·have he:e1≠0:=by simpa using he
   rw [jCH he] at heq;exact fin _ heq.symm rfl
  ·have hge:j=ks.length:=by have h:=of_decide_eq_false hlt;omega
   rw [hge,List.drop_length,Sp.vJ] at heq;exact fin _ heq.symm rfl
 have J2:∀e1,e1=(if pe=0 then if (ks.length:Int)≠s5 then 53 else 0 else pe)→m_I_j2 inside (some q) p1 p2 p3 e1 w8 K:=by
  intro e1 he1;have hown:Sp.yX ⟨k,f,t,u,x,0,0⟩ ks.length=if e1=0 then Sp.vB ⟨s1,s2,s3,s4,s5⟩ ⟨k,f,t,u,x,0,0⟩ else e1:=by
   unfold Sp.yX;simp only [hsh,← hpe,he1]
  unfold m_I_j2;refine ⟨fun h=>⟨_,_,_,_,_,c3.row,_,_,_,_,_,_,_,d2.row,?_⟩,fun h=>J3 _ _ (Ext.refl _) ?_⟩
  ·have h:e1=0:=by simpa using h
   refine (jKK _ _ _ _ _ _ _ _ _ _ _ _ _).mono ?_;rintro _ w9 ⟨_,rfl,rfl,E9⟩;exact ⟨_,rfl,J3 _ _ E9 (by rw [hown,if_pos h])⟩
  ·have h:e1≠0:=by simpa using h
   rw [hown,if_neg h]
 refine ⟨fun h=>⟨s,d1.cell rfl,s5,c3.cell rfl,fun h5=>J2 _ ?_,fun h5=>J2 _ ?_⟩,fun h=>J2 _ ?_⟩
 ·have h:pe=0:=by simpa using h
  have h5:(s.len:Int)≠s5:=by simpa using h5
  rw [if_pos h,if_pos (by omega)]
 ·have h:pe=0:=by simpa using h
  have h5:(s.len:Int)=s5:=by simpa using h5
  rw [if_pos h,if_neg (by omega),h]
 ·have h:pe≠0:=by simpa using h
  rw [if_neg h]
theorem c_New (w:World):Calls prog 61 #[] w (fun e w'=>∃r:Option Addr,e=.returned (.pointer r)∧∃p,r=some p∧Pure w w'∧∃F,vD w' p [] F∧∀b,F b→w.heap.size≤b):=by
 refine w_M2 w (fun r w'=>∃p,r=some p∧Pure w w'∧∃F,vD w' p [] F∧∀b,F b→w.heap.size≤b) ?_;unfold m_M2;intro p1 w1 h1 p2 w2 h2;have E1:Pure w w1:=Ext.new h1;have m2:CMap w2 p1.block []:=(CMap.of_new h1).ext (Ext.new h2:Pure w1 w2) id;have n12:p1.block≠p2.block:=New.ne h2 h1.block_new;refine ⟨p2,rfl,E1.trans (Ext.new h2),fun b=>b=p2.block∨Sl.nil.blk b∨b=p1.block,⟨Sl.nil,p1.block,⟨Box.of_new h2,by simpa using Rws.nil _ _ _,by simpa [tK] using m2,n12,?_,?_⟩,fun _=>Iff.rfl⟩,?_⟩
 ·rintro ⟨a,h,_⟩;cases h
 ·rintro ⟨a,h,_⟩;cases h
 ·rintro b (rfl | ⟨a,h,_⟩ | rfl)
  ·exact New.own E1 h2
  ·cases h
  ·exact New.own (Ext.refl w) h1
theorem jMH (L:Sp.Pool) (n:Nat):tK (L.take n)=(tK L).take n:=by
 apply List.ext_getElem?;intro i;simp only [tK,List.getElem?_map,List.getElem?_zipIdx,List.getElem?_take];split <;> simp
theorem jOD (L:Sp.Pool):(tK L).map (·.1)=(L.map (·.node)).map jEB:=by
 apply List.ext_getElem?;intro i;simp only [tK,List.getElem?_map,List.getElem?_zipIdx];cases L[i]? <;> simp
theorem c_cut (p:Addr) (n:Nat) (w:World) {L:Sp.Pool} {F:NP} (hP:vD w p L F) (hok:Sp.Ok L) (hn:n≤L.length) :
  Calls prog 146 #[.pointer (some p),.int .i64 n] w (fun e w'=>e=.returned (.tuple #[])∧vD w' p (L.take n) F∧Ext F w w'):=by
 suffices key:∀K:WP,(∀w',vD w' p (L.take n) F∧Ext F w w'→K w')→m_H1 (some p) n w K from
  w_H1 _ _ w _ (key _ (fun _ h=>h))
 intro K hK
 unfold m_H1
 obtain ⟨s,m,hS,hF⟩:=hP
 have hfew:=hok.few
 have hcap:s.len≤s.cap:=by
  have:=hS.rows.len;rcases hS.rows.own with ⟨rfl,_⟩ | ⟨g,cur,_,_,hc,_⟩
  ·simp [Sl.nil]
  ·omega
 obtain ⟨s1,hr1,hl1⟩:=hS.rows.lst.lo (P:=prog) jDJ hcap (k:=.i64) (n:=n) (by omega) (by simpa using hn)
 have hlen1:s1.len=L.length - n:=by rw [hl1.len];simp
 refine ⟨p,rfl,s,hS.box.cell0,s1,hr1,?_⟩
 refine ⟨fun x w'=>∃j:Nat,x=j∧j≤L.length - n∧Ext (·=m) w w'∧CMap w' m ((tK L).take n++(tK L).drop (n+j)),fun x _=>((L.length:Int) - x).toNat,⟨0,rfl,Nat.zero_le _,Ext.refl w,by simpa using hS.map⟩,?_⟩
 rintro _ wl ⟨j,rfl,hj,El,hml⟩
 have hboxl:=hS.box.ext El hS.n1.symm
 have hrowsl:=hS.rows.ext El (fun b hb e=>hS.n3 (e▸hb))
 unfold m_H1_l1
 refine ⟨fun h=>?_,fun h=>?_⟩
 ·have hlt:n+j<L.length:=by have h:=of_decide_eq_true h;omega
  have hll:=hl1.ext El (fun b hb e=>hS.n3 (e▸hb))
  obtain ⟨a,hat,_,hrow⟩:=hll.at_ j (by simp;omega)
  generalize he:L[n+j]=e at *
  have hrow':Row wl a (jLH e):=by
   have:((L.map jLH).drop ((n:Int).toNat))[j]'(by simp;omega)=jLH e:=by simp [he]
   rw [this] at hrow;exact hrow
  obtain ⟨nd,sz,dp⟩:=e
  obtain ⟨k,f,t,u,x,a1,b1⟩:=nd
  refine ⟨a,hat,_,_,_,_,_,_,_,_,_,hrow',?_⟩
  intro p2 w1 h1
  have E1:Pure wl w1:=Ext.new h1
  have o1:=New.own (Ext.refl wl) h1
  refine bx 9 (Box.of_new h1) rfl rfl (fun w2 b2 E=>?_)
  have E2:Pure wl w2:=E1.own o1 E
  refine ⟨fun w'=>w'.cell? (p.add 1)=some (.map (some m))∧Row w' p2 (jBR ⟨k,f,t,u,x,a1,b1⟩),⟨(hboxl.pure (E2.thenPure (Ext.drew w2))).cell (i:=1) rfl,?_⟩,?_⟩
  ·have : Row w2 p2 (jBR ⟨k, f, t, u, x, a1, b1⟩) := fun i hi => by
    have:=b2.row i (by simp [jBR] at hi ⊢;omega);rw [this];have h7:i<7:=by simpa [jBR] using hi
    have:i=0∨i=1∨i=2∨i=3∨i=4∨i=5∨i=6:=by omega
    rcases this with rfl | rfl | rfl | rfl | rfl | rfl | rfl <;> rfl
   exact Ext.row (F:=None) (Ext.drew w2) this id
  intro w3 hw3
  have E3:Pure wl w3:=by rw [hw3];exact E2.thenPure (Ext.drew w2)
  clear hw3
  refine ⟨p,rfl,some m,fun w' h=>h.1,k,f,t,u,x,a1,b1,fun w' h=>h.2,?_⟩
  have hm3:=hml.ext E3 id
  have hpl:(tK L).length=L.length:=by simp [tK]
  have hget:(tK L)[n+j]?=some (jEB ⟨k,f,t,u,x,a1,b1⟩,.int .i64 (n+j+1:Nat)):=by
   simp only [tK,List.getElem?_map,List.getElem?_zipIdx,List.getElem?_eq_getElem hlt,he];simp
  have hidx:((tK L).take n++(tK L).drop (n+j))[n]?=some (jEB ⟨k,f,t,u,x,a1,b1⟩,.int .i64 (n+j+1:Nat)):=by
   have e0:n+j+(n - ((tK L).take n).length)=n+j:=by rw [List.length_take];omega
   rw [List.getElem?_append_right (by rw [List.length_take];omega),List.getElem?_drop,e0,hget]
  have hnd:((tK L).map (·.1)).Nodup:=by
   rw [jOD,List.nodup_iff_pairwise_ne,List.pairwise_map];exact hok.nodup.imp (fun h e=>h (jFX.1 e))
  have hsub:List.Sublist ((tK L).take n++(tK L).drop (n+j)) (tK L):=by
   conv=>rhs;rw [← List.take_append_drop n (tK L)]
   refine (List.Sublist.refl _).append ?_;have e0:(tK L).drop (n+j)=((tK L).drop n).drop j:=by rw [List.drop_drop]
   rw [e0];exact List.drop_sublist _ _
  have hnd2:(((tK L).take n++(tK L).drop (n+j)).map (·.1)).Nodup:=hnd.sublist (hsub.map _)
  obtain ⟨w4,hr4,hm4,E4⟩:=hm3.delete (P:=prog) (Q:=176) (z:=0) underlying167 jBZ (fun q hq=>jDX q (hsub.subset hq)) ⟨_,rfl⟩ hidx (fun i u hi=>by
   obtain ⟨hi1,hi2⟩:=List.getElem?_eq_some_iff.1 hi;obtain ⟨hn1,hn2⟩:=List.getElem?_eq_some_iff.1 hidx;refine Classical.byContradiction fun hne=>?_;have hne:=List.pairwise_iff_getElem.1 hnd2;rcases Nat.lt_or_gt_of_ne ‹_› with hlt | hlt
   ·exact hne i n (by simpa using hi1) (by simpa using hn1) hlt (by rw [List.getElem_map,List.getElem_map,hi2,hn2])
   ·exact hne n i (by simpa using hn1) (by simpa using hi1) hlt (by rw [List.getElem_map,List.getElem_map,hi2,hn2]))
  refine ⟨w4,hr4,⟨j+1,?_,by omega,(El.trans E3.pure).trans E4,?_⟩,?_⟩
  ·rw [i64 (by omega) (by omega)];omega
  ·rw [List.eraseIdx_append_of_length_le (by rw [List.length_take];omega)] at hm4
   have:n - ((tK L).take n).length=0:=by rw [List.length_take];omega
   rw [this] at hm4
   have hd:((tK L).drop (n+j)).eraseIdx 0=(tK L).drop (n+(j+1)):=by
    rw [List.drop_eq_getElem_cons (by omega)];simp;rfl
   rw [hd] at hm4;exact hm4
  ·show ((L.length:Int) - IntKind.i64.wrap ((j:Int)+1)).toNat<((L.length:Int) - (j:Int)).toNat
   rw [i64 (by omega) (by omega)];omega
 ·have hge:n+j=L.length:=by have h:=of_decide_eq_false h;omega
  have hpl:(tK L).length=L.length:=by simp [tK]
  rw [hge,← hpl,List.drop_length,List.append_nil] at hml
  obtain ⟨s2,hr2,hrows2,hb2⟩:=hrowsl.hi (P:=prog) jDJ (k:=.i64) (n:=n) (by omega) (by simpa using hn)
  refine ⟨p,rfl,s,hboxl.cell0,s2,hr2,p,rfl,hboxl.canW0 (by simp),?_⟩
  rintro w5 hw5
  have hbox5:Box w5 p [s2.v,.map (some m)] 169:=by rw [hw5];exact hboxl.set0
  have E5:Ext (·=p.block) wl w5:=by rw [hw5];exact Ext.setCell p _
  clear hw5
  refine hK _ ⟨⟨s2,m,⟨hbox5,?_,?_,hS.n1,fun h=>hS.n2 ((hb2 _).1 h),fun h=>hS.n3 ((hb2 _).1 h)⟩,fun b=>by rw [hF b,hb2 b]⟩,?_⟩
  ·have:=hrows2.ext E5 (fun b hb e=>hS.n2 (by rw [← e];exact (hb2 _).1 hb))
   simpa using this
  ·rw [jMH];exact hml.ext E5 hS.n1
  ·exact (El.mono (fun i _ h=>(hF i).2 (.inr (.inr h)))).trans' E5 (fun i _ h=>(hF i).2 (.inl h))
theorem jEE {n:Sp.Node} {i:Nat} {L:Sp.Pool} {t:Sp.Tree} {ts:List Sp.Tree} (h:(Sp.grow L t).2.1≠0):Sp.vG n i L (t :: ts)=(0,(Sp.grow L t).2.1,(Sp.grow L t).2.2):=by rw [Sp.vG,if_pos h]
theorem jCI {n:Sp.Node} {i:Nat} {L:Sp.Pool} {t:Sp.Tree} {ts:List Sp.Tree} (h:(Sp.grow L t).2.1=0):Sp.vG n i L (t :: ts)=Sp.vG (if i=0 then { n with a:=(Sp.grow L t).1 } else { n with b:=(Sp.grow L t).1 }) (i+1) (Sp.grow L t).2.2 ts:=by rw [Sp.vG,if_neg (by simp [h])]
def Sp.Tree.two (t:Sp.Tree):Prop:=Sp.Tree.rec (motive_1:=fun _=>Prop) (motive_2:=fun _=>Prop) (fun _ _ _ _ _ ks h=>ks.length≤2∧h) True (fun _ _ h1 h2=>h1∧h2) t
def jGQ:List Sp.Tree→Prop
 | []=>True
 | t :: ts=>Sp.Tree.two t∧jGQ ts
theorem jLP {k f t u:Int} {x:ByteArray} {ks:List Sp.Tree}:Sp.Tree.two (.mk k f t u x ks)↔ks.length≤2∧jGQ ks:=by
 have:∀ks:List Sp.Tree,(Sp.Tree.rec_1 (motive_1:=fun _=>Prop) (motive_2:=fun _=>Prop) (fun _ _ _ _ _ ks h=>ks.length≤2∧h) True (fun _ _ h1 h2=>h1∧h2) ks:Prop)=jGQ ks:=by
  intro ks;induction ks with
  | nil=>rfl
  | cons t ts ih=>show (Sp.Tree.two t∧_)=(Sp.Tree.two t∧_);rw [ih]
 show (ks.length≤2∧_)↔_;rw [this]
theorem jER {ks:List Sp.Tree} (h:jGQ ks) {i:Nat} (hi:i<ks.length):Sp.Tree.two ks[i]:=by
 induction ks generalizing i with
 | nil=>simp at hi
 | cons t ts ih =>
  cases i with
  | zero=>exact h.1
  | succ i=>exact ih h.2 (by simpa using hi)
theorem c_grow {S:NP} (p:Addr) (t:Sp.Tree):∀(s:Sl) (w:World) (L:Sp.Pool) (F:NP),Sp.Tree.two t→TreeAt S w s t→vD w p L F→Sp.Ok L→(∀b,F b→¬ S b)→(∀b,S b→b<w.heap.size) →
  Calls prog 145 #[.pointer (some p),.agg (qU t s).toArray] w
   (fun e w'=>∃r1:Int,∃r2:Int,e=.returned (.tuple #[.int .i64 r1,.int .i64 r2])∧((r1,r2)=((Sp.grow L t).1,(Sp.grow L t).2.1)∧∃F',vD w' p (Sp.grow L t).2.2 F'∧Ext F w w'∧∀b,F' b→F b∨w.heap.size≤b)):=by
 induction t using Sp.Tree.ind with
 | h k f t u x ks ih =>
 intro s w L F h2 hT hP hok hFS hSw
 suffices key:∀K:Int→Int→WP,(∀r1 r2 w',((r1,r2)=((Sp.grow L (.mk k f t u x ks)).1,(Sp.grow L (.mk k f t u x ks)).2.1)∧∃F',vD w' p (Sp.grow L (.mk k f t u x ks)).2.2 F'∧Ext F w w'∧∀b,F' b→F b∨w.heap.size≤b)→K r1 r2 w')→m_G1 (some p) k f t u x s w K from
  w_G1 _ _ _ _ _ _ _ w _ (key _ (fun _ _ _ h=>h))
 intro K hK
 obtain ⟨hk2,hall⟩:=jLP.1 h2
 unfold m_G1
 intro p2 w1 h1
 have b1:=Box.of_new h1
 have E1:Pure w w1:=Ext.new h1
 refine ⟨_,_,_,_,_,_,b1.row,?_⟩
 refine (jKI _ _ _ _ _ _ w1).mono ?_
 rintro _ w2 ⟨k',f',t',u',x',a',b',rfl,hn,E12⟩
 cases hn
 refine ⟨_,_,_,_,_,_,_,rfl,?_⟩
 intro p3 w3 h3
 have E3:Pure w w3:=(E1.trans E12).trans (Ext.new h3)
 have o3:=New.own (E1.trans E12) h3
 have n23:p2.block≠p3.block:=New.ne h3 (b1.pure E12).blk
 refine bx 7 (Box.of_new h3) rfl rfl (fun w4 b3 E34=>?_)
 have E4:Pure w w4:=E3.own o3 E34
 have b2:=((b1.pure E12).pure (Ext.new h3)).ext E34 n23
 intro p4 w5 h5
 have E5:Pure w w5:=E4.trans (Ext.new h5)
 have o4:=New.own E4 h5
 have n34:p3.block≠p4.block:=New.ne h5 b3.blk
 have c3:=b3.pure (Ext.new h5:Pure w4 w5)
 have c4:=Box.of_new h5
 have c2:=b2.pure (Ext.new h5:Pure w4 w5)
 refine ⟨s,c2.cell rfl,?_⟩
 have hsp:Sp.grow L (.mk k f t u x ks)=Sp.vG ⟨k,f,t,u,x,0,0⟩ 0 L ks:=by rw [Sp.grow]
 rw [hsp] at hK
 have hlen:s.len=ks.length:=by cases hT;assumption
 refine ⟨fun i w'=>∃j:Nat,i=j∧j≤ks.length∧∃(nd:Sp.Node) (L':Sp.Pool) (F':NP),Sp.vG ⟨k,f,t,u,x,0,0⟩ 0 L ks=Sp.vG nd j L' (ks.drop j)∧Sp.Ok L'∧vD w' p L' F'∧(∀b,F' b→F b∨w.heap.size≤b)∧¬ F' p3.block∧¬ F' p4.block∧Ext F w w'∧Box w' p3 (jBR nd) 176∧Box w' p4 [.pointer (some (p3.add 5)),.pointer (some (p3.add 6))] 309,fun i _=>((ks.length:Int) - i).toNat,
  ⟨0,rfl,Nat.zero_le _,⟨k,f,t,u,x,0,0⟩,L,F,by simp,hok,hP.pure E5,fun b h=>.inl h,fun h=>by have:=hP.lt h;omega,fun h=>by have:=hP.lt h;omega,E5.pure,c3,c4⟩,?_⟩
 rintro _ wl ⟨j,rfl,hj,nd,L',F',heq,hok',hPl,hF',hn3,hn4,El,d3,d4⟩
 unfold m_G1_l1
 refine ⟨fun h=>?_,fun h=>?_⟩
 ·have hlt:j<ks.length:=by have h:=of_decide_eq_true h;omega
  have hTl:TreeAt S wl s (.mk k f t u x ks):=hT.ext El (fun b hs hf=>hFS b hf hs)
  have hkid:∀i (h:i<ks.length),∃a r,At s i 6 a∧Row wl a (qU ks[i] r)∧TreeAt S wl r ks[i]:=by
   cases hTl with
   | mk _ _ _ _ _ _ _ rs len fit row kid=>exact fun i h=>let ⟨a,h1,_,h3⟩:=row i h;⟨a,rs i,h1,h3,kid i h⟩
  obtain ⟨a,r,hat,hrow,hTk⟩:=hkid j hlt
  refine ⟨a,hat,_,_,_,_,_,r,hrow,?_⟩
  intro p5 w6 h6
  have o5:=New.own (Ext.refl wl) h6
  refine bx 6 (Box.of_new h6) rfl rfl (fun w7 b5 E67=>?_)
  have E7:Pure wl w7:=Ext.own (Ext.new h6) o5 E67
  refine ⟨_,_,_,_,_,r,b5.row,?_⟩
  have hsz:w.heap.size≤wl.heap.size:=El.size
  refine (ih j hlt r w7 L' F' (jER hall hlt) (hTk.pure E7) (hPl.pure E7) hok' (fun b hb hs=>(hF' b hb).elim (fun h=>hFS b h hs) (fun h=>by have:=hSw b hs;omega)) (fun b hs=>by have:=hSw b hs;have:=E7.size;omega)).mono ?_
  rintro _ w8 ⟨r1,r2,rfl,hr,F8,hP8,E8,hF8⟩
  have e1:r1=(Sp.grow L' ks[j]).1:=congrArg Prod.fst hr
  have e2:r2=(Sp.grow L' ks[j]).2.1:=congrArg Prod.snd hr
  rw [List.drop_eq_getElem_cons hlt] at heq
  have hF8':∀b,F8 b→F b∨w.heap.size≤b:=fun b hb=>(hF8 b hb).elim (hF' b) (fun h=>by right;have:=E7.size;omega)
  have Ew8:Ext F w w8:=(El.thenPure E7).trans' E8 (fun i hi h=>(hF' i h).elim id (fun h=>by omega))
  refine ⟨_,_,rfl,fun h=>?_,fun h=>?_⟩
  ·have h:(Sp.grow L' ks[j]).2.1≠0:=by rw [← e2];simpa using h
   rw [jEE h] at heq
   refine hK _ _ _ ?_
   rw [heq];exact ⟨by rw [e2],F8,hP8,Ew8,hF8'⟩
  ·have h:(Sp.grow L' ks[j]).2.1=0:=by rw [← e2];simpa using h
   rw [jCI h] at heq
   have q3:=(d3.pure E7).ext E8 hn3
   have q4:=(d4.pure E7).ext E8 hn4
   have hs7:wl.heap.size≤w7.heap.size:=E7.size
   have n38:¬ F8 p3.block:=fun h=>(hF8 _ h).elim hn3 (fun h=>by have:=(d3.pure E7).lt;omega)
   have n48:¬ F8 p4.block:=fun h=>(hF8 _ h).elim hn4 (fun h=>by have:=(d4.pure E7).lt;omega)
   have hok8:=(Sp.uY ks[j] L' hok').1
   have fin : ∀ (w9 : World) (nd' : Sp.Node), nd' = (if j = 0 then { nd with a := (Sp.grow L' ks[j]).1 } else { nd with b := (Sp.grow L' ks[j]).1 }) → Box w9 p3 (jBR nd') 176 → Ext (· = p3.block) w8 w9 →
     (∃j':Nat,IntKind.i64.wrap ((j:Int)+1)=j'∧j'≤ks.length∧∃(nd:Sp.Node) (L':Sp.Pool) (F':NP),Sp.vG ⟨k,f,t,u,x,0,0⟩ 0 L ks=Sp.vG nd j' L' (ks.drop j')∧Sp.Ok L'∧vD w9 p L' F'∧(∀b,F' b→F b∨w.heap.size≤b)∧¬ F' p3.block∧¬ F' p4.block∧Ext F w w9∧Box w9 p3 (jBR nd) 176∧Box w9 p4 [.pointer (some (p3.add 5)),.pointer (some (p3.add 6))] 309)∧((ks.length:Int) - IntKind.i64.wrap ((j:Int)+1)).toNat<((ks.length:Int) - (j:Int)).toNat:=by
    intro w9 nd' hnd B9 E9
    rw [i64 (by omega) (by omega)]
    refine ⟨⟨j+1,by omega,hlt,nd',_,F8,by rw [heq,hnd],hok8,hP8.ext E9 (fun b hb e=>n38 (e▸hb)),hF8',n38,n48,Ew8.trans' E9 (fun i hi h=>by subst h;omega),B9,q4.ext E9 n34.symm⟩,by omega⟩
   have hj2:j=0∨j=1:=by omega
   rcases hj2 with rfl | rfl
   ·refine ⟨p4,⟨by omega,by simp,p4,rfl,rfl⟩,some (p3.add 5),q4.cell0,p3.add 5,rfl,q3.canW (by simp [jBR]),?_⟩
    intro w9 hw9
    refine fin w9 _ rfl ?_ ?_
    ·rw [hw9,e1];exact q3.set 5 _
    ·rw [hw9];have:=Ext.setCell (w:=w8) (p3.add 5) (.int .i64 r1);rw [zW] at this;exact this
   ·refine ⟨p4.add 1,⟨by omega,by simp,p4,rfl,rfl⟩,some (p3.add 6),q4.cell rfl,p3.add 6,rfl,q3.canW (by simp [jBR]),?_⟩
    intro w9 hw9
    refine fin w9 _ rfl ?_ ?_
    ·rw [hw9,e1];exact q3.set 6 _
    ·rw [hw9];have:=Ext.setCell (w:=w8) (p3.add 6) (.int .i64 r1);rw [zW] at this;exact this
 ·have hge:j=ks.length:=by have h:=of_decide_eq_false h;omega
  rw [hge,List.drop_length,Sp.vG] at heq
  obtain ⟨k0,f0,t0,u0,x0,a0,b0⟩:=nd
  refine ⟨_,_,_,_,_,_,_,d3.row,?_⟩
  refine (jKM p k0 f0 t0 u0 x0 a0 b0 wl hPl hok').mono ?_
  rintro _ w9 ⟨r1,r2,rfl,hr,F9,hP9,E9,hF9⟩
  have hsz:w.heap.size≤wl.heap.size:=El.size
  refine ⟨_,_,rfl,hK _ _ _ ?_⟩
  rw [heq]
  exact ⟨hr,F9,hP9,El.trans' E9 (fun i hi h=>(hF' i h).elim id (fun h=>by omega)),fun b hb=>(hF9 b hb).elim (hF' b) (fun h=>by right;omega)⟩
theorem jHK (t:Sp.Tree):∀i n:Int,(Sp.qJ i n t).1=0→Sp.Tree.two t:=by
 induction t using Sp.Tree.ind with
 | h k f t u x ks ih =>
  have hA:∀(ks:List Sp.Tree),(∀i (hi:i<ks.length),∀j n:Int,(Sp.qJ j n ks[i]).1=0→Sp.Tree.two ks[i])→∀i e n:Int,(Sp.vJ i e n ks).1=0→e=0∧jGQ ks:=by
   intro ks;induction ks with
   | nil=>intro _ i e n h;exact ⟨by simpa [Sp.vJ] using h,trivial⟩
   | cons t ts iht =>
    intro hh i e n h
    unfold Sp.vJ at h
    split at h
    ·rename_i he
     have:=iht (fun i hi=>hh (i+1) (by simpa using hi)) _ _ _ h
     exact ⟨he,hh 0 (by simp) i n this.1,this.2⟩
    ·rename_i he;exact absurd h he
  intro i n h
  unfold Sp.qJ at h
  split at h
  ·cases h
  ·split at h
   ·cases h
   ·have:=hA ks ih _ _ _ h
    refine jLP.2 ⟨?_,this.2⟩
    have ho:=this.1
    unfold Sp.yX at ho
    simp only at ho
    have hk:=Sp.tM k
    by_cases hp:Sp.vC ⟨k,f,t,u,x,0,0⟩=0
    ·rw [if_pos hp] at ho
     by_cases hl:(ks.length:Int)≠(Sp.shapeOf k).kids
     ·rw [if_pos hl] at ho;simp at ho
     ·omega
    ·rw [if_neg hp,if_neg hp] at ho;exact absurd ho hp
theorem c_Of {S:NP} (p:Addr) (t:Sp.Tree) (s:Sl) (w:World) {L:Sp.Pool} {F:NP} (hT:TreeAt S w s t) (hP:vD w p L F) (hok:Sp.Ok L) (hFS:∀b,F b→¬ S b) (hSw:∀b,S b→b<w.heap.size) :
  Calls prog 77 #[.pointer (some p),.agg (qU t s).toArray] w
   (fun e w'=>∃r1:Int,∃r2:Int,e=.returned (.tuple #[.int .i64 r1,.int .i64 r2])∧((r1,r2)=((Sp.of L t).1,(Sp.of L t).2.1)∧∃F',vD w' p (Sp.of L t).2.2 F'∧Ext F w w'∧∀b,F' b→F b∨w.heap.size≤b)):=by
 obtain ⟨k,f,to,u,x,ks⟩:=t
 suffices key:∀K:Int→Int→WP,(∀r1 r2 w',((r1,r2)=((Sp.of L (.mk k f to u x ks)).1,(Sp.of L (.mk k f to u x ks)).2.1)∧∃F',vD w' p (Sp.of L (.mk k f to u x ks)).2.2 F'∧Ext F w w'∧∀b,F' b→F b∨w.heap.size≤b)→K r1 r2 w')→m_X1 (some p) k f to u x s w K from
  w_X1 _ _ _ _ _ _ _ w _ (key _ (fun _ _ _ h=>h))
 intro K hK
 unfold m_X1
 intro p2 w1 h1
 have b1:=Box.of_new h1
 have E1:Pure w w1:=Ext.new h1
 refine Br.f rfl ?_
 intro p3 w2 h2
 have E2:Pure w w2:=E1.trans (Ext.new h2)
 have o3:=New.own E1 h2
 have c3:=Box.of_new h2
 have n23:p2.block≠p3.block:=New.ne h2 b1.blk
 refine ⟨c3.canW0 (by simp),?_⟩
 intro w3 hw3
 have c3':Box w3 p3 [.int .i64 0] 3:=by rw [hw3];exact c3.set0
 have E23:Ext (·=p3.block) w2 w3:=by rw [hw3];exact Ext.setCell p3 _
 clear hw3
 have E3:Pure w w3:=E2.own o3 E23
 have b3:=(b1.pure (Ext.new h2:Pure w1 w2)).ext E23 n23
 refine ⟨_,_,_,_,_,s,b3.row,?_⟩
 generalize ht:Sp.Tree.mk k f to u x ks=t at *
 have htr:(Value.agg #[.int .i64 k,.int .i64 f,.int .i64 to,.int .u64 u,.string x,s.v])=.agg (qU t s).toArray:=by rw [← ht];rfl
 rw [htr]
 refine (jQE p3 (fun h=>by have:=hSw _ h;omega) _ t s 0 0 w3 (by omega) (by omega) (hT.pure E3) c3').mono ?_
 rintro _ w4 ⟨r1,rfl,rfl,_,E34⟩
 have E4:Pure w w4:=E3.own o3 E34
 have b4:=b3.ext E34 n23
 have jDM:∀w',Pure w w'→∃F',vD w' p L F'∧Ext F w w'∧∀b,F' b→F b∨w.heap.size≤b:=fun w' E=>⟨F,hP.pure E,E.pure,fun _ h=>.inl h⟩
 refine ⟨_,rfl,fun h=>?_,fun h=>?_⟩
 ·have h:(Sp.qJ 0 0 t).1≠0:=by simpa using h
  have:Sp.of L t=(0,(Sp.qJ 0 0 t).1,L):=by rw [Sp.of,if_pos h]
  refine hK _ _ _ ?_
  rw [this];exact ⟨rfl,jDM _ E4⟩
 ·have h:(Sp.qJ 0 0 t).1=0:=by simpa using h
  have hP4:=hP.pure E4
  obtain ⟨s0,m0,hS0,hF0⟩:=id hP4
  have hl0:s0.len=L.length:=by rw [hS0.rows.len];simp
  refine ⟨p,rfl,s0,hS0.box.cell0,_,_,_,_,_,s,b4.row,?_⟩
  rw [htr]
  refine (c_grow p t s w4 L F (jHK t _ _ h) (hT.pure E4) hP4 hok hFS (fun b hb=>by have:=hSw b hb;have:=E4.size;omega)).mono ?_
  rintro _ w5 ⟨r1,r2,rfl,hr,F5,hP5,E45,hF5⟩
  have e1:r1=(Sp.grow L t).1:=congrArg Prod.fst hr
  have e2:r2=(Sp.grow L t).2.1:=congrArg Prod.snd hr
  have hs4:w.heap.size≤w4.heap.size:=E4.size
  have E5:Ext F w w5:=E4.pure.trans E45
  have hF5':∀b,F5 b→F b∨w.heap.size≤b:=fun b hb=>(hF5 b hb).elim .inl (fun h=>.inr (by omega))
  refine ⟨_,_,rfl,fun h'=>?_,fun h'=>?_⟩
  ·have h':(Sp.grow L t).2.1≠0:=by rw [← e2];simpa using h'
   obtain ⟨hok5,M,hM⟩:=Sp.uY t L hok
   rw [hl0]
   refine (c_cut p L.length w5 hP5 hok5 (by rw [hM];simp)).mono ?_
   rintro _ w6 ⟨rfl,hP6,E56⟩
   have:Sp.of L t=(0,(Sp.grow L t).2.1,L):=by rw [Sp.of,if_neg (by simp [h]),if_pos h']
   refine ⟨rfl,hK _ _ _ ?_⟩
   rw [this]
   rw [hM,List.take_left] at hP6
   exact ⟨by rw [e2],F5,hP6,E5.trans' E56 (fun i hi h=>(hF5' i h).elim id (fun h=>by omega)),hF5'⟩
  ·have h':(Sp.grow L t).2.1=0:=by rw [← e2];simpa using h'
   have:Sp.of L t=((Sp.grow L t).1,0,(Sp.grow L t).2.2):=by rw [Sp.of,if_neg (by simp [h]),if_neg (by simp [h'])]
   refine hK _ _ _ ?_
   rw [this]
   exact ⟨by rw [e1],F5,hP5,E5,hF5'⟩
end Go.Proofs
end
section
open Go Go.SE
open Go.IntKind renaming i64 → q6
namespace Go.Proofs
open Tryz
set_option maxRecDepth 100000
set_option maxHeartbeats 4000000
attribute [local irreducible] wpL wpX opE wpE Calls
def m_K_j2 (p2 p3 p5:Addr) (r3:Int) (w:World) (K:Int→Int→Int→ByteArray→Bool→Bool→WP):Prop :=Calls prog 109 #[(vp (some p3)),(vi r3),(vi 2)] w (fun e w16=>∃bH bI bK aR bJ dB dC,e=.returned (Ae bH bI bK aR bJ dB dC)∧(∀j,j<5→vF w16 (p5.add j))∧∀w17,w17=storeRow w16 p5 (Ag 7 0 aR false)→∃v6,w17.cell? (p3.add 1)=some (vb v6)∧Br v6 ((∀j,j<5→vF w17 (p2.add j))∧∀w18,w18=storeRow w17 p2 (Ag 0 0 0 false)→∃bT bU dD bV dE,Row w18 p2 (Ac bT bU dD bV dE)∧K bT bU dD bV dE false w18) (∃dF dG gB dH gC,Row w17 p5 (Ac dF dG gB dH gC)∧(∀j,j<5→vF w17 (p2.add j))∧∀w19,w19=storeRow w17 p2 (Ac dF dG gB dH gC)→∃bW bX dI bY dJ,Row w19 p2 (Ac bW bX dI bY dJ)∧K bW bX dI bY dJ true w19))
def m_K_j3 (p2 p3 p5:Addr) (r3:Int) (w:World) (K:Int→Int→Int→ByteArray→Bool→Bool→WP):Prop :=∃v7,w.cell? (p3.add 1)=some (vb v7)∧Br v7 (∃v8,w.cell? (p3.add 1)=some (vb v8)∧Br v8 ((∀j,j<5→vF w (p2.add j))∧∀w20,w20=storeRow w p2 (Ag 0 0 0 false)→∃bZ cA dK cB dL,Row w20 p2 (Ac bZ cA dK cB dL)∧K bZ cA dK cB dL false w20) (∃cY cZ gD dA gE,Row w p5 (Ac cY cZ gD dA gE)∧(∀j,j<5→vF w (p2.add j))∧∀w21,w21=storeRow w p2 (Ac cY cZ gD dA gE)→∃dM dN gF dO gG,Row w21 p2 (Ac dM dN gF dO gG)∧K dM dN gF dO gG true w21)) (m_K_j2 p2 p3 p5 r3 w K)
def m_K_j1 (t1:Int) (p2 p3 p5:Addr) (x1:Bool) (w:World) (K:Int→Int→Int→ByteArray→Bool→Bool→WP):Prop :=Br x1 (Calls prog 107 #[(vp (some p3)),(vi t1)] w (fun e w11=>∃bO bP dU bG dV,e=.returned (Af bO bP dU bG dV)∧(∀j,j<5→vF w11 (p5.add j))∧∀w12,w12=storeRow w11 p5 (Ac bO bP dU bG dV)→∃v5,w12.cell? (p3.add 1)=some (vb v5)∧Br v5 ((∀j,j<5→vF w12 (p2.add j))∧∀w13,w13=storeRow w12 p2 (Ag 0 0 0 false)→∃aU aV cC aW cD,Row w13 p2 (Ac aU aV cC aW cD)∧K aU aV cC aW cD false w13) (∃bB bC gH bD gI,Row w12 p5 (Ac bB bC gH bD gI)∧(∀j,j<5→vF w12 (p2.add j))∧∀w14,w14=storeRow w12 p2 (Ac bB bC gH bD gI)→∃cE cF dP cG dQ,Row w14 p2 (Ac cE cF dP cG dQ)∧K cE cF dP cG dQ true w14))) (Calls prog 108 #[(vp (some p3)),(vi t1)] w (fun e w15=>∃r2 r3,e=.returned (.tuple #[(vs r2),(vi r3)])∧∃v9,w15.cell? (p3.add 1)=some (vb v9)∧Br v9 (vF w15 (p3.add 1)∧∀w22,w22=w15.setCell (p3.add 1) (vb true)→m_K_j3 p2 p3 p5 r3 w22 K) (vF w15 (p3.add 1)∧∀w23,w23=w15.setCell (p3.add 1) (vb (!(decide (r2=(⟨#[102,117,108,108]⟩:ByteArray)))))→m_K_j3 p2 p3 p5 r3 w23 K)))
def m_K (p1:Option Addr) (t1:Int) (w:World) (K:Int→Int→Int→ByteArray→Bool→Bool→WP):Prop :=∀p2 w1,New w (.cells #[(vi 0),(vi 0),(vu 0),ve,(vb false)] 35) p2 w1→∀p3 w2,New w1 (.cells #[(vp p1),(vb false)] 182) p3 w2→Calls prog 102 #[(vp p1),(vi t1)] w2 (fun e w3=>∃aE aF aG aD aH aX aY r1,e=.returned (.tuple #[(Ae aE aF aG aD aH aX aY),(vb r1)])∧∀p4 w4,New w3 (.cells #[(vi 0),(vi 0),(vi 0),(vu 0),ve,(vi 0),(vi 0)] 176) p4 w4→(∀j,j<7→vF w4 (p4.add j))∧∀w5,w5=storeRow w4 p4 (Ad aE aF aG aD aH aX aY)→∀p5 w6,New w5 (.cells #[(vi 0),(vi 0),(vu 0),ve,(vb false)] 35) p5 w6→∃v1,w6.cell? p4=some (vi v1)∧Br (v1 == 7) (∃v2,w6.cell? (p4.add 1)=some (vi v2)∧∃v3,w6.cell? (p4.add 5)=some (vi v3)∧Calls prog 106 #[(vp (some p3)),(vi v2),(vi v3)] w6 (fun e w7=>∃bE bF bM aZ bN,e=.returned (Af bE bF bM aZ bN)∧(∀j,j<5→vF w7 (p5.add j))∧∀w8,w8=storeRow w7 p5 (Ac bE bF bM aZ bN)→∃v4,w8.cell? (p3.add 1)=some (vb v4)∧Br v4 ((∀j,j<5→vF w8 (p2.add j))∧∀w9,w9=storeRow w8 p2 (Ag 0 0 0 false)→∃aA aB cH aC cI,Row w9 p2 (Ac aA aB cH aC cI)∧K aA aB cH aC cI false w9) (∃aL aM gJ aN gK,Row w8 p5 (Ac aL aM gJ aN gK)∧(∀j,j<5→vF w8 (p2.add j))∧∀w10,w10=storeRow w8 p2 (Ac aL aM gJ aN gK)→∃aO aP cJ aQ cK,Row w10 p2 (Ac aO aP cJ aQ cK)∧K aO aP cJ aQ cK true w10))) (Br (v1 == 8) (m_K_j1 t1 p2 p3 p5 (v1 == 8) w6 K) (m_K_j1 t1 p2 p3 p5 (v1 == 9) w6 K)))
theorem w_K (p1 t1 w K) (h:m_K p1 t1 w K):
  Calls prog 51 #[(vp p1),(vi t1)] w (fun e w'=>∃cT cU fU cV fV r4,e=.returned (.tuple #[(Af cT cU fU cV fV),(vb r4)])∧K cT cU fU cV fV r4 w'):=by
 refine cw (args:=[(vp p1),(vi t1)]) func51 ntmps51 (eg (sn (O:=(.cells #[(vi 0),(vi 0),(vu 0),ve,(vb false)] 35)) (zH (zeroValue35 _) rfl) ?_))
 intro p2 w1 hn18
 have h:=h p2 w1 hn18
 refine q (ln (jLL rfl (fun _ _ _ h=>h) (eg (q0 (vp p1) (q0 (.agg #[(vp p1),(vb false)]) (sn (O:=(.cells #[(vp p1),(vb false)] 182)) xb ?_))))))
 intro p3 w2 hn17
 have h:=h p3 w2 hn17
 refine q (ln (eg (qb (sc call102 (h.mono fun e w3 ⟨aE,aF,aG,aD,aH,aX,aY,r1,k,h⟩=>⟨_,k,?_⟩)))))
 refine qc (nw1 h (zH (zeroValue176 _) rfl) fun p4 w4 h=>sro (sizeOf176 _) h fun w5 h=>q (ln (eg (nw1 h (zH (zeroValue35 _) rfl) fun p5 w6 h=>ln (zA (jLM (zL (zA (eg (q0 (vp (some p4)) (ql (isAgg3 _) h fun v1 h=>ln (zK (eg (qb (ln (cbr h ?_ ?_))))))))))))))))<;>intro h
 refine rg (qb (ql (isAgg3 _) h fun v2 h=>q (ql (isAgg78 _) h fun v3 h=>sc call106 (h.mono fun e w7 ⟨bE,bF,bM,aZ,bN,k,h⟩=>⟨_,k,?_⟩))))
 refine sro (sizeOf35 _) h fun w8 h=>zC (uM (zL (zA (eg (qc (ql (isAgg4 _) h fun v4 h=>ln (cbr h ?_ ?_)))))))<;>intro h
 refine eg (q (sro (sizeOf35 _) h fun w9 h=>q (ln (er (zX ?_)))))
 obtain ⟨aA,aB,cH,aC,cI,hv1,h⟩:=h
 refine gg2 results51 (rva (isAgg35 _) (sizeOf35 _) hv1) (rvU (vb false)) ⟨aA,aB,cH,aC,cI,false,rfl,h⟩
 refine zB (zL (eg ?_))
 obtain ⟨aL,aM,gJ,aN,gK,hv3,h⟩:=h
 refine qa (isAgg35 _) (sizeOf35 _) hv3 (sro (sizeOf35 _) h fun w10 h=>q (ln (er ?_)))
 obtain ⟨aO,aP,cJ,aQ,cK,hv2,h⟩:=h
 refine gg2 results51 (rva (isAgg35 _) (sizeOf35 _) hv2) (rvU (vb true)) ⟨aO,aP,cJ,aQ,cK,true,rfl,h⟩
 refine qM (fun ρ w=>∃x1,Has ρ [(1,(vi t1)),(4,(vp (some p2))),(6,(vp (some p3))),(9,(vp (some p5))),(57,(vb x1))]∧m_K_j1 t1 p2 p3 p5 x1 w K) ?_ ?_
 rintro ρ w ⟨x1,hH,h⟩
 refine zV hH (cbr h ?_ ?_)<;>intro h
 refine rg (qb (sc call107 (h.mono fun e w11 ⟨bO,bP,dU,bG,dV,k,h⟩=>⟨_,k,?_⟩)))
 refine sro (sizeOf35 _) h fun w12 h=>zC (uM (zL (zA (eg (qc (ql (isAgg4 _) h fun v5 h=>ln (cbr h ?_ ?_)))))))<;>intro h
 refine eg (q (sro (sizeOf35 _) h fun w13 h=>q (ln (er (zX ?_)))))
 obtain ⟨aU,aV,cC,aW,cD,hv7,h⟩:=h
 refine gg2 results51 (rva (isAgg35 _) (sizeOf35 _) hv7) (rvU (vb false)) ⟨aU,aV,cC,aW,cD,false,rfl,h⟩
 refine zB (zL (eg ?_))
 obtain ⟨bB,bC,gH,bD,gI,hv9,h⟩:=h
 refine qa (isAgg35 _) (sizeOf35 _) hv9 (sro (sizeOf35 _) h fun w14 h=>q (ln (er ?_)))
 obtain ⟨cE,cF,dP,cG,dQ,hv8,h⟩:=h
 refine gg2 results51 (rva (isAgg35 _) (sizeOf35 _) hv8) (rvU (vb true)) ⟨cE,cF,dP,cG,dQ,true,rfl,h⟩
 refine eg (qb (sc call108 (h.mono fun e w15 ⟨r2,r3,k,h⟩=>⟨_,k,?_⟩)))
 refine q (qd (ln (qM (fun ρ w=>Has ρ [(4,(vp (some p2))),(6,(vp (some p3))),(9,(vp (some p5))),(11,(vi r3))]∧m_K_j2 p2 p3 p5 r3 w K) ?_ ?_)))
 rintro ρ w ⟨hH,h⟩
 refine zV hH (rg (qb (sc call109 (h.mono fun e w16 ⟨bH,bI,bK,aR,bJ,dB,dC,k,h⟩=>⟨_,k,?_⟩))))
 refine qb (sro (sizeOf35 _) h fun w17 h=>zC (uM (zL (zA (eg (qc (ql (isAgg4 _) h fun v6 h=>ln (cbr h ?_ ?_))))))))<;>intro h
 refine eg (q (sro (sizeOf35 _) h fun w18 h=>q (ln (er (zX ?_)))))
 obtain ⟨bT,bU,dD,bV,dE,hv11,h⟩:=h
 refine gg2 results51 (rva (isAgg35 _) (sizeOf35 _) hv11) (rvU (vb false)) ⟨bT,bU,dD,bV,dE,false,rfl,h⟩
 refine zB (zL (eg ?_))
 obtain ⟨dF,dG,gB,dH,gC,hv13,h⟩:=h
 refine qa (isAgg35 _) (sizeOf35 _) hv13 (sro (sizeOf35 _) h fun w19 h=>q (ln (er ?_)))
 obtain ⟨bW,bX,dI,bY,dJ,hv12,h⟩:=h
 refine gg2 results51 (rva (isAgg35 _) (sizeOf35 _) hv12) (rvU (vb true)) ⟨bW,bX,dI,bY,dJ,true,rfl,h⟩
 refine qM (fun ρ w=>Has ρ [(4,(vp (some p2))),(6,(vp (some p3))),(9,(vp (some p5))),(11,(vi r3))]∧m_K_j3 p2 p3 p5 r3 w K) ?_ ?_
 rintro ρ w ⟨hH,h⟩
 refine zV hH (eg (qc (ql (isAgg4 _) h fun v7 h=>ln (cbr h ?_ ?_))))<;>intro h
 refine vO (uI (uD (zL (zA (eg (q0 (vp (some p3)) (q0 (vp (some p3)) (q0 (vp (some (p3.add 1))) (ql (isAgg4 _) h fun v8 h=>ln (cbr h ?_ ?_))))))))))<;>intro h
 refine eg (q (sro (sizeOf35 _) h fun w20 h=>q (ln (er (zX ?_)))))
 obtain ⟨bZ,cA,dK,cB,dL,hv15,h⟩:=h
 refine gg2 results51 (rva (isAgg35 _) (sizeOf35 _) hv15) (rvU (vb false)) ⟨bZ,cA,dK,cB,dL,false,rfl,h⟩
 refine zB (zL (eg ?_))
 obtain ⟨cY,cZ,gD,dA,gE,hv17,h⟩:=h
 refine qa (isAgg35 _) (sizeOf35 _) hv17 (sro (sizeOf35 _) h fun w21 h=>q (ln (er ?_)))
 obtain ⟨dM,dN,gF,dO,gG,hv16,h⟩:=h
 refine gg2 results51 (rva (isAgg35 _) (sizeOf35 _) hv16) (rvU (vb true)) ⟨dM,dN,gF,dO,gG,true,rfl,h⟩
 refine zB (zL ⟨hm,h⟩)
 refine rg (qd (ql (isAgg4 _) h fun v9 h=>q ?_))
 obtain ⟨hg1,h⟩|⟨hg1,h⟩:=h.br
 refine sj2 34 hg1 (q2 (vb true) (xT hg1) (qb (st1 (sizeOf4 _) h fun w22 h=>ln ⟨hm,h⟩)))
 refine qk 34 hg1 (stq (v:=(vb (!(decide (r2=(⟨#[102,117,108,108]⟩:ByteArray)))))) (wy 34 hg1) (uE (by kernel_rfl) (by kernel_rfl)) (q2 (vb (!(decide (r2=(⟨#[102,117,108,108]⟩:ByteArray))))) (xF hg1) (qb (st1 (sizeOf4 _) h fun w23 h=>ln ⟨hm,h⟩))))
 refine eg (qb (ln (cbr h ?_ ?_)))<;>intro h
 refine zB (zL ⟨(v1 == 8),hm,h⟩)
 refine rg (qb (ln ⟨(v1 == 9),hm,h⟩))
def m_Z1 (gL gM gN:Int) (gO:ByteArray) (gP first1 second1:Bool) (w:World) (K:Int→Int→Int→Int→ByteArray→Sl→WP):Prop :=∀p1 w1,New w (.cells #[(vi gL),(vi gM),(vu gN),(vs gO),(vb gP)] 35) p1 w1→∀p2 w2,New w1 (.cells #[(vi 0),(vi 0),(vi 0),(vu 0),ve,Sl.nil.v] 107) p2 w2→∃v1,w2.cell? (p1.add 2)=some (vu v1)∧∃v2,w2.cell? (p1.add 3)=some (vs v2)∧Calls prog 125 #[(vu v1),(vs v2)] w2 (fun e w3=>∃aE aF aG aD aH bL,e=.returned (Aa aE aF aG aD aH bL)∧∀p3 w4,New w3 (.cells #[(vi 0),(vi 0),(vi 0),(vu 0),ve,Sl.nil.v] 107) p3 w4→(∀j,j<6→vF w4 (p3.add j))∧∀w5,w5=storeRow w4 p3 (Ab aE aF aG aD aH bL)→∃v3,w5.cell? p1=some (vi v3)∧Br (v3 == 1) (∃v4,w5.cell? (p1.add 1)=some (vi v4)∧∃aL aM aS aT aN bA,Row w5 p3 (Ab aL aM aS aT aN bA)∧∃v5,w5.cell? (p1.add 4)=some (vb v5)∧Calls prog 126 #[(vi v4),(.agg #[(vi aL),(vi aM),(vi aS),(vu aT),(vs aN),bA.v]),(vb v5)] w5 (fun e w6=>∃bE bF bK aR aZ eX,e=.returned (Aa bE bF bK aR aZ eX)∧(∀j,j<6→vF w6 (p2.add j))∧∀w7,w7=storeRow w6 p2 (Ab bE bF bK aR aZ eX)→∃aA aB aI aJ aC aK,Row w7 p2 (Ab aA aB aI aJ aC aK)∧K aA aB aI aJ aC aK w7)) (Br (v3 == 2) (∃v6,w5.cell? (p1.add 1)=some (vi v6)∧∃bB bC bQ bR bD bS,Row w5 p3 (Ab bB bC bQ bR bD bS)∧Calls prog 127 #[(vi v6),(.agg #[(vi bB),(vi bC),(vi bQ),(vu bR),(vs bD),bS.v])] w5 (fun e w8=>∃bO bP cW cX bG eY,e=.returned (Aa bO bP cW cX bG eY)∧(∀j,j<6→vF w8 (p2.add j))∧∀w9,w9=storeRow w8 p2 (Ab bO bP cW cX bG eY)→∃aO aP cL cM aQ dR,Row w9 p2 (Ab aO aP cL cM aQ dR)∧K aO aP cL cM aQ dR w9)) (Br (v3 == 3) (∃C1:WP,C1 w5.drew∧∀w10,w10=w5.drew→∃v7,(∀w',C1 w'→w'.cell? (p1.add 2)=some (vu v7))∧Calls prog 129 #[(vs (⟨#[97,98,111,114,116]⟩:ByteArray))] w10 (fun e w11=>∃bH bI fW fX bJ fY,e=.returned (Aa bH bI fW fX bJ fY)∧C1 w11∧Calls prog 130 #[(vu v7)] w11 (fun e w12=>∃cT cU eZ fA cV fB,e=.returned (Aa cT cU eZ fA cV fB)∧Calls prog 128 #[(.agg #[(vi bH),(vi bI),(vi fW),(vu fX),(vs bJ),fY.v]),(.agg #[(vi cT),(vi cU),(vi eZ),(vu fA),(vs cV),fB.v])] w12 (fun e w13=>∃dW dX gQ gR dY gS,e=.returned (Aa dW dX gQ gR dY gS)∧Calls prog 127 #[(vi 0),(.agg #[(vi dW),(vi dX),(vi gQ),(vu gR),(vs dY),gS.v])] w13 (fun e w14=>∃eI eJ jF jG eK jH,e=.returned (Aa eI eJ jF jG eK jH)∧(∀j,j<6→vF w14 (p2.add j))∧∀w15,w15=storeRow w14 p2 (Ab eI eJ jF jG eK jH)→∃aU aV dS dT aW gT,Row w15 p2 (Ab aU aV dS dT aW gT)∧K aU aV dS dT aW gT w15))))) (Br (v3 == 4) (∃C2:WP,C2 w5.drew∧∀w16,w16=w5.drew→∃v8,(∀w',C2 w'→w'.cell? (p1.add 1)=some (vi v8))∧∃dF dG gU gV dH gW,(∀w',C2 w'→Row w' p3 (Ab dF dG gU gV dH gW))∧∃v9,(∀w',C2 w'→w'.cell? (p1.add 4)=some (vb v9))∧∃cY cZ fC fD dA fE,(∀w',C2 w'→Row w' p3 (Ab cY cZ fC fD dA fE))∧∃v10,(∀w',C2 w'→w'.cell? (p1.add 4)=some (vb v10))∧Calls prog 129 #[(vs (⟨#[114,101,115,111,108,118,101]⟩:ByteArray))] w16 (fun e w17=>∃dZ eA gX gY eB gZ,e=.returned (Aa dZ eA gX gY eB gZ)∧C2 w17∧Br v9 (Calls prog 126 #[(vi 0),(.agg #[(vi dF),(vi dG),(vi gU),(vu gV),(vs dH),gW.v]),(vb first1)] w17 (fun e w18=>∃eL eM jI jJ eN jK,e=.returned (Aa eL eM jI jJ eN jK)∧C2 w18∧Br v10 (Calls prog 126 #[(vi 1),(.agg #[(vi cY),(vi cZ),(vi fC),(vu fD),(vs dA),fE.v]),(vb second1)] w18 (fun e w19=>∃eC eD lU lV eE lW,e=.returned (Aa eC eD lU lV eE lW)∧C2 w19∧Calls prog 128 #[(.agg #[(vi eL),(vi eM),(vi jI),(vu jJ),(vs eN),jK.v]),(.agg #[(vi eC),(vi eD),(vi lU),(vu lV),(vs eE),lW.v])] w19 (fun e w20=>∃fF fG lX lY fH lZ,e=.returned (Aa fF fG lX lY fH lZ)∧C2 w20∧Calls prog 128 #[(.agg #[(vi dZ),(vi eA),(vi gX),(vu gY),(vs eB),gZ.v]),(.agg #[(vi fF),(vi fG),(vi lX),(vu lY),(vs fH),lZ.v])] w20 (fun e w21=>∃fI fJ mA mB fK mC,e=.returned (Aa fI fJ mA mB fK mC)∧C2 w21∧Calls prog 127 #[(vi v8),(.agg #[(vi fI),(vi fJ),(vi mA),(vu mB),(vs fK),mC.v])] w21 (fun e w22=>∃eO eP jL jM eQ jN,e=.returned (Aa eO eP jL jM eQ jN)∧(∀j,j<6→vF w22 (p2.add j))∧∀w23,w23=storeRow w22 p2 (Ab eO eP jL jM eQ jN)→∃cE cF hA hB cG hD,Row w23 p2 (Ab cE cF hA hB cG hD)∧K cE cF hA hB cG hD w23))))) (Calls prog 126 #[(vi 1),(.agg #[(vi cY),(vi cZ),(vi fC),(vu fD),(vs dA),fE.v]),(vb false)] w18 (fun e w24=>∃fL fM mD mE fN mF,e=.returned (Aa fL fM mD mE fN mF)∧C2 w24∧Calls prog 128 #[(.agg #[(vi eL),(vi eM),(vi jI),(vu jJ),(vs eN),jK.v]),(.agg #[(vi fL),(vi fM),(vi mD),(vu mE),(vs fN),mF.v])] w24 (fun e w25=>∃eF eG mG mH eH mI,e=.returned (Aa eF eG mG mH eH mI)∧C2 w25∧Calls prog 128 #[(.agg #[(vi dZ),(vi eA),(vi gX),(vu gY),(vs eB),gZ.v]),(.agg #[(vi eF),(vi eG),(vi mG),(vu mH),(vs eH),mI.v])] w25 (fun e w26=>∃fO fP mJ mK fQ mL,e=.returned (Aa fO fP mJ mK fQ mL)∧C2 w26∧Calls prog 127 #[(vi v8),(.agg #[(vi fO),(vi fP),(vi mJ),(vu mK),(vs fQ),mL.v])] w26 (fun e w27=>∃eR eS jO jP eT jQ,e=.returned (Aa eR eS jO jP eT jQ)∧(∀j,j<6→vF w27 (p2.add j))∧∀w28,w28=storeRow w27 p2 (Ab eR eS jO jP eT jQ)→∃bT bU hE hF bV hG,Row w28 p2 (Ab bT bU hE hF bV hG)∧K bT bU hE hF bV hG w28))))))) (Calls prog 126 #[(vi 0),(.agg #[(vi dF),(vi dG),(vi gU),(vu gV),(vs dH),gW.v]),(vb false)] w17 (fun e w29=>∃eU eV jR jS eW jT,e=.returned (Aa eU eV jR jS eW jT)∧C2 w29∧Br v10 (Calls prog 126 #[(vi 1),(.agg #[(vi cY),(vi cZ),(vi fC),(vu fD),(vs dA),fE.v]),(vb second1)] w29 (fun e w30=>∃fR fS mM mN fT mO,e=.returned (Aa fR fS mM mN fT mO)∧C2 w30∧Calls prog 128 #[(.agg #[(vi eU),(vi eV),(vi jR),(vu jS),(vs eW),jT.v]),(.agg #[(vi fR),(vi fS),(vi mM),(vu mN),(vs fT),mO.v])] w30 (fun e w31=>∃hI hJ mP mQ hK mR,e=.returned (Aa hI hJ mP mQ hK mR)∧C2 w31∧Calls prog 128 #[(.agg #[(vi dZ),(vi eA),(vi gX),(vu gY),(vs eB),gZ.v]),(.agg #[(vi hI),(vi hJ),(vi mP),(vu mQ),(vs hK),mR.v])] w31 (fun e w32=>∃mS mT mU mV mW mX,e=.returned (Aa mS mT mU mV mW mX)∧C2 w32∧Calls prog 127 #[(vi v8),(.agg #[(vi mS),(vi mT),(vi mU),(vu mV),(vs mW),mX.v])] w32 (fun e w33=>∃jU jV jW jX jY jZ,e=.returned (Aa jU jV jW jX jY jZ)∧(∀j,j<6→vF w33 (p2.add j))∧∀w34,w34=storeRow w33 p2 (Ab jU jV jW jX jY jZ)→∃bW bX hL hM bY hN,Row w34 p2 (Ab bW bX hL hM bY hN)∧K bW bX hL hM bY hN w34))))) (Calls prog 126 #[(vi 1),(.agg #[(vi cY),(vi cZ),(vi fC),(vu fD),(vs dA),fE.v]),(vb false)] w29 (fun e w35=>∃mY mZ nA nB nC nD,e=.returned (Aa mY mZ nA nB nC nD)∧C2 w35∧Calls prog 128 #[(.agg #[(vi eU),(vi eV),(vi jR),(vu jS),(vs eW),jT.v]),(.agg #[(vi mY),(vi mZ),(vi nA),(vu nB),(vs nC),nD.v])] w35 (fun e w36=>∃nE nF nG nH nI nJ,e=.returned (Aa nE nF nG nH nI nJ)∧C2 w36∧Calls prog 128 #[(.agg #[(vi dZ),(vi eA),(vi gX),(vu gY),(vs eB),gZ.v]),(.agg #[(vi nE),(vi nF),(vi nG),(vu nH),(vs nI),nJ.v])] w36 (fun e w37=>∃nK nL nM nN nO nP,e=.returned (Aa nK nL nM nN nO nP)∧C2 w37∧Calls prog 127 #[(vi v8),(.agg #[(vi nK),(vi nL),(vi nM),(vu nN),(vs nO),nP.v])] w37 (fun e w38=>∃kA kB kC kD kE kF,e=.returned (Aa kA kB kC kD kE kF)∧(∀j,j<6→vF w38 (p2.add j))∧∀w39,w39=storeRow w38 p2 (Ab kA kB kC kD kE kF)→∃bZ cA hO hQ cB hR,Row w39 p2 (Ab bZ cA hO hQ cB hR)∧K bZ cA hO hQ cB hR w39))))))))) (Br (v3 == 5) (∃C3:WP,C3 w5.drew∧∀w40,w40=w5.drew→∃v11,(∀w',C3 w'→w'.cell? (p1.add 2)=some (vu v11))∧Calls prog 129 #[(vs (⟨#[97,98,111,114,116,101,100]⟩:ByteArray))] w40 (fun e w41=>∃nQ nR nS nT nU nV,e=.returned (Aa nQ nR nS nT nU nV)∧C3 w41∧Calls prog 130 #[(vu v11)] w41 (fun e w42=>∃nW nX nY nZ oA oB,e=.returned (Aa nW nX nY nZ oA oB)∧Calls prog 128 #[(.agg #[(vi nQ),(vi nR),(vi nS),(vu nT),(vs nU),nV.v]),(.agg #[(vi nW),(vi nX),(vi nY),(vu nZ),(vs oA),oB.v])] w42 (fun e w43=>∃oC oD oE oF oG oH,e=.returned (Aa oC oD oE oF oG oH)∧Calls prog 127 #[(vi 2),(.agg #[(vi oC),(vi oD),(vi oE),(vu oF),(vs oG),oH.v])] w43 (fun e w44=>∃kG kH kI kJ kK kL,e=.returned (Aa kG kH kI kJ kK kL)∧(∀j,j<6→vF w44 (p2.add j))∧∀w45,w45=storeRow w44 p2 (Ab kG kH kI kJ kK kL)→∃dM dN hS hT dO hU,Row w45 p2 (Ab dM dN hS hT dO hU)∧K dM dN hS hT dO hU w45))))) (Br (v3 == 6) (∃C4:WP,C4 w5.drew∧∀w46,w46=w5.drew→∃iZ jA jB jC jD jE,(∀w',C4 w'→Row w' p3 (Ab iZ jA jB jC jD jE))∧Calls prog 129 #[(vs (⟨#[105,110,115,116,101,97,100]⟩:ByteArray))] w46 (fun e w47=>∃oI oJ oK oL oM oN,e=.returned (Aa oI oJ oK oL oM oN)∧C4 w47∧Calls prog 128 #[(.agg #[(vi oI),(vi oJ),(vi oK),(vu oL),(vs oM),oN.v]),(.agg #[(vi iZ),(vi jA),(vi jB),(vu jC),(vs jD),jE.v])] w47 (fun e w48=>∃oO oP oQ oR oS oT,e=.returned (Aa oO oP oQ oR oS oT)∧Calls prog 127 #[(vi 2),(.agg #[(vi oO),(vi oP),(vi oQ),(vu oR),(vs oS),oT.v])] w48 (fun e w49=>∃kM kN kO kP kQ kR,e=.returned (Aa kM kN kO kP kQ kR)∧(∀j,j<6→vF w49 (p2.add j))∧∀w50,w50=storeRow w49 p2 (Ab kM kN kO kP kQ kR)→∃hV hW hX hY hZ iA,Row w50 p2 (Ab hV hW hX hY hZ iA)∧K hV hW hX hY hZ iA w50)))) (∃C5:WP,C5 w5.drew∧∀w51,w51=w5.drew→∃v12,(∀w',C5 w'→w'.cell? (p1.add 2)=some (vu v12))∧Calls prog 129 #[(vs (⟨#[102,117,108,108]⟩:ByteArray))] w51 (fun e w52=>∃oU oV oW oX oY oZ,e=.returned (Aa oU oV oW oX oY oZ)∧C5 w52∧Calls prog 130 #[(vu v12)] w52 (fun e w53=>∃pA pB pC pD pE pF,e=.returned (Aa pA pB pC pD pE pF)∧Calls prog 128 #[(.agg #[(vi oU),(vi oV),(vi oW),(vu oX),(vs oY),oZ.v]),(.agg #[(vi pA),(vi pB),(vi pC),(vu pD),(vs pE),pF.v])] w53 (fun e w54=>∃kS kT kU kV kW kX,e=.returned (Aa kS kT kU kV kW kX)∧(∀j,j<6→vF w54 (p2.add j))∧∀w55,w55=storeRow w54 p2 (Ab kS kT kU kV kW kX)→∃iB iC iD iE iF iG,Row w55 p2 (Ab iB iC iD iE iF iG)∧K iB iC iD iE iF iG w55))))))))))
theorem w_Z1 (gL gM gN gO gP first1 second1 w K) (h:m_Z1 gL gM gN gO gP first1 second1 w K):
  Calls prog 58 #[(.agg #[(vi gL),(vi gM),(vu gN),(vs gO),(vb gP)]),(vb first1),(vb second1)] w (fun e w'=>∃pG pH pI pJ pK pL,e=.returned (Aa pG pH pI pJ pK pL)∧K pG pH pI pJ pK pL w'):=by
 refine cw (args:=[(Af gL gM gN gO gP),(vb first1),(vb second1)]) func58 ntmps58 (eg (sn (O:=(.cells #[(vi gL),(vi gM),(vu gN),(vs gO),(vb gP)] 35)) xb ?_))
 intro p1 w1 hn14
 have h:=h p1 w1 hn14
 refine nw1 h (zH (zeroValue107 _) rfl) fun p2 w2 h=>ln (eg (q (ql (isAgg23 _) h fun v1 h=>q (ql (isAgg9 _) h fun v2 h=>sc call125 (h.mono fun e w3 ⟨aE,aF,aG,aD,aH,bL,k,h⟩=>⟨_,k,?_⟩)))))
 refine nw1 h (zH (zeroValue107 _) rfl) fun p3 w4 h=>sro (sizeOf107 _) h fun w5 h=>ln (zA (eg (q (ql (isAgg3 _) h fun v3 h=>ln (zK (eg (qb (ln (cbr h ?_ ?_)))))))))<;>intro h
 refine eg (q (ql (isAgg3 _) h fun v4 h=>?_))
 obtain ⟨aL,aM,aS,aT,aN,bA,hv3,h⟩:=h
 refine qa (isAgg107 _) (sizeOf107 _) hv3 (q (ql (isAgg4 _) h fun v5 h=>sc call126 (h.mono fun e w6 ⟨bE,bF,bK,aR,aZ,eX,k,h⟩=>⟨_,k,?_⟩)))
 refine sro (sizeOf107 _) h fun w7 h=>ln (er (qW (zX ?_)))
 obtain ⟨aA,aB,aI,aJ,aC,aK,hv1,h⟩:=h
 refine gg1 results58 (rva (isAgg107 _) (sizeOf107 _) hv1) ⟨aA,aB,aI,aJ,aC,aK,rfl,h⟩
 refine eg (qb (ln (cbr h ?_ ?_)))<;>intro h
 refine eg (q (ql (isAgg3 _) h fun v6 h=>?_))
 obtain ⟨bB,bC,bQ,bR,bD,bS,hv6,h⟩:=h
 refine qa (isAgg107 _) (sizeOf107 _) hv6 (sc call127 (h.mono fun e w8 ⟨bO,bP,cW,cX,bG,eY,k,h⟩=>⟨_,k,?_⟩))
 refine sro (sizeOf107 _) h fun w9 h=>ln (er (qW (zX ?_)))
 obtain ⟨aO,aP,cL,cM,aQ,dR,hv5,h⟩:=h
 refine gg1 results58 (rva (isAgg107 _) (sizeOf107 _) hv5) ⟨aO,aP,cL,cM,aQ,dR,rfl,h⟩
 refine eg (qb (ln (cbr h ?_ ?_)))<;>intro h
 refine zA ?_
 obtain ⟨C1,hC,h⟩:=h
 refine dr1 C1 [0,3,4,5,6] [3,4,5,6] hC h fun w10 h=>qx 1 (vp (some (p1.add 2))) Kp1 (qg 2 ?_)
 obtain ⟨v7,hv9,h⟩:=h
 refine sy Kp2 (fun _ k=>xl (isAgg23 _) (hv9 _ k)) (lg 0 (slc Kp0 call129 (h.mono ?_)))
 rintro e w11 ⟨bH,bI,fW,fX,bJ,fY,rfl,hC,h⟩
 refine ⟨_,rfl,.inr hC,?_⟩
 refine lg 3 (slc Kp3 call130 (h.mono ?_))
 rintro e w12 ⟨cT,cU,eZ,fA,cV,fB,rfl,h⟩
 refine ⟨_,rfl,.inl (by kernel_rfl),?_⟩
 refine lg 4 (slc Kp4 call128 (h.mono ?_))
 rintro e w13 ⟨dW,dX,gQ,gR,dY,gS,rfl,h⟩
 refine ⟨_,rfl,.inl (by kernel_rfl),?_⟩
 refine lg 5 (slc Kp5 call127 (h.mono ?_))
 rintro e w14 ⟨eI,eJ,jF,jG,eK,jH,rfl,h⟩
 refine ⟨_,rfl,.inl (by kernel_rfl),?_⟩
 refine lg 6 (slo Kp6 (sizeOf107 _) h fun w15 h=>⟨.inl (by kernel_rfl),?_⟩)
 refine wn (zL (er (qW (zX ?_))))
 obtain ⟨aU,aV,dS,dT,aW,gT,hv8,h⟩:=h
 refine gg1 results58 (rva (isAgg107 _) (sizeOf107 _) hv8) ⟨aU,aV,dS,dT,aW,gT,rfl,h⟩
 refine eg (qb (ln (cbr h ?_ ?_)))<;>intro h
 refine zA ?_
 obtain ⟨C2,hC,h⟩:=h
 refine dr1 C2 [2,9,16,17,18,19,20] [19,20] hC h fun w16 h=>qx 0 (vp (some (p1.add 1))) Kp0 (qg 1 ?_)
 obtain ⟨v8,hv18,h⟩:=h
 refine sy Kp1 (fun _ k=>xl (isAgg3 _) (hv18 _ k)) (qg 3 ?_)
 obtain ⟨dF,dG,gU,gV,dH,gW,hv17,h⟩:=h
 refine sy (v:=(Aa dF dG gU gV dH gW)) Kp3 (fun w' hw'=>(xa p3 (Ab dF dG gU gV dH gW) (isAgg107 _) (sizeOf107 _) (hv17 w' hw'))) (qx 4 (vp (some (p1.add 4))) Kp4 (qg 5 ?_))
 obtain ⟨v9,hv16,h⟩:=h
 refine sy Kp5 (fun _ k=>xl (isAgg4 _) (hv16 _ k)) (qg 10 ?_)
 obtain ⟨cY,cZ,fC,fD,dA,fE,hv15,h⟩:=h
 refine sy (v:=(Aa cY cZ fC fD dA fE)) (zO (S8 (zG (zG zN)))) (fun w' hw'=>(xa p3 (Ab cY cZ fC fD dA fE) (isAgg107 _) (sizeOf107 _) (hv15 w' hw'))) (qx 11 (vp (some (p1.add 4))) (zO (S8 (zG (zG (zG zN))))) (qg 12 ?_))
 obtain ⟨v10,hv14,h⟩:=h
 refine sy (zO (S8 (S4 zN))) (fun _ k=>xl (isAgg4 _) (hv14 _ k)) (lg 2 (slc Kp2 call129 (h.mono ?_)))
 rintro e w17 ⟨dZ,eA,gX,gY,eB,gZ,rfl,hC,h⟩
 refine ⟨_,rfl,.inr hC,?_⟩
 refine qx 6 (vb v9) Kp6 (qg 7 ?_)
 obtain ⟨hg1,h⟩|⟨hg1,h⟩:=h.br
 refine sz (v:=(vb first1)) Kp7 (wy 45 hg1) (fun _ _=>(by kernel_rfl)) (qz 8 (vb first1) Kp8 (fun _ _=>(xT hg1)) (lg 9 (slc Kp9 call126 (h.mono ?_))))
 rintro e w18 ⟨eL,eM,jI,jJ,eN,jK,rfl,hC,h⟩
 refine ⟨_,rfl,.inr hC,?_⟩
 refine qx 13 (vb v10) (zO (S8 (S4 (zG zN)))) (qg 14 ?_)
 obtain ⟨hg2,h⟩|⟨hg2,h⟩:=h.br
 refine sz (v:=(vb second1)) (zO (S8 (S4 (zG (zG zN))))) (wy 52 hg2) (fun _ _=>(by kernel_rfl)) (qz 15 (vb second1) (zO (S8 (S4 (zG (zG (zG zN)))))) (fun _ _=>(xT hg2)) (lg 16 (slc (zO (S8 (S8 zN))) call126 (h.mono ?_))))
 rintro e w19 ⟨eC,eD,lU,lV,eE,lW,rfl,hC,h⟩
 refine ⟨_,rfl,.inr hC,?_⟩
 refine lg 17 (slc (zO (S8 (S8 (zG zN)))) call128 (h.mono ?_))
 rintro e w20 ⟨fF,fG,lX,lY,fH,lZ,rfl,hC,h⟩
 refine ⟨_,rfl,.inr hC,?_⟩
 refine lg 18 (slc (zO (S8 (S8 (zG (zG zN))))) call128 (h.mono ?_))
 rintro e w21 ⟨fI,fJ,mA,mB,fK,mC,rfl,hC,h⟩
 refine ⟨_,rfl,.inr hC,?_⟩
 refine lg 19 (slc (zO (S8 (S8 (zG (zG (zG zN)))))) call127 (h.mono ?_))
 rintro e w22 ⟨eO,eP,jL,jM,eQ,jN,rfl,h⟩
 refine ⟨_,rfl,.inl (by kernel_rfl),?_⟩
 refine lg 20 (slo (zO (S8 (S8 (S4 zN)))) (sizeOf107 _) h fun w23 h=>⟨.inl (by kernel_rfl),?_⟩)
 refine wn (zL (er (qW (zX ?_))))
 obtain ⟨cE,cF,hA,hB,cG,hD,hv10,h⟩:=h
 refine gg1 results58 (rva (isAgg107 _) (sizeOf107 _) hv10) ⟨cE,cF,hA,hB,cG,hD,rfl,h⟩
 refine xZ (zO (S8 (S4 (zG (zG zN))))) (qA rfl (yD 52 hg2) rfl) (qz 15 (vb false) (zO (S8 (S4 (zG (zG (zG zN)))))) (fun _ _=>(xF hg2)) (lg 16 (slc (zO (S8 (S8 zN))) call126 (h.mono ?_))))
 rintro e w24 ⟨fL,fM,mD,mE,fN,mF,rfl,hC,h⟩
 refine ⟨_,rfl,.inr hC,?_⟩
 refine lg 17 (slc (zO (S8 (S8 (zG zN)))) call128 (h.mono ?_))
 rintro e w25 ⟨eF,eG,mG,mH,eH,mI,rfl,hC,h⟩
 refine ⟨_,rfl,.inr hC,?_⟩
 refine lg 18 (slc (zO (S8 (S8 (zG (zG zN))))) call128 (h.mono ?_))
 rintro e w26 ⟨fO,fP,mJ,mK,fQ,mL,rfl,hC,h⟩
 refine ⟨_,rfl,.inr hC,?_⟩
 refine lg 19 (slc (zO (S8 (S8 (zG (zG (zG zN)))))) call127 (h.mono ?_))
 rintro e w27 ⟨eR,eS,jO,jP,eT,jQ,rfl,h⟩
 refine ⟨_,rfl,.inl (by kernel_rfl),?_⟩
 refine lg 20 (slo (zO (S8 (S8 (S4 zN)))) (sizeOf107 _) h fun w28 h=>⟨.inl (by kernel_rfl),?_⟩)
 refine wn (zL (er (qW (zX ?_))))
 obtain ⟨bT,bU,hE,hF,bV,hG,hv11,h⟩:=h
 refine gg1 results58 (rva (isAgg107 _) (sizeOf107 _) hv11) ⟨bT,bU,hE,hF,bV,hG,rfl,h⟩
 refine xZ Kp7 (qA rfl (yD 45 hg1) rfl) (qz 8 (vb false) Kp8 (fun _ _=>(xF hg1)) (lg 9 (slc Kp9 call126 (h.mono ?_))))
 rintro e w29 ⟨eU,eV,jR,jS,eW,jT,rfl,hC,h⟩
 refine ⟨_,rfl,.inr hC,?_⟩
 refine qx 13 (vb v10) (zO (S8 (S4 (zG zN)))) (qg 14 ?_)
 obtain ⟨hg3,h⟩|⟨hg3,h⟩:=h.br
 refine sz (v:=(vb second1)) (zO (S8 (S4 (zG (zG zN))))) (wy 52 hg3) (fun _ _=>(by kernel_rfl)) (qz 15 (vb second1) (zO (S8 (S4 (zG (zG (zG zN)))))) (fun _ _=>(xT hg3)) (lg 16 (slc (zO (S8 (S8 zN))) call126 (h.mono ?_))))
 rintro e w30 ⟨fR,fS,mM,mN,fT,mO,rfl,hC,h⟩
 refine ⟨_,rfl,.inr hC,?_⟩
 refine lg 17 (slc (zO (S8 (S8 (zG zN)))) call128 (h.mono ?_))
 rintro e w31 ⟨hI,hJ,mP,mQ,hK,mR,rfl,hC,h⟩
 refine ⟨_,rfl,.inr hC,?_⟩
 refine lg 18 (slc (zO (S8 (S8 (zG (zG zN))))) call128 (h.mono ?_))
 rintro e w32 ⟨mS,mT,mU,mV,mW,mX,rfl,hC,h⟩
 refine ⟨_,rfl,.inr hC,?_⟩
 refine lg 19 (slc (zO (S8 (S8 (zG (zG (zG zN)))))) call127 (h.mono ?_))
 rintro e w33 ⟨jU,jV,jW,jX,jY,jZ,rfl,h⟩
 refine ⟨_,rfl,.inl (by kernel_rfl),?_⟩
 refine lg 20 (slo (zO (S8 (S8 (S4 zN)))) (sizeOf107 _) h fun w34 h=>⟨.inl (by kernel_rfl),?_⟩)
 refine wn (zL (er (qW (zX ?_))))
 obtain ⟨bW,bX,hL,hM,bY,hN,hv12,h⟩:=h
 refine gg1 results58 (rva (isAgg107 _) (sizeOf107 _) hv12) ⟨bW,bX,hL,hM,bY,hN,rfl,h⟩
 refine xZ (zO (S8 (S4 (zG (zG zN))))) (qA rfl (yD 52 hg3) rfl) (qz 15 (vb false) (zO (S8 (S4 (zG (zG (zG zN)))))) (fun _ _=>(xF hg3)) (lg 16 (slc (zO (S8 (S8 zN))) call126 (h.mono ?_))))
 rintro e w35 ⟨mY,mZ,nA,nB,nC,nD,rfl,hC,h⟩
 refine ⟨_,rfl,.inr hC,?_⟩
 refine lg 17 (slc (zO (S8 (S8 (zG zN)))) call128 (h.mono ?_))
 rintro e w36 ⟨nE,nF,nG,nH,nI,nJ,rfl,hC,h⟩
 refine ⟨_,rfl,.inr hC,?_⟩
 refine lg 18 (slc (zO (S8 (S8 (zG (zG zN))))) call128 (h.mono ?_))
 rintro e w37 ⟨nK,nL,nM,nN,nO,nP,rfl,hC,h⟩
 refine ⟨_,rfl,.inr hC,?_⟩
 refine lg 19 (slc (zO (S8 (S8 (zG (zG (zG zN)))))) call127 (h.mono ?_))
 rintro e w38 ⟨kA,kB,kC,kD,kE,kF,rfl,h⟩
 refine ⟨_,rfl,.inl (by kernel_rfl),?_⟩
 refine lg 20 (slo (zO (S8 (S8 (S4 zN)))) (sizeOf107 _) h fun w39 h=>⟨.inl (by kernel_rfl),?_⟩)
 refine wn (zL (er (qW (zX ?_))))
 obtain ⟨bZ,cA,hO,hQ,cB,hR,hv13,h⟩:=h
 refine gg1 results58 (rva (isAgg107 _) (sizeOf107 _) hv13) ⟨bZ,cA,hO,hQ,cB,hR,rfl,h⟩
 refine eg (qb (ln (cbr h ?_ ?_)))<;>intro h
 refine zA ?_
 obtain ⟨C3,hC,h⟩:=h
 refine dr1 C3 [0,3,4,5,6] [3,4,5,6] hC h fun w40 h=>qx 1 (vp (some (p1.add 2))) Kp1 (qg 2 ?_)
 obtain ⟨v11,hv20,h⟩:=h
 refine sy Kp2 (fun _ k=>xl (isAgg23 _) (hv20 _ k)) (lg 0 (slc Kp0 call129 (h.mono ?_)))
 rintro e w41 ⟨nQ,nR,nS,nT,nU,nV,rfl,hC,h⟩
 refine ⟨_,rfl,.inr hC,?_⟩
 refine lg 3 (slc Kp3 call130 (h.mono ?_))
 rintro e w42 ⟨nW,nX,nY,nZ,oA,oB,rfl,h⟩
 refine ⟨_,rfl,.inl (by kernel_rfl),?_⟩
 refine lg 4 (slc Kp4 call128 (h.mono ?_))
 rintro e w43 ⟨oC,oD,oE,oF,oG,oH,rfl,h⟩
 refine ⟨_,rfl,.inl (by kernel_rfl),?_⟩
 refine lg 5 (slc Kp5 call127 (h.mono ?_))
 rintro e w44 ⟨kG,kH,kI,kJ,kK,kL,rfl,h⟩
 refine ⟨_,rfl,.inl (by kernel_rfl),?_⟩
 refine lg 6 (slo Kp6 (sizeOf107 _) h fun w45 h=>⟨.inl (by kernel_rfl),?_⟩)
 refine wn (zL (er (qW (zX ?_))))
 obtain ⟨dM,dN,hS,hT,dO,hU,hv19,h⟩:=h
 refine gg1 results58 (rva (isAgg107 _) (sizeOf107 _) hv19) ⟨dM,dN,hS,hT,dO,hU,rfl,h⟩
 refine eg (qb (ln (cbr h ?_ ?_)))<;>intro h
 refine zA ?_
 obtain ⟨C4,hC,h⟩:=h
 refine dr1 C4 [0,2,3,4] [2,3,4] hC h fun w46 h=>qg 1 ?_
 obtain ⟨iZ,jA,jB,jC,jD,jE,hv22,h⟩:=h
 refine sy (v:=(Aa iZ jA jB jC jD jE)) Kp1 (fun w' hw'=>(xa p3 (Ab iZ jA jB jC jD jE) (isAgg107 _) (sizeOf107 _) (hv22 w' hw'))) (lg 0 (slc Kp0 call129 (h.mono ?_)))
 rintro e w47 ⟨oI,oJ,oK,oL,oM,oN,rfl,hC,h⟩
 refine ⟨_,rfl,.inr hC,?_⟩
 refine lg 2 (slc Kp2 call128 (h.mono ?_))
 rintro e w48 ⟨oO,oP,oQ,oR,oS,oT,rfl,h⟩
 refine ⟨_,rfl,.inl (by kernel_rfl),?_⟩
 refine lg 3 (slc Kp3 call127 (h.mono ?_))
 rintro e w49 ⟨kM,kN,kO,kP,kQ,kR,rfl,h⟩
 refine ⟨_,rfl,.inl (by kernel_rfl),?_⟩
 refine lg 4 (slo Kp4 (sizeOf107 _) h fun w50 h=>⟨.inl (by kernel_rfl),?_⟩)
 refine wn (zL (er (qW (zX ?_))))
 obtain ⟨hV,hW,hX,hY,hZ,iA,hv21,h⟩:=h
 refine gg1 results58 (rva (isAgg107 _) (sizeOf107 _) hv21) ⟨hV,hW,hX,hY,hZ,iA,rfl,h⟩
 refine zB (uM (zL (zA ?_)))
 obtain ⟨C5,hC,h⟩:=h
 refine dr1 C5 [0,3,4,5] [3,4,5] hC h fun w51 h=>qx 1 (vp (some (p1.add 2))) Kp1 (qg 2 ?_)
 obtain ⟨v12,hv24,h⟩:=h
 refine sy Kp2 (fun _ k=>xl (isAgg23 _) (hv24 _ k)) (lg 0 (slc Kp0 call129 (h.mono ?_)))
 rintro e w52 ⟨oU,oV,oW,oX,oY,oZ,rfl,hC,h⟩
 refine ⟨_,rfl,.inr hC,?_⟩
 refine lg 3 (slc Kp3 call130 (h.mono ?_))
 rintro e w53 ⟨pA,pB,pC,pD,pE,pF,rfl,h⟩
 refine ⟨_,rfl,.inl (by kernel_rfl),?_⟩
 refine lg 4 (slc Kp4 call128 (h.mono ?_))
 rintro e w54 ⟨kS,kT,kU,kV,kW,kX,rfl,h⟩
 refine ⟨_,rfl,.inl (by kernel_rfl),?_⟩
 refine lg 5 (slo Kp5 (sizeOf107 _) h fun w55 h=>⟨.inl (by kernel_rfl),?_⟩)
 refine wn (zL (er ?_))
 obtain ⟨iB,iC,iD,iE,iF,iG,hv23,h⟩:=h
 refine gg1 results58 (rva (isAgg107 _) (sizeOf107 _) hv23) ⟨iB,iC,iD,iE,iF,iG,rfl,h⟩
def m_A_j7 (who1:Int) (p1 a1 a2:Addr) (w:World) (K:Int→Int→Int→ByteArray→Bool→WP):Prop :=∃v1,w.cell? (a1.add 2)=some (vu v1)∧∃v2,w.cell? (a1.add 3)=some (vs v2)∧∃v3,w.cell? (a1.add 4)=some (vb v3)∧Br v3 ((∀j,j<5→vF w (p1.add j))∧∀w14,w14=storeRow w p1 (Ac 4 who1 v1 v2 true)→∃bT bU dD bV dE,Row w14 p1 (Ac bT bU dD bV dE)∧K bT bU dD bV dE w14) (∃v4,w.cell? (a2.add 4)=some (vb v4)∧(∀j,j<5→vF w (p1.add j))∧∀w15,w15=storeRow w p1 (Ac 4 who1 v1 v2 v4)→∃bW bX dI bY dJ,Row w15 p1 (Ac bW bX dI bY dJ)∧K bW bX dI bY dJ w15)
def m_A_j10 (r1:Option Addr) (who1:Int) (p1 a1 a2:Addr) (x8:Bool) (w:World) (K:Int→Int→Int→ByteArray→Bool→WP):Prop :=Br x8 (∃a4,r1=some a4∧vF w (a4.add 1)∧∀w16,w16=w.setCell (a4.add 1) (vb true)→m_A_j7 who1 p1 a1 a2 w16 K) (∃v6,w.cell? (a1.add 3)=some (vs v6)∧∃v7,w.cell? (a2.add 3)=some (vs v7)∧∃a5,r1=some a5∧vF w (a5.add 1)∧∀w17,w17=w.setCell (a5.add 1) (vb (!(decide (v6=v7))))→m_A_j7 who1 p1 a1 a2 w17 K)
def m_A_j9 (r1:Option Addr) (who1:Int) (p1 a1 a2:Addr) (x7:Bool) (w:World) (K:Int→Int→Int→ByteArray→Bool→WP):Prop :=Br x7 (m_A_j10 r1 who1 p1 a1 a2 true w K) (∃v8,w.cell? (a1.add 2)=some (vu v8)∧∃v9,w.cell? (a2.add 2)=some (vu v9)∧m_A_j10 r1 who1 p1 a1 a2 (v8 != v9) w K)
def m_A_j8 (r1:Option Addr) (who1:Int) (p1 a1 a2:Addr) (x6:Bool) (w:World) (K:Int→Int→Int→ByteArray→Bool→WP):Prop :=Br x6 (m_A_j9 r1 who1 p1 a1 a2 true w K) (∃v10,w.cell? (a2.add 1)=some (vi v10)∧m_A_j9 r1 who1 p1 a1 a2 (v10 != 1) w K)
def m_A_j6 (r1:Option Addr) (who1:Int) (p1 a1 a2:Addr) (w:World) (K:Int→Int→Int→ByteArray→Bool→WP):Prop :=∃a3,r1=some a3∧∃v5,w.cell? (a3.add 1)=some (vb v5)∧Br v5 (m_A_j8 r1 who1 p1 a1 a2 true w K) (∃v11,w.cell? (a1.add 1)=some (vi v11)∧m_A_j8 r1 who1 p1 a1 a2 (v11 != 0) w K)
def m_A_j5 (r1:Option Addr) (who1:Int) (p1:Addr) (r3:Int) (x5:Bool) (w:World) (K:Int→Int→Int→ByteArray→Bool→WP):Prop :=Br x5 (Calls prog 109 #[(vp r1),(vi r3),(vi 4)] w (fun e w11=>∃bO bP cW cX bG fZ gA,e=.returned (Ae bO bP cW cX bG fZ gA)∧∀p2 w12,New w11 (.cells #[(vi 0),(vi 0),(vi 0),(vu 0),ve,(vi 0),(vi 0)] 176) p2 w12→(∀j,j<7→vF w12 (p2.add j))∧∀w13,w13=storeRow w12 p2 (Ad bO bP cW cX bG fZ gA)→∃C1:WP,C1 w13.drew∧∀w18,w18=w13.drew→∃v12,(∀w',C1 w'→w'.cell? (p2.add 5)=some (vi v12))∧∃v13,(∀w',C1 w'→w'.cell? (p2.add 6)=some (vi v13))∧(Calls prog 107 #[(vp r1),(vi v12)] w18 (fun e w19=>∃bH bI bM bJ bN,e=.returned (Af bH bI bM bJ bN)∧C1 w19∧(Calls prog 107 #[(vp r1),(vi v13)] w19 (fun e w20=>∃cT cU dU cV dV,e=.returned (Af cT cU dU cV dV)∧(∀p3 w21,New w20 (.cells #[(vi 0),(vi 0),(vu 0),ve,(vb false)] 35) p3 w21→C1 w21∧∀p4 w22,New w21 (.cells #[(vi 0),(vi 0),(vu 0),ve,(vb false)] 35) p4 w22→C1 w22∧(∀j,j<5→vF w22 (p3.add j))∧∀w23,w23=storeRow w22 p3 (Ac bH bI bM bJ bN)→(∀j,j<5→vF w23 (p4.add j))∧∀w24,w24=storeRow w23 p4 (Ac cT cU dU cV dV)→m_A_j6 r1 who1 p1 p3 p4 w24 K)∧(∀p5 w25,New w20 (.cells #[(vi 0),(vi 0),(vu 0),ve,(vb false)] 35) p5 w25→C1 w25∧∀p6 w26,New w25 (.cells #[(vi 0),(vi 0),(vu 0),ve,(vb false)] 35) p6 w26→C1 w26∧(∀j,j<5→vF w26 (p6.add j))∧∀w27,w27=storeRow w26 p6 (Ac bH bI bM bJ bN)→(∀j,j<5→vF w27 (p5.add j))∧∀w28,w28=storeRow w27 p5 (Ac cT cU dU cV dV)→m_A_j6 r1 who1 p1 p6 p5 w28 K)))∧(∀p7 w29,New w19 (.cells #[(vi 0),(vi 0),(vu 0),ve,(vb false)] 35) p7 w29→C1 w29∧(Calls prog 107 #[(vp r1),(vi v13)] w29 (fun e w30=>∃dW dX fU dY fV,e=.returned (Af dW dX fU dY fV)∧∀p8 w31,New w30 (.cells #[(vi 0),(vi 0),(vu 0),ve,(vb false)] 35) p8 w31→C1 w31∧(∀j,j<5→vF w31 (p7.add j))∧∀w32,w32=storeRow w31 p7 (Ac bH bI bM bJ bN)→(∀j,j<5→vF w32 (p8.add j))∧∀w33,w33=storeRow w32 p8 (Ac dW dX fU dY fV)→m_A_j6 r1 who1 p1 p7 p8 w33 K))∧(∀p9 w34,New w29 (.cells #[(vi 0),(vi 0),(vu 0),ve,(vb false)] 35) p9 w34→C1 w34∧Calls prog 107 #[(vp r1),(vi v13)] w34 (fun e w35=>∃eI eJ kY eK kZ,e=.returned (Af eI eJ kY eK kZ)∧(∀j,j<5→vF w35 (p7.add j))∧∀w36,w36=storeRow w35 p7 (Ac bH bI bM bJ bN)→(∀j,j<5→vF w36 (p9.add j))∧∀w37,w37=storeRow w36 p9 (Ac eI eJ kY eK kZ)→m_A_j6 r1 who1 p1 p7 p9 w37 K)))∧(∀p10 w38,New w19 (.cells #[(vi 0),(vi 0),(vu 0),ve,(vb false)] 35) p10 w38→C1 w38∧(Calls prog 107 #[(vp r1),(vi v13)] w38 (fun e w39=>∃dZ eA lA eB lB,e=.returned (Af dZ eA lA eB lB)∧∀p11 w40,New w39 (.cells #[(vi 0),(vi 0),(vu 0),ve,(vb false)] 35) p11 w40→C1 w40∧(∀j,j<5→vF w40 (p11.add j))∧∀w41,w41=storeRow w40 p11 (Ac bH bI bM bJ bN)→(∀j,j<5→vF w41 (p10.add j))∧∀w42,w42=storeRow w41 p10 (Ac dZ eA lA eB lB)→m_A_j6 r1 who1 p1 p11 p10 w42 K))∧(∀p12 w43,New w38 (.cells #[(vi 0),(vi 0),(vu 0),ve,(vb false)] 35) p12 w43→C1 w43∧Calls prog 107 #[(vp r1),(vi v13)] w43 (fun e w44=>∃eL eM lC eN lD,e=.returned (Af eL eM lC eN lD)∧(∀j,j<5→vF w44 (p12.add j))∧∀w45,w45=storeRow w44 p12 (Ac bH bI bM bJ bN)→(∀j,j<5→vF w45 (p10.add j))∧∀w46,w46=storeRow w45 p10 (Ac eL eM lC eN lD)→m_A_j6 r1 who1 p1 p12 p10 w46 K)))))∧(∀p13 w47,New w18 (.cells #[(vi 0),(vi 0),(vu 0),ve,(vb false)] 35) p13 w47→C1 w47∧(Calls prog 107 #[(vp r1),(vi v12)] w47 (fun e w48=>∃eC eD iH eE iI,e=.returned (Af eC eD iH eE iI)∧C1 w48∧(Calls prog 107 #[(vp r1),(vi v13)] w48 (fun e w49=>∃fF fG lE fH lF,e=.returned (Af fF fG lE fH lF)∧∀p14 w50,New w49 (.cells #[(vi 0),(vi 0),(vu 0),ve,(vb false)] 35) p14 w50→C1 w50∧(∀j,j<5→vF w50 (p13.add j))∧∀w51,w51=storeRow w50 p13 (Ac eC eD iH eE iI)→(∀j,j<5→vF w51 (p14.add j))∧∀w52,w52=storeRow w51 p14 (Ac fF fG lE fH lF)→m_A_j6 r1 who1 p1 p13 p14 w52 K))∧(∀p15 w53,New w48 (.cells #[(vi 0),(vi 0),(vu 0),ve,(vb false)] 35) p15 w53→C1 w53∧Calls prog 107 #[(vp r1),(vi v13)] w53 (fun e w54=>∃fI fJ lG fK lH,e=.returned (Af fI fJ lG fK lH)∧(∀j,j<5→vF w54 (p13.add j))∧∀w55,w55=storeRow w54 p13 (Ac eC eD iH eE iI)→(∀j,j<5→vF w55 (p15.add j))∧∀w56,w56=storeRow w55 p15 (Ac fI fJ lG fK lH)→m_A_j6 r1 who1 p1 p13 p15 w56 K))))∧(∀p16 w57,New w47 (.cells #[(vi 0),(vi 0),(vu 0),ve,(vb false)] 35) p16 w57→C1 w57∧Calls prog 107 #[(vp r1),(vi v12)] w57 (fun e w58=>∃eO eP lI eQ lJ,e=.returned (Af eO eP lI eQ lJ)∧C1 w58∧Calls prog 107 #[(vp r1),(vi v13)] w58 (fun e w59=>∃fL fM lK fN lL,e=.returned (Af fL fM lK fN lL)∧(∀j,j<5→vF w59 (p13.add j))∧∀w60,w60=storeRow w59 p13 (Ac eO eP lI eQ lJ)→(∀j,j<5→vF w60 (p16.add j))∧∀w61,w61=storeRow w60 p16 (Ac fL fM lK fN lL)→m_A_j6 r1 who1 p1 p13 p16 w61 K))))∧(∀p17 w62,New w18 (.cells #[(vi 0),(vi 0),(vu 0),ve,(vb false)] 35) p17 w62→C1 w62∧(Calls prog 107 #[(vp r1),(vi v12)] w62 (fun e w63=>∃eF eG iJ eH iK,e=.returned (Af eF eG iJ eH iK)∧C1 w63∧(Calls prog 107 #[(vp r1),(vi v13)] w63 (fun e w64=>∃fO fP lM fQ lN,e=.returned (Af fO fP lM fQ lN)∧∀p18 w65,New w64 (.cells #[(vi 0),(vi 0),(vu 0),ve,(vb false)] 35) p18 w65→C1 w65∧(∀j,j<5→vF w65 (p18.add j))∧∀w66,w66=storeRow w65 p18 (Ac eF eG iJ eH iK)→(∀j,j<5→vF w66 (p17.add j))∧∀w67,w67=storeRow w66 p17 (Ac fO fP lM fQ lN)→m_A_j6 r1 who1 p1 p18 p17 w67 K))∧(∀p19 w68,New w63 (.cells #[(vi 0),(vi 0),(vu 0),ve,(vb false)] 35) p19 w68→C1 w68∧Calls prog 107 #[(vp r1),(vi v13)] w68 (fun e w69=>∃eR eS lO eT lP,e=.returned (Af eR eS lO eT lP)∧(∀j,j<5→vF w69 (p19.add j))∧∀w70,w70=storeRow w69 p19 (Ac eF eG iJ eH iK)→(∀j,j<5→vF w70 (p17.add j))∧∀w71,w71=storeRow w70 p17 (Ac eR eS lO eT lP)→m_A_j6 r1 who1 p1 p19 p17 w71 K))))∧(∀p20 w72,New w62 (.cells #[(vi 0),(vi 0),(vu 0),ve,(vb false)] 35) p20 w72→C1 w72∧Calls prog 107 #[(vp r1),(vi v12)] w72 (fun e w73=>∃eU eV lQ eW lR,e=.returned (Af eU eV lQ eW lR)∧C1 w73∧Calls prog 107 #[(vp r1),(vi v13)] w73 (fun e w74=>∃fR fS lS fT lT,e=.returned (Af fR fS lS fT lT)∧(∀j,j<5→vF w74 (p20.add j))∧∀w75,w75=storeRow w74 p20 (Ac eU eV lQ eW lR)→(∀j,j<5→vF w75 (p17.add j))∧∀w76,w76=storeRow w75 p17 (Ac fR fS lS fT lT)→m_A_j6 r1 who1 p1 p20 p17 w76 K)))))) (∃a6,r1=some a6∧vF w (a6.add 1)∧∀w77,w77=w.setCell (a6.add 1) (vb true)→(∀j,j<5→vF w77 (p1.add j))∧∀w78,w78=storeRow w77 p1 (Ag 0 0 0 false)→∃bZ cA dK cB dL,Row w78 p1 (Ac bZ cA dK cB dL)∧K bZ cA dK cB dL w78)
def m_A_j4 (r1:Option Addr) (who1 body1:Int) (p1:Addr) (r2:ByteArray) (r3:Int) (x4:Bool) (w:World) (K:Int→Int→Int→ByteArray→Bool→WP):Prop :=Br x4 (Calls prog 170 #[(vp r1),(vi body1)] w (fun e w9=>∃r6 r7,e=.returned (.tuple #[(vu r6),(vs r7)])∧(∀j,j<5→vF w9 (p1.add j))∧∀w10,w10=storeRow w9 p1 (Ac 2 who1 r6 r7 false)→∃cE cF dP cG dQ,Row w10 p1 (Ac cE cF dP cG dQ)∧K cE cF dP cG dQ w10)) (Br (decide (r2=(⟨#[114,101,115,111,108,118,101]⟩:ByteArray))) (m_A_j5 r1 who1 p1 r3 (decide (who1≤1)) w K) (m_A_j5 r1 who1 p1 r3 false w K))
def m_A_j3 (r1:Option Addr) (who1 body1:Int) (p1:Addr) (r2:ByteArray) (r3:Int) (x3:Bool) (w:World) (K:Int→Int→Int→ByteArray→Bool→WP):Prop :=Br x3 (Calls prog 170 #[(vp r1),(vi r3)] w (fun e w7=>∃r4 r5,e=.returned (.tuple #[(vu r4),(vs r5)])∧(∀j,j<5→vF w7 (p1.add j))∧∀w8,w8=storeRow w7 p1 (Ac 6 0 r4 r5 false)→∃aU aV cC aW cD,Row w8 p1 (Ac aU aV cC aW cD)∧K aU aV cC aW cD w8)) (Br (decide (r2=(⟨#[100,101,97,108]⟩:ByteArray))) (m_A_j4 r1 who1 body1 p1 r2 r3 (decide (who1≤1)) w K) (m_A_j4 r1 who1 body1 p1 r2 r3 false w K))
def m_A_j2 (r1:Option Addr) (who1 body1:Int) (p1:Addr) (r2:ByteArray) (r3:Int) (x2:Bool) (w:World) (K:Int→Int→Int→ByteArray→Bool→WP):Prop :=Br x2 (Calls prog 109 #[(vp r1),(vi r3),(vi 2)] w (fun e w5=>∃bE bF bK aR aZ dB dC,e=.returned (Ae bE bF bK aR aZ dB dC)∧(∀j,j<5→vF w5 (p1.add j))∧∀w6,w6=storeRow w5 p1 (Ag 5 0 aR false)→∃aO aP cJ aQ cK,Row w6 p1 (Ac aO aP cJ aQ cK)∧K aO aP cJ aQ cK w6)) (Br (decide (r2=(⟨#[105,110,115,116,101,97,100]⟩:ByteArray))) (m_A_j3 r1 who1 body1 p1 r2 r3 (who1 == 2) w K) (m_A_j3 r1 who1 body1 p1 r2 r3 false w K))
def m_A_j1 (r1:Option Addr) (who1 body1:Int) (p1:Addr) (r2:ByteArray) (r3:Int) (x1:Bool) (w:World) (K:Int→Int→Int→ByteArray→Bool→WP):Prop :=Br x1 (Calls prog 109 #[(vp r1),(vi r3),(vi 2)] w (fun e w3=>∃aE aF aG aD aH aX aY,e=.returned (Ae aE aF aG aD aH aX aY)∧(∀j,j<5→vF w3 (p1.add j))∧∀w4,w4=storeRow w3 p1 (Ag 3 0 aD false)→∃aA aB cH aC cI,Row w4 p1 (Ac aA aB cH aC cI)∧K aA aB cH aC cI w4)) (Br (decide (r2=(⟨#[97,98,111,114,116,101,100]⟩:ByteArray))) (m_A_j2 r1 who1 body1 p1 r2 r3 (who1 == 2) w K) (m_A_j2 r1 who1 body1 p1 r2 r3 false w K))
def m_A (r1:Option Addr) (who1 body1:Int) (w:World) (K:Int→Int→Int→ByteArray→Bool→WP):Prop :=∀p1 w1,New w (.cells #[(vi 0),(vi 0),(vu 0),ve,(vb false)] 35) p1 w1→Calls prog 108 #[(vp r1),(vi body1)] w1 (fun e w2=>∃r2 r3,e=.returned (.tuple #[(vs r2),(vi r3)])∧Br (decide (r2=(⟨#[97,98,111,114,116]⟩:ByteArray))) (m_A_j1 r1 who1 body1 p1 r2 r3 (who1 == 0) w2 K) (m_A_j1 r1 who1 body1 p1 r2 r3 false w2 K))
theorem w_A (r1 who1 body1 w K) (h:m_A r1 who1 body1 w K):
  Calls prog 106 #[(vp r1),(vi who1),(vi body1)] w (fun e w'=>∃hI hJ pM hK pN,e=.returned (Af hI hJ pM hK pN)∧K hI hJ pM hK pN w'):=by
 refine cw (args:=[(vp r1),(vi who1),(vi body1)]) func106 ntmps106 (eg (sn (O:=(.cells #[(vi 0),(vi 0),(vu 0),ve,(vb false)] 35)) (zH (zeroValue35 _) rfl) ?_))
 intro p1 w1 hn55
 have h:=h p1 w1 hn55
 refine ln (eg (qb (sc call108 (h.mono fun e w2 ⟨r2,r3,k,h⟩=>⟨_,k,?_⟩))))
 refine q (qd (ln (zA (zK (qM (fun ρ w=>∃x1,Has ρ [(0,(vp r1)),(1,(vi who1)),(2,(vi body1)),(6,(vp (some p1))),(7,(vs r2)),(8,(vi r3)),(22,(vb x1))]∧m_A_j1 r1 who1 body1 p1 r2 r3 x1 w K) ?_ ?_)))))
 rintro ρ w ⟨x1,hH,h⟩
 refine zV hH (cbr h ?_ ?_)<;>intro h
 refine eg (qb (sc call109 (h.mono fun e w3 ⟨aE,aF,aG,aD,aH,aX,aY,k,h⟩=>⟨_,k,?_⟩)))
 refine qb (sro (sizeOf35 _) h fun w4 h=>ln (er (qW (zX ?_))))
 obtain ⟨aA,aB,cH,aC,cI,hv1,h⟩:=h
 refine gg1 results106 (rva (isAgg35 _) (sizeOf35 _) hv1) ⟨aA,aB,cH,aC,cI,rfl,h⟩
 refine qM (fun ρ w=>∃x2,Has ρ [(0,(vp r1)),(1,(vi who1)),(2,(vi body1)),(6,(vp (some p1))),(7,(vs r2)),(8,(vi r3)),(34,(vb x2))]∧m_A_j2 r1 who1 body1 p1 r2 r3 x2 w K) ?_ ?_
 rintro ρ w ⟨x2,hH,h⟩
 refine zV hH (cbr h ?_ ?_)<;>intro h
 refine eg (qb (sc call109 (h.mono fun e w5 ⟨bE,bF,bK,aR,aZ,dB,dC,k,h⟩=>⟨_,k,?_⟩)))
 refine qb (sro (sizeOf35 _) h fun w6 h=>ln (er (qW (zX ?_))))
 obtain ⟨aO,aP,cJ,aQ,cK,hv2,h⟩:=h
 refine gg1 results106 (rva (isAgg35 _) (sizeOf35 _) hv2) ⟨aO,aP,cJ,aQ,cK,rfl,h⟩
 refine qM (fun ρ w=>∃x3,Has ρ [(0,(vp r1)),(1,(vi who1)),(2,(vi body1)),(6,(vp (some p1))),(7,(vs r2)),(8,(vi r3)),(46,(vb x3))]∧m_A_j3 r1 who1 body1 p1 r2 r3 x3 w K) ?_ ?_
 rintro ρ w ⟨x3,hH,h⟩
 refine zV hH (cbr h ?_ ?_)<;>intro h
 refine eg (qb (sc call170 (h.mono fun e w7 ⟨r4,r5,k,h⟩=>⟨_,k,?_⟩)))
 refine q (qd (ln (eg (qc (sro (sizeOf35 _) h fun w8 h=>ln (er (qW (zX ?_))))))))
 obtain ⟨aU,aV,cC,aW,cD,hv3,h⟩:=h
 refine gg1 results106 (rva (isAgg35 _) (sizeOf35 _) hv3) ⟨aU,aV,cC,aW,cD,rfl,h⟩
 refine qM (fun ρ w=>∃x4,Has ρ [(0,(vp r1)),(1,(vi who1)),(2,(vi body1)),(6,(vp (some p1))),(7,(vs r2)),(8,(vi r3)),(62,(vb x4))]∧m_A_j4 r1 who1 body1 p1 r2 r3 x4 w K) ?_ ?_
 rintro ρ w ⟨x4,hH,h⟩
 refine zV hH (cbr h ?_ ?_)<;>intro h
 refine eg (qb (sc call170 (h.mono fun e w9 ⟨r6,r7,k,h⟩=>⟨_,k,?_⟩)))
 refine q (qd (ln (eg (qc (q (sro (sizeOf35 _) h fun w10 h=>ln (er (qW (zX ?_)))))))))
 obtain ⟨cE,cF,dP,cG,dQ,hv4,h⟩:=h
 refine gg1 results106 (rva (isAgg35 _) (sizeOf35 _) hv4) ⟨cE,cF,dP,cG,dQ,rfl,h⟩
 refine qM (fun ρ w=>∃x5,Has ρ [(0,(vp r1)),(1,(vi who1)),(6,(vp (some p1))),(8,(vi r3)),(79,(vb x5))]∧m_A_j5 r1 who1 p1 r3 x5 w K) ?_ ?_
 rintro ρ w ⟨x5,hH,h⟩
 refine zV hH (cbr h ?_ ?_)<;>intro h
 refine eg (qb (sc call109 (h.mono fun e w11 ⟨bO,bP,cW,cX,bG,fZ,gA,k,h⟩=>⟨_,k,?_⟩)))
 refine nw1 h (zH (zeroValue176 _) rfl) fun p2 w12 h=>sro (sizeOf176 _) h fun w13 h=>ln (qM (fun ρ w=>∃a1 a2:Addr,Has ρ [(0,(vp r1)),(1,(vi who1)),(6,(vp (some p1))),(14,(vp (some a1))),(15,(vp (some a2)))]∧m_A_j6 r1 who1 p1 a1 a2 w K) ?_ ?_)
 rintro ρ w ⟨a1,a2,hH,h⟩
 refine zV hH (qM (fun ρ w=>Has ρ [(1,(vi who1)),(6,(vp (some p1))),(14,(vp (some a1))),(15,(vp (some a2)))]∧m_A_j7 who1 p1 a1 a2 w K) ?_ ?_)
 rintro ρ w ⟨hH,h⟩
 refine zV hH (eg (qb (ql (isAgg23 _) h fun v1 h=>q (ql (isAgg9 _) h fun v2 h=>q (ql (isAgg4 _) h fun v3 h=>q ?_)))))
 obtain ⟨hg1,h⟩|⟨hg1,h⟩:=h.br
 refine sj2 135 hg1 (q2 (vb true) (xT hg1) (q (sro (sizeOf35 _) h fun w14 h=>ln (er (qW (zX ?_))))))
 obtain ⟨bT,bU,dD,bV,dE,hv5,h⟩:=h
 refine gg1 results106 (rva (isAgg35 _) (sizeOf35 _) hv5) ⟨bT,bU,dD,bV,dE,rfl,h⟩
 refine qk 135 hg1 ?_
 obtain ⟨v4,hv7,h⟩:=h
 refine q4 135 hg1 (xl (isAgg4 _) hv7) (q2 (vb v4) (xF hg1) (q (sro (sizeOf35 _) h fun w15 h=>ln (er (qW (zX ?_))))))
 obtain ⟨bW,bX,dI,bY,dJ,hv6,h⟩:=h
 refine gg1 results106 (rva (isAgg35 _) (sizeOf35 _) hv6) ⟨bW,bX,dI,bY,dJ,rfl,h⟩
 refine rg (qb (qm h fun a3 h=>q (ql (isAgg4 _) h fun v5 h=>q (zI 4 (fun ρ w=>∃x6,Has ρ [(1,(vi who1)),(6,(vp (some p1))),(14,(vp (some a1))),(15,(vp (some a2))),(97,(vp r1)),(106,(vb x6))]∧m_A_j8 r1 who1 p1 a1 a2 x6 w K) ?_ ?_))))
 rintro ρ w ⟨x6,hH,h⟩
 refine zM hH (q (zI 4 (fun ρ w=>∃x7,Has ρ [(1,(vi who1)),(6,(vp (some p1))),(14,(vp (some a1))),(15,(vp (some a2))),(97,(vp r1)),(111,(vb x7))]∧m_A_j9 r1 who1 p1 a1 a2 x7 w K) ?_ ?_))
 rintro ρ w ⟨x7,hH,h⟩
 refine zM hH (q (zI 6 (fun ρ w=>∃x8,Has ρ [(1,(vi who1)),(6,(vp (some p1))),(14,(vp (some a1))),(15,(vp (some a2))),(97,(vp r1)),(118,(vb x8))]∧m_A_j10 r1 who1 p1 a1 a2 x8 w K) ?_ ?_))
 rintro ρ w ⟨x8,hH,h⟩
 refine zM hH (q ?_)
 obtain ⟨hg2,h⟩|⟨hg2,h⟩:=h.br
 refine sj5 119 hg2 (q2 (vb true) (xT hg2) (qm h fun a4 h=>q (st1 (sizeOf4 _) h fun w16 h=>ln ⟨hm,h⟩)))
 refine qk 119 hg2 ?_
 obtain ⟨v6,hv12,h⟩:=h
 refine q4 119 hg2 (xl (isAgg9 _) hv12) (qk 119 hg2 ?_)
 obtain ⟨v7,hv11,h⟩:=h
 refine q4 119 hg2 (xl (isAgg9 _) hv11) (stq (v:=(vb (!(decide (v6=v7))))) (wy 119 hg2) (uE (by kernel_rfl) (by kernel_rfl)) (q2 (vb (!(decide (v6=v7)))) (xF hg2) (qm h fun a5 h=>q (st1 (sizeOf4 _) h fun w17 h=>ln ⟨hm,h⟩))))
 obtain ⟨hg3,h⟩|⟨hg3,h⟩:=h.br
 refine sj5 112 hg3 (q2 (vb true) (xT hg3) (zC ⟨true,hm,h⟩))
 refine qk 112 hg3 ?_
 obtain ⟨v8,hv14,h⟩:=h
 refine q4 112 hg3 (xl (isAgg23 _) hv14) (qk 112 hg3 ?_)
 obtain ⟨v9,hv13,h⟩:=h
 refine q4 112 hg3 (xl (isAgg23 _) hv13) (qk 112 hg3 (q2 (vb (v8 != v9)) (xF hg3) (zC ⟨(v8 != v9),hm,h⟩)))
 obtain ⟨hg4,h⟩|⟨hg4,h⟩:=h.br
 refine sj3 107 hg4 (q2 (vb true) (xT hg4) (zC ⟨true,hm,h⟩))
 refine qk 107 hg4 ?_
 obtain ⟨v10,hv15,h⟩:=h
 refine q4 107 hg4 (xl (isAgg3 _) hv15) (qk 107 hg4 (q2 (vb (v10 != 1)) (xF hg4) (zC ⟨(v10 != 1),hm,h⟩)))
 obtain ⟨hg5,h⟩|⟨hg5,h⟩:=h.br
 refine sj3 102 hg5 (q2 (vb true) (xT hg5) (zC ⟨true,hm,h⟩))
 refine qk 102 hg5 ?_
 obtain ⟨v11,hv16,h⟩:=h
 refine q4 102 hg5 (xl (isAgg3 _) hv16) (qk 102 hg5 (q2 (vb (v11 != 0)) (xF hg5) (zC ⟨(v11 != 0),hm,h⟩)))
 obtain ⟨C1,hC,h⟩:=h
 refine dr1 C1 [3,7,8,9,10,11] [7,10,11] hC h fun w18 h=>qx 0 (vp r1) Kp0 (qx 1 (vp (some (p2.add 5))) Kp1 (qg 2 ?_))
 obtain ⟨v12,hv19,h⟩:=h
 refine sy Kp2 (fun _ k=>xl (isAgg78 _) (hv19 _ k)) (qx 4 (vp r1) Kp4 (qx 5 (vp (some (p2.add 6))) Kp5 (qg 6 ?_)))
 obtain ⟨v13,hv18,h⟩:=h
 refine sy Kp6 (fun _ k=>xl (isAgg78 _) (hv18 _ k)) (lgo3 (k:=3) (k':=8) (k'':=9) (by kernel_rfl) ?_ ?_ ?_)
 have h:=h.1
 refine slc Kp3 call107 (h.mono ?_)
 rintro e w19 ⟨bH,bI,bM,bJ,bN,rfl,hC,h⟩
 refine ⟨_,rfl,.inr hC,?_⟩
 refine lgo3 (k:=7) (k':=8) (k'':=9) (by kernel_rfl) ?_ ?_ ?_
 have h:=h.1
 refine slc Kp7 call107 (h.mono ?_)
 rintro e w20 ⟨cT,cU,dU,cV,dV,rfl,h⟩
 refine ⟨_,rfl,.inl (by kernel_rfl),?_⟩
 refine jNQ (k:=8) (k':=9) (by kernel_rfl) ?_ ?_
 have h:=h.1
 refine qL (O:=(.cells #[(vi 0),(vi 0),(vu 0),ve,(vb false)] 35)) (fun p=>.pointer (some p)) Kp8 (zR rfl) (by kernel_rfl) (zH (zeroValue35 _) rfl) ?_
 intro p3 w21 hn13
 have h:=h p3 w21 hn13
 refine ⟨.inr h.1,?_⟩
 have h:=h.2
 refine lg 9 (qL (O:=(.cells #[(vi 0),(vi 0),(vu 0),ve,(vb false)] 35)) (fun p=>.pointer (some p)) Kp9 (zR rfl) (by kernel_rfl) (zH (zeroValue35 _) rfl) ?_)
 intro p4 w22 hn12
 have h:=h p4 w22 hn12
 refine ⟨.inr h.1,?_⟩
 have h:=h.2
 refine lg 10 (slo (zO (S8 (zG (zG zN)))) (sizeOf35 _) h fun w23 h=>⟨.inl (by kernel_rfl),?_⟩)
 refine lg 11 (slo (zO (S8 (zG (zG (zG zN))))) (sizeOf35 _) h fun w24 h=>⟨.inl (by kernel_rfl),?_⟩)
 refine wn (zL ⟨p3,p4,hm,h⟩)
 have h:=h.2
 refine qL (O:=(.cells #[(vi 0),(vi 0),(vu 0),ve,(vb false)] 35)) (fun p=>.pointer (some p)) Kp9 (zR rfl) (by kernel_rfl) (zH (zeroValue35 _) rfl) ?_
 intro p5 w25 hn17
 have h:=h p5 w25 hn17
 refine ⟨.inr h.1,?_⟩
 have h:=h.2
 refine lg 8 (qL (O:=(.cells #[(vi 0),(vi 0),(vu 0),ve,(vb false)] 35)) (fun p=>.pointer (some p)) Kp8 (zR rfl) (by kernel_rfl) (zH (zeroValue35 _) rfl) ?_)
 intro p6 w26 hn16
 have h:=h p6 w26 hn16
 refine ⟨.inr h.1,?_⟩
 have h:=h.2
 refine lg 10 (slo (zO (S8 (zG (zG zN)))) (sizeOf35 _) h fun w27 h=>⟨.inl (by kernel_rfl),?_⟩)
 refine lg 11 (slo (zO (S8 (zG (zG (zG zN))))) (sizeOf35 _) h fun w28 h=>⟨.inl (by kernel_rfl),?_⟩)
 refine wn (zL ⟨p6,p5,hm,h⟩)
 have h:=h.2.1
 refine qL (O:=(.cells #[(vi 0),(vi 0),(vu 0),ve,(vb false)] 35)) (fun p=>.pointer (some p)) Kp8 (zR rfl) (by kernel_rfl) (zH (zeroValue35 _) rfl) ?_
 intro p7 w29 hn24
 have h:=h p7 w29 hn24
 refine ⟨.inr h.1,?_⟩
 have h:=h.2
 refine jNQ (k:=7) (k':=9) (by kernel_rfl) ?_ ?_
 have h:=h.1
 refine slc Kp7 call107 (h.mono ?_)
 rintro e w30 ⟨dW,dX,fU,dY,fV,rfl,h⟩
 refine ⟨_,rfl,.inl (by kernel_rfl),?_⟩
 refine lg 9 (qL (O:=(.cells #[(vi 0),(vi 0),(vu 0),ve,(vb false)] 35)) (fun p=>.pointer (some p)) Kp9 (zR rfl) (by kernel_rfl) (zH (zeroValue35 _) rfl) ?_)
 intro p8 w31 hn20
 have h:=h p8 w31 hn20
 refine ⟨.inr h.1,?_⟩
 have h:=h.2
 refine lg 10 (slo (zO (S8 (zG (zG zN)))) (sizeOf35 _) h fun w32 h=>⟨.inl (by kernel_rfl),?_⟩)
 refine lg 11 (slo (zO (S8 (zG (zG (zG zN))))) (sizeOf35 _) h fun w33 h=>⟨.inl (by kernel_rfl),?_⟩)
 refine wn (zL ⟨p7,p8,hm,h⟩)
 have h:=h.2
 refine qL (O:=(.cells #[(vi 0),(vi 0),(vu 0),ve,(vb false)] 35)) (fun p=>.pointer (some p)) Kp9 (zR rfl) (by kernel_rfl) (zH (zeroValue35 _) rfl) ?_
 intro p9 w34 hn23
 have h:=h p9 w34 hn23
 refine ⟨.inr h.1,?_⟩
 have h:=h.2
 refine lg 7 (slc Kp7 call107 (h.mono ?_))
 rintro e w35 ⟨eI,eJ,kY,eK,kZ,rfl,h⟩
 refine ⟨_,rfl,.inl (by kernel_rfl),?_⟩
 refine lg 10 (slo (zO (S8 (zG (zG zN)))) (sizeOf35 _) h fun w36 h=>⟨.inl (by kernel_rfl),?_⟩)
 refine lg 11 (slo (zO (S8 (zG (zG (zG zN))))) (sizeOf35 _) h fun w37 h=>⟨.inl (by kernel_rfl),?_⟩)
 refine wn (zL ⟨p7,p9,hm,h⟩)
 have h:=h.2.2
 refine qL (O:=(.cells #[(vi 0),(vi 0),(vu 0),ve,(vb false)] 35)) (fun p=>.pointer (some p)) Kp9 (zR rfl) (by kernel_rfl) (zH (zeroValue35 _) rfl) ?_
 intro p10 w38 hn31
 have h:=h p10 w38 hn31
 refine ⟨.inr h.1,?_⟩
 have h:=h.2
 refine jNQ (k:=7) (k':=8) (by kernel_rfl) ?_ ?_
 have h:=h.1
 refine slc Kp7 call107 (h.mono ?_)
 rintro e w39 ⟨dZ,eA,lA,eB,lB,rfl,h⟩
 refine ⟨_,rfl,.inl (by kernel_rfl),?_⟩
 refine lg 8 (qL (O:=(.cells #[(vi 0),(vi 0),(vu 0),ve,(vb false)] 35)) (fun p=>.pointer (some p)) Kp8 (zR rfl) (by kernel_rfl) (zH (zeroValue35 _) rfl) ?_)
 intro p11 w40 hn27
 have h:=h p11 w40 hn27
 refine ⟨.inr h.1,?_⟩
 have h:=h.2
 refine lg 10 (slo (zO (S8 (zG (zG zN)))) (sizeOf35 _) h fun w41 h=>⟨.inl (by kernel_rfl),?_⟩)
 refine lg 11 (slo (zO (S8 (zG (zG (zG zN))))) (sizeOf35 _) h fun w42 h=>⟨.inl (by kernel_rfl),?_⟩)
 refine wn (zL ⟨p11,p10,hm,h⟩)
 have h:=h.2
 refine qL (O:=(.cells #[(vi 0),(vi 0),(vu 0),ve,(vb false)] 35)) (fun p=>.pointer (some p)) Kp8 (zR rfl) (by kernel_rfl) (zH (zeroValue35 _) rfl) ?_
 intro p12 w43 hn30
 have h:=h p12 w43 hn30
 refine ⟨.inr h.1,?_⟩
 have h:=h.2
 refine lg 7 (slc Kp7 call107 (h.mono ?_))
 rintro e w44 ⟨eL,eM,lC,eN,lD,rfl,h⟩
 refine ⟨_,rfl,.inl (by kernel_rfl),?_⟩
 refine lg 10 (slo (zO (S8 (zG (zG zN)))) (sizeOf35 _) h fun w45 h=>⟨.inl (by kernel_rfl),?_⟩)
 refine lg 11 (slo (zO (S8 (zG (zG (zG zN))))) (sizeOf35 _) h fun w46 h=>⟨.inl (by kernel_rfl),?_⟩)
 refine wn (zL ⟨p12,p10,hm,h⟩)
 have h:=h.2.1
 refine qL (O:=(.cells #[(vi 0),(vi 0),(vu 0),ve,(vb false)] 35)) (fun p=>.pointer (some p)) Kp8 (zR rfl) (by kernel_rfl) (zH (zeroValue35 _) rfl) ?_
 intro p13 w47 hn41
 have h:=h p13 w47 hn41
 refine ⟨.inr h.1,?_⟩
 have h:=h.2
 refine jNQ (k:=3) (k':=9) (by kernel_rfl) ?_ ?_
 have h:=h.1
 refine slc Kp3 call107 (h.mono ?_)
 rintro e w48 ⟨eC,eD,iH,eE,iI,rfl,hC,h⟩
 refine ⟨_,rfl,.inr hC,?_⟩
 refine jNQ (k:=7) (k':=9) (by kernel_rfl) ?_ ?_
 have h:=h.1
 refine slc Kp7 call107 (h.mono ?_)
 rintro e w49 ⟨fF,fG,lE,fH,lF,rfl,h⟩
 refine ⟨_,rfl,.inl (by kernel_rfl),?_⟩
 refine lg 9 (qL (O:=(.cells #[(vi 0),(vi 0),(vu 0),ve,(vb false)] 35)) (fun p=>.pointer (some p)) Kp9 (zR rfl) (by kernel_rfl) (zH (zeroValue35 _) rfl) ?_)
 intro p14 w50 hn34
 have h:=h p14 w50 hn34
 refine ⟨.inr h.1,?_⟩
 have h:=h.2
 refine lg 10 (slo (zO (S8 (zG (zG zN)))) (sizeOf35 _) h fun w51 h=>⟨.inl (by kernel_rfl),?_⟩)
 refine lg 11 (slo (zO (S8 (zG (zG (zG zN))))) (sizeOf35 _) h fun w52 h=>⟨.inl (by kernel_rfl),?_⟩)
 refine wn (zL ⟨p13,p14,hm,h⟩)
 have h:=h.2
 refine qL (O:=(.cells #[(vi 0),(vi 0),(vu 0),ve,(vb false)] 35)) (fun p=>.pointer (some p)) Kp9 (zR rfl) (by kernel_rfl) (zH (zeroValue35 _) rfl) ?_
 intro p15 w53 hn37
 have h:=h p15 w53 hn37
 refine ⟨.inr h.1,?_⟩
 have h:=h.2
 refine lg 7 (slc Kp7 call107 (h.mono ?_))
 rintro e w54 ⟨fI,fJ,lG,fK,lH,rfl,h⟩
 refine ⟨_,rfl,.inl (by kernel_rfl),?_⟩
 refine lg 10 (slo (zO (S8 (zG (zG zN)))) (sizeOf35 _) h fun w55 h=>⟨.inl (by kernel_rfl),?_⟩)
 refine lg 11 (slo (zO (S8 (zG (zG (zG zN))))) (sizeOf35 _) h fun w56 h=>⟨.inl (by kernel_rfl),?_⟩)
 refine wn (zL ⟨p13,p15,hm,h⟩)
 have h:=h.2
 refine qL (O:=(.cells #[(vi 0),(vi 0),(vu 0),ve,(vb false)] 35)) (fun p=>.pointer (some p)) Kp9 (zR rfl) (by kernel_rfl) (zH (zeroValue35 _) rfl) ?_
 intro p16 w57 hn40
 have h:=h p16 w57 hn40
 refine ⟨.inr h.1,?_⟩
 have h:=h.2
 refine lg 3 (slc Kp3 call107 (h.mono ?_))
 rintro e w58 ⟨eO,eP,lI,eQ,lJ,rfl,hC,h⟩
 refine ⟨_,rfl,.inr hC,?_⟩
 refine lg 7 (slc Kp7 call107 (h.mono ?_))
 rintro e w59 ⟨fL,fM,lK,fN,lL,rfl,h⟩
 refine ⟨_,rfl,.inl (by kernel_rfl),?_⟩
 refine lg 10 (slo (zO (S8 (zG (zG zN)))) (sizeOf35 _) h fun w60 h=>⟨.inl (by kernel_rfl),?_⟩)
 refine lg 11 (slo (zO (S8 (zG (zG (zG zN))))) (sizeOf35 _) h fun w61 h=>⟨.inl (by kernel_rfl),?_⟩)
 refine wn (zL ⟨p13,p16,hm,h⟩)
 have h:=h.2.2
 refine qL (O:=(.cells #[(vi 0),(vi 0),(vu 0),ve,(vb false)] 35)) (fun p=>.pointer (some p)) Kp9 (zR rfl) (by kernel_rfl) (zH (zeroValue35 _) rfl) ?_
 intro p17 w62 hn51
 have h:=h p17 w62 hn51
 refine ⟨.inr h.1,?_⟩
 have h:=h.2
 refine jNQ (k:=3) (k':=8) (by kernel_rfl) ?_ ?_
 have h:=h.1
 refine slc Kp3 call107 (h.mono ?_)
 rintro e w63 ⟨eF,eG,iJ,eH,iK,rfl,hC,h⟩
 refine ⟨_,rfl,.inr hC,?_⟩
 refine jNQ (k:=7) (k':=8) (by kernel_rfl) ?_ ?_
 have h:=h.1
 refine slc Kp7 call107 (h.mono ?_)
 rintro e w64 ⟨fO,fP,lM,fQ,lN,rfl,h⟩
 refine ⟨_,rfl,.inl (by kernel_rfl),?_⟩
 refine lg 8 (qL (O:=(.cells #[(vi 0),(vi 0),(vu 0),ve,(vb false)] 35)) (fun p=>.pointer (some p)) Kp8 (zR rfl) (by kernel_rfl) (zH (zeroValue35 _) rfl) ?_)
 intro p18 w65 hn44
 have h:=h p18 w65 hn44
 refine ⟨.inr h.1,?_⟩
 have h:=h.2
 refine lg 10 (slo (zO (S8 (zG (zG zN)))) (sizeOf35 _) h fun w66 h=>⟨.inl (by kernel_rfl),?_⟩)
 refine lg 11 (slo (zO (S8 (zG (zG (zG zN))))) (sizeOf35 _) h fun w67 h=>⟨.inl (by kernel_rfl),?_⟩)
 refine wn (zL ⟨p18,p17,hm,h⟩)
 have h:=h.2
 refine qL (O:=(.cells #[(vi 0),(vi 0),(vu 0),ve,(vb false)] 35)) (fun p=>.pointer (some p)) Kp8 (zR rfl) (by kernel_rfl) (zH (zeroValue35 _) rfl) ?_
 intro p19 w68 hn47
 have h:=h p19 w68 hn47
 refine ⟨.inr h.1,?_⟩
 have h:=h.2
 refine lg 7 (slc Kp7 call107 (h.mono ?_))
 rintro e w69 ⟨eR,eS,lO,eT,lP,rfl,h⟩
 refine ⟨_,rfl,.inl (by kernel_rfl),?_⟩
 refine lg 10 (slo (zO (S8 (zG (zG zN)))) (sizeOf35 _) h fun w70 h=>⟨.inl (by kernel_rfl),?_⟩)
 refine lg 11 (slo (zO (S8 (zG (zG (zG zN))))) (sizeOf35 _) h fun w71 h=>⟨.inl (by kernel_rfl),?_⟩)
 refine wn (zL ⟨p19,p17,hm,h⟩)
 have h:=h.2
 refine qL (O:=(.cells #[(vi 0),(vi 0),(vu 0),ve,(vb false)] 35)) (fun p=>.pointer (some p)) Kp8 (zR rfl) (by kernel_rfl) (zH (zeroValue35 _) rfl) ?_
 intro p20 w72 hn50
 have h:=h p20 w72 hn50
 refine ⟨.inr h.1,?_⟩
 have h:=h.2
 refine lg 3 (slc Kp3 call107 (h.mono ?_))
 rintro e w73 ⟨eU,eV,lQ,eW,lR,rfl,hC,h⟩
 refine ⟨_,rfl,.inr hC,?_⟩
 refine lg 7 (slc Kp7 call107 (h.mono ?_))
 rintro e w74 ⟨fR,fS,lS,fT,lT,rfl,h⟩
 refine ⟨_,rfl,.inl (by kernel_rfl),?_⟩
 refine lg 10 (slo (zO (S8 (zG (zG zN)))) (sizeOf35 _) h fun w75 h=>⟨.inl (by kernel_rfl),?_⟩)
 refine lg 11 (slo (zO (S8 (zG (zG (zG zN))))) (sizeOf35 _) h fun w76 h=>⟨.inl (by kernel_rfl),?_⟩)
 refine wn (zL ⟨p20,p17,hm,h⟩)
 refine zB (uM (zL (eg (q (qm h fun a6 h=>q (st1 (sizeOf4 _) h fun w77 h=>ln (eg (q (sro (sizeOf35 _) h fun w78 h=>ln (er ?_))))))))))
 obtain ⟨bZ,cA,dK,cB,dL,hv20,h⟩:=h
 refine gg1 results106 (rva (isAgg35 _) (sizeOf35 _) hv20) ⟨bZ,cA,dK,cB,dL,rfl,h⟩
 refine rg (q (q2 (vb (decide (r2=(⟨#[114,101,115,111,108,118,101]⟩:ByteArray)))) (jBU (by kernel_rfl) (by kernel_rfl)) (q ?_)))
 obtain ⟨hg6,h⟩|⟨hg6,h⟩:=h.br
 refine qk 82 hg6 (qk 82 hg6 (q2 (vb (decide (who1≤1))) (xT hg6) (q (ln ⟨(decide (who1≤1)),hm,h⟩))))
 refine sj2 82 hg6 (q2 (vb false) (xF hg6) (q (ln ⟨false,hm,h⟩)))
 refine rg (q (q2 (vb (decide (r2=(⟨#[100,101,97,108]⟩:ByteArray)))) (jBU (by kernel_rfl) (by kernel_rfl)) (q ?_)))
 obtain ⟨hg7,h⟩|⟨hg7,h⟩:=h.br
 refine qk 65 hg7 (qk 65 hg7 (q2 (vb (decide (who1≤1))) (xT hg7) (q (ln ⟨(decide (who1≤1)),hm,h⟩))))
 refine sj2 65 hg7 (q2 (vb false) (xF hg7) (q (ln ⟨false,hm,h⟩)))
 refine rg (q (q2 (vb (decide (r2=(⟨#[105,110,115,116,101,97,100]⟩:ByteArray)))) (jBU (by kernel_rfl) (by kernel_rfl)) (q ?_)))
 obtain ⟨hg8,h⟩|⟨hg8,h⟩:=h.br
 refine qk 49 hg8 (qk 49 hg8 (q2 (vb (who1 == 2)) (xT hg8) (q (ln ⟨(who1 == 2),hm,h⟩))))
 refine sj2 49 hg8 (q2 (vb false) (xF hg8) (q (ln ⟨false,hm,h⟩)))
 refine rg (q (q2 (vb (decide (r2=(⟨#[97,98,111,114,116,101,100]⟩:ByteArray)))) (jBU (by kernel_rfl) (by kernel_rfl)) (q ?_)))
 obtain ⟨hg9,h⟩|⟨hg9,h⟩:=h.br
 refine qk 37 hg9 (qk 37 hg9 (q2 (vb (who1 == 2)) (xT hg9) (q (ln ⟨(who1 == 2),hm,h⟩))))
 refine sj2 37 hg9 (q2 (vb false) (xF hg9) (q (ln ⟨false,hm,h⟩)))
 refine rg (q (q2 (vb (decide (r2=(⟨#[97,98,111,114,116]⟩:ByteArray)))) (jBU (by kernel_rfl) (by kernel_rfl)) (q ?_)))
 obtain ⟨hg10,h⟩|⟨hg10,h⟩:=h.br
 refine qk 25 hg10 (qk 25 hg10 (q2 (vb (who1 == 0)) (xT hg10) (q (ln ⟨(who1 == 0),hm,h⟩))))
 refine sj2 25 hg10 (q2 (vb false) (xF hg10) (q (ln ⟨false,hm,h⟩)))
def m_L_j1 (r1:Option Addr) (p1 p2:Addr) (w:World) (K:Int→Int→Int→ByteArray→Bool→WP):Prop :=∃v2,w.cell? (p2.add 5)=some (vi v2)∧Calls prog 170 #[(vp r1),(vi v2)] w (fun e w5=>∃r3 r4,e=.returned (.tuple #[(vu r3),(vs r4)])∧∃v3,w5.cell? (p2.add 1)=some (vi v3)∧∃v4,w5.cell? p2=some (vi v4)∧(∀j,j<5→vF w5 (p1.add j))∧∀w6,w6=storeRow w5 p1 (Ac 1 v3 r3 r4 (v4 == 9))→∃aA aB cH aC cI,Row w6 p1 (Ac aA aB cH aC cI)∧K aA aB cH aC cI w6)
def m_L_j3 (r1:Option Addr) (p1 p2:Addr) (x2:Bool) (w:World) (K:Int→Int→Int→ByteArray→Bool→WP):Prop :=Br x2 (∃a2,r1=some a2∧vF w (a2.add 1)∧∀w7,w7=w.setCell (a2.add 1) (vb true)→(∀j,j<5→vF w7 (p1.add j))∧∀w8,w8=storeRow w7 p1 (Ag 0 0 0 false)→∃aO aP cJ aQ cK,Row w8 p1 (Ac aO aP cJ aQ cK)∧K aO aP cJ aQ cK w8) (∃v6,w.cell? (p2.add 2)=some (vi v6)∧∃v7,w.cell? (p2.add 1)=some (vi v7)∧Br (v6 != (q6.wrap (1 - v7))) (∃a3,r1=some a3∧vF w (a3.add 1)∧∀w9,w9=w.setCell (a3.add 1) (vb true)→(∀j,j<5→vF w9 (p1.add j))∧∀w10,w10=storeRow w9 p1 (Ag 0 0 0 false)→∃aU aV cC aW cD,Row w10 p1 (Ac aU aV cC aW cD)∧K aU aV cC aW cD w10) (m_L_j1 r1 p1 p2 w K))
def m_L_j2 (r1:Option Addr) (p1 p2:Addr) (x1:Bool) (w:World) (K:Int→Int→Int→ByteArray→Bool→WP):Prop :=Br x1 (m_L_j3 r1 p1 p2 true w K) (∃v8,w.cell? (p2.add 1)=some (vi v8)∧m_L_j3 r1 p1 p2 (decide (v8>1)) w K)
def m_L (r1:Option Addr) (t1:Int) (w:World) (K:Int→Int→Int→ByteArray→Bool→WP):Prop :=∀p1 w1,New w (.cells #[(vi 0),(vi 0),(vu 0),ve,(vb false)] 35) p1 w1→∃a1,r1=some a1∧∃v1,w1.cell? a1=some (vp v1)∧Calls prog 102 #[(vp v1),(vi t1)] w1 (fun e w2=>∃aE aF aG aD aH aX aY r2,e=.returned (.tuple #[(Ae aE aF aG aD aH aX aY),(vb r2)])∧∀p2 w3,New w2 (.cells #[(vi 0),(vi 0),(vi 0),(vu 0),ve,(vi 0),(vi 0)] 176) p2 w3→(∀j,j<7→vF w3 (p2.add j))∧∀w4,w4=storeRow w3 p2 (Ad aE aF aG aD aH aX aY)→∃v5,w4.cell? p2=some (vi v5)∧Br (v5 != 8) (∃v9,w4.cell? p2=some (vi v9)∧m_L_j2 r1 p1 p2 (v9 != 9) w4 K) (m_L_j2 r1 p1 p2 false w4 K))
theorem w_L (r1 t1 w K) (h:m_L r1 t1 w K):
  Calls prog 107 #[(vp r1),(vi t1)] w (fun e w'=>∃bE bF bM aZ bN,e=.returned (Af bE bF bM aZ bN)∧K bE bF bM aZ bN w'):=by
 refine cw (args:=[(vp r1),(vi t1)]) func107 ntmps107 (eg (sn (O:=(.cells #[(vi 0),(vi 0),(vu 0),ve,(vb false)] 35)) (zH (zeroValue35 _) rfl) ?_))
 intro p1 w1 hn8
 have h:=h p1 w1 hn8
 refine ln (eg (q (qm h fun a1 h=>q (ql (isAgg68 _) h fun v1 h=>q (sc call102 (h.mono fun e w2 ⟨aE,aF,aG,aD,aH,aX,aY,r2,k,h⟩=>⟨_,k,?_⟩))))))
 refine qc (nw1 h (zH (zeroValue176 _) rfl) fun p2 w3 h=>sro (sizeOf176 _) h fun w4 h=>q (ln (qM (fun ρ w=>Has ρ [(0,(vp r1)),(4,(vp (some p1))),(5,(vp (some p2)))]∧m_L_j1 r1 p1 p2 w K) ?_ ?_)))
 rintro ρ w ⟨hH,h⟩
 refine zV hH (eg (qb (ql (isAgg78 _) h fun v2 h=>sc call170 (h.mono fun e w5 ⟨r3,r4,k,h⟩=>⟨_,k,?_⟩))))
 refine q (qd (ln (eg (q (ql (isAgg3 _) h fun v3 h=>qc (ql (isAgg3 _) h fun v4 h=>qb (sro (sizeOf35 _) h fun w6 h=>ln (er ?_))))))))
 obtain ⟨aA,aB,cH,aC,cI,hv1,h⟩:=h
 refine gg1 results107 (rva (isAgg35 _) (sizeOf35 _) hv1) ⟨aA,aB,cH,aC,cI,rfl,h⟩
 refine eg (q (ql (isAgg3 _) h fun v5 h=>qb (zI 4 (fun ρ w=>∃x1,Has ρ [(0,(vp r1)),(4,(vp (some p1))),(5,(vp (some p2))),(25,(vb x1))]∧m_L_j2 r1 p1 p2 x1 w K) ?_ ?_)))
 rintro ρ w ⟨x1,hH,h⟩
 refine zM hH (q (zI 4 (fun ρ w=>∃x2,Has ρ [(0,(vp r1)),(4,(vp (some p1))),(5,(vp (some p2))),(30,(vb x2))]∧m_L_j3 r1 p1 p2 x2 w K) ?_ ?_))
 rintro ρ w ⟨x2,hH,h⟩
 refine zM hH (q ?_)
 obtain ⟨hg1,h⟩|⟨hg1,h⟩:=h.br
 refine sj 31 hg1 (sj5 31 hg1 (q2 (vb true) (xT hg1) (ln (yH (by kernel_rfl) (eg (q (qm h fun a2 h=>q (st1 (sizeOf4 _) h fun w7 h=>ln (eg (q (sro (sizeOf35 _) h fun w8 h=>ln (er (zX ?_)))))))))))))
 obtain ⟨aO,aP,cJ,aQ,cK,hv5,h⟩:=h
 refine gg1 results107 (rva (isAgg35 _) (sizeOf35 _) hv5) ⟨aO,aP,cJ,aQ,cK,rfl,h⟩
 refine qk 31 hg1 ?_
 obtain ⟨v6,hv8,h⟩:=h
 refine q4 31 hg1 (xl (isAgg3 _) hv8) (qk 31 hg1 ?_)
 obtain ⟨v7,hv7,h⟩:=h
 refine q4 31 hg1 (xl (isAgg3 _) hv7) (qk 31 hg1 (qk 31 hg1 (q2 (vb (v6 != (q6.wrap (1 - v7)))) (xF hg1) (ln (cbr h ?_ ?_)))))<;>intro h
 refine eg (q (qm h fun a3 h=>q (st1 (sizeOf4 _) h fun w9 h=>ln (eg (q (sro (sizeOf35 _) h fun w10 h=>ln (er (zX ?_))))))))
 obtain ⟨aU,aV,cC,aW,cD,hv6,h⟩:=h
 refine gg1 results107 (rva (isAgg35 _) (sizeOf35 _) hv6) ⟨aU,aV,cC,aW,cD,rfl,h⟩
 refine zB (zL ⟨hm,h⟩)
 obtain ⟨hg2,h⟩|⟨hg2,h⟩:=h.br
 refine sj3 26 hg2 (q2 (vb true) (xT hg2) (zC ⟨true,hm,h⟩))
 refine qk 26 hg2 ?_
 obtain ⟨v8,hv9,h⟩:=h
 refine q4 26 hg2 (xl (isAgg3 _) hv9) (qk 26 hg2 (q2 (vb (decide (v8>1))) (xF hg2) (zC ⟨(decide (v8>1)),hm,h⟩)))
 obtain ⟨hg3,h⟩|⟨hg3,h⟩:=h.br
 refine qk 21 hg3 ?_
 obtain ⟨v9,hv10,h⟩:=h
 refine q4 21 hg3 (xl (isAgg3 _) hv10) (qk 21 hg3 (q2 (vb (v9 != 9)) (xT hg3) (zC ⟨(v9 != 9),hm,h⟩)))
 refine sj3 21 hg3 (q2 (vb false) (xF hg3) (zC ⟨false,hm,h⟩))
def m_A2 (r1:Option Addr) (t1:Int) (w:World) (K:ByteArray→Int→WP):Prop :=Calls prog 109 #[(vp r1),(vi t1),(vi 4)] w (fun e w1=>∃aE aF aG aD aH aX aY,e=.returned (Ae aE aF aG aD aH aX aY)∧∀p1 w2,New w1 (.cells #[(vi 0),(vi 0),(vi 0),(vu 0),ve,(vi 0),(vi 0)] 176) p1 w2→(∀j,j<7→vF w2 (p1.add j))∧∀w3,w3=storeRow w2 p1 (Ad aE aF aG aD aH aX aY)→∃C1:WP,C1 w3.drew∧∀w4,w4=w3.drew→∃v1,(∀w',C1 w'→w'.cell? (p1.add 5)=some (vi v1))∧∃v2,(∀w',C1 w'→w'.cell? (p1.add 6)=some (vi v2))∧Calls prog 109 #[(vp r1),(vi v1),(vi 3)] w4 (fun e w5=>∃bE bF bK aR aZ dB dC,e=.returned (Ae bE bF bK aR aZ dB dC)∧C1 w5∧K aZ v2 w5))
theorem w_A2 (r1 t1 w K) (h:m_A2 r1 t1 w K):
  Calls prog 108 #[(vp r1),(vi t1)] w (fun e w'=>∃r2 r3,e=.returned (.tuple #[(vs r2),(vi r3)])∧K r2 r3 w'):=by
 refine cw (args:=[(vp r1),(vi t1)]) func108 ntmps108 (eg (q0 ve (q0 (vi 0) (ln (eg (q0 (vp r1) (q0 (vi t1) ?_)))))))
 refine sc call109 (h.mono fun e w1 ⟨aE,aF,aG,aD,aH,aX,aY,k,h⟩=>⟨_,k,?_⟩)
 refine nw1 h (zH (zeroValue176 _) rfl) fun p1 w2 h=>sro (sizeOf176 _) h fun w3 h=>ln (zA ?_)
 obtain ⟨C1,hC,h⟩:=h
 refine dr1 C1 [3] [] hC h fun w4 h=>qx 0 (vp r1) Kp0 (qx 1 (vp (some (p1.add 5))) Kp1 (qg 2 ?_))
 obtain ⟨v1,hv2,h⟩:=h
 refine sy Kp2 (fun _ k=>xl (isAgg78 _) (hv2 _ k)) (qx 5 (vp (some (p1.add 6))) Kp5 (qg 6 ?_))
 obtain ⟨v2,hv1,h⟩:=h
 refine sy Kp6 (fun _ k=>xl (isAgg78 _) (hv1 _ k)) (lg 3 (slc Kp3 call109 (h.mono ?_)))
 rintro e w5 ⟨bE,bF,bK,aR,aZ,dB,dC,rfl,hC,h⟩
 refine ⟨_,rfl,.inr hC,?_⟩
 refine qx 4 (vs aZ) Kp4 (qx 7 (vs aZ) Kp7 (qx 8 (vi v2) Kp8 (wn (zL (er (xA (.inl rfl) results108 (v:=(vs aZ)) (by kernel_rfl) (v':=(vi v2)) (by kernel_rfl) ⟨aZ,v2,rfl,h⟩))))))
def m_B2 (r1:Option Addr) (t1 kind1:Int) (w:World) (K:Int→Int→Int→Int→ByteArray→Int→Int→WP):Prop :=∀p1 w1,New w (.cells #[(vi 0),(vi 0),(vi 0),(vu 0),ve,(vi 0),(vi 0)] 176) p1 w1→∃a1,r1=some a1∧∃v1,w1.cell? a1=some (vp v1)∧Calls prog 102 #[(vp v1),(vi t1)] w1 (fun e w2=>∃aE aF aG aD aH aX aY r2,e=.returned (.tuple #[(Ae aE aF aG aD aH aX aY),(vb r2)])∧∀p2 w3,New w2 (.cells #[(vi 0),(vi 0),(vi 0),(vu 0),ve,(vi 0),(vi 0)] 176) p2 w3→(∀j,j<7→vF w3 (p2.add j))∧∀w4,w4=storeRow w3 p2 (Ad aE aF aG aD aH aX aY)→Br (!r2) (∃a2,r1=some a2∧vF w4 (a2.add 1)∧∀w5,w5=w4.setCell (a2.add 1) (vb true)→(∀j,j<7→vF w5 (p1.add j))∧∀w6,w6=storeRow w5 p1 (Al 0 0 0 0 0 0)→∃aA aB aI aJ aC iL iM,Row w6 p1 (Ad aA aB aI aJ aC iL iM)∧K aA aB aI aJ aC iL iM w6) (∃v2,w4.cell? p2=some (vi v2)∧Br (v2 != kind1) (∃a3,r1=some a3∧vF w4 (a3.add 1)∧∀w7,w7=w4.setCell (a3.add 1) (vb true)→(∀j,j<7→vF w7 (p1.add j))∧∀w8,w8=storeRow w7 p1 (Al 0 0 0 0 0 0)→∃aO aP cL cM aQ iN iO,Row w8 p1 (Ad aO aP cL cM aQ iN iO)∧K aO aP cL cM aQ iN iO w8) (∃aL aM aS aT aN iP iQ,Row w4 p2 (Ad aL aM aS aT aN iP iQ)∧(∀j,j<7→vF w4 (p1.add j))∧∀w9,w9=storeRow w4 p1 (Ad aL aM aS aT aN iP iQ)→∃aU aV dS dT aW iR iS,Row w9 p1 (Ad aU aV dS dT aW iR iS)∧K aU aV dS dT aW iR iS w9)))
theorem w_B2 (r1 t1 kind1 w K) (h:m_B2 r1 t1 kind1 w K):
  Calls prog 109 #[(vp r1),(vi t1),(vi kind1)] w (fun e w'=>∃bE bF bK aR aZ dB dC,e=.returned (Ae bE bF bK aR aZ dB dC)∧K bE bF bK aR aZ dB dC w'):=by
 refine cw (args:=[(vp r1),(vi t1),(vi kind1)]) func109 ntmps109 (eg (sn (O:=(.cells #[(vi 0),(vi 0),(vi 0),(vu 0),ve,(vi 0),(vi 0)] 176)) (zH (zeroValue176 _) rfl) ?_))
 intro p1 w1 hn8
 have h:=h p1 w1 hn8
 refine ln (eg (q (qm h fun a1 h=>q (ql (isAgg68 _) h fun v1 h=>q (sc call102 (h.mono fun e w2 ⟨aE,aF,aG,aD,aH,aX,aY,r2,k,h⟩=>⟨_,k,?_⟩))))))
 refine qc (nw1 h (zH (zeroValue176 _) rfl) fun p2 w3 h=>sro (sizeOf176 _) h fun w4 h=>q (ln (zA (eg (qc ?_)))))
 obtain ⟨hg1,h⟩|⟨hg1,h⟩:=h.br
 refine sj4 20 hg1 (q2 (vb true) (xT hg1) (ln (yH (by kernel_rfl) (eg (q0 (vp r1) (qm h fun a2 h=>q (st1 (sizeOf4 _) h fun w5 h=>ln (eg (q (sro (sizeOf176 _) h fun w6 h=>ln (er (zX ?_))))))))))))
 obtain ⟨aA,aB,aI,aJ,aC,iL,iM,hv1,h⟩:=h
 refine gg1 results109 (rva (isAgg176 _) (sizeOf176 _) hv1) ⟨aA,aB,aI,aJ,aC,iL,iM,rfl,h⟩
 refine qk 20 hg1 ?_
 obtain ⟨v2,hv5,h⟩:=h
 refine q4 20 hg1 (xl (isAgg3 _) hv5) (qk 20 hg1 (qk 20 hg1 (q2 (vb (v2 != kind1)) (xF hg1) (ln (cbr h ?_ ?_)))))<;>intro h
 refine eg (q (qm h fun a3 h=>q (st1 (sizeOf4 _) h fun w7 h=>ln (eg (q (sro (sizeOf176 _) h fun w8 h=>ln (er (zX ?_))))))))
 obtain ⟨aO,aP,cL,cM,aQ,iN,iO,hv2,h⟩:=h
 refine gg1 results109 (rva (isAgg176 _) (sizeOf176 _) hv2) ⟨aO,aP,cL,cM,aQ,iN,iO,rfl,h⟩
 refine zB (zL (eg ?_))
 obtain ⟨aL,aM,aS,aT,aN,iP,iQ,hv4,h⟩:=h
 refine qa (isAgg176 _) (sizeOf176 _) hv4 (sro (sizeOf176 _) h fun w9 h=>ln (er ?_))
 obtain ⟨aU,aV,dS,dT,aW,iR,iS,hv3,h⟩:=h
 refine gg1 results109 (rva (isAgg176 _) (sizeOf176 _) hv3) ⟨aU,aV,dS,dT,aW,iR,iS,rfl,h⟩
def m_X2 (c1:Int) (text1:ByteArray) (w:World) (K:Int→Int→Int→Int→ByteArray→Sl→WP):Prop :=∀p1 w1,New w (.cells #[(vi 0),(vi 0),(vi 0),(vu 0),ve,Sl.nil.v] 107) p1 w1→Calls prog 129 #[(vs (⟨#[100,101,97,108]⟩:ByteArray))] w1 (fun e w2=>∃aE aF aG aD aH bL,e=.returned (Aa aE aF aG aD aH bL)∧Calls prog 130 #[(vu c1)] w2 (fun e w3=>∃bE bF bK aR aZ eX,e=.returned (Aa bE bF bK aR aZ eX)∧Calls prog 129 #[(vs text1)] w3 (fun e w4=>∃bO bP cW cX bG eY,e=.returned (Aa bO bP cW cX bG eY)∧Calls prog 128 #[(.agg #[(vi bE),(vi bF),(vi bK),(vu aR),(vs aZ),eX.v]),(.agg #[(vi bO),(vi bP),(vi cW),(vu cX),(vs bG),eY.v])] w4 (fun e w5=>∃bH bI fW fX bJ fY,e=.returned (Aa bH bI fW fX bJ fY)∧Calls prog 128 #[(.agg #[(vi aE),(vi aF),(vi aG),(vu aD),(vs aH),bL.v]),(.agg #[(vi bH),(vi bI),(vi fW),(vu fX),(vs bJ),fY.v])] w5 (fun e w6=>∃cT cU eZ fA cV fB,e=.returned (Aa cT cU eZ fA cV fB)∧(∀j,j<6→vF w6 (p1.add j))∧∀w7,w7=storeRow w6 p1 (Ab cT cU eZ fA cV fB)→∃aA aB aI aJ aC aK,Row w7 p1 (Ab aA aB aI aJ aC aK)∧K aA aB aI aJ aC aK w7)))))
theorem w_X2 (c1 text1 w K) (h:m_X2 c1 text1 w K):
  Calls prog 125 #[(vu c1),(vs text1)] w (fun e w'=>∃dW dX gQ gR dY gS,e=.returned (Aa dW dX gQ gR dY gS)∧K dW dX gQ gR dY gS w'):=by
 refine cw (args:=[(vu c1),(vs text1)]) func125 ntmps125 (eg (sn (O:=(.cells #[(vi 0),(vi 0),(vi 0),(vu 0),ve,Sl.nil.v] 107)) (zH (zeroValue107 _) rfl) ?_))
 intro p1 w1 hn2
 have h:=h p1 w1 hn2
 refine ln (eg (sc call129 (h.mono fun e w2 ⟨aE,aF,aG,aD,aH,bL,k,h⟩=>⟨_,k,?_⟩)))
 refine q (sc call130 (h.mono fun e w3 ⟨bE,bF,bK,aR,aZ,eX,k,h⟩=>⟨_,k,?_⟩))
 refine q (sc call129 (h.mono fun e w4 ⟨bO,bP,cW,cX,bG,eY,k,h⟩=>⟨_,k,?_⟩))
 refine sc call128 (h.mono fun e w5 ⟨bH,bI,fW,fX,bJ,fY,k,h⟩=>⟨_,k,?_⟩)
 refine sc call128 (h.mono fun e w6 ⟨cT,cU,eZ,fA,cV,fB,k,h⟩=>⟨_,k,?_⟩)
 refine sro (sizeOf107 _) h fun w7 h=>ln (er ?_)
 obtain ⟨aA,aB,aI,aJ,aC,aK,hv1,h⟩:=h
 refine gg1 results125 (rva (isAgg107 _) (sizeOf107 _) hv1) ⟨aA,aB,aI,aJ,aC,aK,rfl,h⟩
def m_Y2 (who1 cN:Int) (cO cP cQ:Int) (cR:ByteArray) (cS:Sl) (fake1:Bool) (w:World) (K:Int→Int→Int→Int→ByteArray→Sl→WP):Prop :=∀p1 w1,New w (.cells #[(vi cN),(vi cO),(vi cP),(vu cQ),(vs cR),cS.v] 107) p1 w1→∀p2 w2,New w1 (.cells #[(vi 0),(vi 0),(vi 0),(vu 0),ve,Sl.nil.v] 107) p2 w2→Br fake1 (∃aL aM aS aT aN bA,Row w2 p1 (Ab aL aM aS aT aN bA)∧∀p3 w3,New w2 (.cells #[(vi aL),(vi aM),(vi aS),(vu aT),(vs aN),bA.v] 107) p3 w3→(∀j,j<6→vF w3 (p2.add j))∧∀w4,w4=storeRow w3 p2 [(vi 9),(vi who1),(vi (q6.wrap (1 - who1))),(vu 0),ve,(Sl.mk (some p3) 1 1).v]→∃aA aB aI aJ aC aK,Row w4 p2 (Ab aA aB aI aJ aC aK)∧K aA aB aI aJ aC aK w4) (∃bB bC bQ bR bD bS,Row w2 p1 (Ab bB bC bQ bR bD bS)∧∀p4 w5,New w2 (.cells #[(vi bB),(vi bC),(vi bQ),(vu bR),(vs bD),bS.v] 107) p4 w5→(∀j,j<6→vF w5 (p2.add j))∧∀w6,w6=storeRow w5 p2 [(vi 8),(vi who1),(vi (q6.wrap (1 - who1))),(vu 0),ve,(Sl.mk (some p4) 1 1).v]→∃aO aP cL cM aQ dR,Row w6 p2 (Ab aO aP cL cM aQ dR)∧K aO aP cL cM aQ dR w6)
theorem w_Y2 (who1 cN cO cP cQ cR cS fake1 w K) (h:m_Y2 who1 cN cO cP cQ cR cS fake1 w K):
  Calls prog 126 #[(vi who1),(.agg #[(vi cN),(vi cO),(vi cP),(vu cQ),(vs cR),cS.v]),(vb fake1)] w (fun e w'=>∃aE aF aG aD aH bL,e=.returned (Aa aE aF aG aD aH bL)∧K aE aF aG aD aH bL w'):=by
 refine cw (args:=[(vi who1),(Aa cN cO cP cQ cR cS),(vb fake1)]) func126 ntmps126 (eg (sn (O:=(.cells #[(vi cN),(vi cO),(vi cP),(vu cQ),(vs cR),cS.v] 107)) xb ?_))
 intro p1 w1 hn6
 have h:=h p1 w1 hn6
 refine nw1 h (zH (zeroValue107 _) rfl) fun p2 w2 h=>ln (eg (q (ln (zA (eg (q (zC (zL (cbr h ?_ ?_)))))))))<;>intro h
 refine rg (q (ln (eg (qd ?_))))
 obtain ⟨aL,aM,aS,aT,aN,bA,hv2,h⟩:=h
 refine qa (isAgg107 _) (sizeOf107 _) hv2 (nw4 (fun p=>(Sl.mk (some p) 1 1).v) h fun p3 w3 h=>q (sro (sizeOf107 _) h fun w4 h=>ln (er ?_)))
 obtain ⟨aA,aB,aI,aJ,aC,aK,hv1,h⟩:=h
 refine gg1 results126 (rva (isAgg107 _) (sizeOf107 _) hv1) ⟨aA,aB,aI,aJ,aC,aK,rfl,h⟩
 refine zB (zL (eg (qd ?_)))
 obtain ⟨bB,bC,bQ,bR,bD,bS,hv4,h⟩:=h
 refine qa (isAgg107 _) (sizeOf107 _) hv4 (nw4 (fun p=>(Sl.mk (some p) 1 1).v) h fun p4 w5 h=>q (sro (sizeOf107 _) h fun w6 h=>ln (er ?_)))
 obtain ⟨aO,aP,cL,cM,aQ,dR,hv3,h⟩:=h
 refine gg1 results126 (rva (isAgg107 _) (sizeOf107 _) hv3) ⟨aO,aP,cL,cM,aQ,dR,rfl,h⟩
def m_Z2 (who1 cN:Int) (cO cP cQ:Int) (cR:ByteArray) (cS:Sl) (w:World) (K:Int→Int→Int→Int→ByteArray→Sl→WP):Prop :=∀p1 w1,New w (.cells #[(vi cN),(vi cO),(vi cP),(vu cQ),(vs cR),cS.v] 107) p1 w1→∀p2 w2,New w1 (.cells #[(vi 0),(vi 0),(vi 0),(vu 0),ve,Sl.nil.v] 107) p2 w2→∃aL aM aS aT aN bA,Row w2 p1 (Ab aL aM aS aT aN bA)∧∀p3 w3,New w2 (.cells #[(vi aL),(vi aM),(vi aS),(vu aT),(vs aN),bA.v] 107) p3 w3→(∀j,j<6→vF w3 (p2.add j))∧∀w4,w4=storeRow w3 p2 [(vi 7),(vi who1),(vi 0),(vu 0),ve,(Sl.mk (some p3) 1 1).v]→∃aA aB aI aJ aC aK,Row w4 p2 (Ab aA aB aI aJ aC aK)∧K aA aB aI aJ aC aK w4
theorem w_Z2 (who1 cN cO cP cQ cR cS w K) (h:m_Z2 who1 cN cO cP cQ cR cS w K):
  Calls prog 127 #[(vi who1),(.agg #[(vi cN),(vi cO),(vi cP),(vu cQ),(vs cR),cS.v])] w (fun e w'=>∃aE aF aG aD aH bL,e=.returned (Aa aE aF aG aD aH bL)∧K aE aF aG aD aH bL w'):=by
 refine cw (args:=[(vi who1),(Aa cN cO cP cQ cR cS)]) func127 ntmps127 (eg (sn (O:=(.cells #[(vi cN),(vi cO),(vi cP),(vu cQ),(vs cR),cS.v] 107)) xb ?_))
 intro p1 w1 hn4
 have h:=h p1 w1 hn4
 refine nw1 h (zH (zeroValue107 _) rfl) fun p2 w2 h=>ln (eg (q ?_))
 obtain ⟨aL,aM,aS,aT,aN,bA,hv2,h⟩:=h
 refine qa (isAgg107 _) (sizeOf107 _) hv2 (nw4 (fun p=>(Sl.mk (some p) 1 1).v) h fun p3 w3 h=>q (sro (sizeOf107 _) h fun w4 h=>ln (er ?_)))
 obtain ⟨aA,aB,aI,aJ,aC,aK,hv1,h⟩:=h
 refine gg1 results127 (rva (isAgg107 _) (sizeOf107 _) hv1) ⟨aA,aB,aI,aJ,aC,aK,rfl,h⟩
def m_A3 (cN cO:Int) (cP cQ:Int) (cR:ByteArray) (cS:Sl) (iT iU:Int) (iV iW:Int) (iX:ByteArray) (iY:Sl) (w:World) (K:Int→Int→Int→Int→ByteArray→Sl→WP):Prop :=∀p1 w1,New w (.cells #[(vi cN),(vi cO),(vi cP),(vu cQ),(vs cR),cS.v] 107) p1 w1→∀p2 w2,New w1 (.cells #[(vi iT),(vi iU),(vi iV),(vu iW),(vs iX),iY.v] 107) p2 w2→∀p3 w3,New w2 (.cells #[(vi 0),(vi 0),(vi 0),(vu 0),ve,Sl.nil.v] 107) p3 w3→∃aL aM aS aT aN bA,Row w3 p1 (Ab aL aM aS aT aN bA)∧∃bB bC bQ bR bD bS,Row w3 p2 (Ab bB bC bQ bR bD bS)∧∀p4 w4,New w3 (.cells #[(vi aL),(vi aM),(vi aS),(vu aT),(vs aN),bA.v,(vi bB),(vi bC),(vi bQ),(vu bR),(vs bD),bS.v] 107) p4 w4→(∀j,j<6→vF w4 (p3.add j))∧∀w5,w5=storeRow w4 p3 [(vi 4),(vi 0),(vi 0),(vu 0),ve,(Sl.mk (some p4) 2 2).v]→∃aA aB aI aJ aC aK,Row w5 p3 (Ab aA aB aI aJ aC aK)∧K aA aB aI aJ aC aK w5
theorem w_A3 (cN cO cP cQ cR cS iT iU iV iW iX iY w K) (h:m_A3 cN cO cP cQ cR cS iT iU iV iW iX iY w K):
  Calls prog 128 #[(.agg #[(vi cN),(vi cO),(vi cP),(vu cQ),(vs cR),cS.v]),(.agg #[(vi iT),(vi iU),(vi iV),(vu iW),(vs iX),iY.v])] w (fun e w'=>∃aE aF aG aD aH bL,e=.returned (Aa aE aF aG aD aH bL)∧K aE aF aG aD aH bL w'):=by
 refine cw (args:=[(Aa cN cO cP cQ cR cS),(Aa iT iU iV iW iX iY)]) func128 ntmps128 (eg (sn (O:=(.cells #[(vi cN),(vi cO),(vi cP),(vu cQ),(vs cR),cS.v] 107)) xb ?_))
 intro p1 w1 hn5
 have h:=h p1 w1 hn5
 refine nw1 h xb fun p2 w2 h=>nw1 h (zH (zeroValue107 _) rfl) fun p3 w3 h=>ln (eg ?_)
 obtain ⟨aL,aM,aS,aT,aN,bA,hv3,h⟩:=h
 refine qa (isAgg107 _) (sizeOf107 _) hv3 ?_
 obtain ⟨bB,bC,bQ,bR,bD,bS,hv2,h⟩:=h
 refine qa (isAgg107 _) (sizeOf107 _) hv2 (nw4 (fun p=>(Sl.mk (some p) 2 2).v) h fun p4 w4 h=>q (sro (sizeOf107 _) h fun w5 h=>ln (er ?_)))
 obtain ⟨aA,aB,aI,aJ,aC,aK,hv1,h⟩:=h
 refine gg1 results128 (rva (isAgg107 _) (sizeOf107 _) hv1) ⟨aA,aB,aI,aJ,aC,aK,rfl,h⟩
def m_B3 (s1:ByteArray) (w:World) (K:Int→Int→Int→Int→ByteArray→Sl→WP):Prop :=∀p1 w1,New w (.cells #[(vi 0),(vi 0),(vi 0),(vu 0),ve,Sl.nil.v] 107) p1 w1→(∀j,j<6→vF w1 (p1.add j))∧∀w2,w2=storeRow w1 p1 [(vi 3),(vi 0),(vi 0),(vu 0),(vs s1),Sl.nil.v]→∃aA aB aI aJ aC aK,Row w2 p1 (Ab aA aB aI aJ aC aK)∧K aA aB aI aJ aC aK w2
theorem w_B3 (s1 w K) (h:m_B3 s1 w K):
  Calls prog 129 #[(vs s1)] w (fun e w'=>∃aE aF aG aD aH bL,e=.returned (Aa aE aF aG aD aH bL)∧K aE aF aG aD aH bL w'):=by
 refine cw (args:=[(vs s1)]) func129 ntmps129 (eg (sn (O:=(.cells #[(vi 0),(vi 0),(vi 0),(vu 0),ve,Sl.nil.v] 107)) (zH (zeroValue107 _) rfl) ?_))
 intro p1 w1 hn2
 have h:=h p1 w1 hn2
 refine ln (eg (qb (sro (sizeOf107 _) h fun w2 h=>ln (er ?_))))
 obtain ⟨aA,aB,aI,aJ,aC,aK,hv1,h⟩:=h
 refine gg1 results129 (rva (isAgg107 _) (sizeOf107 _) hv1) ⟨aA,aB,aI,aJ,aC,aK,rfl,h⟩
def m_C3 (n1:Int) (w:World) (K:Int→Int→Int→Int→ByteArray→Sl→WP):Prop :=∀p1 w1,New w (.cells #[(vi 0),(vi 0),(vi 0),(vu 0),ve,Sl.nil.v] 107) p1 w1→(∀j,j<6→vF w1 (p1.add j))∧∀w2,w2=storeRow w1 p1 [(vi 2),(vi 0),(vi 0),(vu n1),ve,Sl.nil.v]→∃aA aB aI aJ aC aK,Row w2 p1 (Ab aA aB aI aJ aC aK)∧K aA aB aI aJ aC aK w2
theorem w_C3 (n1 w K) (h:m_C3 n1 w K):
  Calls prog 130 #[(vu n1)] w (fun e w'=>∃aE aF aG aD aH bL,e=.returned (Aa aE aF aG aD aH bL)∧K aE aF aG aD aH bL w'):=by
 refine cw (args:=[(vu n1)]) func130 ntmps130 (eg (sn (O:=(.cells #[(vi 0),(vi 0),(vi 0),(vu 0),ve,Sl.nil.v] 107)) (zH (zeroValue107 _) rfl) ?_))
 intro p1 w1 hn2
 have h:=h p1 w1 hn2
 refine ln (eg (qb (sro (sizeOf107 _) h fun w2 h=>ln (er ?_))))
 obtain ⟨aA,aB,aI,aJ,aC,aK,hv1,h⟩:=h
 refine gg1 results130 (rva (isAgg107 _) (sizeOf107 _) hv1) ⟨aA,aB,aI,aJ,aC,aK,rfl,h⟩
def m_W_j1 (r1:Option Addr) (p1:Addr) (w:World) (K:Int→ByteArray→WP):Prop :=∃C1:WP,C1 w.drew∧∀w5,w5=w.drew→∃v1,(∀w',C1 w'→w'.cell? (p1.add 5)=some (vi v1))∧∃v2,(∀w',C1 w'→w'.cell? (p1.add 6)=some (vi v2))∧Calls prog 109 #[(vp r1),(vi v1),(vi 2)] w5 (fun e w6=>∃bE bF bK aR aZ dB dC,e=.returned (Ae bE bF bK aR aZ dB dC)∧C1 w6∧Calls prog 109 #[(vp r1),(vi v2),(vi 3)] w6 (fun e w7=>∃bO bP cW cX bG fZ gA,e=.returned (Ae bO bP cW cX bG fZ gA)∧C1 w7∧K aR bG w7))
def m_W (r1:Option Addr) (t1:Int) (w:World) (K:Int→ByteArray→WP):Prop :=Calls prog 108 #[(vp r1),(vi t1)] w (fun e w1=>∃r2 r3,e=.returned (.tuple #[(vs r2),(vi r3)])∧Calls prog 109 #[(vp r1),(vi r3),(vi 4)] w1 (fun e w2=>∃aE aF aG aD aH aX aY,e=.returned (Ae aE aF aG aD aH aX aY)∧∀p1 w3,New w2 (.cells #[(vi 0),(vi 0),(vi 0),(vu 0),ve,(vi 0),(vi 0)] 176) p1 w3→(∀j,j<7→vF w3 (p1.add j))∧∀w4,w4=storeRow w3 p1 (Ad aE aF aG aD aH aX aY)→∃a1,r1=some a1∧∃v3,w4.cell? (a1.add 1)=some (vb v3)∧Br v3 (∃a2,r1=some a2∧vF w4 (a2.add 1)∧∀w8,w8=w4.setCell (a2.add 1) (vb true)→m_W_j1 r1 p1 w8 K) (∃a3,r1=some a3∧vF w4 (a3.add 1)∧∀w9,w9=w4.setCell (a3.add 1) (vb (!(decide (r2=(⟨#[100,101,97,108]⟩:ByteArray)))))→m_W_j1 r1 p1 w9 K)))
theorem w_W (r1 t1 w K) (h:m_W r1 t1 w K):
  Calls prog 170 #[(vp r1),(vi t1)] w (fun e w'=>∃r4 r5,e=.returned (.tuple #[(vu r4),(vs r5)])∧K r4 r5 w'):=by
 refine cw (args:=[(vp r1),(vi t1)]) func170 ntmps170 (eg (q0 (vu 0) (q0 ve (ln (eg (q0 (vp r1) (q0 (vi t1) ?_)))))))
 refine sc call108 (h.mono fun e w1 ⟨r2,r3,k,h⟩=>⟨_,k,?_⟩)
 refine q (qd (ln (eg (qb (sc call109 (h.mono fun e w2 ⟨aE,aF,aG,aD,aH,aX,aY,k,h⟩=>⟨_,k,?_⟩))))))
 refine nw1 h (zH (zeroValue176 _) rfl) fun p1 w3 h=>sro (sizeOf176 _) h fun w4 h=>ln (qM (fun ρ w=>Has ρ [(0,(vp r1)),(8,(vp (some p1)))]∧m_W_j1 r1 p1 w K) ?_ ?_)
 rintro ρ w ⟨hH,h⟩
 refine zV hH (zA ?_)
 obtain ⟨C1,hC,h⟩:=h
 refine dr1 C1 [3,8] [] hC h fun w5 h=>qx 0 (vp r1) Kp0 (qx 1 (vp (some (p1.add 5))) Kp1 (qg 2 ?_))
 obtain ⟨v1,hv2,h⟩:=h
 refine sy Kp2 (fun _ k=>xl (isAgg78 _) (hv2 _ k)) (qx 5 (vp r1) Kp5 (qx 6 (vp (some (p1.add 6))) Kp6 (qg 7 ?_)))
 obtain ⟨v2,hv1,h⟩:=h
 refine sy Kp7 (fun _ k=>xl (isAgg78 _) (hv1 _ k)) (lg 3 (slc Kp3 call109 (h.mono ?_)))
 rintro e w6 ⟨bE,bF,bK,aR,aZ,dB,dC,rfl,hC,h⟩
 refine ⟨_,rfl,.inr hC,?_⟩
 refine qx 4 (vu aR) Kp4 (lg 8 (slc Kp8 call109 (h.mono ?_)))
 rintro e w7 ⟨bO,bP,cW,cX,bG,fZ,gA,rfl,hC,h⟩
 refine ⟨_,rfl,.inr hC,?_⟩
 refine qx 9 (vs bG) Kp9 (qx 10 (vu aR) (zO (S8 (zG (zG zN)))) (qx 11 (vs bG) (zO (S8 (zG (zG (zG zN))))) (wn (zL (er (xA (.inl rfl) results170 (v:=(vu aR)) (by kernel_rfl) (v':=(vs bG)) (by kernel_rfl) ⟨aR,bG,rfl,h⟩))))))
 refine rg (qb (qm h fun a1 h=>q (ql (isAgg4 _) h fun v3 h=>q ?_)))
 obtain ⟨hg1,h⟩|⟨hg1,h⟩:=h.br
 refine sj2 23 hg1 (q2 (vb true) (xT hg1) (qm h fun a2 h=>q (st1 (sizeOf4 _) h fun w8 h=>ln ⟨hm,h⟩)))
 refine qk 23 hg1 (stq (v:=(vb (!(decide (r2=(⟨#[100,101,97,108]⟩:ByteArray)))))) (wy 23 hg1) (uE (by kernel_rfl) (by kernel_rfl)) (q2 (vb (!(decide (r2=(⟨#[100,101,97,108]⟩:ByteArray))))) (xF hg1) (qm h fun a3 h=>q (st1 (sizeOf4 _) h fun w9 h=>ln ⟨hm,h⟩))))
end Go.Proofs
end
section
open Go Go.SE
namespace Go.Sp
def vP (x:ByteArray):Tree:=.mk 3 0 0 0 x []
def jBA (n:Int):Tree:=.mk 2 0 0 n ⟨#[]⟩ []
def vS (a b:Tree):Tree:=.mk 4 0 0 0 ⟨#[]⟩ [a,b]
def yQ (n:Int) (a:Tree):Tree:=.mk 7 n 0 0 ⟨#[]⟩ [a]
def yL (n:Int) (a:Tree) (fake:Bool):Tree:=.mk (if fake then 9 else 8) n (1 - n) 0 ⟨#[]⟩ [a]
def jAI:ByteArray:=⟨#[100,101,97,108]⟩
def vY (c:Int) (x:ByteArray):Tree:=vS (vP jAI) (vS (jBA c) (vP x))
end Go.Sp
namespace Go.Proofs
open Tryz
attribute [local irreducible] Calls
theorem TreeAt.leaf {S:NP} {w:World} {k f t u:Int} {x:ByteArray}:TreeAt S w Sl.nil (.mk k f t u x []) :=
 .mk k f t u x [] Sl.nil (fun _=>Sl.nil) rfl (by simp) (fun i h=>by simp at h) (fun i h=>by simp at h)
theorem TreeAt.one {S:NP} {w:World} {k f t u:Int} {x:ByteArray} {p:Addr} {A:Sp.Tree} {sa:Sl} {T:TypeId} (hB:Box w p (qU A sa) T) (hS:S p.block) (hA:TreeAt S w sa A):TreeAt S w ⟨some p,1,1⟩ (.mk k f t u x [A]):=by
 refine .mk k f t u x [A] _ (fun _=>sa) rfl (by simp) (fun i h=>?_) (fun i h=>?_)
 ·have:i=0:=by simpa using h
  subst this;exact ⟨p,⟨by omega,by simp,p,rfl,rfl⟩,hS,hB.row⟩
 ·have:i=0:=by simpa using h
  subst this;exact hA
theorem TreeAt.pair {S:NP} {w:World} {k f t u:Int} {x:ByteArray} {p:Addr} {A B:Sp.Tree} {sa sb:Sl} {T:TypeId} (hB:Box w p (qU A sa++qU B sb) T) (hS:S p.block) (hA:TreeAt S w sa A) (hB2:TreeAt S w sb B):TreeAt S w ⟨some p,2,2⟩ (.mk k f t u x [A,B]):=by
 refine .mk k f t u x [A,B] _ (fun i=>if i=0 then sa else sb) rfl (by simp) (fun i h=>?_) (fun i h=>?_)
 ·have:i=0∨i=1:=by simp at h;omega
  rcases this with rfl | rfl
  ·refine ⟨p,⟨by omega,by simp,p,rfl,rfl⟩,hS,fun i hi=>?_⟩;have:=hB.row i (by simp [qU] at hi ⊢;omega);have hi':i<6:=by simpa [qU] using hi
   rw [this];exact List.getElem?_append_left (by simp [qU];omega)
  ·refine ⟨p.add (1*6),⟨by omega,by simp,p,rfl,rfl⟩,by rw [zW];exact hS,fun i hi=>?_⟩;have hi':i<6:=by simpa [qU] using hi
   have:=hB.row (6+i) (by simp [qU];omega);rw [uP,this,List.getElem?_append_right (by simp [qU])];simp [qU]
 ·have:i=0∨i=1:=by simp at h;omega
  rcases this with rfl | rfl
  ·exact hA
  ·exact hB2
abbrev RetT (n0:Nat) (w:World) (T:Sp.Tree) (e:Ending) (w':World):Prop:=∃s,e=.returned (.agg (qU T s).toArray)∧TreeAt (n0≤·) w' s T∧Pure w w'
theorem yK (n0:Nat) (x:ByteArray) (w:World) (h0:n0≤w.heap.size):Calls prog 129 #[.string x] w (RetT n0 w (Sp.vP x)):=by
 refine (w_B3 x w (fun k f t u y s w'=>(⟨k,f,t,u,y,0,0⟩:Sp.Node)=(Sp.vP x).node∧TreeAt (n0≤·) w' s (Sp.vP x)∧Pure w w') ?_).mono ?_
 ·unfold m_B3;intro p1 w1 h1;exact bx 6 (Box.of_new h1) rfl rfl (fun w' b E=>⟨_,_,_,_,_,Sl.nil,b.row,rfl,TreeAt.leaf,Ext.own (Ext.new h1) (New.own (Ext.refl w) h1) E⟩)
 ·rintro _ w' ⟨k,f,t,u,y,s,rfl,hn,hT,E⟩;cases hn;exact ⟨s,rfl,hT,E⟩
theorem uF (n0:Nat) (n:Int) (w:World) (h0:n0≤w.heap.size):Calls prog 130 #[.int .u64 n] w (RetT n0 w (Sp.jBA n)):=by
 refine (w_C3 n w (fun k f t u y s w'=>(⟨k,f,t,u,y,0,0⟩:Sp.Node)=(Sp.jBA n).node∧TreeAt (n0≤·) w' s (Sp.jBA n)∧Pure w w') ?_).mono ?_
 ·unfold m_C3;intro p1 w1 h1;exact bx 6 (Box.of_new h1) rfl rfl (fun w' b E=>⟨_,_,_,_,_,Sl.nil,b.row,rfl,TreeAt.leaf,Ext.own (Ext.new h1) (New.own (Ext.refl w) h1) E⟩)
 ·rintro _ w' ⟨k,f,t,u,y,s,rfl,hn,hT,E⟩;cases hn;exact ⟨s,rfl,hT,E⟩
theorem qV (n0:Nat) (A B:Sp.Tree) (sa sb:Sl) (w:World) (h0:n0≤w.heap.size) (hA:TreeAt (n0≤·) w sa A) (hB:TreeAt (n0≤·) w sb B) :
  Calls prog 128 #[.agg (qU A sa).toArray,.agg (qU B sb).toArray] w (RetT n0 w (Sp.vS A B)):=by
 refine (w_A3 _ _ _ _ _ sa _ _ _ _ _ sb w (fun k f t u y s w'=>(⟨k,f,t,u,y,0,0⟩:Sp.Node)=(Sp.vS A B).node∧TreeAt (n0≤·) w' s (Sp.vS A B)∧Pure w w') ?_).mono ?_
 ·unfold m_A3
  intro p1 w1 h1 p2 w2 h2 p3 w3 h3
  have E1:Pure w w1:=Ext.new h1
  have E2:=E1.trans (Ext.new h2)
  have E3:Pure w w3:=E2.trans (Ext.new h3)
  have b1:=((Box.of_new h1).pure (Ext.new h2)).pure (Ext.new h3:Pure w2 w3)
  have b2:=(Box.of_new h2).pure (Ext.new h3:Pure w2 w3)
  refine ⟨_,_,_,_,_,sa,b1.row,_,_,_,_,_,sb,b2.row,?_⟩
  intro p4 w4 h4
  have o3:=New.own E2 h3
  have n34:p3.block≠p4.block:=New.ne h4 (Box.of_new h3).blk
  have E4:Pure w w4:=E3.trans (Ext.new h4)
  have o4:=New.own E3 h4
  refine bx 6 ((Box.of_new h3).pure (Ext.new h4)) rfl rfl (fun w' b E=>⟨_,_,_,_,_,_,b.row,rfl,?_,E4.own o3 E⟩)
  have b4:=(Box.of_new h4).ext E n34.symm
  have E5:=E4.own o3 E
  refine TreeAt.pair (A:=A) (B:=B) (sa:=sa) (sb:=sb) b4 (by show n0≤_;omega) (hA.pure E5) (hB.pure E5)
 ·rintro _ w' ⟨k,f,t,u,y,s,rfl,hn,hT,E⟩
  cases hn;exact ⟨s,rfl,hT,E⟩
theorem uJ (n0:Nat) (n:Int) (A:Sp.Tree) (sa:Sl) (w:World) (h0:n0≤w.heap.size) (hA:TreeAt (n0≤·) w sa A) :
  Calls prog 127 #[.int .i64 n,.agg (qU A sa).toArray] w (RetT n0 w (Sp.yQ n A)):=by
 refine (w_Z2 n _ _ _ _ _ sa w (fun k f t u y s w'=>(⟨k,f,t,u,y,0,0⟩:Sp.Node)=(Sp.yQ n A).node∧TreeAt (n0≤·) w' s (Sp.yQ n A)∧Pure w w') ?_).mono ?_
 ·unfold m_Z2
  intro p1 w1 h1 p3 w3 h3
  have E1:Pure w w1:=Ext.new h1
  have E3:Pure w w3:=E1.trans (Ext.new h3)
  have b1:=(Box.of_new h1).pure (Ext.new h3:Pure w1 w3)
  refine ⟨_,_,_,_,_,sa,b1.row,?_⟩
  intro p4 w4 h4
  have o3:=New.own E1 h3
  have n34:p3.block≠p4.block:=New.ne h4 (Box.of_new h3).blk
  have E4:Pure w w4:=E3.trans (Ext.new h4)
  have o4:=New.own E3 h4
  refine bx 6 ((Box.of_new h3).pure (Ext.new h4)) rfl rfl (fun w' b E=>⟨_,_,_,_,_,_,b.row,rfl,?_,E4.own o3 E⟩)
  have b4:=(Box.of_new h4).ext E n34.symm
  have E5:=E4.own o3 E
  exact TreeAt.one (A:=A) (sa:=sa) b4 (by show n0≤_;omega) (hA.pure E5)
 ·rintro _ w' ⟨k,f,t,u,y,s,rfl,hn,hT,E⟩
  cases hn;exact ⟨s,rfl,hT,E⟩
theorem yJ (n0:Nat) (n:Int) (hn1:n=0∨n=1) (A:Sp.Tree) (fake:Bool) (sa:Sl) (w:World) (h0:n0≤w.heap.size) (hA:TreeAt (n0≤·) w sa A) :
  Calls prog 126 #[.int .i64 n,.agg (qU A sa).toArray,.bool fake] w (RetT n0 w (Sp.yL n A fake)):=by
 refine (w_Y2 n _ _ _ _ _ sa fake w (fun k f t u y s w'=>(⟨k,f,t,u,y,0,0⟩:Sp.Node)=(Sp.yL n A fake).node∧TreeAt (n0≤·) w' s (Sp.yL n A fake)∧Pure w w') ?_).mono ?_
 ·unfold m_Y2
  intro p1 w1 h1 p3 w3 h3
  have E1:Pure w w1:=Ext.new h1
  have E3:Pure w w3:=E1.trans (Ext.new h3)
  have b1:=(Box.of_new h1).pure (Ext.new h3:Pure w1 w3)
  have hw:IntKind.i64.wrap (1 - n)=1 - n:=i64 (by omega) (by omega)
  rw [hw]
  refine ⟨fun h=>⟨_,_,_,_,_,sa,b1.row,?_⟩,fun h=>⟨_,_,_,_,_,sa,b1.row,?_⟩⟩
  all_goals
   intro p4 w4 h4
   have o3:=New.own E1 h3
   have n34:p3.block≠p4.block:=New.ne h4 (Box.of_new h3).blk
   have E4:Pure w w4:=E3.trans (Ext.new h4)
   have o4:=New.own E3 h4
   refine bx 6 ((Box.of_new h3).pure (Ext.new h4)) rfl rfl (fun w' b E=>⟨_,_,_,_,_,_,b.row,by rw [h];rfl,?_,E4.own o3 E⟩)
   have b4:=(Box.of_new h4).ext E n34.symm
   have E5:=E4.own o3 E
   exact TreeAt.one (A:=A) (sa:=sa) b4 (by show n0≤_;omega) (hA.pure E5)
 ·rintro _ w' ⟨k,f,t,u,y,s,rfl,hn,hT,E⟩
  cases hn;exact ⟨s,rfl,hT,E⟩
theorem jHU (n0:Nat) (c:Int) (x:ByteArray) (w:World) (h0:n0≤w.heap.size):Calls prog 125 #[.int .u64 c,.string x] w (RetT n0 w (Sp.vY c x)):=by
 refine (w_X2 c x w (fun k f t u y s w'=>(⟨k,f,t,u,y,0,0⟩:Sp.Node)=(Sp.vY c x).node∧TreeAt (n0≤·) w' s (Sp.vY c x)∧Pure w w') ?_).mono ?_
 ·unfold m_X2;intro p1 w1 h1;have E1:Pure w w1:=Ext.new h1;have o1:=New.own (Ext.refl w) h1;have s1:w.heap.size≤w1.heap.size:=E1.size;refine (yK w1.heap.size _ w1 (by omega)).mono ?_;rintro _ w2 ⟨sa,rfl,hA,E2⟩;have s2:=E2.size;refine ⟨_,_,_,_,_,sa,rfl,?_⟩;refine (uF w1.heap.size c w2 (by omega)).mono ?_;rintro _ w3 ⟨sb,rfl,hB,E3⟩;have s3:=E3.size;refine ⟨_,_,_,_,_,sb,rfl,?_⟩;refine (yK w1.heap.size x w3 (by omega)).mono ?_;rintro _ w4 ⟨sc,rfl,hC,E4⟩;have s4:=E4.size;refine ⟨_,_,_,_,_,sc,rfl,?_⟩;refine (qV w1.heap.size (Sp.jBA c) (Sp.vP x) sb sc w4 (by omega) (hB.pure E4) hC).mono ?_;rintro _ w5 ⟨sd,rfl,hD,E5⟩;have s5:=E5.size;refine ⟨_,_,_,_,_,sd,rfl,?_⟩;refine (qV w1.heap.size (Sp.vP Sp.jAI) (Sp.vS (Sp.jBA c) (Sp.vP x)) sa sd w5 (by omega) (((hA.pure E3).pure E4).pure E5) hD).mono ?_;rintro _ w6 ⟨se,rfl,hE,E6⟩;have E:Pure w1 w6:=(((E2.trans E3).trans E4).trans E5).trans E6;refine ⟨_,_,_,_,_,se,rfl,?_⟩;refine bx 6 ((Box.of_new h1).pure E) rfl rfl (fun w' b E'=>⟨_,_,_,_,_,se,b.row,rfl,?_,(E1.trans E).own o1 E'⟩);exact (hE.ext E' (fun b hb e=>by have:=(Box.of_new h1).lt;have:w1.heap.size≤b:=hb;omega)).mono (fun b hb=>by show n0≤b;have:w1.heap.size≤b:=hb;omega)
 ·rintro _ w' ⟨k,f,t,u,y,s,rfl,hn,hT,E⟩;cases hn;exact ⟨s,rfl,hT,E⟩
end Go.Proofs
end
section
open Go Go.SE
namespace Go.Sp
structure Letter where
 kind:Int
 frm:Int
 c:Int
 text:ByteArray
 fake:Bool
deriving DecidableEq
def yG:Letter:=⟨0,0,0,⟨#[]⟩,false⟩
def uQ:ByteArray:=⟨#[97,98,111,114,116]⟩
def yB:ByteArray:=⟨#[114,101,115,111,108,118,101]⟩
def qX:ByteArray:=⟨#[97,98,111,114,116,101,100]⟩
def qG:ByteArray:=⟨#[105,110,115,116,101,97,100]⟩
def jGP:ByteArray:=⟨#[102,117,108,108]⟩
def vK (l:Letter) (first second:Bool):Tree :=
 if l.kind=1 then yL l.frm (vY l.c l.text) l.fake
 else if l.kind=2 then yQ l.frm (vY l.c l.text)
 else if l.kind=3 then yQ 0 (vS (vP uQ) (jBA l.c))
 else if l.kind=4 then yQ l.frm (vS (vP yB) (vS (yL 0 (vY l.c l.text) (l.fake && first)) (yL 1 (vY l.c l.text) (l.fake && second))))
 else if l.kind=5 then yQ 2 (vS (vP qX) (jBA l.c))
 else if l.kind=6 then yQ 2 (vS (vP qG) (vY l.c l.text))
 else vS (vP jGP) (jBA l.c)
end Go.Sp
namespace Go.Proofs
open Tryz
attribute [local irreducible] Calls
theorem jCM (n0:Nat) (k f c:Int) (x:ByteArray) (fake first second:Bool) (w:World) (h0:n0≤w.heap.size) (hf:f=0∨f=1) :
  Calls prog 58 #[.agg #[.int .i64 k,.int .i64 f,.int .u64 c,.string x,.bool fake],.bool first,.bool second] w (RetT n0 w (Sp.vK ⟨k,f,c,x,fake⟩ first second)):=by
 generalize hR:Sp.vK ⟨k,f,c,x,fake⟩ first second=R
 suffices key:∀K:Int→Int→Int→Int→ByteArray→Sl→WP,(∀s w',TreeAt (n0≤·) w' s R∧Pure w w'→K R.node.kind R.node.frm R.node.to R.node.num R.node.text s w')→m_Z1 k f c x fake first second w K by
  refine (w_Z1 k f c x fake first second w (fun k f t u y s w'=>(k=R.node.kind∧f=R.node.frm∧t=R.node.to∧u=R.node.num∧y=R.node.text)∧TreeAt (n0≤·) w' s R∧Pure w w') (key _ (fun s w' h=>⟨⟨rfl,rfl,rfl,rfl,rfl⟩,h⟩))).mono ?_;rintro _ w' ⟨k,f,t,u,y,s,rfl,⟨rfl,rfl,rfl,rfl,rfl⟩,hT,E⟩;exact ⟨s,rfl,hT,E⟩
 intro K hK
 unfold m_Z1
 intro p1 w1 h1 p2 w2 h2
 have E1:Pure w w1:=Ext.new h1
 have E2:Pure w w2:=E1.trans (Ext.new h2)
 have o2:=New.own E1 h2
 have a1:=(Box.of_new h1).pure (Ext.new h2:Pure w1 w2)
 have a2:=Box.of_new h2
 have l1:=a1.lt
 have l2:=a2.lt
 have s2:=E2.size
 clear h1 h2
 refine ⟨_,a1.cell rfl,_,a1.cell rfl,?_⟩
 refine (jHU w2.heap.size c x w2 (Nat.le_refl _)).mono ?_
 rintro _ w3 ⟨sd,rfl,hD,E3⟩
 refine ⟨_,_,_,_,_,sd,rfl,?_⟩
 intro p3 w4 h4
 have o3:=New.own (Ext.refl w3) h4
 refine bx 6 (Box.of_new h4) rfl rfl (fun w5 b3 E'=>?_)
 have E5:Pure w3 w5:=Ext.own (Ext.new h4) o3 E'
 have hD5:=hD.pure E5
 have E25:Pure w2 w5:=E3.trans E5
 have s5:=E25.size
 have b1:=a1.pure E25
 have b3:Box w5 p3 (qU (Sp.vY c x) sd) 107:=b3
 clear E' h4 E5 hD E3
 have fin : ∀ (T : Sp.Tree) (s : Sl) (w' : World), Pure w5 w' → TreeAt (w2.heap.size ≤ ·) w' s T → T = R →
   (∀j,j<6→vF w' (p2.add j))∧∀w'':World,w''=storeRow w' p2 (qU T s) →
   ∃qKind1:Int,∃qFrom1:Int,∃qTo1:Int,∃qNum1:Int,∃qText1:ByteArray,∃qKids1:Sl,Row w'' p2 [(.int .i64 qKind1),(.int .i64 qFrom1),(.int .i64 qTo1),(.int .u64 qNum1),(.string qText1),qKids1.v]∧K qKind1 qFrom1 qTo1 qNum1 qText1 qKids1 w'':=by
  rintro T s w' E hT rfl
  refine bx 6 (a2.pure (E25.trans E)) rfl rfl (fun w'' b E'=>⟨_,_,_,_,_,s,b.row,hK s w'' ⟨?_,(E2.trans (E25.trans E)).own o2 E'⟩⟩)
  exact (hT.ext E' (fun b hb e=>by have:w2.heap.size≤b:=hb;omega)).mono (fun b hb=>by show n0≤b;have:w2.heap.size≤b:=hb;omega)
 have drawn:∃C:WP,C w5.drew∧(∀w' w'',Pure w' w''→C w'→C w'')∧(∀w',C w'→Box w' p1 [.int .i64 k,.int .i64 f,.int .u64 c,.string x,.bool fake] 35∧Box w' p3 (qU (Sp.vY c x) sd) 107) :=
  ⟨fun w'=>Box w' p1 [.int .i64 k,.int .i64 f,.int .u64 c,.string x,.bool fake] 35∧Box w' p3 (qU (Sp.vY c x) sd) 107,⟨b1.pure (Ext.drew w5),b3.pure (Ext.drew w5)⟩,fun _ _ E h=>⟨h.1.pure E,h.2.pure E⟩,fun _ h=>h⟩
 obtain ⟨C,hC,hCp,hCb⟩:=drawn
 refine ⟨k,b1.cell0,fun hk=>?_,fun hk1=>⟨fun hk=>?_,fun hk2=>⟨fun hk=>?_,fun hk3=>⟨fun hk=>?_,fun hk4=>⟨fun hk=>?_,fun hk5=>⟨fun hk=>?_,fun hk6=>?_⟩⟩⟩⟩⟩⟩
 ·have hk:k=1:=by simpa using hk
  refine ⟨f,b1.cell rfl,_,_,_,_,_,sd,b3.row,fake,b1.cell rfl,?_⟩
  refine (yJ w2.heap.size f hf (Sp.vY c x) fake sd w5 s5 hD5).mono ?_
  rintro _ w6 ⟨s,rfl,hT,E6⟩
  exact ⟨_,_,_,_,_,s,rfl,fin _ s w6 E6 hT (by rw [← hR];simp only [Sp.vK];rw [if_pos hk])⟩
 ·have hk:k=2:=by simpa using hk
  refine ⟨f,b1.cell rfl,_,_,_,_,_,sd,b3.row,?_⟩
  refine (uJ w2.heap.size f (Sp.vY c x) sd w5 s5 hD5).mono ?_
  rintro _ w6 ⟨s,rfl,hT,E6⟩
  exact ⟨_,_,_,_,_,s,rfl,fin _ s w6 E6 hT (by rw [← hR];simp only [Sp.vK];rw [if_neg (by omega),if_pos hk])⟩
 ·have hk:k=3:=by simpa using hk
  refine ⟨C,hC,?_⟩
  intro w10 hw10
  have E10:Pure w5 w10:=by rw [hw10];exact Ext.drew w5
  have hC10:C w10:=by rw [hw10];exact hC
  clear hw10
  have s10:=E10.size
  refine ⟨c,fun w' h=>(hCb w' h).1.cell rfl,?_⟩
  refine (yK w2.heap.size _ w10 (by omega)).mono ?_
  rintro _ w11 ⟨sa,rfl,hA,E11⟩
  have s11:=E11.size
  refine ⟨_,_,_,_,_,sa,rfl,hCp _ _ E11 hC10,?_⟩
  refine (uF w2.heap.size c w11 (by omega)).mono ?_
  rintro _ w12 ⟨sb,rfl,hB,E12⟩
  have s12:=E12.size
  refine ⟨_,_,_,_,_,sb,rfl,?_⟩
  refine (qV w2.heap.size (Sp.vP Sp.uQ) (Sp.jBA c) sa sb w12 (by omega) (hA.pure E12) hB).mono ?_
  rintro _ w13 ⟨se,rfl,hE,E13⟩
  have s13:=E13.size
  refine ⟨_,_,_,_,_,se,rfl,?_⟩
  refine (uJ w2.heap.size 0 (Sp.vS (Sp.vP Sp.uQ) (Sp.jBA c)) se w13 (by omega) hE).mono ?_
  rintro _ w14 ⟨s,rfl,hT,E14⟩
  exact ⟨_,_,_,_,_,s,rfl,fin _ s w14 ((((E10.trans E11).trans E12).trans E13).trans E14) hT (by rw [← hR];simp only [Sp.vK];rw [if_neg (by omega),if_neg (by omega),if_pos hk])⟩
 ·have hk:k=4:=by simpa using hk
  refine ⟨C,hC,?_⟩
  intro w10 hw10
  have E10:Pure w5 w10:=by rw [hw10];exact Ext.drew w5
  have hC10:C w10:=by rw [hw10];exact hC
  clear hw10
  have s10:=E10.size
  refine ⟨f,fun w' h=>(hCb w' h).1.cell rfl,_,_,_,_,_,sd,fun w' h=>(hCb w' h).2.row,fake,fun w' h=>(hCb w' h).1.cell rfl,_,_,_,_,_,sd,fun w' h=>(hCb w' h).2.row,fake,fun w' h=>(hCb w' h).1.cell rfl,?_⟩
  refine (yK w2.heap.size _ w10 (by omega)).mono ?_
  rintro _ w11 ⟨sa,rfl,hA,E11⟩
  have s11:=E11.size
  have hD11:=hD5.pure (E10.trans E11)
  have hC11:=hCp _ _ E11 hC10
  refine ⟨_,_,_,_,_,sa,rfl,hC11,?_⟩
  have rest : ∀ (u v : Bool) (sx sy : Sl) (w' : World), u = (fake && first) → v = (fake && second) → Pure w11 w' → TreeAt (w2.heap.size ≤ ·) w' sx (Sp.yL 0 (Sp.vY c x) u) → TreeAt (w2.heap.size ≤ ·) w' sy (Sp.yL 1 (Sp.vY c x) v) →
    Calls prog 128 #[.agg (qU (Sp.yL 0 (Sp.vY c x) u) sx).toArray,.agg (qU (Sp.yL 1 (Sp.vY c x) v) sy).toArray] w' (fun e wa=>∃k1 f1 t1 u1 y1,∃s1:Sl,e=.returned (.agg #[.int .i64 k1,.int .i64 f1,.int .i64 t1,.int .u64 u1,.string y1,s1.v])∧C wa ∧
     Calls prog 128 #[.agg (qU (Sp.vP Sp.yB) sa).toArray,.agg #[.int .i64 k1,.int .i64 f1,.int .i64 t1,.int .u64 u1,.string y1,s1.v]] wa (fun e wb=>∃k1 f1 t1 u1 y1,∃s1:Sl,e=.returned (.agg #[.int .i64 k1,.int .i64 f1,.int .i64 t1,.int .u64 u1,.string y1,s1.v])∧C wb ∧
      Calls prog 127 #[.int .i64 f,.agg #[.int .i64 k1,.int .i64 f1,.int .i64 t1,.int .u64 u1,.string y1,s1.v]] wb (fun e wc=>∃k1 f1 t1 u1 y1,∃s1:Sl,e=.returned (.agg #[.int .i64 k1,.int .i64 f1,.int .i64 t1,.int .u64 u1,.string y1,s1.v]) ∧
       (∀j,j<6→vF wc (p2.add j))∧∀w'':World,w''=storeRow wc p2 [.int .i64 k1,.int .i64 f1,.int .i64 t1,.int .u64 u1,.string y1,s1.v] →
   ∃qKind1:Int,∃qFrom1:Int,∃qTo1:Int,∃qNum1:Int,∃qText1:ByteArray,∃qKids1:Sl,Row w'' p2 [(.int .i64 qKind1),(.int .i64 qFrom1),(.int .i64 qTo1),(.int .u64 qNum1),(.string qText1),qKids1.v]∧K qKind1 qFrom1 qTo1 qNum1 qText1 qKids1 w''))):=by
   intro u v sx sy w' hu hv E hX hY
   have s':=E.size
   refine (qV w2.heap.size (Sp.yL 0 (Sp.vY c x) u) (Sp.yL 1 (Sp.vY c x) v) sx sy w' (by omega) hX hY).mono ?_
   rintro _ wa ⟨s1,rfl,h1,Ea⟩
   have sa':=Ea.size
   refine ⟨_,_,_,_,_,s1,rfl,hCp _ _ (E.trans Ea) hC11,?_⟩
   refine (qV w2.heap.size (Sp.vP Sp.yB) (Sp.vS (Sp.yL 0 (Sp.vY c x) u) (Sp.yL 1 (Sp.vY c x) v)) sa s1 wa (by omega) (hA.pure (E.trans Ea)) h1).mono ?_
   rintro _ wb ⟨s2,rfl,h2,Eb⟩
   have sb':=Eb.size
   refine ⟨_,_,_,_,_,s2,rfl,hCp _ _ ((E.trans Ea).trans Eb) hC11,?_⟩
   refine (uJ w2.heap.size f (Sp.vS (Sp.vP Sp.yB) (Sp.vS (Sp.yL 0 (Sp.vY c x) u) (Sp.yL 1 (Sp.vY c x) v))) s2 wb (by omega) h2).mono ?_
   rintro _ wc ⟨s3,rfl,h3,Ec⟩
   exact ⟨_,_,_,_,_,s3,rfl,fin _ s3 wc (((((E10.trans E11).trans E).trans Ea).trans Eb).trans Ec) h3 (by rw [← hR,hu,hv];simp only [Sp.vK];rw [if_neg (by omega),if_neg (by omega),if_neg (by omega),if_pos hk])⟩
  refine ⟨fun hfk=>?_,fun hfk=>?_⟩
  ·refine (yJ w2.heap.size 0 (.inl rfl) (Sp.vY c x) first sd w11 (by omega) hD11).mono ?_
   rintro _ w12 ⟨sx,rfl,hX,E12⟩
   have s12:=E12.size
   refine ⟨_,_,_,_,_,sx,rfl,hCp _ _ E12 hC11,Br.t hfk ?_⟩
   refine (yJ w2.heap.size 1 (.inr rfl) (Sp.vY c x) second sd w12 (by omega) (hD11.pure E12)).mono ?_
   rintro _ w13 ⟨sy,rfl,hY,E13⟩
   exact ⟨_,_,_,_,_,sy,rfl,hCp _ _ (E12.trans E13) hC11,rest first second sx sy w13 (by rw [hfk];rfl) (by rw [hfk];rfl) (E12.trans E13) (hX.pure E13) hY⟩
  ·refine (yJ w2.heap.size 0 (.inl rfl) (Sp.vY c x) false sd w11 (by omega) hD11).mono ?_
   rintro _ w12 ⟨sx,rfl,hX,E12⟩
   have s12:=E12.size
   refine ⟨_,_,_,_,_,sx,rfl,hCp _ _ E12 hC11,Br.f hfk ?_⟩
   refine (yJ w2.heap.size 1 (.inr rfl) (Sp.vY c x) false sd w12 (by omega) (hD11.pure E12)).mono ?_
   rintro _ w13 ⟨sy,rfl,hY,E13⟩
   exact ⟨_,_,_,_,_,sy,rfl,hCp _ _ (E12.trans E13) hC11,rest false false sx sy w13 (by rw [hfk];rfl) (by rw [hfk];rfl) (E12.trans E13) (hX.pure E13) hY⟩
 ·have hk:k=5:=by simpa using hk
  refine ⟨C,hC,?_⟩
  intro w10 hw10
  have E10:Pure w5 w10:=by rw [hw10];exact Ext.drew w5
  have hC10:C w10:=by rw [hw10];exact hC
  clear hw10
  have s10:=E10.size
  refine ⟨c,fun w' h=>(hCb w' h).1.cell rfl,?_⟩
  refine (yK w2.heap.size _ w10 (by omega)).mono ?_
  rintro _ w11 ⟨sa,rfl,hA,E11⟩
  have s11:=E11.size
  refine ⟨_,_,_,_,_,sa,rfl,hCp _ _ E11 hC10,?_⟩
  refine (uF w2.heap.size c w11 (by omega)).mono ?_
  rintro _ w12 ⟨sb,rfl,hB,E12⟩
  have s12:=E12.size
  refine ⟨_,_,_,_,_,sb,rfl,?_⟩
  refine (qV w2.heap.size (Sp.vP Sp.qX) (Sp.jBA c) sa sb w12 (by omega) (hA.pure E12) hB).mono ?_
  rintro _ w13 ⟨se,rfl,hE,E13⟩
  have s13:=E13.size
  refine ⟨_,_,_,_,_,se,rfl,?_⟩
  refine (uJ w2.heap.size 2 (Sp.vS (Sp.vP Sp.qX) (Sp.jBA c)) se w13 (by omega) hE).mono ?_
  rintro _ w14 ⟨s,rfl,hT,E14⟩
  exact ⟨_,_,_,_,_,s,rfl,fin _ s w14 ((((E10.trans E11).trans E12).trans E13).trans E14) hT (by rw [← hR];simp only [Sp.vK];rw [if_neg (by omega),if_neg (by omega),if_neg (by omega),if_neg (by omega),if_pos hk])⟩
 ·have hk:k=6:=by simpa using hk
  refine ⟨C,hC,?_⟩
  intro w10 hw10
  have E10:Pure w5 w10:=by rw [hw10];exact Ext.drew w5
  have hC10:C w10:=by rw [hw10];exact hC
  clear hw10
  have s10:=E10.size
  refine ⟨_,_,_,_,_,sd,fun w' h=>(hCb w' h).2.row,?_⟩
  refine (yK w2.heap.size _ w10 (by omega)).mono ?_
  rintro _ w11 ⟨sa,rfl,hA,E11⟩
  have s11:=E11.size
  refine ⟨_,_,_,_,_,sa,rfl,hCp _ _ E11 hC10,?_⟩
  refine (qV w2.heap.size (Sp.vP Sp.qG) (Sp.vY c x) sa sd w11 (by omega) hA (hD5.pure (E10.trans E11))).mono ?_
  rintro _ w13 ⟨se,rfl,hE,E13⟩
  have s13:=E13.size
  refine ⟨_,_,_,_,_,se,rfl,?_⟩
  refine (uJ w2.heap.size 2 (Sp.vS (Sp.vP Sp.qG) (Sp.vY c x)) se w13 (by omega) hE).mono ?_
  rintro _ w14 ⟨s,rfl,hT,E14⟩
  exact ⟨_,_,_,_,_,s,rfl,fin _ s w14 (((E10.trans E11).trans E13).trans E14) hT (by rw [← hR];simp only [Sp.vK];rw [if_neg (by omega),if_neg (by omega),if_neg (by omega),if_neg (by omega),if_neg (by omega),if_pos hk])⟩
 ·have hk1:k≠1:=by simpa using hk1
  have hk2:k≠2:=by simpa using hk2
  have hk3:k≠3:=by simpa using hk3
  have hk4:k≠4:=by simpa using hk4
  have hk5:k≠5:=by simpa using hk5
  have hk6:k≠6:=by simpa using hk6
  refine ⟨C,hC,?_⟩
  intro w10 hw10
  have E10:Pure w5 w10:=by rw [hw10];exact Ext.drew w5
  have hC10:C w10:=by rw [hw10];exact hC
  clear hw10
  have s10:=E10.size
  refine ⟨c,fun w' h=>(hCb w' h).1.cell rfl,?_⟩
  refine (yK w2.heap.size _ w10 (by omega)).mono ?_
  rintro _ w11 ⟨sa,rfl,hA,E11⟩
  have s11:=E11.size
  refine ⟨_,_,_,_,_,sa,rfl,hCp _ _ E11 hC10,?_⟩
  refine (uF w2.heap.size c w11 (by omega)).mono ?_
  rintro _ w12 ⟨sb,rfl,hB,E12⟩
  have s12:=E12.size
  refine ⟨_,_,_,_,_,sb,rfl,?_⟩
  refine (qV w2.heap.size (Sp.vP Sp.jGP) (Sp.jBA c) sa sb w12 (by omega) (hA.pure E12) hB).mono ?_
  rintro _ w13 ⟨s,rfl,hT,E13⟩
  exact ⟨_,_,_,_,_,s,rfl,fin _ s w13 (((E10.trans E11).trans E12).trans E13) hT (by rw [← hR];simp only [Sp.vK];rw [if_neg hk1,if_neg hk2,if_neg hk3,if_neg hk4,if_neg hk5,if_neg hk6])⟩
end Go.Proofs
end
section
namespace Go.Sp
theorem jBI {L:Pool} {i:Nat} (hi:i<L.length):zD L ((i:Int)+1)=L[i].node:=by
 have h:inP L ((i:Int)+1)=true:=qC.2 ⟨by omega,by omega⟩;have e:((i:Int)+1 - 1).toNat=i:=by omega
 simp [zD,get,h,e,hi]
theorem jEZ {L:Pool} {t:Int} (h:inP L t=true):∃i:Nat,i<L.length∧t=(i:Int)+1:=by
 have:=qC.1 h;exact ⟨(t - 1).toNat,by omega,by omega⟩
theorem jCJ {L:Pool} {i:Nat} (hi:i<L.length):get L ((i:Int)+1)=some L[i]:=by
 have h:inP L ((i:Int)+1)=true:=qC.2 ⟨by omega,by omega⟩;have e:((i:Int)+1 - 1).toNat=i:=by omega
 simp [get,h,e,hi]
structure Wf (L:Pool):Prop where
 ok:Ok L
 each:∀i (hi:i<L.length),check (L.take i) L[i].node=(L[i].size,L[i].depth,0)
theorem Wf.nil:Wf []:=⟨Ok.nil,fun i hi=>by simp at hi⟩
theorem jFC {L:Pool} {n:Node} (h:(check L n).2.2=0):vC n=0∧((shapeOf n.kind).kids<1→n.a=0)∧((shapeOf n.kind).kids<2→n.b=0)∧vB (shapeOf n.kind) n=0∧(∀t∈zS n,inP L t=true) ∧
  (check L n).1=1+((zS n).map (sizeOf L)).sum∧(check L n).2.1=(zS n).foldl (fun d t=>max d (depthOf L t)) 0+1∧(check L n).1≤4096∧(check L n).2.1≤64:=by
 unfold check at h ⊢
 simp only at h ⊢
 by_cases h1:vC n≠0
 ·rw [if_pos h1] at h;exact absurd h h1
 rw [if_neg h1] at h ⊢
 split at h
 ·simp at h
 rename_i h2;rw [if_neg h2]
 by_cases h3:vB (shapeOf n.kind) n≠0
 ·rw [if_pos h3] at h;exact absurd h h3
 rw [if_neg h3] at h ⊢
 split at h
 ·simp at h
 rename_i h4;rw [if_neg h4]
 split at h
 ·simp at h
 rename_i h5;rw [if_neg h5]
 simp only [Bool.or_eq_true,Bool.and_eq_true,decide_eq_true_eq,bne_iff_ne,ne_eq,not_or,not_and,Classical.not_not] at h2
 refine ⟨by simpa using h1,h2.1,h2.2,by simpa using h3,fun t ht=>?_,rfl,rfl,by simp only;omega,by simp only;omega⟩
 cases hi:inP L t with
 | true=>rfl
 | false=>exact absurd (List.any_eq_true.2 ⟨t,ht,by simp [hi]⟩) h4
theorem jHH (L:Pool) (n:Node):(make L n).2.2=L∨((check L n).2.2=0∧(make L n).2.2=L++[⟨n,(check L n).1,(check L n).2.1⟩]):=by
 by_cases hc:(check L n).2.2=0
 ·unfold make;simp only [hc];rw [if_neg (by simp)];split
  ·exact .inl rfl
  ·split
   ·exact .inl rfl
   ·exact .inr ⟨trivial,rfl⟩
 ·unfold make;simp only;rw [if_pos hc];exact .inl rfl
theorem jLY {L:Pool} {e:Ent} (h:∀i (hi:i<L.length),check (L.take i) L[i].node=(L[i].size,L[i].depth,0)) (he:check L e.node=(e.size,e.depth,0)):∀i (hi:i<(L++[e]).length),check ((L++[e]).take i) (L++[e])[i].node=((L++[e])[i].size,(L++[e])[i].depth,0):=by
 intro i hi;simp only [List.length_append,List.length_cons,List.length_nil] at hi;by_cases hlt:i<L.length
 ·simp only [List.getElem_append_left hlt];rw [List.take_append_of_le_length (by omega)];exact h i hlt
 ·have:i=L.length:=by omega
  subst this;simp only [List.getElem_append_right (Nat.le_refl _),Nat.sub_self,List.getElem_cons_zero];rw [List.take_left' rfl];exact he
theorem tX {L:Pool} (h:Wf L) (n:Node):Wf (make L n).2.2:=by
 have ho:=jEC h.ok n;rcases jHH L n with e | ⟨hc,e⟩
 ·rw [e];exact h
 ·rw [e] at ho ⊢;exact ⟨ho,jLY h.each (by rw [← hc])⟩
theorem jGA (t:Tree):∀L,Wf L→Wf (grow L t).2.2:=by
 induction t using Tree.ind with
 | h k f t u x ks ih =>
  have:∀(ks:List Tree),(∀i (hi:i<ks.length),∀L,Wf L→Wf (grow L ks[i]).2.2)→∀n i L,Wf L→Wf (vG n i L ks).2.2:=by
   intro ks;induction ks with
   | nil=>intro _ n i L h;unfold vG;exact tX h n
   | cons t ts iht =>
    intro hh n i L h
    have h0:=hh 0 (by simp) L h
    simp only [List.getElem_cons_zero] at h0
    unfold vG
    split
    ·exact h0
    ·exact iht (fun i hi=>hh (i+1) (by simpa using hi)) _ _ _ h0
  intro L h
  unfold grow
  exact this ks ih _ _ L h
theorem jOF {L:Pool} (h:Wf L) (t:Tree):Wf (of L t).2.2:=by
 unfold of;split
 ·exact h
 ·split
  ·exact h
  ·exact jGA t L h
theorem jKB {L:Pool} (h:Ok L) (t:Tree):∃M,(of L t).2.2=L++M:=by
 unfold of;split
 ·exact ⟨[],by simp⟩
 ·split
  ·exact ⟨[],by simp⟩
  ·exact (uY t L h).2
theorem xU {L M:Pool} {t:Int} (h:inP L t=true):inP (L++M) t=true:=by
 have:=qC.1 h;exact qC.2 ⟨this.1,by rw [List.length_append];omega⟩
theorem jJB {L M:Pool} {t:Int} (h:inP L t=true):get (L++M) t=get L t:=by
 obtain ⟨i,hi,rfl⟩:=jEZ h;rw [jCJ hi,jCJ (by rw [List.length_append];omega),List.getElem_append_left hi]
theorem jKX {L M:Pool} {t:Int} (h:inP L t=true):zD (L++M) t=zD L t:=by unfold zD;rw [jJB h]
theorem yS {L M:Pool} {t:Int} (h:inP L t=true):sizeOf (L++M) t=sizeOf L t:=by unfold sizeOf;rw [jJB h]
theorem yR {L M:Pool} {t:Int} (h:inP L t=true):depthOf (L++M) t=depthOf L t:=by unfold depthOf;rw [jJB h]
theorem Wf.node {L:Pool} (h:Wf L) {t:Int} (ht:inP L t=true):vC (zD L t)=0∧((shapeOf (zD L t).kind).kids<1→(zD L t).a=0)∧((shapeOf (zD L t).kind).kids<2→(zD L t).b=0)∧vB (shapeOf (zD L t).kind) (zD L t)=0 ∧
  (∀k∈zS (zD L t),inP L k=true∧k<t)∧sizeOf L t=1+((zS (zD L t)).map (sizeOf L)).sum∧depthOf L t=(zS (zD L t)).foldl (fun d k=>max d (depthOf L k)) 0+1:=by
 obtain ⟨i,hi,rfl⟩:=jEZ ht
 have he:=h.each i hi
 have hz:=jFC (L:=L.take i) (n:=L[i].node) (by rw [he])
 rw [jBI hi]
 obtain ⟨h1,h2,h3,h4,h5,h6,h7,_,_⟩:=hz
 have hin:∀k∈zS L[i].node,inP (L.take i) k=true∧inP L k=true∧k<(i:Int)+1:=by
  intro k hk;have hk':=h5 k hk;have hk2:=qC.1 hk';have:L.take i++L.drop i=L:=List.take_append_drop i L;refine ⟨hk',by rw [← this];exact xU hk',?_⟩;rw [List.length_take] at hk2;omega
 have hsz:∀k∈zS L[i].node,sizeOf (L.take i) k=sizeOf L k∧depthOf (L.take i) k=depthOf L k:=by
  intro k hk;have hk':=(hin k hk).1;have:L.take i++L.drop i=L:=List.take_append_drop i L;exact ⟨by rw [← yS (M:=L.drop i) hk',this],by rw [← yR (M:=L.drop i) hk',this]⟩
 refine ⟨h1,h2,h3,h4,fun k hk=>⟨(hin k hk).2.1,(hin k hk).2.2⟩,?_,?_⟩
 ·have:sizeOf L ((i:Int)+1)=L[i].size:=by simp [sizeOf,jCJ hi]
  rw [this]
  rw [he] at h6
  simp only at h6
  rw [h6]
  congr 2
  exact List.map_congr_left (fun k hk=>(hsz k hk).1)
 ·have:depthOf L ((i:Int)+1)=L[i].depth:=by simp [depthOf,jCJ hi]
  rw [this]
  rw [he] at h7
  simp only at h7
  rw [h7]
  congr 1
  have:∀(l:List Int) (d:Int),(∀k∈l,depthOf (L.take i) k=depthOf L k)→l.foldl (fun d t=>max d (depthOf (L.take i) t)) d=l.foldl (fun d k=>max d (depthOf L k)) d:=by
   intro l;induction l with
   | nil=>intro d _;rfl
   | cons a l ih=>intro d hh;simp only [List.foldl_cons];rw [hh a (by simp)];exact ih _ (fun k hk=>hh k (by simp [hk]))
  exact this _ _ (fun k hk=>(hsz k hk).2)
def jBJ:Tree:=.mk 0 0 0 0 ⟨#[]⟩ []
def jFN (L:Pool):Nat→Int→Tree
 | 0,_=>jBJ
 | fuel+1,t=>if inP L t=true then .mk (zD L t).kind (zD L t).frm (zD L t).to (zD L t).num (zD L t).text ((zS (zD L t)).map (jFN L fuel)) else jBJ
def zJ (L:Pool) (t:Int):Tree:=jFN L t.toNat t
theorem xY {L:Pool} {t:Int} (h:inP L t=false) (f:Nat):jFN L f t=jBJ:=by
 cases f <;> simp [jFN,h]
theorem jKQ {L:Pool} (h:Wf L):∀(f:Nat) (t:Int),t.toNat≤f→jFN L f t=zJ L t:=by
 have key:∀(f g:Nat) (t:Int),t.toNat≤f→t.toNat≤g→jFN L f t=jFN L g t:=by
  intro f;induction f with
  | zero =>
   intro g t hf hg
   have:inP L t=false:=by
    apply Bool.eq_false_iff.2;intro hi;have:=qC.1 hi;omega
   rw [xY this,xY this]
  | succ f ih =>
   intro g t hf hg
   cases hi:inP L t with
   | false=>rw [xY hi,xY hi]
   | true =>
    have hpos:=qC.1 hi
    cases g with
    | zero=>omega
    | succ g =>
     simp only [jFN,hi,if_true]
     congr 1
     refine List.map_congr_left (fun k hk=>ih g k ?_ ?_)
     ·have:=((h.node hi).2.2.2.2.1 k hk).2;omega
     ·have:=((h.node hi).2.2.2.2.1 k hk).2;omega
 intro f t hf;exact key f t.toNat t hf (Nat.le_refl _)
theorem jAP {L:Pool} {t:Int} (h:inP L t=false):zJ L t=jBJ:=xY h _
theorem qB {L:Pool} (h:Wf L) {t:Int} (ht:inP L t=true):zJ L t=.mk (zD L t).kind (zD L t).frm (zD L t).to (zD L t).num (zD L t).text ((zS (zD L t)).map (zJ L)):=by
 have hpos:=qC.1 ht;have e:t.toNat=(t.toNat - 1)+1:=by omega
 unfold zJ;rw [e];simp only [jFN,ht,if_true];congr 1;refine List.map_congr_left (fun k hk=>?_);have:=((h.node ht).2.2.2.2.1 k hk).2;exact jKQ h _ k (by omega)
theorem Wf.first {L M:Pool} (h:Wf (L++M)):Wf L:=by
 refine ⟨⟨by have:=h.ok.few;rw [List.length_append] at this;omega,?_,fun e he=>h.ok.size e (by simp [he]),fun e he=>h.ok.depth e (by simp [he])⟩,fun i hi=>?_⟩
 ·have:=h.ok.nodup;rw [List.map_append] at this;exact (List.nodup_append.1 this).1
 ·have:=h.each i (by rw [List.length_append];omega);rw [List.getElem_append_left hi,List.take_append_of_le_length (by omega)] at this;exact this
theorem uW {L M:Pool} (h:Wf (L++M)):∀(n:Nat) (t:Int),t.toNat=n→inP L t=true→zJ (L++M) t=zJ L t:=by
 have hL:=h.first;intro n;induction n using Nat.strongRecOn with
 | _ n ih =>
  intro t hn ht
  rw [qB h (xU ht),qB hL ht,jKX ht]
  congr 1
  refine List.map_congr_left (fun k hk=>?_)
  have hk':=(hL.node ht).2.2.2.2.1 k hk
  have:=qC.1 hk'.1
  exact ih k.toNat (by omega) k rfl hk'.1
theorem jMT {L:Pool} {n:Node} {i:Nat} (h:find L n=some i):∃hi:i<L.length,L[i].node=n:=by
 unfold find at h;rw [List.findIdx?_eq_some_iff_getElem] at h;obtain ⟨hi,h1,_⟩:=h;exact ⟨hi,by simpa using h1⟩
theorem jHI {L:Pool} {n:Node} (h:(make L n).2.1=0):inP (make L n).2.2 (make L n).1=true∧zD (make L n).2.2 (make L n).1=n∧(check L n).2.2=0:=by
 unfold make at h ⊢;simp only at h ⊢;by_cases hc:(check L n).2.2≠0
 ·rw [if_pos hc] at h;exact absurd h hc
 ·rw [if_neg hc] at h ⊢;have hc:(check L n).2.2=0:=by simpa using hc
  cases hf:find L n with
  | some i =>
   obtain ⟨hi,hn⟩:=jMT hf
   simp only
   exact ⟨qC.2 ⟨by omega,by omega⟩,by rw [jBI hi,hn],hc⟩
  | none =>
   rw [hf] at h
   simp only at h ⊢
   split at h
   ·simp at h
   ·rename_i hl
    rw [if_neg hl]
    simp only
    have hi:L.length<(L++[(⟨n,(check L n).1,(check L n).2.1⟩:Ent)]).length:=by simp
    refine ⟨qC.2 ⟨by omega,by simp⟩,?_,hc⟩
    rw [jBI hi]
    simp
theorem jAG (L:Pool) (n:Node):∃M,(make L n).2.2=L++M:=jEV L n
theorem jLA (n:Node):(zS n).length=(shapeOf n.kind).kids.toNat:=by
 unfold zS;rcases tM n.kind with h | h | h <;> simp [h]
inductive Good:Tree→Prop
 | mk (k f t u:Int) (x:ByteArray) (ks:List Tree) (own:yX ⟨k,f,t,u,x,0,0⟩ ks.length=0) (kids:∀i (hi:i<ks.length),Good ks[i]):Good (.mk k f t u x ks)
theorem jKY (t:Tree):∀i n:Int,(qJ i n t).1=0→Good t:=by
 induction t using Tree.ind with
 | h k f t u x ks ih =>
  have hA:∀(ks:List Tree),(∀i (hi:i<ks.length),∀j n:Int,(qJ j n ks[i]).1=0→Good ks[i])→∀i e n:Int,(vJ i e n ks).1=0→e=0∧∀i (hi:i<ks.length),Good ks[i]:=by
   intro ks;induction ks with
   | nil=>intro _ i e n h;exact ⟨by simpa [vJ] using h,fun i hi=>by simp at hi⟩
   | cons t ts iht =>
    intro hh i e n h
    unfold vJ at h
    split at h
    ·rename_i he
     have:=iht (fun i hi=>hh (i+1) (by simpa using hi)) _ _ _ h
     refine ⟨he,fun j hj=>?_⟩
     cases j with
     | zero=>exact hh 0 (by simp) i n this.1
     | succ j=>exact this.2 j (by simpa using hj)
    ·rename_i he;exact absurd h he
  intro i n h
  unfold qJ at h
  split at h
  ·cases h
  ·split at h
   ·cases h
   ·have:=hA ks ih _ _ _ h
    exact .mk _ _ _ _ _ _ this.1 this.2
theorem Good.inv {k f t u:Int} {x:ByteArray} {ks:List Tree} (h:Good (.mk k f t u x ks)):vC ⟨k,f,t,u,x,0,0⟩=0∧(ks.length:Int)=(shapeOf k).kids∧vB (shapeOf k) ⟨k,f,t,u,x,0,0⟩=0∧∀i (hi:i<ks.length),Good ks[i]:=by
 cases h with
 | mk _ _ _ _ _ _ own kids =>
  unfold yX at own
  simp only at own
  by_cases hp:vC ⟨k,f,t,u,x,0,0⟩=0
  ·rw [if_pos hp] at own
   by_cases hl:(ks.length:Int)≠(shapeOf k).kids
   ·rw [if_pos hl] at own;simp at own
   ·rw [if_neg hl] at own
    simp at own
    exact ⟨hp,by simpa using hl,own,kids⟩
  ·rw [if_neg hp,if_neg hp] at own;exact absurd own hp
theorem jMR (x:Tree):∀L,Wf L→Good x→(grow L x).2.1=0→inP (grow L x).2.2 (grow L x).1=true∧zJ (grow L x).2.2 (grow L x).1=x:=by
 induction x using Tree.ind with
 | h k f t u x ks ih =>
  intro L hW hG h0
  obtain ⟨_,hlen,_,hk⟩:=hG.inv
  have fin:∀(n:Node) (L':Pool),Wf L'→n.kind=k→n.frm=f→n.to=t→n.num=u→n.text=x→(make L' n).2.1=0→(zS n).map (zJ L')=ks→inP (make L' n).2.2 (make L' n).1=true∧zJ (make L' n).2.2 (make L' n).1=.mk k f t u x ks:=by
   intro n L' hW' e1 e2 e3 e4 e5 hm hks;obtain ⟨hin,hnode,hc⟩:=jHI hm;refine ⟨hin,?_⟩;rw [qB (tX hW' n) hin,hnode,e1,e2,e3,e4,e5,← hks];congr 1;refine List.map_congr_left (fun q hq=>?_);obtain ⟨M,hM⟩:=jAG L' n;have hq':=(jFC hc).2.2.2.2.1 q hq;rw [hM];have hwf:=tX hW' n;rw [hM] at hwf;exact uW hwf _ q rfl hq'
  rw [grow] at h0 ⊢
  match ks,ih,hlen,hk,fin,h0 with
  | [],_,hlen,_,fin,h0 =>
   rw [vG] at h0 ⊢
   have hz:(shapeOf k).kids=0:=by simpa using hlen.symm
   exact fin _ L hW rfl rfl rfl rfl rfl h0 (by simp [zS,hz])
  | [a],ih,hlen,hk,fin,h0 =>
   have hz:(shapeOf k).kids=1:=by simpa using hlen.symm
   rw [vG] at h0 ⊢
   by_cases ha:(grow L a).2.1≠0
   ·rw [if_pos ha] at h0;exact absurd h0 ha
   ·rw [if_neg ha] at h0 ⊢
    have ha:(grow L a).2.1=0:=by simpa using ha
    obtain ⟨i1,t1⟩:=ih 0 (by simp) L hW (hk 0 (by simp)) ha
    simp only [List.getElem_cons_zero] at i1 t1
    rw [vG] at h0 ⊢
    exact fin _ _ (jGA a L hW) rfl rfl rfl rfl rfl h0 (by simp [zS,hz,t1])
  | [a,b],ih,hlen,hk,fin,h0 =>
   have hz:(shapeOf k).kids=2:=by simpa using hlen.symm
   rw [vG] at h0 ⊢
   by_cases ha:(grow L a).2.1≠0
   ·rw [if_pos ha] at h0;exact absurd h0 ha
   ·rw [if_neg ha] at h0 ⊢
    have ha:(grow L a).2.1=0:=by simpa using ha
    have hW1:=jGA a L hW
    obtain ⟨i1,t1⟩:=ih 0 (by simp) L hW (hk 0 (by simp)) ha
    simp only [List.getElem_cons_zero] at i1 t1
    rw [vG] at h0 ⊢
    by_cases hb:(grow (grow L a).2.2 b).2.1≠0
    ·rw [if_pos hb] at h0;exact absurd h0 hb
    ·rw [if_neg hb] at h0 ⊢
     have hb:(grow (grow L a).2.2 b).2.1=0:=by simpa using hb
     have hW2:=jGA b _ hW1
     obtain ⟨i2,t2⟩:=ih 1 (by simp) (grow L a).2.2 hW1 (hk 1 (by simp)) hb
     simp only [List.getElem_cons_succ,List.getElem_cons_zero] at i2 t2
     obtain ⟨M,hM⟩:=(uY b (grow L a).2.2 hW1.ok).2
     have t1':zJ (grow (grow L a).2.2 b).2.2 (grow L a).1=a:=by
      rw [hM] at hW2 ⊢;exact (uW hW2 _ _ rfl i1).trans t1
     rw [vG] at h0 ⊢
     exact fin _ _ hW2 rfl rfl rfl rfl rfl h0 (by simp [zS,hz,t1',t2])
  | a :: b :: c :: ks,_,hlen,_,_,_ =>
   have:=tM k
   simp only [List.length_cons] at hlen
   omega
theorem jMK {L:Pool} (hW:Wf L) {x:Tree} (h:(of L x).2.1=0):inP (of L x).2.2 (of L x).1=true∧zJ (of L x).2.2 (of L x).1=x∧Good x:=by
 unfold of at h ⊢;by_cases h1:(qJ 0 0 x).1≠0
 ·rw [if_pos h1] at h;exact absurd h h1
 ·rw [if_neg h1] at h ⊢;have hg:=jKY x 0 0 (by simpa using h1);by_cases h2:(grow L x).2.1≠0
  ·rw [if_pos h2] at h;exact absurd h h2
  ·rw [if_neg h2] at h ⊢;have:=jMR x L hW hg (by simpa using h2);exact ⟨this.1,this.2,hg⟩
end Go.Sp
end
section
namespace Go.Sp
mutual
def cnt:Tree→Nat
 | .mk _ _ _ _ _ ks=>1+cntAll ks
def cntAll:List Tree→Nat
 | []=>0
 | t :: ts=>cnt t+cntAll ts
end
mutual
def jAJ (most:Int):Tree→Int
 | .mk _ _ _ _ _ ks=>yP most 1 ks
def yP (most n:Int):List Tree→Int
 | []=>n
 | t :: ts=>if n≤most then yP most (n+jAJ (most - n) t) ts else n
end
theorem jDY (t:Tree):∀most:Int,0≤most→1≤jAJ most t∧jAJ most t≤most+1∧(jAJ most t≤most→(cnt t:Int)=jAJ most t):=by
 induction t using Tree.ind with
 | h k f tt u x ks ih =>
  have hA : ∀ (ks : List Tree), (∀ i (hi : i < ks.length), ∀ most : Int, 0 ≤ most → 1 ≤ jAJ most ks[i] ∧ jAJ most ks[i] ≤ most + 1 ∧ (jAJ most ks[i] ≤ most → (cnt ks[i] : Int) = jAJ most ks[i])) →
    ∀most n:Int,1≤n→n≤most+1→n≤yP most n ks∧yP most n ks≤most+1∧(yP most n ks≤most→n+(cntAll ks:Int)=yP most n ks):=by
   intro ks
   induction ks with
   | nil=>intro _ most n h1 h2;simp [yP,cntAll,h2]
   | cons t ts iht =>
    intro hh most n h1 h2
    unfold yP
    by_cases hn:n≤most
    ·rw [if_pos hn]
     have h0:=hh 0 (by simp) (most - n) (by omega)
     simp only [List.getElem_cons_zero] at h0
     have h3:=iht (fun i hi=>hh (i+1) (by simpa using hi)) most (n+jAJ (most - n) t) (by omega) (by omega)
     refine ⟨by omega,h3.2.1,fun h=>?_⟩
     have h4:=h3.2.2 h
     have h5:=h0.2.2 (by omega)
     simp only [cntAll];omega
    ·rw [if_neg hn];exact ⟨Int.le_refl _,h2,fun h=>absurd h hn⟩
  intro most hm
  have:=hA ks ih most 1 (by omega) (by omega)
  simp only [jAJ,cnt]
  refine ⟨this.1,this.2.1,fun h=>?_⟩
  have:=this.2.2 h
  omega
mutual
def jDM:Tree→Tree→Bool
 | .mk k f t u x ks,.mk k' f' t' u' x' ks'=>decide (k=k') && decide (f=f') && decide (t=t') && decide (u=u') && decide (x=x') && yN ks ks'
def yN:List Tree→List Tree→Bool
 | [],[]=>true
 | t :: ts,t' :: ts'=>jDM t t' && yN ts ts'
 | _,_=>false
end
theorem jCS (a:Tree):∀b,jDM a b=true↔a=b:=by
 induction a using Tree.ind with
 | h k f t u x ks ih =>
  have hA:∀(ks:List Tree),(∀i (hi:i<ks.length),∀b,jDM ks[i] b=true↔ks[i]=b)→∀ks',yN ks ks'=true↔ks=ks':=by
   intro ks;induction ks with
   | nil=>intro _ ks';cases ks' <;> simp [yN]
   | cons t ts iht =>
    intro hh ks'
    cases ks' with
    | nil=>simp [yN]
    | cons t' ts' =>
     have h0:=hh 0 (by simp) t'
     simp only [List.getElem_cons_zero] at h0
     simp only [yN,Bool.and_eq_true,h0,iht (fun i hi=>hh (i+1) (by simpa using hi)) ts',List.cons.injEq]
  intro b
  obtain ⟨k',f',t',u',x',ks'⟩:=b
  simp only [jDM,Bool.and_eq_true,decide_eq_true_eq,hA ks ih ks',Tree.mk.injEq]
  constructor
  ·rintro ⟨⟨⟨⟨⟨h1,h2⟩,h3⟩,h4⟩,h5⟩,h6⟩;exact ⟨h1,h2,h3,h4,h5,h6⟩
  ·rintro ⟨h1,h2,h3,h4,h5,h6⟩;exact ⟨⟨⟨⟨⟨h1,h2⟩,h3⟩,h4⟩,h5⟩,h6⟩
end Go.Sp
end
section
namespace Go.Sp
def jCP (x:Tree):List Nat→Tree
 | []=>x
 | i :: jNO=>match x.kids[i]? with
  | none=>jBJ
  | some y=>jCP y jNO
def vR (k:Int):Bool:=(k == 1 || k == 2) || k == 4
def vZ (k:Int):Bool:=vR k || k == 6
def qO (l:Letter):Int :=
 if l.kind<1∨l.kind>7∨(l.frm≠0∧l.frm≠1)∨(vR l.kind=false∧l.frm≠0)∨(vZ l.kind=false∧l.text≠⟨#[]⟩)∨(l.fake=true∧l.kind≠1∧l.kind≠4) then 110 else if l.text.size>64 then 1 else 0
def jII (x:Tree) (kind:Int) (p:List Nat):Letter :=
 ⟨kind,if vR kind then x.node.frm else 0,
  if vZ kind then (jCP (jCP x p) [1,0]).node.num else if kind == 7 then (jCP x [1]).node.num else (jCP x [0,1]).node.num,
  if vZ kind then (jCP (jCP x p) [1,1]).node.text else ⟨#[]⟩,false⟩
def yV (l:Letter) (f:Nat):Letter:={ l with fake:=decide (f>0) }
def jGM (x:Tree) (l:Letter) (f:Nat):Bool :=
 decide (qO (yV l f)=0) && (l.kind == 4 || decide (f≠2)) && jDM (vK (yV l f) (f % 2 == 1) (f / 2 == 1)) x
def yC (x:Tree) (l:Letter):Nat→Nat→Option Letter
 | 0,_=>none
 | n+1,f=>if jGM x l f then some (yV l f) else yC x l n (f+1)
def qS (x:Tree) (kind:Int):List (List Nat)→Option Letter
 | []=>none
 | p :: ps=>match yC x (jII x kind p) 4 0 with
  | some l=>some l
  | none=>qS x kind ps
def deals:List (List Nat):=[[0],[0,1,0,0],[0,1]]
def yO (x:Tree):Nat→Int→Option Letter
 | 0,_=>none
 | n+1,k=>match qS x k deals with
  | some l=>some l
  | none=>yO x n (k+1)
def qQ (x:Tree):Letter×Bool:=match yO x 7 1 with
 | some l=>(l,true)
 | none=>(yG,false)
def xS (L:Pool) (t:Int):Letter×Bool:=if inP L t=true∧¬ sizeOf L t>40 then qQ (zJ L t) else (yG,false)
end Go.Sp
end
section
open Go Go.SE
open Go.IntKind renaming i64 → q6
namespace Go.Proofs
open Tryz
set_option maxRecDepth 100000
set_option maxHeartbeats 4000000
attribute [local irreducible] wpL wpX opE wpE Calls
def m_D3  (w0:World) (K:(Array Value)→WP):Prop :=∀p1 w1,New w0 (.cells #[(vb false),(vb false),(vb false),ve,(vb false),(vb false),(vb false),ve,(vb false),(vb false),(vb false),ve,(vb false),(vb false),(vb false),ve,(vb false),(vb false),(vb false),ve,(vb false),(vb false),(vb false),ve,(vb false),(vb false),(vb false),ve,(vb false),(vb false),(vb false),ve] 302) p1 w1→(∀j,j<32→vF w1 (p1.add j))∧∀w2,w2=storeRow w1 p1 [(vb false),(vb false),(vb false),ve,(vb true),(vb true),(vb true),(vs (⟨#[112,114,111,109,105,115,101]⟩:ByteArray)),(vb true),(vb true),(vb false),(vs (⟨#[115,105,103,110]⟩:ByteArray)),(vb false),(vb false),(vb false),(vs (⟨#[97,98,111,114,116]⟩:ByteArray)),(vb true),(vb true),(vb true),(vs (⟨#[114,101,115,111,108,118,101]⟩:ByteArray)),(vb false),(vb false),(vb false),(vs (⟨#[116,111,107,101,110]⟩:ByteArray)),(vb false),(vb true),(vb false),(vs (⟨#[105,110,115,116,101,97,100]⟩:ByteArray)),(vb false),(vb false),(vb false),(vs (⟨#[102,117,108,108]⟩:ByteArray))]→∃cT:Array Value,(cT.size=32∧Row w2 p1 cT.toList)∧K cT w2
theorem w_D3  (w0:World) (K:(Array Value)→WP) (h:m_D3  w0 K) :
  Calls prog 193 #[] w0 (fun e w'=>∃r1:Array Value,e=.returned (.agg r1)∧K r1 w'):=by
 refine cw (args:=[]) func193 ntmps193 (eg (sn (O:=(.cells #[(vb false),(vb false),(vb false),ve,(vb false),(vb false),(vb false),ve,(vb false),(vb false),(vb false),ve,(vb false),(vb false),(vb false),ve,(vb false),(vb false),(vb false),ve,(vb false),(vb false),(vb false),ve,(vb false),(vb false),(vb false),ve,(vb false),(vb false),(vb false),ve] 302)) (zH (zeroValue302 _) rfl) ?_))
 intro p1 w1 hn2
 have h:=h p1 w1 hn2
 refine ln (eg (qd (qd (sro (sizeOf302 _) h fun w2 h=>ln (er ?_)))))
 obtain ⟨cT,hv1,h⟩:=h
 refine gg1 results193 (RV.cellAr (A:=p1) (vs:=cT) (by kernel_rfl) (isAgg302 _) (sizeOf302 _) hv1) ⟨cT,rfl,h⟩
def m_N_j3 (aC:ByteArray) (aD:Bool) (a1:Addr) (x2:Bool) (w0:World) (H:NP) (w:World) (K:Int→WP):Prop :=Br x2 (K 110 w) (∃v1,w.cell? (a1.add 2)=some (vb v1)∧Br ((!v1) && aD) (∀H6 w6,Hst w0 H w H6 w6→K 110 w6) (Br (decide ((aC.size:Int)>64)) (∀H6 w6,Hst w0 H w H6 w6→K 1 w6) (∀H6 w6,Hst w0 H w H6 w6→K 0 w6)))
def m_N_j2 (aC:ByteArray) (aD:Bool) (a1:Addr) (x1:Bool) (w0:World) (H:NP) (w:World) (K:Int→WP):Prop :=Br x1 (K 110 w) (∃v2,w.cell? (a1.add 1)=some (vb v2)∧∀H7 w7,Hst w0 H w H7 w7→m_N_j3 aC aD a1 ((!v2) && (!(decide (aC=⟨#[]⟩)))) w0 H7 w7 K)
def m_N_j1 (aB:Int) (aC:ByteArray) (aD:Bool) (a1:Addr) (w0:World) (H:NP) (w:World) (K:Int→WP):Prop :=Br ((aB != 0) && (aB != 1)) (∀H4 w4,Hst w0 H w H4 w4→K 110 w4) (∀H4 w4,Hst w0 H w H4 w4→∃v3,w4.cell? a1=some (vb v3)∧∀H8 w8,Hst w0 H4 w4 H8 w8→m_N_j2 aC aD a1 ((!v3) && (aB != 0)) w0 H8 w8 K)
def m_N (aA aB aE:Int) (aC:ByteArray) (aD:Bool) (w0:World) (K:Int→WP):Prop :=Br ((decide (aA<1)) || (decide (aA>7))) (∀H2 w2,Hst w0 None w0 H2 w2→K 110 w2) (∀H2 w2,Hst w0 None w0 H2 w2→∃C1:WP,C1 w2.drew∧∀w9,w9=w2.drew→(Calls prog 193 #[] w9 (fun e w10=>∃r1:Array Value,e=.returned (.agg r1)∧C1 w10∧Kept H2 w9 w10∧∃efrom1 etext1 efake1 eword1,(∀w',C1 w'→(Instr.index 302 (.agg r1) (vi aA)).run prog w'=.ok (.agg #[(vb efrom1),(vb etext1),(vb efake1),(vs eword1)]) w')∧∀p2 w11,New w10 (.cells #[(vb false),(vb false),(vb false),ve] 301) p2 w11→C1 w11∧(∀j,j<4→vF w11 (p2.add j))∧¬ H2 p2.block∧∀w12,w12=storeRow w11 p2 [(vb efrom1),(vb etext1),(vb efake1),(vs eword1)]→m_N_j1 aB aC aD p2 w0 H2 w12 K))∧(∀p3 w13,New w9 (.cells #[(vb false),(vb false),(vb false),ve] 301) p3 w13→C1 w13∧Calls prog 193 #[] w13 (fun e w14=>∃r2:Array Value,e=.returned (.agg r2)∧C1 w14∧Kept H2 w13 w14∧∃efrom2 etext2 efake2 eword2,(∀w',C1 w'→(Instr.index 302 (.agg r2) (vi aA)).run prog w'=.ok (.agg #[(vb efrom2),(vb etext2),(vb efake2),(vs eword2)]) w')∧(∀j,j<4→vF w14 (p3.add j))∧¬ H2 p3.block∧∀w15,w15=storeRow w14 p3 [(vb efrom2),(vb etext2),(vb efake2),(vs eword2)]→m_N_j1 aB aC aD p3 w0 H2 w15 K)))
theorem w_N (aA aB aE aC aD w0 K) (h:m_N aA aB aE aC aD w0 K):
  Calls prog 142 #[(.agg #[(vi aA),(vi aB),(vu aE),(vs aC),(vb aD)])] w0 (fun e w'=>∃r3,e=.returned (vi r3)∧K r3 w'):=by
 refine cw (args:=[(Af aA aB aE aC aD)]) func142 ntmps142 ?_
 obtain ⟨hs,hb⟩:=st0 w0
 refine eg (nw3 (Ac aA aB aE aC aD) 35 hs hb xb fun p1 w1 H1 hs hb=>q (ln (zA (zA (vN (fun ρ wJ=>∃b1'0:Bool,∃HJ:NP,((decide (aA<1))=b1'0)∧Hst w0 None w0 HJ wJ∧HB HJ wJ [(p1,(Ac aA aB aE aC aD),35)]∧Has ρ [(1,(vp (some p1))),(11,(vb (b1'0 || (decide (aA>7)))))]) ?_ ?_)))))
 refine rg (q (q3 (xl (isAgg3 _) (hb.d0 0 gZ)) (qb ?_)))
 rcases bte (decide (aA<1)) with hg2 | hg2
 refine sj3 7 hg2 (q2 (vb true) (xT hg2) (ln ⟨true,_,hg2,hs,hb,hm⟩))
 refine qk 7 hg2 (q4 7 hg2 (xl (isAgg3 _) (hb.d0 0 gZ)) (qk 7 hg2 (q2 (vb (decide (aA>7))) (xF hg2) (ln ⟨false,_,hg2,hs,hb,hm⟩))))
 rintro ρ w2 ⟨b1'0,H2,he0,hs,hb,hH⟩
 subst he0
 refine vE hH (zL (cbr h ?_ ?_))<;>intro h
 refine eg (q (ln (er (zX ?_))))
 have ⟨h,hs⟩:=hs.hr (h H2 w2)
 refine rs1 results142 ⟨110,rfl,h⟩
 refine zB (zL (zA (qT (fun ρ w=>∃a1:Addr,∃H:NP,Has ρ [(1,(vp (some p1))),(3,(vp (some a1)))]∧Hst w0 H w H w∧HB H w [(p1,(Ac aA aB aE aC aD),35)]∧m_N_j1 aB aC aD a1 w0 H w K) ?_ ?_)))
 rintro ρ w ⟨a1,H,hH,hs,hb,h⟩
 refine zV hH (zA (zK (zA (zA (vN (fun ρ wJ=>∃HJ:NP,Hst w0 H w HJ wJ∧HB HJ wJ [(p1,(Ac aA aB aE aC aD),35)]∧Has ρ [(1,(vp (some p1))),(3,(vp (some a1))),(16,(vb ((aB != 0) && (aB != 1))))]) ?_ ?_)))))
 refine rg (q (q3 (xl (isAgg3 _) (hb.d 0 1 gZ)) (qb (zI 4 (fun ρ wJ=>∃b4'0:Bool,∃HJ:NP,((aB != 0)=b4'0)∧Hst w0 H w HJ wJ∧HB HJ wJ [(p1,(Ac aA aB aE aC aD),35)]∧Has ρ [(1,(vp (some p1))),(3,(vp (some a1))),(24,(vb (b4'0 && (aB != 1))))]) ?_ ?_))))
 rintro ρ w5 ⟨b4'0,H5,he0,hs,hb,hH⟩
 subst he0
 refine zM hH (q (ln ⟨_,hs,hb,hm⟩))
 rcases bte (aB != 0) with hg6 | hg6
 refine qk 20 hg6 (q4 20 hg6 (xl (isAgg3 _) (hb.d 0 1 gZ)) (qk 20 hg6 (q2 (vb (aB != 1)) (xT hg6) (zC ⟨true,_,hg6,hs,hb,hm⟩))))
 refine sj3 20 hg6 (q2 (vb false) (xF hg6) (zC ⟨false,_,hg6,hs,hb,hm⟩))
 rintro ρ w4 ⟨H4,hs,hb,hH⟩
 refine vE hH (zL (cbr' h (fun hc2 h=>?_) (fun hc2 h=>?_)))
 refine zB (zL (jAE (t:=((aB != 0) && (aB != 1))) (by kernel_rfl) hc2 (eg (q0 (vi 110) (ln (er (qW (zX ?_))))))))
 have ⟨h,hs⟩:=hs.hr (h H4 w4)
 refine rs1 results142 ⟨110,rfl,h⟩
 refine zA (qT (fun ρ w=>∃x1,∃H:NP,Has ρ [(1,(vp (some p1))),(3,(vp (some a1))),(16,(vb x1))]∧Hst w0 H w H w∧HB H w [(p1,(Ac aA aB aE aC aD),35)]∧m_N_j2 aC aD a1 x1 w0 H w K) ?_ ?_)
 rintro ρ w ⟨x1,H,hH,hs,hb,h⟩
 refine zV hH (cbr' h (fun hc3 h=>?_) (fun hc3 h=>?_))
 refine zB (zL (jAE (t:=x1) (by kernel_rfl) hc3 (eg (q0 (vi 110) (ln (er (qW (zX (rs1 results142 ⟨110,rfl,h⟩)))))))))
 refine zA (qT (fun ρ w=>∃x2,∃H:NP,Has ρ [(1,(vp (some p1))),(3,(vp (some a1))),(16,(vb x2))]∧Hst w0 H w H w∧HB H w [(p1,(Ac aA aB aE aC aD),35)]∧m_N_j3 aC aD a1 x2 w0 H w K) ?_ ?_)
 rintro ρ w ⟨x2,H,hH,hs,hb,h⟩
 refine zV hH (cbr' h (fun hc4 h=>?_) (fun hc4 h=>?_))
 refine zB (zL (jAE (t:=x2) (by kernel_rfl) hc4 (eg (q0 (vi 110) (ln (er (qW (zX (rs1 results142 ⟨110,rfl,h⟩)))))))))
 refine rg (q (ql (isAgg4 _) h fun v1 h=>qb (zI 3 (fun ρ wJ=>∃b5'0:Bool,∃HJ:NP,((!v1)=b5'0)∧Hst w0 H w HJ wJ∧HB HJ wJ [(p1,(Ac aA aB aE aC aD),35)]∧Has ρ [(1,(vp (some p1))),(47,(vb (b5'0 && aD)))]) ?_ ?_)))
 rintro ρ w6 ⟨b5'0,H6,he0,hs,hb,hH⟩
 subst he0
 refine zM hH (q (ln (cbr h ?_ ?_)))<;>intro h
 refine eg (q (ln (er (qW (zX ?_)))))
 have ⟨h,hs⟩:=hs.hr (h H6 w6)
 refine rs1 results142 ⟨110,rfl,h⟩
 refine eg (q (q3 (xl (isAgg9 _) (hb.d 0 3 gZ)) (qc (ln (cbr h ?_ ?_)))))<;>intro h
 refine eg (q (ln (er (qW (zX ?_)))))
 have ⟨h,hs⟩:=hs.hr (h H6 w6)
 refine rs1 results142 ⟨1,rfl,h⟩
 refine zB (uM (zL (eg (q (ln (er ?_))))))
 have ⟨h,hs⟩:=hs.hr (h H6 w6)
 refine rs1 results142 ⟨0,rfl,h⟩
 rcases bte (!v1) with hg8 | hg8
 refine qk 44 hg8 (q4 44 hg8 (xl (isAgg4 _) (hb.d 0 4 gZ)) (q2 (vb aD) (xT hg8) (zC ⟨true,_,hg8,hs,hb,hm⟩)))
 refine sj2 44 hg8 (q2 (vb false) (xF hg8) (zC ⟨false,_,hg8,hs,hb,hm⟩))
 refine rg (q (ql (isAgg4 _) h fun v2 h=>qb (zI 4 (fun ρ wJ=>∃b6'0:Bool,∃HJ:NP,((!v2)=b6'0)∧Hst w0 H w HJ wJ∧HB HJ wJ [(p1,(Ac aA aB aE aC aD),35)]∧Has ρ [(1,(vp (some p1))),(3,(vp (some a1))),(40,(vb (b6'0 && (!(decide (aC=⟨#[]⟩))))))]) ?_ ?_)))
 rintro ρ w7 ⟨b6'0,H7,he0,hs,hb,hH⟩
 subst he0
 refine zM hH (q (zC ?_))
 have ⟨h,hs⟩:=hs.hr (h H7 w7)
 refine zL ⟨((!v2) && (!(decide (aC=⟨#[]⟩)))),H7,hm,hs,hb,h⟩
 rcases bte (!v2) with hg10 | hg10
 refine qk 36 hg10 (q4 36 hg10 (xl (isAgg9 _) (hb.d 0 3 gZ)) (stq (v:=(vb (!(decide (aC=⟨#[]⟩))))) (wy 36 hg10) (uE (by kernel_rfl) (by kernel_rfl)) (q2 (vb (!(decide (aC=⟨#[]⟩)))) (xT hg10) (zC ⟨true,_,hg10,hs,hb,hm⟩))))
 refine sj3 36 hg10 (q2 (vb false) (xF hg10) (zC ⟨false,_,hg10,hs,hb,hm⟩))
 refine rg (q ?_)
 have ⟨h,hs⟩:=hs.hr (h H4 w4)
 refine ql (isAgg4 _) h fun v3 h=>qb (zI 4 (fun ρ wJ=>∃b7'0:Bool,∃HJ:NP,((!v3)=b7'0)∧Hst w0 H4 w4 HJ wJ∧HB HJ wJ [(p1,(Ac aA aB aE aC aD),35)]∧Has ρ [(1,(vp (some p1))),(3,(vp (some a1))),(32,(vb (b7'0 && (aB != 0))))]) ?_ ?_)
 rintro ρ w8 ⟨b7'0,H8,he0,hs,hb,hH⟩
 subst he0
 refine zM hH (q (zC ?_))
 have ⟨h,hs⟩:=hs.hr (h H8 w8)
 refine zL ⟨((!v3) && (aB != 0)),H8,hm,hs,hb,h⟩
 rcases bte (!v3) with hg12 | hg12
 refine qk 28 hg12 (q4 28 hg12 (xl (isAgg3 _) (hb.d 0 1 gZ)) (qk 28 hg12 (q2 (vb (aB != 0)) (xT hg12) (zC ⟨true,_,hg12,hs,hb,hm⟩))))
 refine sj3 28 hg12 (q2 (vb false) (xF hg12) (zC ⟨false,_,hg12,hs,hb,hm⟩))
 have ⟨h,hs⟩:=hs.hr (h H2 w2)
 obtain ⟨C1,hC,h⟩:=h
 refine dr2 (fun x=>C1 x∧HB H2 x _) [0,4,5] [5] ⟨hC,hb.drew⟩ h hs hb fun w9 hs hb h=>?_
 have hs:=hs.here
 refine qx 1 (vp (some p1)) Kp1 (qz 2 (vi aA) Kp2 (fun w' hw'=>(xl (isAgg3 _) (hw'.2.cell0 0 gZ (by kernel_rfl)))) (jNQ (k:=0) (k':=4) (by kernel_rfl) ?_ ?_))
 have h:=h.1
 refine slc Kp0 call193 (h.mono ?_)
 rintro e w10 ⟨r1,rfl,hC,hk,h⟩
 refine ⟨_,rfl,.inr ⟨hC,hb.kept hk⟩,?_⟩
 obtain ⟨hs,hb⟩:=hk.hh hs hb
 refine qg 3 ?_
 obtain ⟨efrom1,etext1,efake1,eword1,hv4,h⟩:=h
 refine sy (v:=(.agg #[(vb efrom1),(vb etext1),(vb efake1),(vs eword1)])) Kp3 (fun w' hw'=>(jIJ (by kernel_rfl) (by kernel_rfl) (hv4 w' hw'.1))) (lg 4 (qL (O:=(.cells #[(vb false),(vb false),(vb false),ve] 301)) (fun p=>.pointer (some p)) Kp4 (zR rfl) (by kernel_rfl) (zH (zeroValue301 _) rfl) ?_))
 intro p2 w11 hn3
 have h:=h p2 w11 hn3
 refine ⟨.inr ⟨h.1,hb.kept (Ext.new (F:=None) hn3).keptP⟩,?_⟩
 have h:=h.2
 obtain ⟨hs,hb⟩:=hs.nw hb hn3
 refine lg 5 ?_
 obtain ⟨hp1,hnh,h⟩:=h
 refine xL Kp5 (zR rfl) (by kernel_rfl) (xo p2 [(vb efrom1),(vb etext1),(vb efake1),(vs eword1)] (sizeOf301 _) hp1) ?_
 intro w12 hn2
 have h:=h w12 hn2
 refine ⟨.inl (by kernel_rfl),?_⟩
 have hk:Kept H2 w11 w12:=by rw [hn2];exact Kept.storeRow hnh
 obtain ⟨hs,hb⟩:=hk.hh hs hb
 refine wn (zL ⟨p2,H2,hm,hs,hb,h⟩)
 have h:=h.2
 refine qL (O:=(.cells #[(vb false),(vb false),(vb false),ve] 301)) (fun p=>.pointer (some p)) Kp4 (zR rfl) (by kernel_rfl) (zH (zeroValue301 _) rfl) ?_
 intro p3 w13 hn5
 have h:=h p3 w13 hn5
 refine ⟨.inr ⟨h.1,hb.kept (Ext.new (F:=None) hn5).keptP⟩,?_⟩
 have h:=h.2
 obtain ⟨hs,hb⟩:=hs.nw hb hn5
 refine lg 0 (slc Kp0 call193 (h.mono ?_))
 rintro e w14 ⟨r2,rfl,hC,hk,h⟩
 refine ⟨_,rfl,.inr ⟨hC,hb.kept hk⟩,?_⟩
 obtain ⟨hs,hb⟩:=hk.hh hs hb
 refine qg 3 ?_
 obtain ⟨efrom2,etext2,efake2,eword2,hv5,h⟩:=h
 refine sy (v:=(.agg #[(vb efrom2),(vb etext2),(vb efake2),(vs eword2)])) Kp3 (fun w' hw'=>(jIJ (by kernel_rfl) (by kernel_rfl) (hv5 w' hw'.1))) (lg 5 ?_)
 obtain ⟨hp2,hnh,h⟩:=h
 refine xL Kp5 (zR rfl) (by kernel_rfl) (xo p3 [(vb efrom2),(vb etext2),(vb efake2),(vs eword2)] (sizeOf301 _) hp2) ?_
 intro w15 hn4
 have h:=h w15 hn4
 refine ⟨.inl (by kernel_rfl),?_⟩
 have hk:Kept H2 w14 w15:=by rw [hn4];exact Kept.storeRow hnh
 obtain ⟨hs,hb⟩:=hk.hh hs hb
 refine wn (zL ⟨p3,H2,hm,hs,hb,h⟩)
def s_S (s1:ByteArray):Int×Int×Int×Int×ByteArray×Sl :=(3,0,0,0,s1,Sl.nil)
theorem pw_S (s1:ByteArray) (w0:World) :
  Calls prog 198 #[(vs s1)] w0 (fun e w'=>(e=.returned (.agg #[(vi 3),(vi 0),(vi 0),(vu 0),(vs s1),Sl.nil.v]))∧Pure w0 w'):=by
 refine cw (args:=[(vs s1)]) func198 ntmps198 ?_
 obtain ⟨hs,hb⟩:=st0 w0
 refine eg (nw3 [(vi 0),(vi 0),(vi 0),(vu 0),ve,Sl.nil.v] 107 hs hb (zH (zeroValue107 _) rfl) fun p1 w1 H1 hs hb=>ln (eg (qb (vU (zR rfl) (xo p1 [(vi 3),(vi 0),(vi 0),(vu 0),(vs s1),Sl.nil.v] (sizeOf107 _) (hb.k0 0 6 gZ)) ?_))))
 intro w2 hn2
 obtain ⟨hs,hb⟩:=hb.st1 0 hs hn2 gZ
 refine ln (er (tH (.inl rfl) (vs:=[(.agg #[(vi 3),(vi 0),(vi 0),(vu 0),(vs s1),Sl.nil.v])]) (v:=(.agg #[(vi 3),(vi 0),(vi 0),(vu 0),(vs s1),Sl.nil.v])) results198 ⟨(rva (isAgg107 _) (sizeOf107 _) (hb.r0 0 6 gZ)),trivial⟩ (by kernel_rfl) ⟨by kernel_rfl,(Ext.refl (F:=None) _).hst hs⟩))
theorem p_S (s1:ByteArray) (w0:World):Calls prog 198 #[(.string s1)] w0 (fun e w'=>e=.returned (.agg #[(.int .i64 (s_S s1).1),(.int .i64 (s_S s1).2.1),(.int .i64 (s_S s1).2.2.1),(.int .u64 (s_S s1).2.2.2.1),(.string (s_S s1).2.2.2.2.1),(s_S s1).2.2.2.2.2.v])∧Pure w0 w'):=pw_S s1 w0
def s_X (n1:Int):Int×Int×Int×Int×ByteArray×Sl :=(2,0,0,n1,⟨#[]⟩,Sl.nil)
theorem pw_X (n1:Int) (w0:World) :
  Calls prog 199 #[(vu n1)] w0 (fun e w'=>(e=.returned (.agg #[(vi 2),(vi 0),(vi 0),(vu n1),ve,Sl.nil.v]))∧Pure w0 w'):=by
 refine cw (args:=[(vu n1)]) func199 ntmps199 ?_
 obtain ⟨hs,hb⟩:=st0 w0
 refine eg (nw3 [(vi 0),(vi 0),(vi 0),(vu 0),ve,Sl.nil.v] 107 hs hb (zH (zeroValue107 _) rfl) fun p1 w1 H1 hs hb=>ln (eg (qb (vU (zR rfl) (xo p1 [(vi 2),(vi 0),(vi 0),(vu n1),ve,Sl.nil.v] (sizeOf107 _) (hb.k0 0 6 gZ)) ?_))))
 intro w2 hn2
 obtain ⟨hs,hb⟩:=hb.st1 0 hs hn2 gZ
 refine ln (er (tH (.inl rfl) (vs:=[(.agg #[(vi 2),(vi 0),(vi 0),(vu n1),ve,Sl.nil.v])]) (v:=(.agg #[(vi 2),(vi 0),(vi 0),(vu n1),ve,Sl.nil.v])) results199 ⟨(rva (isAgg107 _) (sizeOf107 _) (hb.r0 0 6 gZ)),trivial⟩ (by kernel_rfl) ⟨by kernel_rfl,(Ext.refl (F:=None) _).hst hs⟩))
theorem p_X (n1:Int) (w0:World):Calls prog 199 #[(.int .u64 n1)] w0 (fun e w'=>e=.returned (.agg #[(.int .i64 (s_X n1).1),(.int .i64 (s_X n1).2.1),(.int .i64 (s_X n1).2.2.1),(.int .u64 (s_X n1).2.2.2.1),(.string (s_X n1).2.2.2.2.1),(s_X n1).2.2.2.2.2.v])∧Pure w0 w'):=pw_X n1 w0
def m_E3 (aL aM:Int) (aN aO:Int) (aP:ByteArray) (aQ:Sl) (bJ bK:Int) (bL bM:Int) (bN:ByteArray) (bO:Sl) (w0:World) (K:Int→Int→Int→Int→ByteArray→Sl→WP):Prop :=∀H3 w3,Hst w0 None w0 H3 w3→∀p4 w4,New w3 (.cells #[(vi aL),(vi aM),(vi aN),(vu aO),(vs aP),aQ.v,(vi bJ),(vi bK),(vi bL),(vu bM),(vs bN),bO.v] 107) p4 w4→∀w5,Hst w0 H3 w4 H3 w5→K 4 0 0 0 ⟨#[]⟩ (Sl.mk (some p4) 2 2) w5
theorem w_E3 (aL aM aN aO aP aQ bJ bK bL bM bN bO w0 K) (h:m_E3 aL aM aN aO aP aQ bJ bK bL bM bN bO w0 K):
  Calls prog 197 #[(.agg #[(vi aL),(vi aM),(vi aN),(vu aO),(vs aP),aQ.v]),(.agg #[(vi bJ),(vi bK),(vi bL),(vu bM),(vs bN),bO.v])] w0 (fun e w'=>∃aF aG aH aI aJ aK,e=.returned (Aa aF aG aH aI aJ aK)∧K aF aG aH aI aJ aK w'):=by
 refine cw (args:=[(Aa aL aM aN aO aP aQ),(Aa bJ bK bL bM bN bO)]) func197 ntmps197 ?_
 obtain ⟨hs,hb⟩:=st0 w0
 refine eg (nw3 (Ab aL aM aN aO aP aQ) 107 hs hb xb fun p1 w1 H1 hs hb=>nw3 (Ab bJ bK bL bM bN bO) 107 hs hb xb fun p2 w2 H2 hs hb=>nw3 [(vi 0),(vi 0),(vi 0),(vu 0),ve,Sl.nil.v] 107 hs hb (zH (zeroValue107 _) rfl) fun p3 w3 H3 hs hb=>ln (eg (q2 (Aa aL aM aN aO aP aQ) (xa p1 (Ab aL aM aN aO aP aQ) (isAgg107 _) (sizeOf107 _) (hb.r0 2 6 (gS (gS gZ)))) (q2 (Aa bJ bK bL bM bN bO) (xa p2 (Ab bJ bK bL bM bN bO) (isAgg107 _) (sizeOf107 _) (hb.r0 1 6 (gS gZ))) ?_))))
 have ⟨h,hs⟩:=hs.hr (h H3 w3)
 refine nw5 (fun p=>(Sl.mk (some p) 2 2).v) hs hb h fun p4 w4 hs hb h=>q (vU (zR rfl) (xo p3 [(vi 4),(vi 0),(vi 0),(vu 0),ve,(Sl.mk (some p4) 2 2).v] (sizeOf107 _) (hb.k0 0 6 gZ)) ?_)
 intro w5 hn4
 obtain ⟨hs,hb⟩:=hb.st1 0 hs hn4 gZ
 refine ln (er ?_)
 have ⟨h,hs⟩:=hs.hr (h w5)
 refine tH (.inl rfl) (vs:=[(.agg #[(vi 4),(vi 0),(vi 0),(vu 0),ve,(Sl.mk (some p4) 2 2).v])]) (v:=(.agg #[(vi 4),(vi 0),(vi 0),(vu 0),ve,(Sl.mk (some p4) 2 2).v])) results197 ⟨(rva (isAgg107 _) (sizeOf107 _) (hb.r0 0 6 gZ)),trivial⟩ (by kernel_rfl) ⟨4,0,0,0,⟨#[]⟩,(Sl.mk (some p4) 2 2),rfl,h⟩
def m_F3 (c1:Int) (text1:ByteArray) (w0:World) (K:Int→Int→Int→Int→ByteArray→Sl→WP):Prop :=∀H1 w4,Hst w0 None w0 H1 w4→Calls prog 197 #[(.agg #[(vi 2),(vi 0),(vi 0),(vu c1),ve,Sl.nil.v]),(.agg #[(vi 3),(vi 0),(vi 0),(vu 0),(vs text1),Sl.nil.v])] w4 (fun e w5=>∃aF aG aH aI aJ aK,e=.returned (Aa aF aG aH aI aJ aK)∧Kept H1 w4 w5∧Calls prog 197 #[(.agg #[(vi 3),(vi 0),(vi 0),(vu 0),(vs (⟨#[100,101,97,108]⟩:ByteArray)),Sl.nil.v]),(.agg #[(vi aF),(vi aG),(vi aH),(vu aI),(vs aJ),aK.v])] w5 (fun e w6=>∃aR aS aT aU aV aW,e=.returned (Aa aR aS aT aU aV aW)∧Kept H1 w5 w6∧∀w7,Hst w0 H1 w6 H1 w7→K aR aS aT aU aV aW w7))
theorem w_F3 (c1 text1 w0 K) (h:m_F3 c1 text1 w0 K):
  Calls prog 194 #[(vu c1),(vs text1)] w0 (fun e w'=>∃aX aY aZ bA bB bC,e=.returned (Aa aX aY aZ bA bB bC)∧K aX aY aZ bA bB bC w'):=by
 refine cw (args:=[(vu c1),(vs text1)]) func194 ntmps194 ?_
 obtain ⟨hs,hb⟩:=st0 w0
 refine eg (nw3 [(vi 0),(vi 0),(vi 0),(vu 0),ve,Sl.nil.v] 107 hs hb (zH (zeroValue107 _) rfl) fun p1 w1 H1 hs hb=>ln (eg (sc call198 ((p_S (⟨#[100,101,97,108]⟩:ByteArray) w1).mono ?_))))
 rintro e w2 ⟨he,hE⟩
 refine ⟨_,he,?_⟩
 obtain ⟨hs,hb⟩:=hs.pp hb hE
 refine q (sc call199 ((p_X c1 w2).mono ?_))
 rintro e w3 ⟨he,hE⟩
 refine ⟨_,he,?_⟩
 obtain ⟨hs,hb⟩:=hs.pp hb hE
 refine q (sc call198 ((p_S text1 w3).mono ?_))
 rintro e w4 ⟨he,hE⟩
 refine ⟨_,he,?_⟩
 obtain ⟨hs,hb⟩:=hs.pp hb hE
 have ⟨h,hs⟩:=hs.hr (h H1 w4)
 refine sc call197 (h.mono fun e w5 ⟨aF,aG,aH,aI,aJ,aK,k,hk,h⟩=>have ⟨hs,hb⟩:=hk.hh hs hb;⟨_,k,?_⟩)
 refine sc call197 (h.mono fun e w6 ⟨aR,aS,aT,aU,aV,aW,k,hk,h⟩=>have ⟨hs,hb⟩:=hk.hh hs hb;⟨_,k,?_⟩)
 refine sbx 0 (Ab aR aS aT aU aV aW) (sizeOf107 _) hs hb gZ fun w7 hs hb=>ln (er ?_)
 have ⟨h,hs⟩:=hs.hr (h w7)
 refine tH (.inl rfl) (vs:=[(Aa aR aS aT aU aV aW)]) (v:=(Aa aR aS aT aU aV aW)) results194 ⟨(rva (isAgg107 _) (sizeOf107 _) (hb.r0 0 6 gZ)),trivial⟩ (by kernel_rfl) ⟨aR,aS,aT,aU,aV,aW,rfl,h⟩
def m_G3 (from1:Int) (fake1:Bool) (bD bE:Int) (bF bG:Int) (bH:ByteArray) (bI:Sl) (w0:World) (K:Int→Int→Int→Int→ByteArray→Sl→WP):Prop :=∀H3 w3,Hst w0 None w0 H3 w3→∀p3 w4,New w3 (.cells #[(vi bD),(vi bE),(vi bF),(vu bG),(vs bH),bI.v] 107) p3 w4→∀w5,Hst w0 H3 w4 H3 w5→K (cond fake1 9 8) from1 (q6.wrap (1 - from1)) 0 ⟨#[]⟩ (Sl.mk (some p3) 1 1) w5
theorem w_G3 (from1 fake1 bD bE bF bG bH bI w0 K) (h:m_G3 from1 fake1 bD bE bF bG bH bI w0 K):
  Calls prog 195 #[(vi from1),(vb fake1),(.agg #[(vi bD),(vi bE),(vi bF),(vu bG),(vs bH),bI.v])] w0 (fun e w'=>∃aF aG aH aI aJ aK,e=.returned (Aa aF aG aH aI aJ aK)∧K aF aG aH aI aJ aK w'):=by
 refine cw (args:=[(vi from1),(vb fake1),(Aa bD bE bF bG bH bI)]) func195 ntmps195 ?_
 obtain ⟨hs,hb⟩:=st0 w0
 refine eg (nw3 (Ab bD bE bF bG bH bI) 107 hs hb xb fun p1 w1 H1 hs hb=>nw3 [(vi 0),(vi 0),(vi 0),(vu 0),ve,Sl.nil.v] 107 hs hb (zH (zeroValue107 _) rfl) fun p2 w2 H2 hs hb=>ln (eg (q (ln (zA (eg (q (zC (zL (vN (fun ρ wJ=>∃b1'0:Bool,∃HJ:NP,(fake1=b1'0)∧Hst w0 None w0 HJ wJ∧HB HJ wJ [(p2,[(vi 0),(vi 0),(vi 0),(vu 0),ve,Sl.nil.v],107),(p1,(Ab bD bE bF bG bH bI),107)]∧Has ρ [(0,(vi from1)),(5,(vp (some p1))),(6,(vp (some p2))),(7,(vi (cond b1'0 9 8)))]) ?_ ?_))))))))))
 refine vI (t:=fake1) (by kernel_rfl) (fun hc2=>?_) (fun hc2=>?_)
 refine rg (q (ln ⟨true,_,hc2,hs,hb,hm⟩))
 refine zB (zL ⟨false,_,hc2,hs,hb,hm⟩)
 rintro ρ w3 ⟨b1'0,H3,he0,hs,hb,hH⟩
 subst he0
 refine vE hH (zL (eg (qd (q2 (Aa bD bE bF bG bH bI) (xa p1 (Ab bD bE bF bG bH bI) (isAgg107 _) (sizeOf107 _) (hb.r0 1 6 (gS gZ))) ?_))))
 have ⟨h,hs⟩:=hs.hr (h H3 w3)
 refine nw5 (fun p=>(Sl.mk (some p) 1 1).v) hs hb h fun p3 w4 hs hb h=>q (vU (zR rfl) (xo p2 [(vi (cond fake1 9 8)),(vi from1),(vi (q6.wrap (1 - from1))),(vu 0),ve,(Sl.mk (some p3) 1 1).v] (sizeOf107 _) (hb.k0 0 6 gZ)) ?_)
 intro w5 hn3
 obtain ⟨hs,hb⟩:=hb.st1 0 hs hn3 gZ
 refine ln (er ?_)
 have ⟨h,hs⟩:=hs.hr (h w5)
 refine tH (.inl rfl) (vs:=[(.agg #[(vi (cond fake1 9 8)),(vi from1),(vi (q6.wrap (1 - from1))),(vu 0),ve,(Sl.mk (some p3) 1 1).v])]) (v:=(.agg #[(vi (cond fake1 9 8)),(vi from1),(vi (q6.wrap (1 - from1))),(vu 0),ve,(Sl.mk (some p3) 1 1).v])) results195 ⟨(rva (isAgg107 _) (sizeOf107 _) (hb.r0 0 6 gZ)),trivial⟩ (by kernel_rfl) ⟨(cond fake1 9 8),from1,(q6.wrap (1 - from1)),0,⟨#[]⟩,(Sl.mk (some p3) 1 1),rfl,h⟩
def m_H3 (who1 aL:Int) (aM aN aO:Int) (aP:ByteArray) (aQ:Sl) (w0:World) (K:Int→Int→Int→Int→ByteArray→Sl→WP):Prop :=∀H2 w2,Hst w0 None w0 H2 w2→∀p3 w3,New w2 (.cells #[(vi aL),(vi aM),(vi aN),(vu aO),(vs aP),aQ.v] 107) p3 w3→∀w4,Hst w0 H2 w3 H2 w4→K 7 who1 0 0 ⟨#[]⟩ (Sl.mk (some p3) 1 1) w4
theorem w_H3 (who1 aL aM aN aO aP aQ w0 K) (h:m_H3 who1 aL aM aN aO aP aQ w0 K):
  Calls prog 196 #[(vi who1),(.agg #[(vi aL),(vi aM),(vi aN),(vu aO),(vs aP),aQ.v])] w0 (fun e w'=>∃aF aG aH aI aJ aK,e=.returned (Aa aF aG aH aI aJ aK)∧K aF aG aH aI aJ aK w'):=by
 refine cw (args:=[(vi who1),(Aa aL aM aN aO aP aQ)]) func196 ntmps196 ?_
 obtain ⟨hs,hb⟩:=st0 w0
 refine eg (nw3 (Ab aL aM aN aO aP aQ) 107 hs hb xb fun p1 w1 H1 hs hb=>nw3 [(vi 0),(vi 0),(vi 0),(vu 0),ve,Sl.nil.v] 107 hs hb (zH (zeroValue107 _) rfl) fun p2 w2 H2 hs hb=>ln (eg (q (q2 (Aa aL aM aN aO aP aQ) (xa p1 (Ab aL aM aN aO aP aQ) (isAgg107 _) (sizeOf107 _) (hb.r0 1 6 (gS gZ))) ?_))))
 have ⟨h,hs⟩:=hs.hr (h H2 w2)
 refine nw5 (fun p=>(Sl.mk (some p) 1 1).v) hs hb h fun p3 w3 hs hb h=>q (vU (zR rfl) (xo p2 [(vi 7),(vi who1),(vi 0),(vu 0),ve,(Sl.mk (some p3) 1 1).v] (sizeOf107 _) (hb.k0 0 6 gZ)) ?_)
 intro w4 hn3
 obtain ⟨hs,hb⟩:=hb.st1 0 hs hn3 gZ
 refine ln (er ?_)
 have ⟨h,hs⟩:=hs.hr (h w4)
 refine tH (.inl rfl) (vs:=[(.agg #[(vi 7),(vi who1),(vi 0),(vu 0),ve,(Sl.mk (some p3) 1 1).v])]) (v:=(.agg #[(vi 7),(vi who1),(vi 0),(vu 0),ve,(Sl.mk (some p3) 1 1).v])) results196 ⟨(rva (isAgg107 _) (sizeOf107 _) (hb.r0 0 6 gZ)),trivial⟩ (by kernel_rfl) ⟨7,who1,0,0,⟨#[]⟩,(Sl.mk (some p3) 1 1),rfl,h⟩
def m_I3 (aA aB aE:Int) (aC:ByteArray) (aD:Bool) (w0:World) (K:Int→Int→Int→Int→ByteArray→Sl→WP):Prop :=∀H2 w2,Hst w0 None w0 H2 w2→Calls prog 194 #[(vu aE),(vs aC)] w2 (fun e w3=>∃aF aG aH aI aJ aK,e=.returned (Aa aF aG aH aI aJ aK)∧Kept H2 w2 w3∧Br (aA == 1) (∀H3 w5,Hst w0 H2 w3 H3 w5→Calls prog 195 #[(vi aB),(vb aD),(.agg #[(vi aF),(vi aG),(vi aH),(vu aI),(vs aJ),aK.v])] w5 (fun e w6=>∃aR aS aT aU aV aW,e=.returned (Aa aR aS aT aU aV aW)∧Kept H3 w5 w6∧∀w7,Hst w0 H3 w6 H3 w7→K aR aS aT aU aV aW w7)) (Br (aA == 2) (∀H3 w5,Hst w0 H2 w3 H3 w5→Calls prog 196 #[(vi aB),(.agg #[(vi aF),(vi aG),(vi aH),(vu aI),(vs aJ),aK.v])] w5 (fun e w8=>∃aX aY aZ bA bB bC,e=.returned (Aa aX aY aZ bA bB bC)∧Kept H3 w5 w8∧∀w9,Hst w0 H3 w8 H3 w9→K aX aY aZ bA bB bC w9)) (Br (aA == 3) (∀H3 w5,Hst w0 H2 w3 H3 w5→∃C1:WP,C1 w5.drew∧∀w10,w10=w5.drew→Calls prog 198 #[(vs (⟨#[97,98,111,114,116]⟩:ByteArray))] w10 (fun e w11=>∃cU cV cW cX cY cZ,e=.returned (Aa cU cV cW cX cY cZ)∧C1 w11∧Kept H3 w10 w11∧Calls prog 199 #[(vu aE)] w11 (fun e w12=>∃dA dB dC dD dE dF,e=.returned (Aa dA dB dC dD dE dF)∧Kept H3 w11 w12∧Calls prog 197 #[(.agg #[(vi cU),(vi cV),(vi cW),(vu cX),(vs cY),cZ.v]),(.agg #[(vi dA),(vi dB),(vi dC),(vu dD),(vs dE),dF.v])] w12 (fun e w13=>∃dG dH dI dJ dK dL,e=.returned (Aa dG dH dI dJ dK dL)∧Kept H3 w12 w13∧Calls prog 196 #[(vi 0),(.agg #[(vi dG),(vi dH),(vi dI),(vu dJ),(vs dK),dL.v])] w13 (fun e w14=>∃bP bQ bR bS bT bU,e=.returned (Aa bP bQ bR bS bT bU)∧Kept H3 w13 w14∧∀w15,Hst w0 H3 w14 H3 w15→K bP bQ bR bS bT bU w15))))) (Br (aA == 4) (∀H3 w5,Hst w0 H2 w3 H3 w5→∃C2:WP,C2 w5.drew∧∀w16,w16=w5.drew→Calls prog 198 #[(vs (⟨#[114,101,115,111,108,118,101]⟩:ByteArray))] w16 (fun e w17=>∃dM dN dO dP dQ dR,e=.returned (Aa dM dN dO dP dQ dR)∧C2 w17∧Kept H3 w16 w17∧Calls prog 195 #[(vi 0),(vb aD),(.agg #[(vi aF),(vi aG),(vi aH),(vu aI),(vs aJ),aK.v])] w17 (fun e w18=>∃dS dT dU dV dW dX,e=.returned (Aa dS dT dU dV dW dX)∧C2 w18∧Kept H3 w17 w18∧Calls prog 195 #[(vi 1),(vb aD),(.agg #[(vi aF),(vi aG),(vi aH),(vu aI),(vs aJ),aK.v])] w18 (fun e w19=>∃dY dZ eA eB eC eD,e=.returned (Aa dY dZ eA eB eC eD)∧C2 w19∧Kept H3 w18 w19∧Calls prog 197 #[(.agg #[(vi dS),(vi dT),(vi dU),(vu dV),(vs dW),dX.v]),(.agg #[(vi dY),(vi dZ),(vi eA),(vu eB),(vs eC),eD.v])] w19 (fun e w20=>∃eE eF eG eH eI eJ,e=.returned (Aa eE eF eG eH eI eJ)∧C2 w20∧Kept H3 w19 w20∧Calls prog 197 #[(.agg #[(vi dM),(vi dN),(vi dO),(vu dP),(vs dQ),dR.v]),(.agg #[(vi eE),(vi eF),(vi eG),(vu eH),(vs eI),eJ.v])] w20 (fun e w21=>∃eK eL eM eN eO eP,e=.returned (Aa eK eL eM eN eO eP)∧C2 w21∧Kept H3 w20 w21∧Calls prog 196 #[(vi aB),(.agg #[(vi eK),(vi eL),(vi eM),(vu eN),(vs eO),eP.v])] w21 (fun e w22=>∃bV bW bX bY bZ cA,e=.returned (Aa bV bW bX bY bZ cA)∧Kept H3 w21 w22∧∀w23,Hst w0 H3 w22 H3 w23→K bV bW bX bY bZ cA w23))))))) (Br (aA == 5) (∀H3 w5,Hst w0 H2 w3 H3 w5→∃C3:WP,C3 w5.drew∧∀w24,w24=w5.drew→Calls prog 198 #[(vs (⟨#[97,98,111,114,116,101,100]⟩:ByteArray))] w24 (fun e w25=>∃eQ eR eS eT eU eV,e=.returned (Aa eQ eR eS eT eU eV)∧C3 w25∧Kept H3 w24 w25∧Calls prog 199 #[(vu aE)] w25 (fun e w26=>∃eW eX eY eZ fA fB,e=.returned (Aa eW eX eY eZ fA fB)∧Kept H3 w25 w26∧Calls prog 197 #[(.agg #[(vi eQ),(vi eR),(vi eS),(vu eT),(vs eU),eV.v]),(.agg #[(vi eW),(vi eX),(vi eY),(vu eZ),(vs fA),fB.v])] w26 (fun e w27=>∃fC fD fE fF fG fH,e=.returned (Aa fC fD fE fF fG fH)∧Kept H3 w26 w27∧Calls prog 196 #[(vi 2),(.agg #[(vi fC),(vi fD),(vi fE),(vu fF),(vs fG),fH.v])] w27 (fun e w28=>∃cB cC cD cE cF cG,e=.returned (Aa cB cC cD cE cF cG)∧Kept H3 w27 w28∧∀w29,Hst w0 H3 w28 H3 w29→K cB cC cD cE cF cG w29))))) (Br (aA == 6) (∀H3 w5,Hst w0 H2 w3 H3 w5→∃C4:WP,C4 w5.drew∧∀w30,w30=w5.drew→Calls prog 198 #[(vs (⟨#[105,110,115,116,101,97,100]⟩:ByteArray))] w30 (fun e w31=>∃fI fJ fK fL fM fN,e=.returned (Aa fI fJ fK fL fM fN)∧C4 w31∧Kept H3 w30 w31∧Calls prog 197 #[(.agg #[(vi fI),(vi fJ),(vi fK),(vu fL),(vs fM),fN.v]),(.agg #[(vi aF),(vi aG),(vi aH),(vu aI),(vs aJ),aK.v])] w31 (fun e w32=>∃fO fP fQ fR fS fT,e=.returned (Aa fO fP fQ fR fS fT)∧Kept H3 w31 w32∧Calls prog 196 #[(vi 2),(.agg #[(vi fO),(vi fP),(vi fQ),(vu fR),(vs fS),fT.v])] w32 (fun e w33=>∃cH cI cJ cK cL cM,e=.returned (Aa cH cI cJ cK cL cM)∧Kept H3 w32 w33∧∀w34,Hst w0 H3 w33 H3 w34→K cH cI cJ cK cL cM w34)))) (∀H3 w5,Hst w0 H2 w3 H3 w5→∃C5:WP,C5 w5.drew∧∀w35,w35=w5.drew→Calls prog 198 #[(vs (⟨#[102,117,108,108]⟩:ByteArray))] w35 (fun e w36=>∃fU fV fW fX fY fZ,e=.returned (Aa fU fV fW fX fY fZ)∧C5 w36∧Kept H3 w35 w36∧Calls prog 199 #[(vu aE)] w36 (fun e w37=>∃gA gB gC gD gE gF,e=.returned (Aa gA gB gC gD gE gF)∧Kept H3 w36 w37∧Calls prog 197 #[(.agg #[(vi fU),(vi fV),(vi fW),(vu fX),(vs fY),fZ.v]),(.agg #[(vi gA),(vi gB),(vi gC),(vu gD),(vs gE),gF.v])] w37 (fun e w38=>∃cN cO cP cQ cR cS,e=.returned (Aa cN cO cP cQ cR cS)∧Kept H3 w37 w38∧∀w39,Hst w0 H3 w38 H3 w39→K cN cO cP cQ cR cS w39))))))))))
theorem w_I3 (aA aB aE aC aD w0 K) (h:m_I3 aA aB aE aC aD w0 K):
  Calls prog 143 #[(.agg #[(vi aA),(vi aB),(vu aE),(vs aC),(vb aD)])] w0 (fun e w'=>∃gG gH gI gJ gK gL,e=.returned (Aa gG gH gI gJ gK gL)∧K gG gH gI gJ gK gL w'):=by
 refine cw (args:=[(Af aA aB aE aC aD)]) func143 ntmps143 ?_
 obtain ⟨hs,hb⟩:=st0 w0
 refine eg (nw3 (Ac aA aB aE aC aD) 35 hs hb xb fun p1 w1 H1 hs hb=>nw3 [(vi 0),(vi 0),(vi 0),(vu 0),ve,Sl.nil.v] 107 hs hb (zH (zeroValue107 _) rfl) fun p2 w2 H2 hs hb=>ln (eg (q (q3 (xl (isAgg23 _) (hb.d 1 2 (gS gZ))) (q (q3 (xl (isAgg9 _) (hb.d 1 3 (gS gZ))) ?_))))))
 have ⟨h,hs⟩:=hs.hr (h H2 w2)
 refine sc call194 (h.mono fun e w3 ⟨aF,aG,aH,aI,aJ,aK,k,hk,h⟩=>have ⟨hs,hb⟩:=hk.hh hs hb;⟨_,k,?_⟩)
 refine nw3 [(vi 0),(vi 0),(vi 0),(vu 0),ve,Sl.nil.v] 107 hs hb (zH (zeroValue107 _) rfl) fun p3 w4 H3 hs hb=>sbx 0 (Ab aF aG aH aI aJ aK) (sizeOf107 _) hs hb gZ fun w5 hs hb=>ln (zA (eg (q (q3 (xl (isAgg3 _) (hb.d0 2 (gS (gS gZ)))) (ln (zK (eg (qb (ln (cbr h ?_ ?_))))))))))<;>intro h
 refine eg (q (q3 (xl (isAgg3 _) (hb.d 2 1 (gS (gS gZ)))) (q (q3 (xl (isAgg4 _) (hb.d 2 4 (gS (gS gZ)))) (q2 (Aa aF aG aH aI aJ aK) (xa p3 (Ab aF aG aH aI aJ aK) (isAgg107 _) (sizeOf107 _) (hb.r0 0 6 gZ)) ?_)))))
 have ⟨h,hs⟩:=hs.hr (h H3 w5)
 refine sc call195 (h.mono fun e w6 ⟨aR,aS,aT,aU,aV,aW,k,hk,h⟩=>have ⟨hs,hb⟩:=hk.hh hs hb;⟨_,k,?_⟩)
 refine sbx 1 (Ab aR aS aT aU aV aW) (sizeOf107 _) hs hb (gS gZ) fun w7 hs hb=>ln (er (qW (zX ?_)))
 have ⟨h,hs⟩:=hs.hr (h w7)
 refine tH (.inl rfl) (vs:=[(Aa aR aS aT aU aV aW)]) (v:=(Aa aR aS aT aU aV aW)) results143 ⟨(rva (isAgg107 _) (sizeOf107 _) (hb.r0 1 6 (gS gZ))),trivial⟩ (by kernel_rfl) ⟨aR,aS,aT,aU,aV,aW,rfl,h⟩
 refine eg (qb (ln (cbr h ?_ ?_)))<;>intro h
 refine eg (q (q3 (xl (isAgg3 _) (hb.d 2 1 (gS (gS gZ)))) (q2 (Aa aF aG aH aI aJ aK) (xa p3 (Ab aF aG aH aI aJ aK) (isAgg107 _) (sizeOf107 _) (hb.r0 0 6 gZ)) ?_)))
 have ⟨h,hs⟩:=hs.hr (h H3 w5)
 refine sc call196 (h.mono fun e w8 ⟨aX,aY,aZ,bA,bB,bC,k,hk,h⟩=>have ⟨hs,hb⟩:=hk.hh hs hb;⟨_,k,?_⟩)
 refine sbx 1 (Ab aX aY aZ bA bB bC) (sizeOf107 _) hs hb (gS gZ) fun w9 hs hb=>ln (er (qW (zX ?_)))
 have ⟨h,hs⟩:=hs.hr (h w9)
 refine tH (.inl rfl) (vs:=[(Aa aX aY aZ bA bB bC)]) (v:=(Aa aX aY aZ bA bB bC)) results143 ⟨(rva (isAgg107 _) (sizeOf107 _) (hb.r0 1 6 (gS gZ))),trivial⟩ (by kernel_rfl) ⟨aX,aY,aZ,bA,bB,bC,rfl,h⟩
 refine eg (qb (ln (cbr h ?_ ?_)))<;>intro h
 refine zA ?_
 have ⟨h,hs⟩:=hs.hr (h H3 w5)
 obtain ⟨C1,hC,h⟩:=h
 refine dr2 (fun x=>C1 x∧HB H3 x _) [0,3,4,5,6] [3,4,5,6] ⟨hC,hb.drew⟩ h hs hb fun w10 hs hb h=>?_
 have hs:=hs.here
 refine qx 1 (vp (some (p1.add 2))) Kp1 (qz 2 (vu aE) Kp2 (fun w' hw'=>(xl (isAgg23 _) (hw'.2.cell 2 2 (gS (gS gZ)) (by kernel_rfl)))) (lg 0 (slc Kp0 call198 (h.mono ?_))))
 rintro e w11 ⟨cU,cV,cW,cX,cY,cZ,rfl,hC,hk,h⟩
 refine ⟨_,rfl,.inr ⟨hC,hb.kept hk⟩,?_⟩
 obtain ⟨hs,hb⟩:=hk.hh hs hb
 refine lg 3 (slc Kp3 call199 (h.mono ?_))
 rintro e w12 ⟨dA,dB,dC,dD,dE,dF,rfl,hk,h⟩
 refine ⟨_,rfl,.inl (by kernel_rfl),?_⟩
 obtain ⟨hs,hb⟩:=hk.hh hs hb
 refine lg 4 (slc Kp4 call197 (h.mono ?_))
 rintro e w13 ⟨dG,dH,dI,dJ,dK,dL,rfl,hk,h⟩
 refine ⟨_,rfl,.inl (by kernel_rfl),?_⟩
 obtain ⟨hs,hb⟩:=hk.hh hs hb
 refine lg 5 (slc Kp5 call196 (h.mono ?_))
 rintro e w14 ⟨bP,bQ,bR,bS,bT,bU,rfl,hk,h⟩
 refine ⟨_,rfl,.inl (by kernel_rfl),?_⟩
 obtain ⟨hs,hb⟩:=hk.hh hs hb
 refine lg 6 (xL Kp6 (zR rfl) (by kernel_rfl) (xo p2 (Ab bP bQ bR bS bT bU) (sizeOf107 _) (hb.k0 1 6 (gS gZ))) ?_)
 intro w15 hn7
 obtain ⟨hs,hb⟩:=hb.st1 1 hs hn7 (gS gZ)
 refine ⟨.inl (by kernel_rfl),?_⟩
 refine wn (zL (er (qW (zX ?_))))
 have ⟨h,hs⟩:=hs.hr (h w15)
 refine tH (.inl rfl) (vs:=[(Aa bP bQ bR bS bT bU)]) (v:=(Aa bP bQ bR bS bT bU)) results143 ⟨(rva (isAgg107 _) (sizeOf107 _) (hb.r0 1 6 (gS gZ))),trivial⟩ (by kernel_rfl) ⟨bP,bQ,bR,bS,bT,bU,rfl,h⟩
 refine eg (qb (ln (cbr h ?_ ?_)))<;>intro h
 refine zA ?_
 have ⟨h,hs⟩:=hs.hr (h H3 w5)
 obtain ⟨C2,hC,h⟩:=h
 refine dr2 (fun x=>C2 x∧HB H3 x _) [2,6,10,11,12,13,14] [13,14] ⟨hC,hb.drew⟩ h hs hb fun w16 hs hb h=>?_
 have hs:=hs.here
 refine qx 0 (vp (some (p1.add 1))) Kp0 (qz 1 (vi aB) Kp1 (fun w' hw'=>(xl (isAgg3 _) (hw'.2.cell 2 1 (gS (gS gZ)) (by kernel_rfl)))) (qx 3 (vp (some (p1.add 4))) Kp3 (qz 4 (vb aD) Kp4 (fun w' hw'=>(xl (isAgg4 _) (hw'.2.cell 2 4 (gS (gS gZ)) (by kernel_rfl)))) (qz 5 (Aa aF aG aH aI aJ aK) Kp5 (fun w' hw'=>(xa p3 (Ab aF aG aH aI aJ aK) (isAgg107 _) (sizeOf107 _) (hw'.2.r0 0 6 gZ))) (qx 7 (vp (some (p1.add 4))) Kp7 (qz 8 (vb aD) Kp8 (fun w' hw'=>(xl (isAgg4 _) (hw'.2.cell 2 4 (gS (gS gZ)) (by kernel_rfl)))) (qz 9 (Aa aF aG aH aI aJ aK) Kp9 (fun w' hw'=>(xa p3 (Ab aF aG aH aI aJ aK) (isAgg107 _) (sizeOf107 _) (hw'.2.r0 0 6 gZ))) (lg 2 (slc Kp2 call198 (h.mono ?_))))))))))
 rintro e w17 ⟨dM,dN,dO,dP,dQ,dR,rfl,hC,hk,h⟩
 refine ⟨_,rfl,.inr ⟨hC,hb.kept hk⟩,?_⟩
 obtain ⟨hs,hb⟩:=hk.hh hs hb
 refine lg 6 (slc Kp6 call195 (h.mono ?_))
 rintro e w18 ⟨dS,dT,dU,dV,dW,dX,rfl,hC,hk,h⟩
 refine ⟨_,rfl,.inr ⟨hC,hb.kept hk⟩,?_⟩
 obtain ⟨hs,hb⟩:=hk.hh hs hb
 refine lg 10 (slc (zO (S8 (zG (zG zN)))) call195 (h.mono ?_))
 rintro e w19 ⟨dY,dZ,eA,eB,eC,eD,rfl,hC,hk,h⟩
 refine ⟨_,rfl,.inr ⟨hC,hb.kept hk⟩,?_⟩
 obtain ⟨hs,hb⟩:=hk.hh hs hb
 refine lg 11 (slc (zO (S8 (zG (zG (zG zN))))) call197 (h.mono ?_))
 rintro e w20 ⟨eE,eF,eG,eH,eI,eJ,rfl,hC,hk,h⟩
 refine ⟨_,rfl,.inr ⟨hC,hb.kept hk⟩,?_⟩
 obtain ⟨hs,hb⟩:=hk.hh hs hb
 refine lg 12 (slc (zO (S8 (S4 zN))) call197 (h.mono ?_))
 rintro e w21 ⟨eK,eL,eM,eN,eO,eP,rfl,hC,hk,h⟩
 refine ⟨_,rfl,.inr ⟨hC,hb.kept hk⟩,?_⟩
 obtain ⟨hs,hb⟩:=hk.hh hs hb
 refine lg 13 (slc (zO (S8 (S4 (zG zN)))) call196 (h.mono ?_))
 rintro e w22 ⟨bV,bW,bX,bY,bZ,cA,rfl,hk,h⟩
 refine ⟨_,rfl,.inl (by kernel_rfl),?_⟩
 obtain ⟨hs,hb⟩:=hk.hh hs hb
 refine lg 14 (xL (zO (S8 (S4 (zG (zG zN))))) (zR rfl) (by kernel_rfl) (xo p2 (Ab bV bW bX bY bZ cA) (sizeOf107 _) (hb.k0 1 6 (gS gZ))) ?_)
 intro w23 hn8
 obtain ⟨hs,hb⟩:=hb.st1 1 hs hn8 (gS gZ)
 refine ⟨.inl (by kernel_rfl),?_⟩
 refine wn (zL (er (qW (zX ?_))))
 have ⟨h,hs⟩:=hs.hr (h w23)
 refine tH (.inl rfl) (vs:=[(Aa bV bW bX bY bZ cA)]) (v:=(Aa bV bW bX bY bZ cA)) results143 ⟨(rva (isAgg107 _) (sizeOf107 _) (hb.r0 1 6 (gS gZ))),trivial⟩ (by kernel_rfl) ⟨bV,bW,bX,bY,bZ,cA,rfl,h⟩
 refine eg (qb (ln (cbr h ?_ ?_)))<;>intro h
 refine zA ?_
 have ⟨h,hs⟩:=hs.hr (h H3 w5)
 obtain ⟨C3,hC,h⟩:=h
 refine dr2 (fun x=>C3 x∧HB H3 x _) [0,3,4,5,6] [3,4,5,6] ⟨hC,hb.drew⟩ h hs hb fun w24 hs hb h=>?_
 have hs:=hs.here
 refine qx 1 (vp (some (p1.add 2))) Kp1 (qz 2 (vu aE) Kp2 (fun w' hw'=>(xl (isAgg23 _) (hw'.2.cell 2 2 (gS (gS gZ)) (by kernel_rfl)))) (lg 0 (slc Kp0 call198 (h.mono ?_))))
 rintro e w25 ⟨eQ,eR,eS,eT,eU,eV,rfl,hC,hk,h⟩
 refine ⟨_,rfl,.inr ⟨hC,hb.kept hk⟩,?_⟩
 obtain ⟨hs,hb⟩:=hk.hh hs hb
 refine lg 3 (slc Kp3 call199 (h.mono ?_))
 rintro e w26 ⟨eW,eX,eY,eZ,fA,fB,rfl,hk,h⟩
 refine ⟨_,rfl,.inl (by kernel_rfl),?_⟩
 obtain ⟨hs,hb⟩:=hk.hh hs hb
 refine lg 4 (slc Kp4 call197 (h.mono ?_))
 rintro e w27 ⟨fC,fD,fE,fF,fG,fH,rfl,hk,h⟩
 refine ⟨_,rfl,.inl (by kernel_rfl),?_⟩
 obtain ⟨hs,hb⟩:=hk.hh hs hb
 refine lg 5 (slc Kp5 call196 (h.mono ?_))
 rintro e w28 ⟨cB,cC,cD,cE,cF,cG,rfl,hk,h⟩
 refine ⟨_,rfl,.inl (by kernel_rfl),?_⟩
 obtain ⟨hs,hb⟩:=hk.hh hs hb
 refine lg 6 (xL Kp6 (zR rfl) (by kernel_rfl) (xo p2 (Ab cB cC cD cE cF cG) (sizeOf107 _) (hb.k0 1 6 (gS gZ))) ?_)
 intro w29 hn9
 obtain ⟨hs,hb⟩:=hb.st1 1 hs hn9 (gS gZ)
 refine ⟨.inl (by kernel_rfl),?_⟩
 refine wn (zL (er (qW (zX ?_))))
 have ⟨h,hs⟩:=hs.hr (h w29)
 refine tH (.inl rfl) (vs:=[(Aa cB cC cD cE cF cG)]) (v:=(Aa cB cC cD cE cF cG)) results143 ⟨(rva (isAgg107 _) (sizeOf107 _) (hb.r0 1 6 (gS gZ))),trivial⟩ (by kernel_rfl) ⟨cB,cC,cD,cE,cF,cG,rfl,h⟩
 refine eg (qb (ln (cbr h ?_ ?_)))<;>intro h
 refine zA ?_
 have ⟨h,hs⟩:=hs.hr (h H3 w5)
 obtain ⟨C4,hC,h⟩:=h
 refine dr2 (fun x=>C4 x∧HB H3 x _) [0,2,3,4] [2,3,4] ⟨hC,hb.drew⟩ h hs hb fun w30 hs hb h=>?_
 have hs:=hs.here
 refine qz 1 (Aa aF aG aH aI aJ aK) Kp1 (fun w' hw'=>(xa p3 (Ab aF aG aH aI aJ aK) (isAgg107 _) (sizeOf107 _) (hw'.2.r0 0 6 gZ))) (lg 0 (slc Kp0 call198 (h.mono ?_)))
 rintro e w31 ⟨fI,fJ,fK,fL,fM,fN,rfl,hC,hk,h⟩
 refine ⟨_,rfl,.inr ⟨hC,hb.kept hk⟩,?_⟩
 obtain ⟨hs,hb⟩:=hk.hh hs hb
 refine lg 2 (slc Kp2 call197 (h.mono ?_))
 rintro e w32 ⟨fO,fP,fQ,fR,fS,fT,rfl,hk,h⟩
 refine ⟨_,rfl,.inl (by kernel_rfl),?_⟩
 obtain ⟨hs,hb⟩:=hk.hh hs hb
 refine lg 3 (slc Kp3 call196 (h.mono ?_))
 rintro e w33 ⟨cH,cI,cJ,cK,cL,cM,rfl,hk,h⟩
 refine ⟨_,rfl,.inl (by kernel_rfl),?_⟩
 obtain ⟨hs,hb⟩:=hk.hh hs hb
 refine lg 4 (xL Kp4 (zR rfl) (by kernel_rfl) (xo p2 (Ab cH cI cJ cK cL cM) (sizeOf107 _) (hb.k0 1 6 (gS gZ))) ?_)
 intro w34 hn10
 obtain ⟨hs,hb⟩:=hb.st1 1 hs hn10 (gS gZ)
 refine ⟨.inl (by kernel_rfl),?_⟩
 refine wn (zL (er (qW (zX ?_))))
 have ⟨h,hs⟩:=hs.hr (h w34)
 refine tH (.inl rfl) (vs:=[(Aa cH cI cJ cK cL cM)]) (v:=(Aa cH cI cJ cK cL cM)) results143 ⟨(rva (isAgg107 _) (sizeOf107 _) (hb.r0 1 6 (gS gZ))),trivial⟩ (by kernel_rfl) ⟨cH,cI,cJ,cK,cL,cM,rfl,h⟩
 refine zB (uM (zL (zA ?_)))
 have ⟨h,hs⟩:=hs.hr (h H3 w5)
 obtain ⟨C5,hC,h⟩:=h
 refine dr2 (fun x=>C5 x∧HB H3 x _) [0,3,4,5] [3,4,5] ⟨hC,hb.drew⟩ h hs hb fun w35 hs hb h=>?_
 have hs:=hs.here
 refine qx 1 (vp (some (p1.add 2))) Kp1 (qz 2 (vu aE) Kp2 (fun w' hw'=>(xl (isAgg23 _) (hw'.2.cell 2 2 (gS (gS gZ)) (by kernel_rfl)))) (lg 0 (slc Kp0 call198 (h.mono ?_))))
 rintro e w36 ⟨fU,fV,fW,fX,fY,fZ,rfl,hC,hk,h⟩
 refine ⟨_,rfl,.inr ⟨hC,hb.kept hk⟩,?_⟩
 obtain ⟨hs,hb⟩:=hk.hh hs hb
 refine lg 3 (slc Kp3 call199 (h.mono ?_))
 rintro e w37 ⟨gA,gB,gC,gD,gE,gF,rfl,hk,h⟩
 refine ⟨_,rfl,.inl (by kernel_rfl),?_⟩
 obtain ⟨hs,hb⟩:=hk.hh hs hb
 refine lg 4 (slc Kp4 call197 (h.mono ?_))
 rintro e w38 ⟨cN,cO,cP,cQ,cR,cS,rfl,hk,h⟩
 refine ⟨_,rfl,.inl (by kernel_rfl),?_⟩
 obtain ⟨hs,hb⟩:=hk.hh hs hb
 refine lg 5 (xL Kp5 (zR rfl) (by kernel_rfl) (xo p2 (Ab cN cO cP cQ cR cS) (sizeOf107 _) (hb.k0 1 6 (gS gZ))) ?_)
 intro w39 hn11
 obtain ⟨hs,hb⟩:=hb.st1 1 hs hn11 (gS gZ)
 refine ⟨.inl (by kernel_rfl),?_⟩
 refine wn (zL (er ?_))
 have ⟨h,hs⟩:=hs.hr (h w39)
 refine tH (.inl rfl) (vs:=[(Aa cN cO cP cQ cR cS)]) (v:=(Aa cN cO cP cQ cR cS)) results143 ⟨(rva (isAgg107 _) (sizeOf107 _) (hb.r0 1 6 (gS gZ))),trivial⟩ (by kernel_rfl) ⟨cN,cO,cP,cQ,cR,cS,rfl,h⟩
def m_J3 (p1:Option Addr) (aA aB aE:Int) (aC:ByteArray) (aD:Bool) (w0:World) (K:Int→Int→WP):Prop :=∀H1 w1,Hst w0 None w0 H1 w1→Calls prog 142 #[(.agg #[(vi aA),(vi aB),(vu aE),(vs aC),(vb aD)])] w1 (fun e w2=>∃r1,e=.returned (vi r1)∧Kept H1 w1 w2∧Br (r1 != 0) (K 0 r1 w2) (Br (Option.isNone p1) (K 0 2 w2) (Calls prog 143 #[(.agg #[(vi aA),(vi aB),(vu aE),(vs aC),(vb aD)])] w2 (fun e w3=>∃aF aG aH aI aJ aK,e=.returned (Aa aF aG aH aI aJ aK)∧Kept H1 w2 w3∧Calls prog 77 #[(vp p1),(.agg #[(vi aF),(vi aG),(vi aH),(vu aI),(vs aJ),aK.v])] w3 (fun e w4=>∃r2 r3,e=.returned (.tuple #[(vi r2),(vi r3)])∧Kept H1 w3 w4∧K r2 r3 w4)))))
theorem w_J3 (p1 aA aB aE aC aD w0 K) (h:m_J3 p1 aA aB aE aC aD w0 K):
  Calls prog 76 #[(vp p1),(.agg #[(vi aA),(vi aB),(vu aE),(vs aC),(vb aD)])] w0 (fun e w'=>∃r4 r5,e=.returned (.tuple #[(vi r4),(vi r5)])∧K r4 r5 w'):=by
 refine cw (args:=[(vp p1),(Af aA aB aE aC aD)]) func76 ntmps76 ?_
 obtain ⟨hs,hb⟩:=st0 w0
 refine eg (nw3 (Ac aA aB aE aC aD) 35 hs hb xb fun p2 w1 H1 hs hb=>qb (ln (zA (eg (q2 (Af aA aB aE aC aD) (xa p2 (Ac aA aB aE aC aD) (isAgg35 _) (sizeOf35 _) (hb.r0 0 5 gZ)) ?_)))))
 have ⟨h,hs⟩:=hs.hr (h H1 w1)
 refine sc call142 (h.mono fun e w2 ⟨r1,k,hk,h⟩=>have ⟨hs,hb⟩:=hk.hh hs hb;⟨_,k,?_⟩)
 refine q (ln (eg (qb (ln (cbr h ?_ ?_)))))<;>intro h
 refine eg (qc (ln (er (zX (xA (.inl rfl) results76 (v:=(vi 0)) (by kernel_rfl) (v':=(vi r1)) (by kernel_rfl) ⟨0,r1,rfl,h⟩)))))
 refine zB (zL (zA (eg (q (q2 (vb (Option.isNone p1)) (tI (by kernel_rfl) rfl underlying68) (ln (cbr h ?_ ?_)))))))<;>intro h
 refine eg (qb (ln (er (zX (xA (.inl rfl) results76 (v:=(vi 0)) (by kernel_rfl) (v':=(vi 2)) (by kernel_rfl) ⟨0,2,rfl,h⟩)))))
 refine zB (zL (eg (q (q2 (Af aA aB aE aC aD) (xa p2 (Ac aA aB aE aC aD) (isAgg35 _) (sizeOf35 _) (hb.r0 0 5 gZ)) (sc call143 (h.mono fun e w3 ⟨aF,aG,aH,aI,aJ,aK,k,hk,h⟩=>have ⟨hs,hb⟩:=hk.hh hs hb;⟨_,k,?_⟩))))))
 refine sc call77 (h.mono fun e w4 ⟨r2,r3,k,hk,h⟩=>have ⟨hs,hb⟩:=hk.hh hs hb;⟨_,k,?_⟩)
 refine qd (ln (er (xA (.inl rfl) results76 (v:=(vi r2)) (by kernel_rfl) (v':=(vi r3)) (by kernel_rfl) ⟨r2,r3,rfl,h⟩)))
end Go.Proofs
end
section
open Go Go.SE
namespace Go.Proofs
open Tryz
attribute [local irreducible] Calls
def jKC:Array Value:=#[.bool false,.bool false,.bool false,.string ⟨#[]⟩,.bool true,.bool true,.bool true,.string ⟨#[112,114,111,109,105,115,101]⟩,.bool true,.bool true,.bool false,.string ⟨#[115,105,103,110]⟩,.bool false,.bool false,.bool false,.string ⟨#[97,98,111,114,116]⟩,.bool true,.bool true,.bool true,.string ⟨#[114,101,115,111,108,118,101]⟩,.bool false,.bool false,.bool false,.string ⟨#[116,111,107,101,110]⟩,.bool false,.bool true,.bool false,.string ⟨#[105,110,115,116,101,97,100]⟩,.bool false,.bool false,.bool false,.string ⟨#[102,117,108,108]⟩]
theorem jIB (w:World):Calls prog 193 #[] w (fun e w'=>∃r:Array Value,e=.returned (.agg r)∧(r=jKC∧Pure w w')):=by
 refine w_D3 w (fun r w'=>r=jKC∧Pure w w') ?_;unfold m_D3;intro p1 w1 h1;have E1:Pure w w1:=Ext.new h1;have hp:=New.own (Ext.refl w) h1;have b1:=Box.of_newA h1;clear h1;refine bx 32 b1 (by kernel_rfl) (by kernel_rfl) (fun w' b E=>?_);exact ⟨jKC,⟨by kernel_rfl,b.row_eq (by kernel_rfl)⟩,rfl,E1.own hp E⟩
theorem c_chk (l:Sp.Letter) (hk:1≤l.kind∧l.kind≤7) (p:Addr) {w0 w:World} {H:NP} {wd:ByteArray} {T:TypeId} (hB:Box w p [.bool (Sp.vR l.kind),.bool (Sp.vZ l.kind),.bool (l.kind == 1 || l.kind == 4),.string wd] T) (hv:¬ H p.block) (hE:Pure w0 w) :
  m_N_j1 l.frm l.text l.fake p w0 H w (fun x w'=>x=Sp.qO l∧Pure w0 w'):=by
 obtain ⟨k,f,c,x,fk⟩:=l
 simp only at *
 have vis:∀{H H':NP} {w w':World},Box w p [.bool (Sp.vR k),.bool (Sp.vZ k),.bool (k == 1 || k == 4),.string wd] T→¬ H p.block→Hst w0 H w H' w'→¬ H' p.block∧Box w' p [.bool (Sp.vR k),.bool (Sp.vZ k),.bool (k == 1 || k == 4),.string wd] T:=fun hB hv hs=>by
  have h:=hs.disj (G:=(·=p.block)) (fun b e=>by subst e;exact ⟨hB.lt,hv⟩) _ rfl;exact ⟨h,hB.ext hs.ext h⟩
 unfold m_N_j1
 have bad:(f≠0∧f≠1)∨(Sp.vR k=false∧f≠0)∨(Sp.vZ k=false∧x≠⟨#[]⟩)∨(fk=true∧k≠1∧k≠4)→(110:Int)=Sp.qO ⟨k,f,c,x,fk⟩:=fun h=>by
  unfold Sp.qO;rw [if_pos];rcases h with h | h | h | h
  ·exact .inr (.inr (.inl h))
  ·exact .inr (.inr (.inr (.inl h)))
  ·exact .inr (.inr (.inr (.inr (.inl h))))
  ·exact .inr (.inr (.inr (.inr (.inr h))))
 refine ⟨fun hc H4 w4 hs4=>⟨bad (.inl ?_),hE.hst hs4⟩,fun hc H4 w4 hs4=>?_⟩
 ·rw [Bool.and_eq_true] at hc;exact ⟨bne_iff_ne.1 hc.1,bne_iff_ne.1 hc.2⟩
 have hf:f=0∨f=1:=by
  rw [Bool.and_eq_false_iff] at hc;exact hc.imp (fun h=>by simpa using h) (fun h=>by simpa using h)
 obtain ⟨v4,B4⟩:=vis hB hv hs4
 have E4:=hE.hst hs4
 refine ⟨_,B4.cell0,fun H8 w8 hs8=>?_⟩
 obtain ⟨v8,B8⟩:=vis B4 v4 hs8
 have E8:=E4.hst hs8
 unfold m_N_j2
 refine ⟨fun hc2=>⟨bad (.inr (.inl ?_)),E8⟩,fun hc2=>?_⟩
 ·rw [Bool.and_eq_true] at hc2;exact ⟨by simpa using hc2.1,bne_iff_ne.1 hc2.2⟩
 have hs:¬ (Sp.vR k=false∧f≠0):=fun h=>by
  rw [Bool.and_eq_false_iff] at hc2;exact hc2.elim (fun h2=>by rw [h.1] at h2;cases h2) (fun h2=>h.2 (by simpa using h2))
 refine ⟨_,B8.cell (i:=1) rfl,fun H7 w7 hs7=>?_⟩
 obtain ⟨v7,B7⟩:=vis B8 v8 hs7
 have E7:=E8.hst hs7
 unfold m_N_j3
 refine ⟨fun hc3=>⟨bad (.inr (.inr (.inl ?_))),E7⟩,fun hc3=>?_⟩
 ·rw [Bool.and_eq_true] at hc3
  exact ⟨by simpa using hc3.1,by simpa using hc3.2⟩
 have ht:¬ (Sp.vZ k=false∧x≠⟨#[]⟩):=fun h=>by
  rw [Bool.and_eq_false_iff] at hc3;exact hc3.elim (fun h2=>by rw [h.1] at h2;cases h2) (fun h2=>h.2 (by simpa using h2))
 refine ⟨_,B7.cell (i:=2) rfl,fun hc4 H6 w6 hs6=>⟨bad (.inr (.inr (.inr ?_))),E7.hst hs6⟩,fun hc4=>?_⟩
 ·rw [Bool.and_eq_true] at hc4
  have h1:(k == 1 || k == 4)=false:=by simpa using hc4.1
  rw [Bool.or_eq_false_iff] at h1
  exact ⟨hc4.2,by simpa using h1.1,by simpa using h1.2⟩
 have hfk:¬ (fk=true∧k≠1∧k≠4):=fun h=>by
  rw [Bool.and_eq_false_iff] at hc4;refine hc4.elim (fun h2=>?_) (fun h2=>by rw [h.1] at h2;cases h2);have h1:(k == 1 || k == 4)=true:=by
   cases hh:(k == 1 || k == 4) with
   | true=>rfl
   | false=>rw [hh] at h2;cases h2
  rw [Bool.or_eq_true] at h1;exact h1.elim (fun h3=>h.2.1 (by simpa using h3)) (fun h3=>h.2.2 (by simpa using h3))
 have good:¬ (k<1∨k>7∨(f≠0∧f≠1)∨(Sp.vR k=false∧f≠0)∨(Sp.vZ k=false∧x≠⟨#[]⟩)∨(fk=true∧k≠1∧k≠4)):=by
  rintro (h | h | h | h | h | h)
  ·omega
  ·omega
  ·omega
  ·exact hs h
  ·exact ht h
  ·exact hfk h
 refine ⟨fun hc5 H6 w6 hs6=>⟨?_,E7.hst hs6⟩,fun hc5 H6 w6 hs6=>⟨?_,E7.hst hs6⟩⟩
 ·have:=of_decide_eq_true hc5
  unfold Sp.qO;rw [if_neg good,if_pos (by simp only;omega)]
 ·have:=of_decide_eq_false hc5
  unfold Sp.qO;rw [if_neg good,if_neg (by simp only;omega)]
theorem jNF (l:Sp.Letter) (w0:World):Calls prog 142 #[.agg #[.int .i64 l.kind,.int .i64 l.frm,.int .u64 l.c,.string l.text,.bool l.fake]] w0 (fun e w'=>∃r:Int,e=.returned (.int .i64 r)∧(r=Sp.qO l∧Pure w0 w')):=by
 refine w_N _ _ _ _ _ w0 (fun r w'=>r=Sp.qO l∧Pure w0 w') ?_;unfold m_N;refine ⟨fun hc H2 w2 hs2=>⟨?_,hs2.first⟩,fun hc H2 w2 hs2=>?_⟩
 ·unfold Sp.qO;rw [if_pos];rw [Bool.or_eq_true] at hc;exact hc.elim (fun h=>.inl (of_decide_eq_true h)) (fun h=>.inr (.inl (of_decide_eq_true h)))
 have hk:1≤l.kind∧l.kind≤7:=by
  rw [Bool.or_eq_false_iff] at hc;have h1:=of_decide_eq_false hc.1;have h2:=of_decide_eq_false hc.2;omega
 have E2:Pure w0 w2:=hs2.first;have idx:∃wd:ByteArray,∀w':World,(Instr.index 302 (.agg jKC) (.int .i64 l.kind)).run prog w'=.ok (.agg #[.bool (Sp.vR l.kind),.bool (Sp.vZ l.kind),.bool (l.kind == 1 || l.kind == 4),.string wd]) w':=by
  have:l.kind=1∨l.kind=2∨l.kind=3∨l.kind=4∨l.kind=5∨l.kind=6∨l.kind=7:=by omega
  rcases this with e | e | e | e | e | e | e <;> rw [e]
  ·exact ⟨⟨#[112,114,111,109,105,115,101]⟩,fun w'=>by kernel_rfl⟩
  ·exact ⟨⟨#[115,105,103,110]⟩,fun w'=>by kernel_rfl⟩
  ·exact ⟨⟨#[97,98,111,114,116]⟩,fun w'=>by kernel_rfl⟩
  ·exact ⟨⟨#[114,101,115,111,108,118,101]⟩,fun w'=>by kernel_rfl⟩
  ·exact ⟨⟨#[116,111,107,101,110]⟩,fun w'=>by kernel_rfl⟩
  ·exact ⟨⟨#[105,110,115,116,101,97,100]⟩,fun w'=>by kernel_rfl⟩
  ·exact ⟨⟨#[102,117,108,108]⟩,fun w'=>by kernel_rfl⟩
 obtain ⟨wd,idx⟩:=idx;refine ⟨fun _=>True,trivial,?_⟩;rintro w9 e9;have E9:Pure w2 w9:=by rw [e9];exact Ext.drew w2
 have hH:∀b,H2 b→b<w9.heap.size:=fun b hb=>by have:=hs2.lt b hb;have:=E9.size;omega
 refine ⟨?_,?_⟩
 ·refine (jIB w9).mono ?_;rintro _ w10 ⟨_,rfl,rfl,E10⟩;refine ⟨_,rfl,trivial,E10.keptP,_,_,_,_,fun w' _=>idx w',?_⟩;intro p2 w11 n11;have b11:=n11.at_size;have z10:=E10.size;have hv:¬ H2 p2.block:=fun hh=>by have:=hH _ hh;omega
  refine ⟨trivial,(Box.of_newA n11).canWs (by simp),hv,?_⟩;rintro w12 e12;have X:Ext (·=p2.block) w11 w12:=by rw [e12];exact Ext.storeRow _ _ _
  have B:Box w12 p2 [.bool (Sp.vR l.kind),.bool (Sp.vZ l.kind),.bool (l.kind == 1 || l.kind == 4),.string wd] 301:=by rw [e12];exact (Box.of_newA n11).store rfl
  have z2:=E2.size;have z9:=E9.size;exact c_chk l hk p2 B hv ((((E2.trans E9).trans E10).trans (Ext.new n11)).own (by omega) X)
 ·intro p3 w13 n13;refine ⟨trivial,?_⟩;have b13:=n13.at_size;have E13:Pure w9 w13:=Ext.new n13;have hv:¬ H2 p3.block:=fun hh=>by have:=hH _ hh;omega
  refine (jIB w13).mono ?_;rintro _ w14 ⟨_,rfl,rfl,E14⟩;have B14:=(Box.of_newA n13).pure E14;refine ⟨_,rfl,trivial,E14.keptP,_,_,_,_,fun w' _=>idx w',B14.canWs (by simp),hv,?_⟩;rintro w15 e15;have X:Ext (·=p3.block) w14 w15:=by rw [e15];exact Ext.storeRow _ _ _
  have B:Box w15 p3 [.bool (Sp.vR l.kind),.bool (Sp.vZ l.kind),.bool (l.kind == 1 || l.kind == 4),.string wd] 301:=by rw [e15];exact B14.store rfl
  have z2:=E2.size;have z9:=E9.size;exact c_chk l hk p3 B hv ((((E2.trans E9).trans E13).trans E14).own (by omega) X)
abbrev RetS (S:NP) (w:World) (T:Sp.Tree) (e:Ending) (w':World):Prop:=∃s,e=.returned (.agg (qU T s).toArray)∧TreeAt S w' s T∧Pure w w'
theorem jBF {S:NP} (w:World) {A:Sp.Tree} {sa:Sl} {H3:NP} {w3 w4 w5:World} {p:Addr} {o:Obj} (hA:TreeAt S w sa A) (hs3:Hst w None w H3 w3) (n4:New w3 o p w4) (hs5:Hst w H3 w4 H3 w5):TreeAt S w5 sa A:=by
 have E3:Pure w w3:=hs3.first;have E4:Pure w3 w4:=Ext.new n4;exact (((hA.lt.pure E3).pure E4).ext hs5.ext (fun b hb hh=>by have:=hs3.old b hh;omega)).mono (fun b hb=>hb.1)
section
variable {S:NP} (w:World) (hS:∀b,w.heap.size≤b→S b)
include hS
theorem xO (A B:Sp.Tree) (sa sb:Sl) (hA:TreeAt S w sa A) (hB:TreeAt S w sb B):Calls prog 197 #[.agg (qU A sa).toArray,.agg (qU B sb).toArray] w (RetS S w (Sp.vS A B)):=by
 obtain ⟨k,f,t,u,x,ks⟩:=A;obtain ⟨k2,f2,t2,u2,x2,ks2⟩:=B;refine (w_E3 k f t u x sa k2 f2 t2 u2 x2 sb w (fun k' f' t' u' y s w'=>(⟨k',f',t',u',y,0,0⟩:Sp.Node)=(Sp.vS (.mk k f t u x ks) (.mk k2 f2 t2 u2 x2 ks2)).node∧TreeAt S w' s (Sp.vS (.mk k f t u x ks) (.mk k2 f2 t2 u2 x2 ks2))∧Pure w w') ?_).mono ?_
 ·unfold m_E3;intro H3 w3 hs3 p4 w4 n4 w5 hs5;have b4:=n4.at_size;have z3:=hs3.first.size;have B4:Box w4 p4 (qU (.mk k f t u x ks) sa++qU (.mk k2 f2 t2 u2 x2 ks2) sb) 107:=Box.of_newA n4;exact ⟨rfl,TreeAt.pair (B4.ext hs5.ext (fun hh=>by have:=hs3.lt _ hh;omega)) (hS _ (by omega)) (jBF w hA hs3 n4 hs5) (jBF w hB hs3 n4 hs5),(hs3.first.trans (Ext.new n4)).hst hs5⟩
 ·rintro _ w' ⟨k,f,t,u,y,s,rfl,hn,hT,E⟩;cases hn;exact ⟨s,rfl,hT,E⟩
theorem jBO (n:Int) (A:Sp.Tree) (sa:Sl) (hA:TreeAt S w sa A):Calls prog 196 #[.int .i64 n,.agg (qU A sa).toArray] w (RetS S w (Sp.yQ n A)):=by
 obtain ⟨k,f,t,u,x,ks⟩:=A;refine (w_H3 n k f t u x sa w (fun k' f' t' u' y s w'=>(⟨k',f',t',u',y,0,0⟩:Sp.Node)=(Sp.yQ n (.mk k f t u x ks)).node∧TreeAt S w' s (Sp.yQ n (.mk k f t u x ks))∧Pure w w') ?_).mono ?_
 ·unfold m_H3;intro H3 w3 hs3 p4 w4 n4 w5 hs5;have b4:=n4.at_size;have z3:=hs3.first.size;have B4:Box w4 p4 (qU (.mk k f t u x ks) sa) 107:=Box.of_newA n4;exact ⟨rfl,TreeAt.one (B4.ext hs5.ext (fun hh=>by have:=hs3.lt _ hh;omega)) (hS _ (by omega)) (jBF w hA hs3 n4 hs5),(hs3.first.trans (Ext.new n4)).hst hs5⟩
 ·rintro _ w' ⟨k,f,t,u,y,s,rfl,hn,hT,E⟩;cases hn;exact ⟨s,rfl,hT,E⟩
theorem jAW (n:Int) (hn:n=0∨n=1) (fk:Bool) (A:Sp.Tree) (sa:Sl) (hA:TreeAt S w sa A):Calls prog 195 #[.int .i64 n,.bool fk,.agg (qU A sa).toArray] w (RetS S w (Sp.yL n A fk)):=by
 obtain ⟨k,f,t,u,x,ks⟩:=A;refine (w_G3 n fk k f t u x sa w (fun k' f' t' u' y s w'=>(⟨k',f',t',u',y,0,0⟩:Sp.Node)=(Sp.yL n (.mk k f t u x ks) fk).node∧TreeAt S w' s (Sp.yL n (.mk k f t u x ks) fk)∧Pure w w') ?_).mono ?_
 ·unfold m_G3;intro H3 w3 hs3 p4 w4 n4 w5 hs5;have b4:=n4.at_size;have z3:=hs3.first.size;have B4:Box w4 p4 (qU (.mk k f t u x ks) sa) 107:=Box.of_newA n4;refine ⟨?_,TreeAt.one (B4.ext hs5.ext (fun hh=>by have:=hs3.lt _ hh;omega)) (hS _ (by omega)) (jBF w hA hs3 n4 hs5),(hs3.first.trans (Ext.new n4)).hst hs5⟩;have:IntKind.i64.wrap (1 - n)=1 - n:=IntWalk.i64_in _ (by omega);rw [this];cases fk <;> rfl
 ·rintro _ w' ⟨k,f,t,u,y,s,rfl,hn,hT,E⟩;cases hn;exact ⟨s,rfl,hT,E⟩
theorem jOS (c:Int) (x:ByteArray):Calls prog 194 #[.int .u64 c,.string x] w (RetS S w (Sp.vY c x)):=by
 refine (w_F3 c x w (fun k f t u y s w'=>(⟨k,f,t,u,y,0,0⟩:Sp.Node)=(Sp.vY c x).node∧TreeAt S w' s (Sp.vY c x)∧Pure w w') ?_).mono ?_
 ·unfold m_F3;intro H1 w4 hs4;have E4:Pure w w4:=hs4.first;have z4:=E4.size;have hH:∀b,H1 b→b<w4.heap.size:=fun b hb=>hs4.lt b hb;refine (xO (S:=(w4.heap.size≤·)) w4 (fun _ h=>h) (Sp.jBA c) (Sp.vP x) Sl.nil Sl.nil TreeAt.leaf TreeAt.leaf).mono ?_;rintro _ w5 ⟨s5,rfl,hT5,E5⟩;refine ⟨_,_,_,_,_,s5,rfl,E5.keptP,?_⟩;refine (xO (S:=(w4.heap.size≤·)) w5 (fun b h=>by have:=E5.size;show w4.heap.size≤b;omega) (Sp.vP Sp.jAI) (Sp.vS (Sp.jBA c) (Sp.vP x)) Sl.nil s5 TreeAt.leaf hT5).mono ?_;rintro _ w6 ⟨s6,rfl,hT6,E6⟩;refine ⟨_,_,_,_,_,s6,rfl,E6.keptP,fun w7 hs7=>⟨rfl,?_,((E4.trans E5).trans E6).hst hs7⟩⟩;exact (hT6.ext hs7.ext (fun b hb hh=>by have:=hH b hh;have:w4.heap.size≤b:=hb;omega)).mono (fun b hb=>hS b (by have:w4.heap.size≤b:=hb;omega))
 ·rintro _ w' ⟨k,f,t,u,y,s,rfl,hn,hT,E⟩;cases hn;exact ⟨s,rfl,hT,E⟩
end
theorem jOR (l:Sp.Letter) (hf:l.frm=0∨l.frm=1) (w0:World):Calls prog 143 #[.agg #[.int .i64 l.kind,.int .i64 l.frm,.int .u64 l.c,.string l.text,.bool l.fake]] w0 (RetS (w0.heap.size≤·) w0 (Sp.vK l true true)):=by
 obtain ⟨kd,f,c,x,fk⟩:=l;simp only at hf;generalize hR:Sp.vK ⟨kd,f,c,x,fk⟩ true true=R;refine (w_I3 kd f c x fk w0 (fun k f t u y s w'=>(⟨k,f,t,u,y,0,0⟩:Sp.Node)=R.node∧TreeAt (w0.heap.size≤·) w' s R∧Pure w0 w') ?_).mono ?_
 ·unfold m_I3;intro H2 w2 hs2;have E2:Pure w0 w2:=hs2.first;have z2:=E2.size;refine (jOS (S:=(w2.heap.size≤·)) w2 (fun _ h=>h) c x).mono ?_;rintro _ w3 ⟨sd,rfl,hT3,E3⟩;refine ⟨_,_,_,_,_,sd,rfl,E3.keptP,?_⟩;have z3:=E3.size;have go:∀{H3:NP} {w5:World},Hst w0 H2 w3 H3 w5→TreeAt (fun b=>w0.heap.size≤b∧¬ H3 b) w5 sd (Sp.vY c x)∧Pure w0 w5∧(∀w:World,w5.heap.size≤w.heap.size→∀b,w.heap.size≤b→w0.heap.size≤b∧¬ H3 b):=fun {H3 w5} hs=>by
   have hd:∀b,(w2.heap.size≤b∧b<w3.heap.size)→¬ H3 b:=hs.disj (fun b hb=>⟨hb.2,fun hh=>by have:=hs2.lt b hh;omega⟩);refine ⟨(hT3.lt.ext hs.ext (fun b hb=>hd b hb)).mono (fun b hb=>⟨by have:=hb.1;omega,hd b hb⟩),(E2.trans E3).hst hs,fun w hw b hb=>⟨by have:=hs.ext.size;omega,fun hh=>by have:=hs.lt b hh;omega⟩⟩
  have fin:∀{H3:NP} {wa wb:World} {s:Sl} {T:Sp.Tree},TreeAt (fun b=>w0.heap.size≤b∧¬ H3 b) wa s T→Pure w0 wa→Hst w0 H3 wa H3 wb→T=R→R.node=R.node∧TreeAt (w0.heap.size≤·) wb s R∧Pure w0 wb:=fun {H3 wa wb s T} h E hs e=>by
   subst e;exact ⟨rfl,(h.ext hs.ext (fun b hb=>hb.2)).mono (fun b hb=>hb.1),E.hst hs⟩
  have fin2:∀{H3:NP} {wa wb:World} {s:Sl} {T:Sp.Tree},TreeAt (fun b=>w0.heap.size≤b∧¬ H3 b) wa s T→Pure w0 wa→Hst w0 H3 wa H3 wb→R=T→(⟨T.node.kind,T.node.frm,T.node.to,T.node.num,T.node.text,0,0⟩:Sp.Node)=R.node∧TreeAt (w0.heap.size≤·) wb s R∧Pure w0 wb:=fun {H3 wa wb s T} h E hs e=>by
   subst e;refine ⟨?_,(fin h E hs rfl).2⟩;cases R;rfl
  refine ⟨fun hk H3 w5 hs5=>?_,fun h1=>⟨fun hk H3 w5 hs5=>?_,fun h2=>⟨fun hk H3 w5 hs5=>?_,fun h3=>⟨fun hk H3 w5 hs5=>?_,fun h4=>⟨fun hk H3 w5 hs5=>?_,fun h5=>⟨fun hk H3 w5 hs5=>?_,fun h6 H3 w5 hs5=>?_⟩⟩⟩⟩⟩⟩
  ·have hk:=beq_iff_eq.1 hk;obtain ⟨hD,E5,hS⟩:=go hs5;refine (jAW w5 (hS w5 (Nat.le_refl _)) f hf fk _ sd hD).mono ?_;rintro _ w6 ⟨s6,rfl,hT6,E6⟩;refine ⟨_,_,_,_,_,s6,rfl,E6.keptP,fun w7 hs7=>fin2 hT6 (E5.trans E6) hs7 ?_⟩;rw [← hR];unfold Sp.vK;rw [if_pos hk]
  ·have hk:=beq_iff_eq.1 hk;obtain ⟨hD,E5,hS⟩:=go hs5;refine (jBO w5 (hS w5 (Nat.le_refl _)) f _ sd hD).mono ?_;rintro _ w6 ⟨s6,rfl,hT6,E6⟩;refine ⟨_,_,_,_,_,s6,rfl,E6.keptP,fun w7 hs7=>fin2 hT6 (E5.trans E6) hs7 ?_⟩;rw [← hR];unfold Sp.vK;rw [if_neg (fun e=>beq_eq_false_iff_ne.1 h1 e),if_pos hk]
  ·have hk:=beq_iff_eq.1 hk;obtain ⟨hD,E5,hS⟩:=go hs5;refine ⟨fun _=>True,trivial,?_⟩;rintro w10 e10;have E10:Pure w5 w10:=by rw [e10];exact Ext.drew w5
   refine (p_S _ w10).mono ?_;rintro _ w11 ⟨rfl,E11⟩;refine ⟨_,_,_,_,_,_,rfl,trivial,E11.keptP,?_⟩;refine (p_X _ w11).mono ?_;rintro _ w12 ⟨rfl,E12⟩;refine ⟨_,_,_,_,_,_,rfl,E12.keptP,?_⟩;have z12:=((E10.trans E11).trans E12).size;refine (xO w12 (hS w12 z12) (Sp.vP Sp.uQ) (Sp.jBA c) Sl.nil Sl.nil TreeAt.leaf TreeAt.leaf).mono ?_;rintro _ w13 ⟨s13,rfl,hT13,E13⟩;refine ⟨_,_,_,_,_,s13,rfl,E13.keptP,?_⟩;refine (jBO w13 (hS w13 (by have:=E13.size;omega)) 0 _ s13 hT13).mono ?_;rintro _ w14 ⟨s14,rfl,hT14,E14⟩;refine ⟨_,_,_,_,_,s14,rfl,E14.keptP,fun w15 hs15=>fin2 hT14 (((((E5.trans E10).trans E11).trans E12).trans E13).trans E14) hs15 ?_⟩;rw [← hR];unfold Sp.vK;rw [if_neg (fun e=>beq_eq_false_iff_ne.1 h1 e),if_neg (fun e=>beq_eq_false_iff_ne.1 h2 e),if_pos hk]
  ·have hk:=beq_iff_eq.1 hk;obtain ⟨hD,E5,hS⟩:=go hs5;refine ⟨fun _=>True,trivial,?_⟩;rintro w16 e16;have E16:Pure w5 w16:=by rw [e16];exact Ext.drew w5
   refine (p_S _ w16).mono ?_;rintro _ w17 ⟨rfl,E17⟩;refine ⟨_,_,_,_,_,_,rfl,trivial,E17.keptP,?_⟩;have E57:=E16.trans E17;refine (jAW w17 (hS w17 E57.size) 0 (.inl rfl) fk _ sd (hD.pure E57)).mono ?_;rintro _ w18 ⟨s18,rfl,hT18,E18⟩;refine ⟨_,_,_,_,_,s18,rfl,trivial,E18.keptP,?_⟩;have E58:=E57.trans E18;refine (jAW w18 (hS w18 E58.size) 1 (.inr rfl) fk _ sd (hD.pure E58)).mono ?_;rintro _ w19 ⟨s19,rfl,hT19,E19⟩;refine ⟨_,_,_,_,_,s19,rfl,trivial,E19.keptP,?_⟩;have E59:=E58.trans E19;refine (xO w19 (hS w19 E59.size) _ _ s18 s19 (hT18.pure E19) hT19).mono ?_;rintro _ w20 ⟨s20,rfl,hT20,E20⟩;refine ⟨_,_,_,_,_,s20,rfl,trivial,E20.keptP,?_⟩;have E510:=E59.trans E20;refine (xO w20 (hS w20 E510.size) (Sp.vP Sp.yB) _ Sl.nil s20 TreeAt.leaf hT20).mono ?_;rintro _ w21 ⟨s21,rfl,hT21,E21⟩;refine ⟨_,_,_,_,_,s21,rfl,trivial,E21.keptP,?_⟩;have E511:=E510.trans E21;refine (jBO w21 (hS w21 E511.size) f _ s21 hT21).mono ?_;rintro _ w22 ⟨s22,rfl,hT22,E22⟩;refine ⟨_,_,_,_,_,s22,rfl,E22.keptP,fun w23 hs23=>fin2 hT22 ((E5.trans E511).trans E22) hs23 ?_⟩;rw [← hR];unfold Sp.vK;rw [if_neg (fun e=>beq_eq_false_iff_ne.1 h1 e),if_neg (fun e=>beq_eq_false_iff_ne.1 h2 e),if_neg (fun e=>beq_eq_false_iff_ne.1 h3 e),if_pos hk];simp only [Bool.and_true]
  ·have hk:=beq_iff_eq.1 hk;obtain ⟨hD,E5,hS⟩:=go hs5;refine ⟨fun _=>True,trivial,?_⟩;rintro w10 e10;have E10:Pure w5 w10:=by rw [e10];exact Ext.drew w5
   refine (p_S _ w10).mono ?_;rintro _ w11 ⟨rfl,E11⟩;refine ⟨_,_,_,_,_,_,rfl,trivial,E11.keptP,?_⟩;refine (p_X _ w11).mono ?_;rintro _ w12 ⟨rfl,E12⟩;refine ⟨_,_,_,_,_,_,rfl,E12.keptP,?_⟩;have z12:=((E10.trans E11).trans E12).size;refine (xO w12 (hS w12 z12) (Sp.vP Sp.qX) (Sp.jBA c) Sl.nil Sl.nil TreeAt.leaf TreeAt.leaf).mono ?_;rintro _ w13 ⟨s13,rfl,hT13,E13⟩;refine ⟨_,_,_,_,_,s13,rfl,E13.keptP,?_⟩;refine (jBO w13 (hS w13 (by have:=E13.size;omega)) 2 _ s13 hT13).mono ?_;rintro _ w14 ⟨s14,rfl,hT14,E14⟩;refine ⟨_,_,_,_,_,s14,rfl,E14.keptP,fun w15 hs15=>fin2 hT14 (((((E5.trans E10).trans E11).trans E12).trans E13).trans E14) hs15 ?_⟩;rw [← hR];unfold Sp.vK;rw [if_neg (fun e=>beq_eq_false_iff_ne.1 h1 e),if_neg (fun e=>beq_eq_false_iff_ne.1 h2 e),if_neg (fun e=>beq_eq_false_iff_ne.1 h3 e),if_neg (fun e=>beq_eq_false_iff_ne.1 h4 e),if_pos hk]
  ·have hk:=beq_iff_eq.1 hk;obtain ⟨hD,E5,hS⟩:=go hs5;refine ⟨fun _=>True,trivial,?_⟩;rintro w10 e10;have E10:Pure w5 w10:=by rw [e10];exact Ext.drew w5
   refine (p_S _ w10).mono ?_;rintro _ w11 ⟨rfl,E11⟩;refine ⟨_,_,_,_,_,_,rfl,trivial,E11.keptP,?_⟩;have z11:=(E10.trans E11).size;refine (xO w11 (hS w11 z11) (Sp.vP Sp.qG) _ Sl.nil sd TreeAt.leaf (hD.pure (E10.trans E11))).mono ?_;rintro _ w13 ⟨s13,rfl,hT13,E13⟩;refine ⟨_,_,_,_,_,s13,rfl,E13.keptP,?_⟩;refine (jBO w13 (hS w13 (by have:=E13.size;omega)) 2 _ s13 hT13).mono ?_;rintro _ w14 ⟨s14,rfl,hT14,E14⟩;refine ⟨_,_,_,_,_,s14,rfl,E14.keptP,fun w15 hs15=>fin2 hT14 ((((E5.trans E10).trans E11).trans E13).trans E14) hs15 ?_⟩;rw [← hR];unfold Sp.vK;rw [if_neg (fun e=>beq_eq_false_iff_ne.1 h1 e),if_neg (fun e=>beq_eq_false_iff_ne.1 h2 e),if_neg (fun e=>beq_eq_false_iff_ne.1 h3 e),if_neg (fun e=>beq_eq_false_iff_ne.1 h4 e),if_neg (fun e=>beq_eq_false_iff_ne.1 h5 e),if_pos hk]
  ·obtain ⟨hD,E5,hS⟩:=go hs5;refine ⟨fun _=>True,trivial,?_⟩;rintro w10 e10;have E10:Pure w5 w10:=by rw [e10];exact Ext.drew w5
   refine (p_S _ w10).mono ?_;rintro _ w11 ⟨rfl,E11⟩;refine ⟨_,_,_,_,_,_,rfl,trivial,E11.keptP,?_⟩;refine (p_X _ w11).mono ?_;rintro _ w12 ⟨rfl,E12⟩;refine ⟨_,_,_,_,_,_,rfl,E12.keptP,?_⟩;have z12:=((E10.trans E11).trans E12).size;refine (xO w12 (hS w12 z12) (Sp.vP Sp.jGP) (Sp.jBA c) Sl.nil Sl.nil TreeAt.leaf TreeAt.leaf).mono ?_;rintro _ w13 ⟨s13,rfl,hT13,E13⟩;refine ⟨_,_,_,_,_,s13,rfl,E13.keptP,fun w15 hs15=>fin2 hT13 ((((E5.trans E10).trans E11).trans E12).trans E13) hs15 ?_⟩;rw [← hR];unfold Sp.vK;rw [if_neg (fun e=>beq_eq_false_iff_ne.1 h1 e),if_neg (fun e=>beq_eq_false_iff_ne.1 h2 e),if_neg (fun e=>beq_eq_false_iff_ne.1 h3 e),if_neg (fun e=>beq_eq_false_iff_ne.1 h4 e),if_neg (fun e=>beq_eq_false_iff_ne.1 h5 e),if_neg (fun e=>beq_eq_false_iff_ne.1 h6 e)]
 ·rintro _ w' ⟨k,f,t,u,y,s,rfl,hn,hT,E⟩;obtain ⟨k2,f2,t2,u2,x2,ks⟩:=R;cases hn;exact ⟨s,rfl,hT,E⟩
theorem jEX {l:Sp.Letter} (h:Sp.qO l=0):l.frm=0∨l.frm=1:=by
 unfold Sp.qO at h;split at h
 ·cases h
 ·rename_i h1;simp only [not_or] at h1;have:=h1.2.2.1;by_cases h0:l.frm=0
  ·exact .inl h0
  ·exact .inr (Classical.byContradiction (fun h2=>this ⟨h0,h2⟩))
def qF (L:Sp.Pool) (l:Sp.Letter):Int×Int×Sp.Pool:=if Sp.qO l≠0 then (0,Sp.qO l,L) else Sp.of L (Sp.vK l true true)
theorem jJM (p:Addr) (l:Sp.Letter) (w0:World) {L:Sp.Pool} {F:NP} (hP:vD w0 p L F) (hok:Sp.Ok L) :
  Calls prog 76 #[.pointer (some p),.agg #[.int .i64 l.kind,.int .i64 l.frm,.int .u64 l.c,.string l.text,.bool l.fake]] w0 (fun e w'=>∃r1 r2:Int,e=.returned (.tuple #[.int .i64 r1,.int .i64 r2])∧(r1=(qF L l).1∧r2=(qF L l).2.1∧∃F',vD w' p (qF L l).2.2 F'∧Ext F w0 w'∧∀b,F' b→F b∨w0.heap.size≤b)):=by
 refine w_J3 (some p) l.kind l.frm l.c l.text l.fake w0 (fun r1 r2 w'=>r1=(qF L l).1∧r2=(qF L l).2.1∧∃F',vD w' p (qF L l).2.2 F'∧Ext F w0 w'∧∀b,F' b→F b∨w0.heap.size≤b) ?_
 unfold m_J3
 intro H1 w1 hs1
 have E1:Pure w0 w1:=hs1.first
 have hF:∀b,F b→b<w0.heap.size:=fun b hb=>hP.lt hb
 refine (jNF l w1).mono ?_
 rintro _ w2 ⟨_,rfl,rfl,E2⟩
 have E02:=E1.trans E2
 refine ⟨_,rfl,E2.keptP,fun hc=>?_,fun hc=>⟨fun h=>(by cases h),fun _=>?_⟩⟩
 ·have hc:=bne_iff_ne.1 hc
  have e:qF L l=(0,Sp.qO l,L):=by unfold qF;rw [if_pos hc]
  rw [e];exact ⟨rfl,rfl,F,hP.pure E02,Ext.pure E02,fun b hb=>.inl hb⟩
 ·have hc:Sp.qO l=0:=by simpa using hc
  have e:qF L l=Sp.of L (Sp.vK l true true):=by unfold qF;rw [if_neg (by simpa using hc)]
  rw [e]
  refine (jOR l (jEX hc) w2).mono ?_
  rintro _ w3 ⟨s3,he,hT3,E3⟩
  generalize Sp.vK l true true=T at *
  obtain ⟨tk,tf,tt,tu,tx,tks⟩:=T
  have he:_=Ending.returned (.agg #[.int .i64 tk,.int .i64 tf,.int .i64 tt,.int .u64 tu,.string tx,s3.v]):=he
  refine ⟨tk,tf,tt,tu,tx,s3,he,E3.keptP,?_⟩
  have E03:=E02.trans E3
  refine (c_Of (S:=fun b=>w2.heap.size≤b∧b<w3.heap.size) p (.mk tk tf tt tu tx tks) s3 w3 hT3.lt (hP.pure E03) hok (fun b hb hh=>by have:=hF b hb;have:=E02.size;omega) (fun b hb=>hb.2)).mono ?_
  rintro _ w4 ⟨r1,r2,rfl,h12,F',hP4,X4,hF4⟩
  obtain ⟨e1,e2⟩:=Prod.mk.inj h12
  refine ⟨r1,r2,rfl,X4.kept (fun b hb hh=>by have:=hs1.old b hb;have:=hF b hh;omega),e1,e2,F',hP4,(Ext.pure E03).trans X4,fun b hb=>(hF4 b hb).imp id (fun h=>by have:=E03.size;omega)⟩
end Go.Proofs
end
section
open Go Go.SE
namespace Go.Sp
theorem jBP {L:Pool} (h:Wf L) (l:Letter):Wf (Go.Proofs.qF L l).2.2:=by
 unfold Go.Proofs.qF;split
 ·exact h
 ·exact jOF h _
end Go.Sp
end
section
namespace Go.Sp
theorem jJF (ts:List Tree) (t:Tree):cntAll (ts++[t])=cntAll ts+cnt t:=by
 induction ts with
 | nil=>simp [cntAll]
 | cons a ts ih=>rw [List.cons_append,cntAll,cntAll,ih];omega
theorem jHJ (L:Pool) (n:Node):(make L n).2.2.length≤L.length+1:=by
 rcases jHH L n with e | ⟨_,e⟩ <;> rw [e] <;> simp
theorem jMS (t:Tree):∀L,(grow L t).2.2.length≤L.length+cnt t:=by
 induction t using Tree.ind with
 | h k f t u x ks ih =>
  have:∀(ks:List Tree),(∀i (hi:i<ks.length),∀L,(grow L ks[i]).2.2.length≤L.length+cnt ks[i])→∀n i L,(vG n i L ks).2.2.length≤L.length+1+cntAll ks:=by
   intro ks;induction ks with
   | nil=>intro _ n i L;unfold vG;have:=jHJ L n;simp only [cntAll];omega
   | cons t ts iht =>
    intro hh n i L
    have h0:=hh 0 (by simp) L
    simp only [List.getElem_cons_zero] at h0
    unfold vG
    simp only [cntAll]
    split
    ·simp only;omega
    ·have:=iht (fun i hi=>hh (i+1) (by simpa using hi)) (if i=0 then { n with a:=(grow L t).1 } else { n with b:=(grow L t).1 }) (i+1) (grow L t).2.2
     omega
  intro L
  have:=this ks ih ⟨k,f,t,u,x,0,0⟩ 0 L
  unfold grow
  rw [cnt];omega
theorem jML (L:Pool) (t:Tree):(of L t).2.2.length≤L.length+cnt t:=by
 have:=jMS t L;unfold of;split
 ·simp only;omega
 ·split
  ·simp only;omega
  ·exact this
end Go.Sp
end
section
open Go Go.SE
namespace Go.Sp
theorem jKG {L:Pool} {n:Node} (hp:vC n=0) (ha:(shapeOf n.kind).kids<1→n.a=0) (hb:(shapeOf n.kind).kids<2→n.b=0) (hf:vB (shapeOf n.kind) n=0) (hk:∀k∈zS n,inP L k=true) :
  check L n=if 1+((zS n).map (sizeOf L)).sum>4096∨(zS n).foldl (fun d t=>max d (depthOf L t)) 0+1>64 then (0,0,52) else (1+((zS n).map (sizeOf L)).sum,(zS n).foldl (fun d t=>max d (depthOf L t)) 0+1,0):=by
 unfold check
 simp only
 rw [if_neg (by simp [hp]),if_neg (fun h=>?_),if_neg (by simp [hf]),if_neg (fun h=>?_)]
 ·obtain ⟨k,hk1,hk2⟩:=List.any_eq_true.1 h
  rw [hk k hk1] at hk2;cases hk2
 ·rw [Bool.or_eq_true,Bool.and_eq_true,Bool.and_eq_true] at h
  rcases h with ⟨h1,h2⟩ | ⟨h1,h2⟩
  ·rw [ha (of_decide_eq_true h1)] at h2;simp at h2
  ·rw [hb (of_decide_eq_true h1)] at h2;simp at h2
theorem jPX {L:Pool} {n:Node} (hW:Wf L) (hl:L.length<65536) (hp:vC n=0) (ha:(shapeOf n.kind).kids<1→n.a=0) (hb:(shapeOf n.kind).kids<2→n.b=0) (hf:vB (shapeOf n.kind) n=0) (hk:∀k∈zS n,inP L k=true)
  {sz d:Int} (hs:1+((zS n).map (sizeOf L)).sum=sz) (hd:(zS n).foldl (fun d t=>max d (depthOf L t)) 0+1=d) :
  ((sz>4096∨d>64)→(make L n).2.1=52)∧(¬ (sz>4096∨d>64)→∃r M,make L n=(r,0,L++M)∧inP (L++M) r=true∧zD (L++M) r=n∧Wf (L++M)∧sizeOf (L++M) r=sz∧depthOf (L++M) r=d∧(L++M).length≤L.length+1):=by
 have hc:=jKG hp ha hb hf hk
 rw [hs,hd] at hc
 refine ⟨fun h=>?_,fun h=>?_⟩
 ·rw [if_pos h] at hc
  unfold make;simp only [hc];rfl
 ·rw [if_neg h] at hc
  have h0:(make L n).2.1=0:=by
   unfold make;simp only [hc];rw [if_neg (by simp)];split
   ·rfl
   ·rw [if_neg (by omega)]
  obtain ⟨M,e⟩:=jAG L n
  obtain ⟨m1,m2,_⟩:=jHI h0
  have hw:=tX hW n
  have hfew:=jHJ L n
  rw [e] at m1 m2 hw hfew
  refine ⟨(make L n).1,M,by rw [← e,← h0],m1,m2,hw,?_,?_,hfew⟩
  ·rw [(hw.node m1).2.2.2.2.2.1,m2,← hs]
   congr 2
   exact List.map_congr_left (fun k hk'=>yS (hk k hk'))
  ·rw [(hw.node m1).2.2.2.2.2.2,m2,← hd]
   congr 1
   have:∀(l:List Int) (d:Int),(∀k∈l,inP L k=true)→l.foldl (fun d k=>max d (depthOf (L++M) k)) d=l.foldl (fun d k=>max d (depthOf L k)) d:=by
    intro l;induction l with
    | nil=>intro d _;rfl
    | cons a l ih=>intro d hh;simp only [List.foldl_cons];rw [yR (hh a (by simp))];exact ih _ (fun k hk=>hh k (by simp [hk]))
   exact this _ _ hk
theorem jOH {L:Pool} (hW:Wf L) {t:Int} (ht:inP L t=true):make L (zD L t)=(t,0,L):=by
 obtain ⟨h1,h2,h3,h4,h5,h6,h7⟩:=hW.node ht;have hc:=jKG h1 h2 h3 h4 (fun k hk=>(h5 k hk).1);rw [← h6,← h7] at hc;obtain ⟨i,hi,rfl⟩:=jEZ ht;have hsz:=hW.ok.size L[i] (List.getElem_mem hi);have hdp:=hW.ok.depth L[i] (List.getElem_mem hi);have e1:sizeOf L ((i:Int)+1)=L[i].size:=by simp [sizeOf,jCJ hi]
 have e2:depthOf L ((i:Int)+1)=L[i].depth:=by simp [depthOf,jCJ hi]
 rw [if_neg (by omega)] at hc;have hfd:find L (zD L ((i:Int)+1))=some i:=by rw [jBI hi];exact Go.Proofs.jMU hW.ok (List.getElem?_eq_getElem hi)
 unfold make;simp only [hc,hfd];rw [if_neg (by simp)]
theorem jEY (k:Int):(shapeOf k).kids=0∨(shapeOf k).kids=1∨(shapeOf k).kids=2:=by
 unfold shapeOf noShape
 repeat' split
 all_goals simp
theorem jGB {L:Pool} (hW:Wf L):∀(m:Nat) (t:Int),t.toNat=m→inP L t=true→grow L (zJ L t)=(t,0,L):=by
 intro m;induction m using Nat.strongRecOn with
 | _ m ih =>
 intro t hm ht;have hmk:=jOH hW ht;obtain ⟨h1,h2,h3,h4,h5,h6,h7⟩:=hW.node ht;have hpos:=(qC.1 ht).1;have kid:∀k∈zS (zD L t),grow L (zJ L k)=(k,0,L):=fun k hk=>by
  have:=qC.1 (h5 k hk).1;exact ih k.toNat (by have:=(h5 k hk).2;omega) k rfl (h5 k hk).1
 rw [qB hW ht,grow];generalize zD L t=n at *;obtain ⟨k,f,t',u,x,a,b⟩:=n;unfold zS at kid ⊢;simp only at *;rcases jEY k with h | h | h
 ·rw [h] at kid ⊢;have ea:=h2 (by omega);have eb:=h3 (by omega);subst ea;subst eb;simpa [vG] using hmk
 ·rw [h] at kid ⊢;have eb:=h3 (by omega);subst eb;have k1:=kid a (by simp);simpa [vG,k1] using hmk
 ·rw [h] at kid ⊢;have k1:=kid a (by simp);have k2:=kid b (by simp);simpa [vG,k1,k2] using hmk
structure LP (T:Tree) (sz d:Int):Prop where
 s1:1≤sz
 d1:1≤d
 yes:∀i s,0≤i→0≤s→s+sz≤4096→i+d≤64→qJ i s T=(0,s+sz)
 no:∀i s,0≤i→0≤s→(4096<s+sz∨64<i+d)→(qJ i s T).1=52
theorem LP0 {k f t u:Int} {x:ByteArray} (h:yX ⟨k,f,t,u,x,0,0⟩ 0=0):LP (.mk k f t u x []) 1 1:=by
 refine ⟨by omega,by omega,fun i s hi hs h1 h2=>?_,fun i s hi hs h1=>?_⟩
 ·rw [qJ,if_neg (by omega),if_neg (by omega)];simp [vJ,h]
 ·rw [qJ];split
  ·rfl
  ·rw [if_pos (by omega)]
theorem LP1 {k f t u:Int} {x:ByteArray} {A:Tree} {sa da:Int} (h:yX ⟨k,f,t,u,x,0,0⟩ 1=0) (hA:LP A sa da):LP (.mk k f t u x [A]) (1+sa) (da+1):=by
 have a1:=hA.s1;have a2:=hA.d1;refine ⟨by omega,by omega,fun i s hi hs h1 h2=>?_,fun i s hi hs h1=>?_⟩
 ·rw [qJ,if_neg (by omega),if_neg (by omega)];simp only [List.length_cons,List.length_nil,vJ,h,if_pos,hA.yes (i+1) (s+1) (by omega) (by omega) (by omega) (by omega)];simp;omega
 ·rw [qJ];split
  ·rfl
  ·split
   ·rfl
   ·simp only [List.length_cons,List.length_nil,vJ,h,if_pos];simpa using hA.no (i+1) (s+1) (by omega) (by omega) (by omega)
theorem LP2 {k f t u:Int} {x:ByteArray} {A B:Tree} {sa da sb db:Int} (h:yX ⟨k,f,t,u,x,0,0⟩ 2=0) (hA:LP A sa da) (hB:LP B sb db):LP (.mk k f t u x [A,B]) (1+(sa+sb)) (max da db+1):=by
 have a1:=hA.s1;have a2:=hA.d1;have b1:=hB.s1;have b2:=hB.d1;refine ⟨by omega,by omega,fun i s hi hs h1 h2=>?_,fun i s hi hs h1=>?_⟩
 ·rw [qJ,if_neg (by omega),if_neg (by omega)];simp only [List.length_cons,List.length_nil,vJ,h,if_pos,hA.yes (i+1) (s+1) (by omega) (by omega) (by omega) (by omega),hB.yes (i+1) (s+1+sa) (by omega) (by omega) (by omega) (by omega)];simp;omega
 ·rw [qJ];split
  ·rfl
  ·split
   ·rfl
   ·simp only [List.length_cons,List.length_nil,vJ,h,if_pos];by_cases hc:s+1+sa≤4096∧i+1+da≤64
    ·rw [hA.yes (i+1) (s+1) (by omega) (by omega) hc.1 hc.2];simpa using hB.no (i+1) (s+1+sa) (by omega) (by omega) (by omega)
    ·have:=hA.no (i+1) (s+1) (by omega) (by omega) (by omega);rw [this];simp
theorem tY {L:Pool} (hW:Wf L):∀(m:Nat) (t:Int),t.toNat=m→inP L t=true→LP (zJ L t) (sizeOf L t) (depthOf L t):=by
 intro m;induction m using Nat.strongRecOn with
 | _ m ih =>
 intro t hm ht;obtain ⟨h1,h2,h3,h4,h5,h6,h7⟩:=hW.node ht;have hpos:=(qC.1 ht).1;have kid:∀k∈zS (zD L t),LP (zJ L k) (sizeOf L k) (depthOf L k):=fun k hk=>by
  have:=qC.1 (h5 k hk).1;exact ih k.toNat (by have:=(h5 k hk).2;omega) k rfl (h5 k hk).1
 have own:∀len:Nat,(len:Int)=(shapeOf (zD L t).kind).kids→yX ⟨(zD L t).kind,(zD L t).frm,(zD L t).to,(zD L t).num,(zD L t).text,0,0⟩ len=0:=fun len hl=>by
  have e1:vC ⟨(zD L t).kind,(zD L t).frm,(zD L t).to,(zD L t).num,(zD L t).text,0,0⟩=0:=h1;have e2:vB (shapeOf (zD L t).kind) ⟨(zD L t).kind,(zD L t).frm,(zD L t).to,(zD L t).num,(zD L t).text,0,0⟩=0:=h4;unfold yX;simp only [e1];simp [hl,e2]
 rw [qB hW ht,h6,h7];generalize zD L t=n at *;obtain ⟨k,f,t',u,x,a,b⟩:=n;unfold zS at kid ⊢;simp only at *;rcases jEY k with h | h | h
 ·rw [h];simpa using LP0 (own 0 (by omega))
 ·rw [h] at kid ⊢;have k1:=kid a (by simp);have:=LP1 (own 1 (by omega)) k1;have e:=k1.d1;simpa [Int.max_eq_right (show 0≤depthOf L a by omega)] using this
 ·rw [h] at kid ⊢;have k1:=kid a (by simp);have k2:=kid b (by simp);have:=LP2 (own 2 (by omega)) k1 k2;have e:=k1.d1;simpa [Int.max_eq_right (show 0≤depthOf L a by omega)] using this
end Go.Sp
end
section
open Go Go.SE
namespace Go.Sp
def zY (L:Pool) (t kind:Int):Node×Bool:=if inP L t=true∧(zD L t).kind=kind then (zD L t,false) else (jCG,true)
def zU (L:Pool) (t:Int):(ByteArray×Int)×Bool :=
 (((zY L (zY L t 4).1.a 3).1.text,(zY L t 4).1.b),(zY L t 4).2 || (zY L (zY L t 4).1.a 3).2)
def vW (L:Pool) (t:Int):(Int×ByteArray)×Bool :=
 let g:=zU L t
 let n:=zY L g.1.2 4
 (((zY L n.1.a 2).1.num,(zY L n.1.b 3).1.text),g.2 || n.2 || !decide (g.1.1=jAI) || (zY L n.1.a 2).2 || (zY L n.1.b 3).2)
end Go.Sp
namespace Go.Proofs
open Tryz
attribute [local irreducible] Calls
def jCD (w:World) (q:Option Addr) (L:Sp.Pool) (F:NP):Prop:=match q with
 | some p=>vD w p L F
 | none=>L=[]∧∀b,¬ F b
theorem jCD.ext {G:NP} {w w':World} {p:Option Addr} {L:Sp.Pool} {F:NP} (h:jCD w p L F) (hE:Ext G w w') (hd:∀b,F b→¬ G b):jCD w' p L F:=by
 cases p with
 | none=>exact h
 | some p=>exact vD.ext h hE hd
theorem jCD.pure {w w':World} {p:Option Addr} {L:Sp.Pool} {F:NP} (h:jCD w p L F) (hE:Pure w w'):jCD w' p L F:=h.ext hE (fun _ _ h=>h)
theorem jCD.lt {w:World} {p:Option Addr} {L:Sp.Pool} {F:NP} (h:jCD w p L F) {b:Nat} (hb:F b):b<w.heap.size:=by
 cases p with
 | none=>exact absurd hb (h.2 b)
 | some p=>exact vD.lt h hb
theorem jJL (p:Option Addr) (t:Int) (w:World) {L:Sp.Pool} {F:NP} (hP:jCD w p L F) (hok:Sp.Ok L):Calls prog 102 #[.pointer p,.int .i64 t] w
  (fun e w'=>∃k:Int,∃f:Int,∃t':Int,∃u:Int,∃x:ByteArray,∃a:Int,∃b:Int,∃r:Bool,e=.returned (.tuple #[.agg #[.int .i64 k,.int .i64 f,.int .i64 t',.int .u64 u,.string x,.int .i64 a,.int .i64 b],.bool r])∧(((⟨k,f,t',u,x,a,b⟩:Sp.Node)=Sp.zD L t∧r=Sp.inP L t)∧Pure w w')):=by
 cases p with
 | some p=>exact jFE p t w hP hok
 | none =>
  obtain ⟨rfl,_⟩:=hP
  have hin0:Sp.inP [] t=false:=by cases h:Sp.inP [] t;rfl;have:=Sp.qC.1 h;simp at this;omega
  have hno:Sp.zD [] t=⟨0,0,0,0,⟨#[]⟩,0,0⟩:=by unfold Sp.zD Sp.get;split <;> simp [Sp.jCG]
  rw [hin0,hno]
  refine w_T1 none t w (fun k f t' u x a b r w'=>((⟨k,f,t',u,x,a,b⟩:Sp.Node)=⟨0,0,0,0,⟨#[]⟩,0,0⟩∧r=false)∧Pure w w') ?_
  unfold m_T1
  intro p1 w1 h1
  have E1:Pure w w1:=Ext.new h1
  have b1:=Box.of_new h1
  have hp:=New.own (Ext.refl w) h1
  have hin:Calls prog 168 #[.pointer none,.int .i64 t] w1 (fun e w'=>∃r,e=.returned (.bool r)∧(r=false∧w'=w1)):=by
   refine w_R _ _ w1 (fun r w'=>r=false∧w'=w1) ?_;unfold m_R;have j1:m_R_j1 none t false w1 (fun r w'=>r=false∧w'=w1):=by
    unfold m_R_j1
    first
     | exact Br.f rfl ⟨rfl,rfl⟩
     | exact ⟨rfl,rfl⟩
     | (unfold m_R_j2;exact Br.f rfl ⟨rfl,rfl⟩)
     | (refine Br.f rfl ?_;unfold m_R_j2;exact ⟨rfl,rfl⟩)
   first
    | exact Br.f rfl j1
    | exact Br.t rfl j1
  refine hin.mono ?_
  rintro _ _ ⟨_,rfl,rfl,rfl⟩
  exact ⟨_,rfl,fun h1=>bx 7 b1 rfl rfl (fun w' b E=>⟨_,_,_,_,_,_,_,b.row,⟨rfl,rfl⟩,E1.own hp E⟩),fun h1=>by cases h1⟩
structure ReaderAt (w:World) (r:Addr) (p:Option Addr) (bad:Bool) (L:Sp.Pool) (F:NP):Prop where
 box:Box w r [.pointer p,.bool bad] 182
 pool:jCD w p L F
 ok:Sp.Ok L
 out:¬ F r.block
theorem ReaderAt.pure {w w':World} {r:Addr} {p:Option Addr} {bad:Bool} {L:Sp.Pool} {F:NP} (h:ReaderAt w r p bad L F) (E:Pure w w'):ReaderAt w' r p bad L F:=⟨h.box.pure E,h.pool.pure E,h.ok,h.out⟩
theorem uL (r:Addr) (p:Option Addr) (t kind:Int) (bad:Bool) (w:World) {L:Sp.Pool} {F:NP} (hR:ReaderAt w r p bad L F) :
  Calls prog 109 #[.pointer (some r),.int .i64 t,.int .i64 kind] w
   (fun e w'=>∃k':Int,∃f':Int,∃t':Int,∃u':Int,∃x':ByteArray,∃a':Int,∃b':Int,e=.returned (.agg #[.int .i64 k',.int .i64 f',.int .i64 t',.int .u64 u',.string x',.int .i64 a',.int .i64 b'])∧((⟨k',f',t',u',x',a',b'⟩:Sp.Node)=(Sp.zY L t kind).1∧ReaderAt w' r p (bad || (Sp.zY L t kind).2) L F∧Ext (·=r.block) w w')):=by
 suffices key:∀K:Int→Int→Int→Int→ByteArray→Int→Int→WP,(∀k' f' t' u' x' a' b' w',((⟨k',f',t',u',x',a',b'⟩:Sp.Node)=(Sp.zY L t kind).1∧ReaderAt w' r p (bad || (Sp.zY L t kind).2) L F∧Ext (·=r.block) w w')→K k' f' t' u' x' a' b' w')→m_B2 (some r) t kind w K from
  w_B2 _ _ _ w _ (key _ (fun _ _ _ _ _ _ _ _ h=>h))
 intro K hK
 unfold m_B2
 intro p1 w1 h1
 have E1:Pure w w1:=Ext.new h1
 have o1:=New.own (Ext.refl w) h1
 have lr:=hR.box.lt
 have b1:=Box.of_new h1
 refine ⟨r,rfl,p,(hR.box.pure E1).cell0,?_⟩
 refine (jJL p t w1 (hR.pool.pure E1) hR.ok).mono ?_
 rintro _ w2 ⟨k',f',t',u',x',a',b',ok,rfl,⟨hn,hok⟩,E12⟩
 refine ⟨_,_,_,_,_,_,_,_,rfl,?_⟩
 intro p2 w3 h3
 have E2:Pure w w2:=E1.trans E12
 have o3:=New.own E2 h3
 have n12:p1.block≠p2.block:=New.ne h3 (b1.pure E12).blk
 refine bx 7 (Box.of_new h3) rfl rfl (fun w4 b2 E'=>?_)
 have E4:Pure w w4:=(E2.trans (Ext.new h3)).own o3 E'
 have c1:=((b1.pure E12).pure (Ext.new h3)).ext E' n12
 have hR4:=hR.pure E4
 clear E' E2 E12 b1 h1 h3
 have bad1 : Sp.zY L t kind = (Sp.jCG, true) → vF w4 (r.add 1) ∧ ∀ w5 : World, w5 = w4.setCell (r.add 1) (.bool true) →
   (∀j,j<7→vF w5 (p1.add j))∧∀w6:World,w6=storeRow w5 p1 [(.int .i64 0),(.int .i64 0),(.int .i64 0),(.int .u64 0),(.string (⟨#[]⟩:ByteArray)),(.int .i64 0),(.int .i64 0)] →
   ∃qKind1:Int,∃qFrom1:Int,∃qTo1:Int,∃qNum1:Int,∃qText1:ByteArray,∃qA1:Int,∃qB1:Int,Row w6 p1 [(.int .i64 qKind1),(.int .i64 qFrom1),(.int .i64 qTo1),(.int .u64 qNum1),(.string qText1),(.int .i64 qA1),(.int .i64 qB1)] ∧
   K qKind1 qFrom1 qTo1 qNum1 qText1 qA1 qB1 w6:=by
  intro hrd
  refine ⟨hR4.box.canW (by simp),?_⟩
  intro w5 hw5
  have d5:Box w5 r [.pointer p,.bool true] 182:=by rw [hw5];exact hR4.box.set 1 _
  have E5:Ext (·=r.block) w4 w5:=by rw [hw5];have:=Ext.setCell (w:=w4) (r.add 1) (.bool true);rw [zW] at this;exact this
  clear hw5
  have n1r:p1.block≠r.block:=by omega
  refine bx 7 (c1.ext E5 n1r) rfl rfl (fun w6 b6 E6=>⟨_,_,_,_,_,_,_,b6.row,hK _ _ _ _ _ _ _ _ ⟨by rw [hrd];rfl,⟨?_,?_,hR.ok,hR.out⟩,?_⟩⟩)
  ·rw [hrd];simp only [Bool.or_true];exact d5.ext E6 n1r.symm
  ·exact (hR4.pool.ext E5 (fun b hb e=>hR.out (e▸hb))).ext E6 (fun b hb e=>by have:=hR.pool.lt hb;omega)
  ·exact (E4.pure.trans E5).trans' E6 (fun i hi h=>by omega)
 refine ⟨fun h=>⟨r,rfl,?_⟩,fun h=>⟨k',b2.cell0,fun h2=>⟨r,rfl,?_⟩,fun h2=>?_⟩⟩
 ·refine bad1 ?_
  have:¬ Sp.inP L t=true:=by rw [← hok];simpa using h
  unfold Sp.zY;rw [if_neg (fun h=>this h.1)]
 ·refine bad1 ?_
  have:(Sp.zD L t).kind≠kind:=by rw [← hn];simpa using h2
  unfold Sp.zY;rw [if_neg (fun h=>this h.2)]
 ·have hi:Sp.inP L t=true:=by rw [← hok];simpa using h
  have hk:(Sp.zD L t).kind=kind:=by rw [← hn];simpa using h2
  have hrd:Sp.zY L t kind=(Sp.zD L t,false):=by unfold Sp.zY;rw [if_pos ⟨hi,hk⟩]
  refine ⟨_,_,_,_,_,_,_,b2.row,bx 7 c1 rfl rfl (fun w6 b6 E6=>⟨_,_,_,_,_,_,_,b6.row,hK _ _ _ _ _ _ _ _ ⟨by rw [hrd];exact hn,?_,?_⟩⟩)⟩
  ·rw [hrd];simp only [Bool.or_false]
   exact hR.pure (E4.own o1 E6)
  ·exact (E4.own o1 E6).pure
theorem jAV (r:Addr) (p:Option Addr) (t:Int) (bad:Bool) (w:World) {L:Sp.Pool} {F:NP} (hR:ReaderAt w r p bad L F) :
  Calls prog 108 #[.pointer (some r),.int .i64 t] w
   (fun e w'=>∃x:ByteArray,∃b:Int,e=.returned (.tuple #[.string x,.int .i64 b])∧((x,b)=(Sp.zU L t).1∧ReaderAt w' r p (bad || (Sp.zU L t).2) L F∧Ext (·=r.block) w w')):=by
 suffices key:∀K:ByteArray→Int→WP,(∀x b w',((x,b)=(Sp.zU L t).1∧ReaderAt w' r p (bad || (Sp.zU L t).2) L F∧Ext (·=r.block) w w')→K x b w')→m_A2 (some r) t w K from
  w_A2 _ _ w _ (key _ (fun _ _ _ h=>h))
 intro K hK
 unfold m_A2
 refine (uL r p t 4 bad w hR).mono ?_
 rintro _ w1 ⟨k1,f1,t1,u1,x1,a1,b1,rfl,hn,hR1,E1⟩
 refine ⟨_,_,_,_,_,_,_,rfl,?_⟩
 intro p1 w2 h2
 have o2:=New.own (Ext.refl w1) h2
 refine bx 7 (Box.of_new h2) rfl rfl (fun w3 b3 E'=>?_)
 have E3:Pure w1 w3:=Ext.own (Ext.new h2) o2 E'
 have l1:=hR1.box.lt
 refine ⟨fun w'=>Box w' p1 [.int .i64 k1,.int .i64 f1,.int .i64 t1,.int .u64 u1,.string x1,.int .i64 a1,.int .i64 b1] 176,b3.pure (Ext.drew w3),?_⟩
 intro w4 hw4
 have E4:Pure w1 w4:=by rw [hw4];exact E3.thenPure (Ext.drew w3)
 have c4:Box w4 p1 [.int .i64 k1,.int .i64 f1,.int .i64 t1,.int .u64 u1,.string x1,.int .i64 a1,.int .i64 b1] 176:=by rw [hw4];exact b3.pure (Ext.drew w3)
 clear hw4
 refine ⟨a1,fun w' h=>h.cell rfl,b1,fun w' h=>h.cell rfl,?_⟩
 refine (uL r p a1 3 _ w4 (hR1.pure E4)).mono ?_
 rintro _ w5 ⟨k2,f2,t2,u2,x2,a2,b2,rfl,hn2,hR2,E5⟩
 refine ⟨_,_,_,_,_,_,_,rfl,c4.ext E5 (by omega),hK _ _ _ ⟨?_,?_,?_⟩⟩
 ·have ea:a1=(Sp.zY L t 4).1.a:=by rw [← hn]
  have eb:b1=(Sp.zY L t 4).1.b:=by rw [← hn]
  simp only [Sp.zU,← ea,← eb,← hn2]
 ·have ea:a1=(Sp.zY L t 4).1.a:=by rw [← hn]
  rw [ea] at hR2
  simp only [Sp.zU,← Bool.or_assoc]
  exact hR2
 ·exact (E1.thenPure E4).trans E5
end Go.Proofs
end
section
open Go Go.SE
namespace Go.Sp
def zT (L:Pool) (t:Int):Letter×Bool :=
 let n:=zD L t
 if (n.kind≠8∧n.kind≠9)∨1<n.frm∨n.to≠IntKind.i64.wrap (1 - n.frm) then (yG,true)
 else (⟨1,n.frm,(vW L n.a).1.1,(vW L n.a).1.2,n.kind == 9⟩,(vW L n.a).2)
end Go.Sp
namespace Go.Proofs
open Tryz
attribute [local irreducible] Calls
theorem jHZ (r:Addr) (p:Option Addr) (t:Int) (bad:Bool) (w:World) {L:Sp.Pool} {F:NP} (hR:ReaderAt w r p bad L F) :
  Calls prog 170 #[.pointer (some r),.int .i64 t] w
   (fun e w'=>∃c:Int,∃x:ByteArray,e=.returned (.tuple #[.int .u64 c,.string x])∧((c,x)=(Sp.vW L t).1∧ReaderAt w' r p (bad || (Sp.vW L t).2) L F∧Ext (·=r.block) w w')):=by
 suffices key:∀K:Int→ByteArray→WP,(∀c x w',((c,x)=(Sp.vW L t).1∧ReaderAt w' r p (bad || (Sp.vW L t).2) L F∧Ext (·=r.block) w w')→K c x w')→m_W (some r) t w K from
  w_W _ _ w _ (key _ (fun _ _ _ h=>h))
 intro K hK
 unfold m_W
 refine (jAV r p t bad w hR).mono ?_
 rintro _ w1 ⟨x1,y1,rfl,hg,hR1,E1⟩
 refine ⟨_,_,rfl,?_⟩
 refine (uL r p y1 4 _ w1 hR1).mono ?_
 rintro _ w2 ⟨k2,f2,t2,u2,x2,a2,b2,rfl,hn,hR2,E2⟩
 refine ⟨_,_,_,_,_,_,_,rfl,?_⟩
 intro p1 w3 h3
 have o3:=New.own (Ext.refl w2) h3
 have l2:=hR2.box.lt
 refine bx 7 (Box.of_new h3) rfl rfl (fun w4 b4 E'=>?_)
 have E4:Pure w2 w4:=Ext.own (Ext.new h3) o3 E'
 have hR4:=hR2.pure E4
 clear E' h3
 have ey:y1=(Sp.zU L t).1.2:=congrArg Prod.snd hg
 have ex:x1=(Sp.zU L t).1.1:=congrArg Prod.fst hg
 have ea:a2=(Sp.zY L y1 4).1.a:=by rw [← hn]
 have eb:b2=(Sp.zY L y1 4).1.b:=by rw [← hn]
 generalize hb4:(bad || (Sp.zU L t).2 || (Sp.zY L y1 4).2)=bad4 at *
 have fin:∀(v:Bool) (w5:World),(v=(bad4 || !decide (x1=Sp.jAI)))→Box w5 r [.pointer p,.bool v] 182→Ext (·=r.block) w4 w5→m_W_j1 (some r) p1 w5 K:=by
  intro v w5 hv B5 E5;have hR5:ReaderAt w5 r p v L F:=⟨B5,hR4.pool.ext E5 (fun b hb e=>hR.out (e▸hb)),hR.ok,hR.out⟩;have c5:=b4.ext E5 (by omega);unfold m_W_j1;refine ⟨fun w'=>Box w' p1 [.int .i64 k2,.int .i64 f2,.int .i64 t2,.int .u64 u2,.string x2,.int .i64 a2,.int .i64 b2] 176,c5.pure (Ext.drew w5),?_⟩;intro w6 hw6;have E6:Pure w5 w6:=by rw [hw6];exact Ext.drew w5
  clear hw6;have c6:=c5.pure E6;refine ⟨a2,fun w' h=>h.cell rfl,b2,fun w' h=>h.cell rfl,?_⟩;refine (uL r p a2 2 _ w6 (hR5.pure E6)).mono ?_;rintro _ w7 ⟨k3,f3,t3,u3,x3,a3,b3,rfl,hn3,hR7,E7⟩;have c7:=c6.ext E7 (by omega);refine ⟨_,_,_,_,_,_,_,rfl,c7,?_⟩;refine (uL r p b2 3 _ w7 hR7).mono ?_;rintro _ w8 ⟨k4,f4,t4,u4,x4,a4,b4',rfl,hn4,hR8,E8⟩;have e3:u3=(Sp.zY L a2 2).1.num:=by rw [← hn3]
  have e4:x4=(Sp.zY L b2 3).1.text:=by rw [← hn4]
  refine ⟨_,_,_,_,_,_,_,rfl,c7.ext E8 (by omega),hK _ _ _ ⟨?_,?_,?_⟩⟩
  ·simp only [Sp.vW,← ey,← ea,← eb,← e3,← e4]
  ·have : (bad || (Sp.vW L t).2) = (v || (Sp.zY L a2 2).2 || (Sp.zY L b2 3).2) := by
    simp only [Sp.vW,← ey,← ea,← eb,← ex,hv,← hb4,Bool.or_assoc]
   rw [this];exact hR8
  ·exact ((((E1.trans E2).thenPure E4).trans E5).thenPure E6 |>.trans E7).trans E8
 have setr:∀v:Bool,Box (w4.setCell (r.add 1) (.bool v)) r [.pointer p,.bool v] 182∧Ext (·=r.block) w4 (w4.setCell (r.add 1) (.bool v)):=fun v =>
  ⟨hR4.box.set 1 _,by have:=Ext.setCell (w:=w4) (r.add 1) (.bool v);rw [zW] at this;exact this⟩
 refine ⟨r,rfl,bad4,hR4.box.cell rfl,fun h=>⟨r,rfl,hR4.box.canW (by simp),?_⟩,fun h=>⟨r,rfl,hR4.box.canW (by simp),?_⟩⟩
 ·intro w8 hw8
  have:=setr true
  exact fin true w8 (by rw [h];rfl) (by rw [hw8];exact this.1) (by rw [hw8];exact this.2)
 ·intro w8 hw8
  have:=setr (!decide (x1=Sp.jAI))
  exact fin (!decide (x1=Sp.jAI)) w8 (by rw [h];rfl) (by rw [hw8];exact this.1) (by rw [hw8];exact this.2)
theorem vH (r:Addr) (p:Option Addr) (t:Int) (bad:Bool) (w:World) {L:Sp.Pool} {F:NP} (hR:ReaderAt w r p bad L F) :
  Calls prog 107 #[.pointer (some r),.int .i64 t] w
   (fun e w'=>∃k:Int,∃f:Int,∃c:Int,∃x:ByteArray,∃fk:Bool,e=.returned (.agg #[.int .i64 k,.int .i64 f,.int .u64 c,.string x,.bool fk])∧((⟨k,f,c,x,fk⟩:Sp.Letter)=(Sp.zT L t).1∧ReaderAt w' r p (bad || (Sp.zT L t).2) L F∧Ext (·=r.block) w w')):=by
 suffices key:∀K:Int→Int→Int→ByteArray→Bool→WP,(∀k f c x fk w',((⟨k,f,c,x,fk⟩:Sp.Letter)=(Sp.zT L t).1∧ReaderAt w' r p (bad || (Sp.zT L t).2) L F∧Ext (·=r.block) w w')→K k f c x fk w')→m_L (some r) t w K from
  w_L _ _ w _ (key _ (fun _ _ _ _ _ _ h=>h))
 intro K hK
 unfold m_L
 intro p1 w1 h1
 have E1:Pure w w1:=Ext.new h1
 have o1:=New.own (Ext.refl w) h1
 have lr:=hR.box.lt
 have b1:=Box.of_new h1
 refine ⟨r,rfl,p,(hR.box.pure E1).cell0,?_⟩
 refine (jJL p t w1 (hR.pool.pure E1) hR.ok).mono ?_
 rintro _ w2 ⟨k,f,t',u,x,a,b,ok,rfl,⟨hn,hok⟩,E12⟩
 refine ⟨_,_,_,_,_,_,_,_,rfl,?_⟩
 intro p2 w3 h3
 have E2:Pure w w2:=E1.trans E12
 have o3:=New.own E2 h3
 have n12:p1.block≠p2.block:=New.ne h3 (b1.pure E12).blk
 refine bx 7 (Box.of_new h3) rfl rfl (fun w4 b2 E'=>?_)
 have E4:Pure w w4:=(E2.trans (Ext.new h3)).own o3 E'
 have c1:=((b1.pure E12).pure (Ext.new h3)).ext E' n12
 have hR4:=hR.pure E4
 clear E' E2 E12 b1 h1 h3
 have n1r:p1.block≠r.block:=by omega
 have hsp:Sp.zT L t=if (k≠8∧k≠9)∨1<f∨t'≠IntKind.i64.wrap (1 - f) then (Sp.yG,true) else (⟨1,f,(Sp.vW L a).1.1,(Sp.vW L a).1.2,k == 9⟩,(Sp.vW L a).2):=by
  simp only [Sp.zT,← hn]
 have bad1 : ((k ≠ 8 ∧ k ≠ 9) ∨ 1 < f ∨ t' ≠ IntKind.i64.wrap (1 - f)) → vF w4 (r.add 1) ∧ ∀ w5 : World, w5 = w4.setCell (r.add 1) (.bool true) →
   (∀j,j<5→vF w5 (p1.add j))∧∀w6:World,w6=storeRow w5 p1 [(.int .i64 0),(.int .i64 0),(.int .u64 0),(.string (⟨#[]⟩:ByteArray)),(.bool false)] →
   ∃qKind1:Int,∃qFrom1:Int,∃qC1:Int,∃qText1:ByteArray,∃qFake1:Bool,Row w6 p1 [(.int .i64 qKind1),(.int .i64 qFrom1),(.int .u64 qC1),(.string qText1),(.bool qFake1)] ∧
   K qKind1 qFrom1 qC1 qText1 qFake1 w6:=by
  intro hc
  rw [if_pos hc] at hsp
  refine ⟨hR4.box.canW (by simp),?_⟩
  intro w5 hw5
  have d5:Box w5 r [.pointer p,.bool true] 182:=by rw [hw5];exact hR4.box.set 1 _
  have E5:Ext (·=r.block) w4 w5:=by rw [hw5];have:=Ext.setCell (w:=w4) (r.add 1) (.bool true);rw [zW] at this;exact this
  clear hw5
  refine bx 5 (c1.ext E5 n1r) rfl rfl (fun w6 b6 E6=>⟨0,0,0,⟨#[]⟩,false,b6.row,hK _ _ _ _ _ _ ⟨by rw [hsp];rfl,⟨?_,?_,hR.ok,hR.out⟩,?_⟩⟩)
  ·rw [hsp];simp only [Bool.or_true];exact d5.ext E6 n1r.symm
  ·exact (hR4.pool.ext E5 (fun b hb e=>hR.out (e▸hb))).ext E6 (fun b hb e=>by have:=hR.pool.lt hb;omega)
  ·exact (E4.pure.trans E5).trans' E6 (fun i hi h=>by omega)
 have J1:¬ ((k≠8∧k≠9)∨1<f∨t'≠IntKind.i64.wrap (1 - f))→m_L_j1 (some r) p1 p2 w4 K:=by
  intro hc;rw [if_neg hc] at hsp;unfold m_L_j1;refine ⟨a,b2.cell rfl,?_⟩;refine (jHZ r p a bad w4 hR4).mono ?_;rintro _ w5 ⟨c,y,rfl,hd,hR5,E5⟩;have d2:=b2.ext E5 (by omega);have d1:=c1.ext E5 n1r;have ec:c=(Sp.vW L a).1.1:=congrArg Prod.fst hd;have ey:y=(Sp.vW L a).1.2:=congrArg Prod.snd hd;refine ⟨_,_,rfl,f,d2.cell rfl,k,d2.cell0,bx 5 d1 rfl rfl (fun w6 b6 E6=>⟨1,f,c,y,k == 9,b6.row,hK _ _ _ _ _ _ ⟨?_,?_,?_⟩⟩)⟩
  ·rw [hsp];simp only [← ec,← ey]
  ·rw [hsp];exact ⟨hR5.box.ext E6 n1r.symm,hR5.pool.ext E6 (fun b hb e=>by have:=hR.pool.lt hb;omega),hR.ok,hR.out⟩
  ·exact (E4.pure.trans E5).trans' E6 (fun i hi h=>by omega)
 have J3:∀x2,x2=((k != 8 && k != 9) || decide (1<f))→m_L_j3 (some r) p1 p2 x2 w4 K:=by
  intro x2 hx;unfold m_L_j3;refine ⟨fun h=>⟨r,rfl,bad1 ?_⟩,fun h=>⟨t',b2.cell rfl,f,b2.cell rfl,fun h2=>⟨r,rfl,bad1 ?_⟩,fun h2=>J1 ?_⟩⟩
  ·rw [h] at hx;have hx:=hx.symm;simp at hx;rcases hx with hx | hx
   ·exact .inl hx
   ·exact .inr (.inl hx)
  ·exact .inr (.inr (by simpa using h2))
  ·rw [h] at hx;have hx:=hx.symm;simp only [Bool.or_eq_false_iff,decide_eq_false_iff_not] at hx;rintro (h3 | h3 | h3)
   ·have:=hx.1;simp [h3.1,h3.2] at this
   ·exact hx.2 h3
   ·have h2:t'=IntKind.i64.wrap (1 - f):=by simpa using h2
    exact h3 h2
 have J2:∀x1,x1=(k != 8 && k != 9)→m_L_j2 (some r) p1 p2 x1 w4 K:=by
  intro x1 hx;unfold m_L_j2;exact ⟨fun h=>J3 _ (by rw [← hx,h];rfl),fun h=>⟨f,b2.cell rfl,J3 _ (by rw [← hx,h];rfl)⟩⟩
 exact ⟨k,b2.cell0,fun h=>⟨k,b2.cell0,J2 _ (by rw [h];rfl)⟩,fun h=>J2 _ (by rw [h];rfl)⟩
end Go.Proofs
end
