import Derived.Test.YtodiipjdnnnieaaGreatPa3
import Derived.Test.YtodiipjdnnnieaaGreatProg
import Derived.KernelRfl
import Derived.RangeFuncSeq
import Derived.RangeFuncIn
section
open Go Go.SE
namespace Go.Proofs
attribute [local irreducible] Calls
def jGY (v:Value):Prop:=∃n,v=jDG n
theorem jEX {n n':Sp.Node}:jDG n=jDG n'↔n=n':=by
 constructor
 ·intro h;cases n;cases n';simp [jDG,jBF] at h;simp [h]
 ·rintro rfl;rfl
theorem jEU (n:Sp.Node):Instr.sameBits 10000 (jDG n) (jDG n)=true:=by
 have h:∀d,Instr.sameBits (d+1) (jDG n) (jDG n)=true:=fun d=>by
  have e:(n.text == n.text)=true:=by rw [beq_toListBytes];simp
  cases d <;> simp [Instr.sameBits,jDG,jBF,e]
 exact h 9999
theorem jBM:KeyOK Tryz.prog 176 jGY:=by
 refine KeyOK.of_struct Tryz.underlying176 ?_ ?_ ?_
 ·rintro _ ⟨n,rfl⟩ em w;kernel_rfl
 ·rintro _ _ w ⟨n,rfl⟩ ⟨n',rfl⟩;refine ⟨decide (n=n'),?_,by simp only [jEX,decide_eq_true_eq];exact eq_comm⟩;obtain ⟨k,f,t,u,x,a,b⟩:=n;obtain ⟨k',f',t',u',x',a',b'⟩:=n';simp [Op.equal,Op.maxDepth,go_sem,jER,jDG,jBF]
  repeat' split
  all_goals simp_all
 ·rintro _ ⟨n,rfl⟩;exact jEU n
theorem jCS:SlType Tryz.prog 166 250 9 (16*5):=by
 refine ⟨Tryz.underlying166,⟨Tryz.t250,_,by kernel_rfl,(by kernel_rfl:Tryz.t250.zero=some (.agg #[.int .i64 0,.int .i64 0,.int .i64 0,.int .u64 0,.string ⟨#[]⟩,.int .i64 0,.int .i64 0,.int .i64 0,.int .i64 0])),by kernel_rfl,by kernel_rfl,rfl⟩,by omega⟩
theorem jNC {L:Sp.Pool} {i:Nat} {n:Sp.Node} {v:Value} (h:(xY L)[i]?=some (jDG n,v)):∃e,L[i]?=some e∧e.node=n∧v=.int .i64 (i+1:Nat):=by
 simp only [xY,List.getElem?_map,List.getElem?_zipIdx,Option.map_map,Option.map_eq_some_iff] at h;obtain ⟨e,he,h⟩:=h;simp only [Function.comp,Prod.mk.injEq] at h;exact ⟨e,he,jEX.1 h.1,by rw [← h.2];simp⟩
theorem jNB {L:Sp.Pool} {n:Sp.Node} (h:∀q∈xY L,q.1≠jDG n):∀e∈L,e.node≠n:=by
 intro e he hn;obtain ⟨i,hi,rfl⟩:=List.mem_iff_getElem.1 he;refine h (jDG L[i].node,.int .i64 (i+1:Nat)) ?_ (by rw [hn]);exact List.mem_map.2 ⟨(L[i],i),by rw [List.mem_zipIdx_iff_getElem?];simp [hi],rfl⟩
theorem jDC {L:Sp.Pool}:∀q∈xY L,jGY q.1:=by
 intro q hq;obtain ⟨x,_,rfl⟩:=List.mem_map.1 hq;exact ⟨_,rfl⟩
theorem jKY (L:Sp.Pool) (e:Sp.Ent):xY (L++[e])=xY L++[(jDG e.node,.int .i64 (L.length+1:Nat))]:=by
 simp [xY,List.zipIdx_append]
theorem jPC {L:Sp.Pool} (hok:Sp.Ok L) {i:Nat} {e:Sp.Ent} (h:L[i]?=some e):Sp.find L e.node=some i:=by
 obtain ⟨hi,rfl⟩:=List.getElem?_eq_some_iff.1 h;unfold Sp.find;rw [List.findIdx?_eq_some_iff_getElem];refine ⟨hi,by simp,fun j hj=>?_⟩;have hnd:=hok.nodup;simp only [decide_eq_true_eq];intro e;exact List.pairwise_iff_getElem.1 hnd j i (by simp;omega) (by simpa using hi) hj (by simpa using e)
theorem jGC {L:Sp.Pool} {n:Sp.Node} (h:∀e∈L,e.node≠n):Sp.find L n=none:=by
 unfold Sp.find;rw [List.findIdx?_eq_none_iff];intro e he;simpa using h e he
theorem jJF (p:Addr) (k f t u:Int) (x:ByteArray) (a b:Int) (w:World) {L:Sp.Pool} {F:NP} (hP:vE w p L F) (hok:Sp.Ok L) :
  Calls Tryz.prog 161 #[.pointer (some p),.agg #[.int .i64 k,.int .i64 f,.int .i64 t,.int .u64 u,.string x,.int .i64 a,.int .i64 b]] w
   (fun e w'=>∃r1:Int,∃r2:Int,e=.returned (.tuple #[.int .i64 r1,.int .i64 r2])∧((r1,r2)=((Sp.make L ⟨k,f,t,u,x,a,b⟩).1,(Sp.make L ⟨k,f,t,u,x,a,b⟩).2.1)∧∃F',vE w' p (Sp.make L ⟨k,f,t,u,x,a,b⟩).2.2 F'∧Ext F w w'∧∀b,F' b→F b∨w.heap.size≤b)):=by
 suffices key:∀K:Int→Int→WP,(∀r1 r2 w',((r1,r2)=((Sp.make L ⟨k,f,t,u,x,a,b⟩).1,(Sp.make L ⟨k,f,t,u,x,a,b⟩).2.1)∧∃F',vE w' p (Sp.make L ⟨k,f,t,u,x,a,b⟩).2.2 F'∧Ext F w w'∧∀b,F' b→F b∨w.heap.size≤b)→K r1 r2 w')→m_C2 (some p) k f t u x a b w K from
  w_C2 _ _ _ _ _ _ _ _ w _ (key _ (fun _ _ _ h=>h))
 intro K hK
 unfold m_C2
 intro p2 w1 h1
 have b1:=Box.of_new h1
 have E1:Pure w w1:=Ext.new h1
 have o2:¬ F p2.block:=fun h=>by have:=hP.lt h;have:=h1.at_size;omega
 refine Br.f rfl ⟨_,_,_,_,_,_,_,b1.row,?_⟩
 refine (jPG p k f t u x a b w1 (hP.pure E1) hok).mono ?_
 rintro _ w2 ⟨sz,dp,er,rfl,hck,E2⟩
 refine ⟨_,_,_,rfl,?_⟩
 generalize hn:(⟨k,f,t,u,x,a,b⟩:Sp.Node)=n at *
 have E3:Pure w w2:=E1.trans E2
 have same:∀w',Pure w w'→∃F',vE w' p L F'∧Ext F w w'∧∀b,F' b→F b∨w.heap.size≤b:=fun w' E=>⟨F,hP.pure E,E.pure,fun _ h=>.inl h⟩
 refine ⟨fun h=>hK _ _ _ ?_,fun h=>?_⟩
 ·have he:er≠0:=by simpa using h
  have:Sp.make L n=(0,er,L):=by unfold Sp.make;simp [← hck,he]
  rw [this];exact ⟨rfl,same _ E3⟩
 ·have he:er=0:=by simpa using h
  subst he
  intro w3 hw3
  have E4:Pure w w3:=by rw [hw3];exact E3.trans (Ext.drew w2)
  have b3:=(b1.pure E2).pure (show Pure w2 w3 by rw [hw3];exact Ext.drew w2)
  clear hw3
  obtain ⟨s,m,hS,hF⟩:=hP.pure E4
  refine ⟨p,rfl,_,hS.box.cell (i:=1) rfl,_,_,_,_,_,_,_,b3.row,?_⟩
  have hkey:(Value.agg #[.int .i64 k,.int .i64 f,.int .i64 t,.int .u64 u,.string x,.int .i64 a,.int .i64 b])=jDG n:=by rw [← hn];rfl
  rw [hkey]
  rcases hS.map.lookup (P:=Tryz.prog) (T:=167) (E:=78) Tryz.underlying167 jBM jDC ⟨n,rfl⟩ (Tryz.zeroValue78 _) true with ⟨hnot,hrun⟩ | ⟨i,v,hi,hrun⟩
  ·refine ⟨_,_,hrun,Br.f rfl ⟨p,rfl,s,hS.box.cell0,?_⟩⟩
   have hno:=jNB hnot
   have hfn:=jGC hno
   have hlen:(s.len:Int)=L.length:=by rw [hS.rows.len];simp
   refine ⟨fun h=>hK _ _ _ ?_,fun h=>?_⟩
   ·have h2:65536≤L.length:=by have h:=of_decide_eq_true h;omega
    have:Sp.make L n=(0,6,L):=by unfold Sp.make;simp [← hck,hfn,h2]
    rw [this];exact ⟨rfl,same _ E4⟩
   ·have h2:¬ 65536≤L.length:=by have h:=of_decide_eq_false h;omega
    have hmk:Sp.make L n=((L.length:Int)+1,0,L++[⟨n,sz,dp⟩]):=by unfold Sp.make;simp [← hck,hfn,h2]
    refine ⟨fun w'=>w'.cell? p=some s.v∧Row w' p2 (jBF n),⟨?_,?_⟩,?_⟩
    ·exact Ext.cell (F:=None) (Ext.drew w3) hS.box.cell0 id
    ·rw [← hn];exact Ext.row (F:=None) (Ext.drew w3) b3.row id
    intro w4 hw4
    have E5:Pure w3 w4:=by rw [hw4];exact Ext.drew w3
    clear hw4
    have hS4:PoolS w4 p L s m:=by
     exact ⟨hS.box.pure E5,hS.rows.pure E5,hS.map.ext E5 id,hS.n1,hS.n2,hS.n3⟩
    have b4:=b3.pure E5
    refine ⟨p,rfl,s,fun w' h=>h.1,k,f,t,u,x,a,b,fun w' h=>by have:=h.2;rw [← hn] at this;exact this,?_⟩
    intro p3 w5 h5
    have E6:Pure w4 w5:=Ext.new h5
    have o3:w.heap.size≤p3.block:=New.own (E4.trans E5) h5
    have b5:=Box.of_new h5
    have hrows5:=hS4.rows.pure E6
    have hbox5:=hS4.box.pure E6
    have hmap5:CMap w5 m (xY L):=hS4.map.ext E6 id
    have b45:=b4.pure E6
    have hrow:Row w5 p3 (jKD ⟨n,sz,dp⟩):=by rw [← hn];exact b5.row
    refine ⟨⟨hbox5.cell0,by rw [← hn];exact b45.row⟩,?_⟩
    obtain ⟨s1,w6,hr6,hrows6,E7,hb6⟩:=hrows5.append (P:=Tryz.prog) (ty:=166) jCS (c:=1) hrow (by simp [jKD,jBF]) (by simp [jKD,jBF,qG]) (by simp;omega) (by simp [maxLen];omega)
    have nb:∀b,s.blk b→b≠p2.block:=fun b hb e=>o2 (by rw [← e];exact (hF b).2 (.inr (.inl hb)))
    have hbox6:=hbox5.ext E7 hS.n2
    have hmap6:=hmap5.ext E7 hS.n3
    have b6:=b45.ext E7 (fun h=>nb _ h rfl)
    refine ⟨s1,w6,hr6,⟨hbox6.cell0,by rw [← hn];exact b6.row⟩,p,rfl,hbox6.canW0 (by simp),?_⟩
    intro w7 hw7
    have hbox7:Box w7 p [s1.v,.map (some m)] 169:=by rw [hw7];exact hbox6.set0
    have E8:Ext (·=p.block) w6 w7:=by rw [hw7];exact Ext.setCell p _
    clear hw7
    have hs1p:¬ s1.blk p.block:=fun h=>(hb6 _ h).elim hS.n2 (fun h=>by have:=hbox5.lt;omega)
    have hs1m:¬ s1.blk m:=fun h=>(hb6 _ h).elim hS.n3 (fun h=>by have:=hmap5.lt;omega)
    have hrows7:=hrows6.ext E8 (fun b hb e=>hs1p (by rw [← e];exact hb))
    have hmap7:=hmap6.ext E8 hS.n1
    have b7:=b6.ext E8 (fun e=>o2 (by rw [e];exact (hF _).2 (.inl rfl)))
    have hl1:(s1.len:Int)=L.length+1:=by rw [hrows6.len];simp
    refine ⟨p,rfl,s1,hbox7.cell0,?_⟩
    refine ⟨fun w'=>w'.cell? (p.add 1)=some (.map (some m))∧Row w' p2 (jBF n),⟨?_,?_⟩,?_⟩
    ·exact Ext.cell (F:=None) (Ext.drew w7) (hbox7.cell (i:=1) rfl) id
    ·rw [← hn];exact Ext.row (F:=None) (Ext.drew w7) b7.row id
    intro w8 hw8
    have E9:Pure w7 w8:=by rw [hw8];exact Ext.drew w7
    clear hw8
    refine ⟨p,rfl,some m,fun w' h=>h.1,k,f,t,u,x,a,b,fun w' h=>by have:=h.2;rw [← hn] at this;exact this,?_⟩
    rw [hkey,hl1]
    have hmap8:CMap w8 m (xY L):=hmap7.ext E9 id
    obtain ⟨w9,hr9,hmap9,E10⟩:=hmap8.insert (P:=Tryz.prog) (v:=.int .i64 ((L.length:Int)+1)) Tryz.underlying167 jBM jDC ⟨n,rfl⟩ hnot
    refine ⟨w9,hr9,hK _ _ _ ?_⟩
    rw [hmk]
    have hbox9:=(hbox7.pure E9).ext E10 (fun e=>hS.n1 e.symm)
    have hrows9:=(hrows7.pure E9).ext E10 (fun b hb e=>hs1m (by rw [← e];exact hb))
    refine ⟨rfl,fun b=>b=p.block∨s1.blk b∨b=m,⟨s1,m,⟨hbox9,?_,?_,hS.n1,hs1p,hs1m⟩,fun _=>Iff.rfl⟩,?_,?_⟩
    ·simpa using hrows9
    ·rw [jKY];simpa using hmap9
    ·have hF':∀b,F b↔(b=p.block∨s.blk b∨b=m):=hF
     have Ea:Ext F w w5:=((E4.trans E5).trans E6).pure
     have Eb:Ext F w w6:=Ea.trans' E7 (fun i _ h=>(hF' i).2 (.inr (.inl h)))
     have Ec:Ext F w w7:=Eb.trans' E8 (fun i _ h=>(hF' i).2 (.inl h))
     have Ed:Ext F w w8:=Ec.thenPure E9
     exact Ed.trans' E10 (fun i _ h=>(hF' i).2 (.inr (.inr h)))
    ·intro b hb
     rcases hb with rfl | hb | rfl
     ·exact .inl ((hF _).2 (.inl rfl))
     ·rcases hb6 b hb with h | h
      ·exact .inl ((hF _).2 (.inr (.inl h)))
      ·right;have:=((E4.trans E5).trans E6).size;omega
     ·exact .inl ((hF _).2 (.inr (.inr rfl)))
  ·obtain ⟨e,he,hen,rfl⟩:=jNC hi
   refine ⟨_,_,hrun,Br.t rfl (hK _ _ _ ?_)⟩
   have hfd:=jPC hok he
   rw [hen] at hfd
   have:Sp.make L n=((i:Int)+1,0,L):=by unfold Sp.make;simp [← hck,hfd]
   rw [this];exact ⟨by simp,same _ E4⟩
end Go.Proofs
end
section
namespace Go.Sp
inductive Tree where
 | mk (k f t u:Int) (x:ByteArray) (kids:List Tree)
def Tree.kids:Tree→List Tree | .mk _ _ _ _ _ ks=>ks
def Tree.node:Tree→Node | .mk k f t u x _=>⟨k,f,t,u,x,0,0⟩
theorem Tree.ind {P:Tree→Prop} (h:∀k f t u x (ks:List Tree),(∀i (hi:i<ks.length),P ks[i])→P (.mk k f t u x ks)) (t:Tree):P t:=by
 refine Tree.rec (motive_1:=P) (motive_2:=fun ks=>∀i (hi:i<ks.length),P ks[i]) ?_ ?_ ?_ t
 ·intro k f t u x ks ih;exact h _ _ _ _ _ _ ih
 ·intro i hi;simp at hi
 ·intro t ks ht hks i hi;cases i with
  | zero=>exact ht
  | succ i=>exact hks i (by simpa using hi)
def xO (n:Node) (len:Nat):Int :=
 let e:=if vM n=0 then if (len:Int)≠(shapeOf n.kind).kids then 53 else 0 else vM n
 if e=0 then vJ (shapeOf n.kind) n else e
mutual
def qY (inside seen:Int):Tree→Int×Int
 | .mk k f t u x ks=>if 4096≤seen then (52,seen) else if 64≤inside then (52,seen) else qA (inside+1) (xO ⟨k,f,t,u,x,0,0⟩ ks.length) (seen+1) ks
def qA (inside e seen:Int):List Tree→Int×Int
 | []=>(e,seen)
 | t :: ts=>if e=0 then qA inside (qY inside seen t).1 (qY inside seen t).2 ts else (e,seen)
end
mutual
def grow (L:Pool):Tree→Int×Int×Pool
 | .mk k f t u x ks=>vV ⟨k,f,t,u,x,0,0⟩ 0 L ks
def vV (n:Node) (i:Nat) (L:Pool):List Tree→Int×Int×Pool
 | []=>make L n
 | t :: ts=>if (grow L t).2.1≠0 then (0,(grow L t).2.1,(grow L t).2.2) else vV (if i=0 then { n with a:=(grow L t).1 } else { n with b:=(grow L t).1 }) (i+1) (grow L t).2.2 ts
end
def of (L:Pool) (t:Tree):Int×Int×Pool :=
 if (qY 0 0 t).1≠0 then (0,(qY 0 0 t).1,L)
 else if (grow L t).2.1≠0 then (0,(grow L t).2.1,L) else ((grow L t).1,0,(grow L t).2.2)
theorem jJO (L:Pool) (n:Node):∃M,(make L n).2.2=L++M:=by
 unfold make;simp only;by_cases hc:(check L n).2.2=0
 ·simp only [hc];rw [if_neg (by simp)];split
  ·exact ⟨[],by simp⟩
  ·split
   ·exact ⟨[],by simp⟩
   ·exact ⟨_,rfl⟩
 ·rw [if_pos hc];exact ⟨[],by simp⟩
theorem jNM {L:Pool} {n:Node} (hok:Ok L) (h:(check L n).2.2=0):1≤(check L n).1∧(check L n).1≤4096∧1≤(check L n).2.1∧(check L n).2.1≤64:=by
 unfold check at h ⊢;simp only at h ⊢;by_cases h1:vM n≠0
 ·rw [if_pos h1] at h;exact absurd h h1
 rw [if_neg h1] at h ⊢;split at h
 ·simp at h
 rename_i h2;rw [if_neg h2];by_cases h3:vJ (shapeOf n.kind) n≠0
 ·rw [if_pos h3] at h;exact absurd h h3
 rw [if_neg h3] at h ⊢;split at h
 ·simp at h
 rename_i h4;rw [if_neg h4];split at h
 ·simp at h
 rename_i h5;rw [if_neg h5];have hs:∀l:List Int,0≤(l.map (sizeOf L)).sum:=by
  intro l;induction l with
  | nil=>simp
  | cons y l ih=>have:=hok.sizeOf y;simp only [List.map_cons,List.sum_cons];omega
 have hd:∀(l:List Int) (d:Int),0≤d→0≤l.foldl (fun d t=>max d (depthOf L t)) d:=by
  intro l;induction l with
  | nil=>intro d h;exact h
  | cons y l ih=>intro d h;exact ih (max d (depthOf L y)) (by omega)
 have:=hs (vD n);have:=hd (vD n) 0 (by omega);simp only;omega
theorem jDI {L:Pool} (hok:Ok L) (n:Node):Ok (make L n).2.2:=by
 by_cases hc:(check L n).2.2=0
 ·have:=jNM hok hc;unfold make;simp only [hc];rw [if_neg (by simp)];split
  ·exact hok
  ·rename_i hf;split
   ·exact hok
   ·rename_i hl;refine ⟨by simp;omega,?_,?_,?_⟩
    ·rw [List.map_append,List.nodup_append];refine ⟨hok.nodup,by simp,?_⟩;intro a ha b hb;simp only [List.map_cons,List.map_nil,List.mem_singleton] at hb;subst hb;obtain ⟨e,he,rfl⟩:=List.mem_map.1 ha;unfold find at hf;rw [List.findIdx?_eq_none_iff] at hf;simpa using hf e he
    ·intro e he;rcases List.mem_append.1 he with h | h
     ·exact hok.size e h
     ·simp only [List.mem_singleton] at h;subst h;simp;omega
    ·intro e he;rcases List.mem_append.1 he with h | h
     ·exact hok.depth e h
     ·simp only [List.mem_singleton] at h;subst h;simp;omega
 ·unfold make;simp only;rw [if_pos hc];exact hok
theorem tW (t:Tree):∀L,Ok L→Ok (grow L t).2.2∧∃M,(grow L t).2.2=L++M:=by
 induction t using Tree.ind with
 | h k f t u x ks ih =>
  have:∀(ks:List Tree),(∀i (hi:i<ks.length),∀L,Ok L→Ok (grow L ks[i]).2.2∧∃M,(grow L ks[i]).2.2=L++M)→∀n i L,Ok L→Ok (vV n i L ks).2.2∧∃M,(vV n i L ks).2.2=L++M:=by
   intro ks;induction ks with
   | nil=>intro _ n i L h;unfold vV;exact ⟨jDI h n,jJO L n⟩
   | cons t ts iht =>
    intro hh n i L h
    have h0:=hh 0 (by simp) L h
    simp only [List.getElem_cons_zero] at h0
    unfold vV
    split
    ·exact h0
    ·obtain ⟨ho,M,hM⟩:=h0
     have:=iht (fun i hi=>hh (i+1) (by simpa using hi)) (if i=0 then { n with a:=(grow L t).1 } else { n with b:=(grow L t).1 }) (i+1) (grow L t).2.2 ho
     refine ⟨this.1,?_⟩
     obtain ⟨M2,hM2⟩:=this.2
     exact ⟨M++M2,by rw [hM2,hM,List.append_assoc]⟩
  intro L h
  unfold grow
  exact this ks ih _ _ L h
def isNum (n:Int):Prop:=0≤n∧n<18446744073709551616
inductive NumT:Tree→Prop
 | mk (k f t u:Int) (x:ByteArray) (ks:List Tree) (own:isNum u) (kids:∀i (hi:i<ks.length),NumT ks[i]):NumT (.mk k f t u x ks)
end Go.Sp
end
section
open Go Go.SE
namespace Go.Proofs
attribute [local irreducible] Calls
def yL (t:Sp.Tree) (s:Sl):List Value:=[.int .i64 t.node.kind,.int .i64 t.node.frm,.int .i64 t.node.to,.int .u64 t.node.num,.string t.node.text,s.v]
inductive TreeAt (S:NP) (w:World):Sl→Sp.Tree→Prop
 | mk (k f t u : Int) (x : ByteArray) (ks : List Sp.Tree) (s : Sl) (rs : Nat → Sl) (len : s.len = ks.length) (fit : ks.length ≤ 9223372036854775807)
   (row:∀i (h:i<ks.length),∃a,At s i 6 a∧S a.block∧Row w a (yL ks[i] (rs i))) (kid:∀i (h:i<ks.length),TreeAt S w (rs i) ks[i]):TreeAt S w s (.mk k f t u x ks)
theorem TreeAt.ext {S F:NP} {w w':World} {s:Sl} {t:Sp.Tree} (h:TreeAt S w s t) (hE:Ext F w w') (hd:∀b,S b→¬ F b):TreeAt S w' s t:=by
 induction h with
 | mk k f t u x ks s rs len fit row kid ih =>
  exact .mk k f t u x ks s rs len fit (fun i h=>let ⟨a,h1,h2,h3⟩:=row i h;⟨a,h1,h2,hE.row h3 (hd _ h2)⟩) ih
theorem TreeAt.pure {S:NP} {w w':World} {s:Sl} {t:Sp.Tree} (h:TreeAt S w s t) (hE:Pure w w'):TreeAt S w' s t:=h.ext hE (fun _ _ h=>h)
theorem TreeAt.mono {S S':NP} {w:World} {s:Sl} {t:Sp.Tree} (h:TreeAt S w s t) (hd:∀b,S b→S' b):TreeAt S' w s t:=by
 induction h with
 | mk k f t u x ks s rs len fit row kid ih =>
  exact .mk k f t u x ks s rs len fit (fun i h=>let ⟨a,h1,h2,h3⟩:=row i h;⟨a,h1,hd _ h2,h3⟩) ih
theorem TreeAt.lt {S:NP} {w:World} {s:Sl} {t:Sp.Tree} (h:TreeAt S w s t):TreeAt (fun b=>S b∧b<w.heap.size) w s t:=by
 induction h with
 | mk k f t u x ks s rs len fit row kid ih =>
  refine .mk k f t u x ks s rs len fit (fun i h=>let ⟨a,h1,h2,h3⟩:=row i h;⟨a,h1,⟨h2,?_⟩,h3⟩) ih
  have:=h3 0 (by simp [yL])
  unfold World.cell? at this
  refine Classical.byContradiction fun hge=>?_
  have:w.heap[(a.add 0).block]?=none:=by rw [zX];exact Array.getElem?_eq_none (by omega)
  simp_all [yL]
theorem jIY (k f t u:Int) (x:ByteArray) (s:Sl) (w:World) :
  Calls Tryz.prog 200 #[.agg #[.int .i64 k,.int .i64 f,.int .i64 t,.int .u64 u,.string x,s.v]] w
   (fun e w'=>∃k':Int,∃f':Int,∃t':Int,∃u':Int,∃x':ByteArray,∃a:Int,∃b:Int,e=.returned (.agg #[.int .i64 k',.int .i64 f',.int .i64 t',.int .u64 u',.string x',.int .i64 a,.int .i64 b])∧((⟨k',f',t',u',x',a,b⟩:Sp.Node)=⟨k,f,t,u,x,0,0⟩∧Pure w w')):=by
 refine w_W2 _ _ _ _ _ _ w (fun k' f' t' u' x' a b w'=>(⟨k',f',t',u',x',a,b⟩:Sp.Node)=⟨k,f,t,u,x,0,0⟩∧Pure w w') ?_
 unfold m_W2
 intro p1 w1 h1 p2 w2 h2
 have E1:Pure w w1:=Ext.new h1
 have b1:=(Box.of_new h1).pure (Ext.new h2)
 refine ⟨_,b1.cell0,_,b1.cell rfl,_,b1.cell rfl,_,b1.cell rfl,_,b1.cell rfl,?_⟩
 exact bx 7 (Box.of_new h2) rfl rfl (fun w' b E=>⟨_,_,_,_,_,_,_,b.row,rfl,(E1.trans (Ext.new h2)).own (New.own E1 h2) E⟩)
theorem jEC (t:Sp.Tree):∀i n:Int,0≤n→0≤(Sp.qY i n t).2:=by
 induction t using Sp.Tree.ind with
 | h k f t u x ks ih =>
  have:∀(ks:List Sp.Tree),(∀i (hi:i<ks.length),∀j n:Int,0≤n→0≤(Sp.qY j n ks[i]).2)→∀i e n:Int,0≤n→0≤(Sp.qA i e n ks).2:=by
   intro ks;induction ks with
   | nil=>intro _ i e n h;simpa [Sp.qA] using h
   | cons t ts iht =>
    intro hh i e n h
    unfold Sp.qA
    split
    ·exact iht (fun i hi=>hh (i+1) (by simpa using hi)) _ _ _ (hh 0 (by simp) i n h)
    ·exact h
  intro i n h
  unfold Sp.qY
  split
  ·exact h
  ·split
   ·exact h
   ·exact this ks ih _ _ _ (by omega)
theorem jAY {ks:List Sp.Tree} {j:Nat} (hj:j<ks.length) (i n:Int):Sp.qA i 0 n (ks.drop j)=Sp.qA i (Sp.qY i n ks[j]).1 (Sp.qY i n ks[j]).2 (ks.drop (j+1)):=by
 rw [List.drop_eq_getElem_cons hj,Sp.qA,if_pos rfl]
theorem jBU {ks:List Sp.Tree} {e:Int} (h:e≠0) (i n:Int):Sp.qA i e n ks=(e,n):=by
 cases ks <;> simp [Sp.qA,h]
theorem jPE {S:NP} (q:Addr) (hq:¬ S q.block) (T:TypeId) (t:Sp.Tree):∀(s:Sl) (inside seen:Int) (w:World),0≤inside→0≤seen→TreeAt S w s t→Box w q [.int .i64 seen] T →
  Calls Tryz.prog 144 #[.agg (yL t s).toArray,.int .i64 inside,.pointer (some q)] w
   (fun e w'=>∃r:Int,e=.returned (.int .i64 r)∧(r=(Sp.qY inside seen t).1∧Box w' q [.int .i64 (Sp.qY inside seen t).2] T∧Ext (·=q.block) w w')):=by
 induction t using Sp.Tree.ind with
 | h k f t u x ks ih =>
 intro s inside seen w hi0 hn0 hT hB
 suffices key:∀K:Int→WP,(∀r w',(r=(Sp.qY inside seen (.mk k f t u x ks)).1∧Box w' q [.int .i64 (Sp.qY inside seen (.mk k f t u x ks)).2] T∧Ext (·=q.block) w w')→K r w')→m_I k f t u x s inside (some q) w K from
  w_I _ _ _ _ _ _ _ _ w _ (key _ (fun _ _ h=>h))
 intro K hK
 unfold m_I
 intro p1 w1 h1
 have b1:=Box.of_new h1
 have E1:Pure w w1:=Ext.new h1
 have n1:q.block≠p1.block:=New.ne h1 hB.blk
 have hB1:=hB.pure E1
 have hT1:=hT.pure E1
 refine ⟨q,rfl,seen,hB1.cell0,fun h=>?_,fun h=>⟨fun h'=>?_,fun h'=>?_⟩⟩
 ·have h:=of_decide_eq_true h
  have:Sp.qY inside seen (.mk k f t u x ks)=(52,seen):=by rw [Sp.qY,if_pos (by omega)]
  rw [this] at hK;exact hK _ _ ⟨rfl,hB1,E1.pure⟩
 ·have h:=of_decide_eq_false h;have h':=of_decide_eq_true h'
  have:Sp.qY inside seen (.mk k f t u x ks)=(52,seen):=by rw [Sp.qY,if_neg (by omega),if_pos (by omega)]
  rw [this] at hK;exact hK _ _ ⟨rfl,hB1,E1.pure⟩
 have h:=of_decide_eq_false h;have h':=of_decide_eq_false h'
 have hsp:Sp.qY inside seen (.mk k f t u x ks)=Sp.qA (inside+1) (Sp.xO ⟨k,f,t,u,x,0,0⟩ ks.length) (seen+1) ks:=by rw [Sp.qY,if_neg (by omega),if_neg (by omega)]
 rw [hsp] at hK
 unfold m_I_j1
 refine ⟨q,rfl,seen,hB1.cell0,q,rfl,hB1.canW0 (by simp),?_⟩
 rw [i64 (n:=seen+1) (by omega) (by omega)]
 intro w2 hw2
 have hB2:Box w2 q [.int .i64 (seen+1)] T:=by rw [hw2];exact hB1.set0
 have E12:Ext (·=q.block) w1 w2:=by rw [hw2];exact Ext.setCell q _
 clear hw2
 have b2:=b1.ext E12 (fun e=>n1 e.symm)
 have hT2:=hT1.ext E12 (fun b hb e=>hq (e▸hb))
 have E2:Ext (·=q.block) w w2:=E1.pure.trans E12
 refine ⟨_,_,_,_,_,_,b2.row,?_⟩
 refine (jIY _ _ _ _ _ _ w2).mono ?_
 rintro _ w3 ⟨k',f',t',u',x',a',b',rfl,hn,E23⟩
 cases hn
 refine ⟨_,_,_,_,_,_,_,rfl,?_⟩
 intro p2 w4 h4
 have n2:p1.block≠p2.block:=New.ne h4 (b2.pure E23).blk
 have E24:Pure w2 w4:=E23.trans (Ext.new h4)
 have o2:=New.own E23 h4
 refine bx 7 (Box.of_new h4) rfl rfl (fun w5 c2 E45=>?_)
 have E25:Pure w2 w5:=E24.own o2 E45
 refine ⟨_,_,_,_,_,_,_,c2.row,?_⟩
 refine (jLZ _ _ _ _ _ _ _ w5).mono ?_
 rintro _ w6 ⟨s1,s2,s3,s4,s5,pe,rfl,⟨hs,hpe⟩,E56⟩
 refine ⟨_,_,_,_,_,_,rfl,?_⟩
 intro p3 w7 h7
 have n3:p2.block≠p3.block:=New.ne h7 (c2.pure E56).blk
 have E27:Pure w2 w7:=(E25.trans E56).trans (Ext.new h7)
 have o3:=New.own (E25.trans E56) h7
 refine bx 5 (Box.of_new h7) rfl rfl (fun w8 c3 E78=>?_)
 have E28:Pure w2 w8:=E27.own o3 E78
 have d2:=((c2.pure E56).pure (Ext.new h7)).ext E78 n3
 have d1:=b2.pure E28
 have hB8:=hB2.pure E28
 have hT8:=hT2.pure E28
 have E8:Ext (·=q.block) w w8:=E2.thenPure E28
 clear E78 E27 E56 E25 E45 E24 E23 E12 c2 b2 b1 hT2 hT1 hB1 h1 h4 h7
 have hlen:s.len=ks.length:=by cases hT;assumption
 have hfit:ks.length≤9223372036854775807:=by cases hT;assumption
 have hsh:Sp.shapeOf k=⟨s1,s2,s3,s4,s5⟩:=hs.symm
 have J3:∀e w',Pure w8 w'→e=Sp.xO ⟨k,f,t,u,x,0,0⟩ ks.length→m_I_j3 inside (some q) p1 e w' K:=by
  intro e w' E hown;rw [← hown] at hK;unfold m_I_j3;refine ⟨fun e i w'=>∃j:Nat,i=j∧j≤ks.length∧∃n:Int,0≤n∧Ext (·=q.block) w8 w'∧Box w' q [.int .i64 n] T∧Sp.qA (inside+1) e n (ks.drop j)=Sp.qA (inside+1) (Sp.xO ⟨k,f,t,u,x,0,0⟩ ks.length) (seen+1) ks,fun _ i _=>((ks.length:Int) - i).toNat,⟨0,rfl,Nat.zero_le _,seen+1,by omega,E.pure,hB8.pure E,by rw [hown];rfl⟩,?_⟩;rintro e1 _ wl ⟨j,rfl,hj,n,hn,El,hBl,heq⟩;unfold m_I_l4;have dl:=d1.ext El (fun e=>n1 e.symm);have hTl:=hT8.ext El (fun b hb e=>hq (e▸hb));rw [← hown] at heq;have fin:∀n',Sp.qA (inside+1) e ((seen:Int)+1) ks=(e1,n')→n'=n→K e1 wl:=by
   rintro n' h rfl;refine hK _ _ ⟨by rw [h],by rw [h];exact hBl,E8.trans El⟩
  refine ⟨s,dl.cell rfl,fun hlt=>⟨fun he=>?_,fun he=>?_⟩,fun hlt=>?_⟩
  ·have hlt:j<ks.length:=by have h:=of_decide_eq_true hlt;omega
   have he:e1=0:=by simpa using he
   subst he;cases hTl with
   | mk _ _ _ _ _ _ _ rs len fit row kid =>
   obtain ⟨a,hat,ha,hr⟩:=row j hlt;refine ⟨s,dl.cell rfl,a,hat,_,_,_,_,_,rs j,hr,?_⟩;rw [i64 (n:=inside+1) (by omega) (by omega)];refine (ih j hlt (rs j) (inside+1) n wl (by omega) hn (kid j hlt) hBl).mono ?_;rintro _ w9 ⟨r,rfl,rfl,hB9,E9⟩;rw [jAY hlt] at heq;refine ⟨_,rfl,⟨j+1,?_,hlt,_,jEC _ _ _ hn,El.trans E9,hB9,by rw [← hown];exact heq⟩,?_⟩
   ·rw [i64 (by omega) (by omega)];omega
   ·show ((ks.length:Int) - IntKind.i64.wrap ((j:Int)+1)).toNat<((ks.length:Int) - (j:Int)).toNat;rw [i64 (by omega) (by omega)];omega
  ·have he:e1≠0:=by simpa using he
   rw [jBU he] at heq;exact fin _ heq.symm rfl
  ·have hge:j=ks.length:=by have h:=of_decide_eq_false hlt;omega
   rw [hge,List.drop_length,Sp.qA] at heq;exact fin _ heq.symm rfl
 have J2:∀e1,e1=(if pe=0 then if (ks.length:Int)≠s5 then 53 else 0 else pe)→m_I_j2 inside (some q) p1 p2 p3 e1 w8 K:=by
  intro e1 he1;have hown:Sp.xO ⟨k,f,t,u,x,0,0⟩ ks.length=if e1=0 then Sp.vJ ⟨s1,s2,s3,s4,s5⟩ ⟨k,f,t,u,x,0,0⟩ else e1:=by
   unfold Sp.xO;simp only [hsh,← hpe,he1]
  unfold m_I_j2;refine ⟨fun h=>⟨_,_,_,_,_,c3.row,_,_,_,_,_,_,_,d2.row,?_⟩,fun h=>J3 _ _ (Ext.refl _) ?_⟩
  ·have h:e1=0:=by simpa using h
   refine (jJB _ _ _ _ _ _ _ _ _ _ _ _ _).mono ?_;rintro _ w9 ⟨_,rfl,rfl,E9⟩;exact ⟨_,rfl,J3 _ _ E9 (by rw [hown,if_pos h])⟩
  ·have h:e1≠0:=by simpa using h
   rw [hown,if_neg h]
 refine ⟨fun h=>⟨s,d1.cell rfl,s5,c3.cell rfl,fun h5=>J2 _ ?_,fun h5=>J2 _ ?_⟩,fun h=>J2 _ ?_⟩
 ·have h:pe=0:=by simpa using h
  have h5:(s.len:Int)≠s5:=by simpa using h5
  rw [if_pos h,if_pos (by omega)]
 ·have h:pe=0:=by simpa using h
  have h5:(s.len:Int)=s5:=by simpa using h5
  rw [if_pos h,if_neg (by omega),h]
 ·have h:pe≠0:=by simpa using h
  rw [if_neg h]
theorem c_New (w:World):Calls Tryz.prog 61 #[] w (fun e w'=>∃r:Option Addr,e=.returned (.pointer r)∧∃p,r=some p∧Pure w w'∧∃F,vE w' p [] F∧∀b,F b→w.heap.size≤b):=by
 refine w_Q2 w (fun r w'=>∃p,r=some p∧Pure w w'∧∃F,vE w' p [] F∧∀b,F b→w.heap.size≤b) ?_;unfold m_Q2;intro p1 w1 h1 p2 w2 h2;have E1:Pure w w1:=Ext.new h1;have m2:CMap w2 p1.block []:=(CMap.of_new h1).ext (Ext.new h2:Pure w1 w2) id;have n12:p1.block≠p2.block:=New.ne h2 h1.block_new;refine ⟨p2,rfl,E1.trans (Ext.new h2),fun b=>b=p2.block∨Sl.nil.blk b∨b=p1.block,⟨Sl.nil,p1.block,⟨Box.of_new h2,by simpa using Rws.nil _ _ _,by simpa [xY] using m2,n12,?_,?_⟩,fun _=>Iff.rfl⟩,?_⟩
 ·rintro ⟨a,h,_⟩;cases h
 ·rintro ⟨a,h,_⟩;cases h
 ·rintro b (rfl | ⟨a,h,_⟩ | rfl)
  ·exact New.own E1 h2
  ·cases h
  ·exact New.own (Ext.refl w) h1
theorem jKX (L:Sp.Pool) (n:Nat):xY (L.take n)=(xY L).take n:=by
 apply List.ext_getElem?;intro i;simp only [xY,List.getElem?_map,List.getElem?_zipIdx,List.getElem?_take];split <;> simp
theorem jND (L:Sp.Pool):(xY L).map (·.1)=(L.map (·.node)).map jDG:=by
 apply List.ext_getElem?;intro i;simp only [xY,List.getElem?_map,List.getElem?_zipIdx];cases L[i]? <;> simp
theorem c_cut (p:Addr) (n:Nat) (w:World) {L:Sp.Pool} {F:NP} (hP:vE w p L F) (hok:Sp.Ok L) (hn:n≤L.length) :
  Calls Tryz.prog 146 #[.pointer (some p),.int .i64 n] w (fun e w'=>e=.returned (.tuple #[])∧vE w' p (L.take n) F∧Ext F w w'):=by
 suffices key:∀K:WP,(∀w',vE w' p (L.take n) F∧Ext F w w'→K w')→m_F1 (some p) n w K from
  w_F1 _ _ w _ (key _ (fun _ h=>h))
 intro K hK
 unfold m_F1
 obtain ⟨s,m,hS,hF⟩:=hP
 have hfew:=hok.few
 have hcap:s.len≤s.cap:=by
  have:=hS.rows.len;rcases hS.rows.own with ⟨rfl,_⟩ | ⟨g,cur,_,_,hc,_⟩
  ·simp [Sl.nil]
  ·omega
 obtain ⟨s1,hr1,hl1⟩:=hS.rows.lst.lo (P:=Tryz.prog) jCS hcap (k:=.i64) (n:=n) (by omega) (by simpa using hn)
 have hlen1:s1.len=L.length - n:=by rw [hl1.len];simp
 refine ⟨p,rfl,s,hS.box.cell0,s1,hr1,?_⟩
 refine ⟨fun x w'=>∃j:Nat,x=j∧j≤L.length - n∧Ext (·=m) w w'∧CMap w' m ((xY L).take n++(xY L).drop (n+j)),fun x _=>((L.length:Int) - x).toNat,⟨0,rfl,Nat.zero_le _,Ext.refl w,by simpa using hS.map⟩,?_⟩
 rintro _ wl ⟨j,rfl,hj,El,hml⟩
 have hboxl:=hS.box.ext El hS.n1.symm
 have hrowsl:=hS.rows.ext El (fun b hb e=>hS.n3 (e▸hb))
 unfold m_F1_l1
 refine ⟨fun h=>?_,fun h=>?_⟩
 ·have hlt:n+j<L.length:=by have h:=of_decide_eq_true h;omega
  have hll:=hl1.ext El (fun b hb e=>hS.n3 (e▸hb))
  obtain ⟨a,hat,_,hrow⟩:=hll.at_ j (by simp;omega)
  generalize he:L[n+j]=e at *
  have hrow':Row wl a (jKD e):=by
   have:((L.map jKD).drop ((n:Int).toNat))[j]'(by simp;omega)=jKD e:=by simp [he]
   rw [this] at hrow;exact hrow
  obtain ⟨nd,sz,dp⟩:=e
  obtain ⟨k,f,t,u,x,a1,b1⟩:=nd
  refine ⟨a,hat,_,_,_,_,_,_,_,_,_,hrow',?_⟩
  intro p2 w1 h1
  have E1:Pure wl w1:=Ext.new h1
  have o1:=New.own (Ext.refl wl) h1
  refine bx 9 (Box.of_new h1) rfl rfl (fun w2 b2 E=>?_)
  have E2:Pure wl w2:=E1.own o1 E
  refine ⟨fun w'=>w'.cell? (p.add 1)=some (.map (some m))∧Row w' p2 (jBF ⟨k,f,t,u,x,a1,b1⟩),⟨(hboxl.pure (E2.thenPure (Ext.drew w2))).cell (i:=1) rfl,?_⟩,?_⟩
  ·have : Row w2 p2 (jBF ⟨k, f, t, u, x, a1, b1⟩) := fun i hi => by
    have:=b2.row i (by simp [jBF] at hi ⊢;omega);rw [this];have h7:i<7:=by simpa [jBF] using hi
    have:i=0∨i=1∨i=2∨i=3∨i=4∨i=5∨i=6:=by omega
    rcases this with rfl | rfl | rfl | rfl | rfl | rfl | rfl <;> rfl
   exact Ext.row (F:=None) (Ext.drew w2) this id
  intro w3 hw3
  have E3:Pure wl w3:=by rw [hw3];exact E2.thenPure (Ext.drew w2)
  clear hw3
  refine ⟨p,rfl,some m,fun w' h=>h.1,k,f,t,u,x,a1,b1,fun w' h=>h.2,?_⟩
  have hm3:=hml.ext E3 id
  have hpl:(xY L).length=L.length:=by simp [xY]
  have hget:(xY L)[n+j]?=some (jDG ⟨k,f,t,u,x,a1,b1⟩,.int .i64 (n+j+1:Nat)):=by
   simp only [xY,List.getElem?_map,List.getElem?_zipIdx,List.getElem?_eq_getElem hlt,he];simp
  have hidx:((xY L).take n++(xY L).drop (n+j))[n]?=some (jDG ⟨k,f,t,u,x,a1,b1⟩,.int .i64 (n+j+1:Nat)):=by
   have e0:n+j+(n - ((xY L).take n).length)=n+j:=by rw [List.length_take];omega
   rw [List.getElem?_append_right (by rw [List.length_take];omega),List.getElem?_drop,e0,hget]
  have hnd:((xY L).map (·.1)).Nodup:=by
   rw [jND,List.nodup_iff_pairwise_ne,List.pairwise_map];exact hok.nodup.imp (fun h e=>h (jEX.1 e))
  have hsub:List.Sublist ((xY L).take n++(xY L).drop (n+j)) (xY L):=by
   conv=>rhs;rw [← List.take_append_drop n (xY L)]
   refine (List.Sublist.refl _).append ?_;have e0:(xY L).drop (n+j)=((xY L).drop n).drop j:=by rw [List.drop_drop]
   rw [e0];exact List.drop_sublist _ _
  have hnd2:(((xY L).take n++(xY L).drop (n+j)).map (·.1)).Nodup:=hnd.sublist (hsub.map _)
  obtain ⟨w4,hr4,hm4,E4⟩:=hm3.delete (P:=Tryz.prog) (Q:=176) (z:=0) Tryz.underlying167 jBM (fun q hq=>jDC q (hsub.subset hq)) ⟨_,rfl⟩ hidx (fun i u hi=>by
   obtain ⟨hi1,hi2⟩:=List.getElem?_eq_some_iff.1 hi;obtain ⟨hn1,hn2⟩:=List.getElem?_eq_some_iff.1 hidx;refine Classical.byContradiction fun hne=>?_;have hne:=List.pairwise_iff_getElem.1 hnd2;rcases Nat.lt_or_gt_of_ne ‹_› with hlt | hlt
   ·exact hne i n (by simpa using hi1) (by simpa using hn1) hlt (by rw [List.getElem_map,List.getElem_map,hi2,hn2])
   ·exact hne n i (by simpa using hn1) (by simpa using hi1) hlt (by rw [List.getElem_map,List.getElem_map,hi2,hn2]))
  refine ⟨w4,hr4,⟨j+1,?_,by omega,(El.trans E3.pure).trans E4,?_⟩,?_⟩
  ·rw [i64 (by omega) (by omega)];omega
  ·rw [List.eraseIdx_append_of_length_le (by rw [List.length_take];omega)] at hm4
   have:n - ((xY L).take n).length=0:=by rw [List.length_take];omega
   rw [this] at hm4
   have hd:((xY L).drop (n+j)).eraseIdx 0=(xY L).drop (n+(j+1)):=by
    rw [List.drop_eq_getElem_cons (by omega)];simp;rfl
   rw [hd] at hm4;exact hm4
  ·show ((L.length:Int) - IntKind.i64.wrap ((j:Int)+1)).toNat<((L.length:Int) - (j:Int)).toNat
   rw [i64 (by omega) (by omega)];omega
 ·have hge:n+j=L.length:=by have h:=of_decide_eq_false h;omega
  have hpl:(xY L).length=L.length:=by simp [xY]
  rw [hge,← hpl,List.drop_length,List.append_nil] at hml
  obtain ⟨s2,hr2,hrows2,hb2⟩:=hrowsl.hi (P:=Tryz.prog) jCS (k:=.i64) (n:=n) (by omega) (by simpa using hn)
  refine ⟨p,rfl,s,hboxl.cell0,s2,hr2,p,rfl,hboxl.canW0 (by simp),?_⟩
  rintro w5 hw5
  have hbox5:Box w5 p [s2.v,.map (some m)] 169:=by rw [hw5];exact hboxl.set0
  have E5:Ext (·=p.block) wl w5:=by rw [hw5];exact Ext.setCell p _
  clear hw5
  refine hK _ ⟨⟨s2,m,⟨hbox5,?_,?_,hS.n1,fun h=>hS.n2 ((hb2 _).1 h),fun h=>hS.n3 ((hb2 _).1 h)⟩,fun b=>by rw [hF b,hb2 b]⟩,?_⟩
  ·have:=hrows2.ext E5 (fun b hb e=>hS.n2 (by rw [← e];exact (hb2 _).1 hb))
   simpa using this
  ·rw [jKX];exact hml.ext E5 hS.n1
  ·exact (El.mono (fun i _ h=>(hF i).2 (.inr (.inr h)))).trans' E5 (fun i _ h=>(hF i).2 (.inl h))
theorem jDL {n:Sp.Node} {i:Nat} {L:Sp.Pool} {t:Sp.Tree} {ts:List Sp.Tree} (h:(Sp.grow L t).2.1≠0):Sp.vV n i L (t :: ts)=(0,(Sp.grow L t).2.1,(Sp.grow L t).2.2):=by rw [Sp.vV,if_pos h]
theorem jBV {n:Sp.Node} {i:Nat} {L:Sp.Pool} {t:Sp.Tree} {ts:List Sp.Tree} (h:(Sp.grow L t).2.1=0):Sp.vV n i L (t :: ts)=Sp.vV (if i=0 then { n with a:=(Sp.grow L t).1 } else { n with b:=(Sp.grow L t).1 }) (i+1) (Sp.grow L t).2.2 ts:=by rw [Sp.vV,if_neg (by simp [h])]
def Sp.Tree.two (t:Sp.Tree):Prop:=Sp.Tree.rec (motive_1:=fun _=>Prop) (motive_2:=fun _=>Prop) (fun _ _ _ _ _ ks h=>ks.length≤2∧h) True (fun _ _ h1 h2=>h1∧h2) t
def jFJ:List Sp.Tree→Prop
 | []=>True
 | t :: ts=>Sp.Tree.two t∧jFJ ts
theorem jKO {k f t u:Int} {x:ByteArray} {ks:List Sp.Tree}:Sp.Tree.two (.mk k f t u x ks)↔ks.length≤2∧jFJ ks:=by
 have:∀ks:List Sp.Tree,(Sp.Tree.rec_1 (motive_1:=fun _=>Prop) (motive_2:=fun _=>Prop) (fun _ _ _ _ _ ks h=>ks.length≤2∧h) True (fun _ _ h1 h2=>h1∧h2) ks:Prop)=jFJ ks:=by
  intro ks;induction ks with
  | nil=>rfl
  | cons t ts ih=>show (Sp.Tree.two t∧_)=(Sp.Tree.two t∧_);rw [ih]
 show (ks.length≤2∧_)↔_;rw [this]
theorem jDY {ks:List Sp.Tree} (h:jFJ ks) {i:Nat} (hi:i<ks.length):Sp.Tree.two ks[i]:=by
 induction ks generalizing i with
 | nil=>simp at hi
 | cons t ts ih =>
  cases i with
  | zero=>exact h.1
  | succ i=>exact ih h.2 (by simpa using hi)
theorem c_grow {S:NP} (p:Addr) (t:Sp.Tree):∀(s:Sl) (w:World) (L:Sp.Pool) (F:NP),Sp.Tree.two t→TreeAt S w s t→vE w p L F→Sp.Ok L→(∀b,F b→¬ S b)→(∀b,S b→b<w.heap.size) →
  Calls Tryz.prog 145 #[.pointer (some p),.agg (yL t s).toArray] w
   (fun e w'=>∃r1:Int,∃r2:Int,e=.returned (.tuple #[.int .i64 r1,.int .i64 r2])∧((r1,r2)=((Sp.grow L t).1,(Sp.grow L t).2.1)∧∃F',vE w' p (Sp.grow L t).2.2 F'∧Ext F w w'∧∀b,F' b→F b∨w.heap.size≤b)):=by
 induction t using Sp.Tree.ind with
 | h k f t u x ks ih =>
 intro s w L F h2 hT hP hok hFS hSw
 suffices key:∀K:Int→Int→WP,(∀r1 r2 w',((r1,r2)=((Sp.grow L (.mk k f t u x ks)).1,(Sp.grow L (.mk k f t u x ks)).2.1)∧∃F',vE w' p (Sp.grow L (.mk k f t u x ks)).2.2 F'∧Ext F w w'∧∀b,F' b→F b∨w.heap.size≤b)→K r1 r2 w')→m_E1 (some p) k f t u x s w K from
  w_E1 _ _ _ _ _ _ _ w _ (key _ (fun _ _ _ h=>h))
 intro K hK
 obtain ⟨hk2,hall⟩:=jKO.1 h2
 unfold m_E1
 intro p2 w1 h1
 have b1:=Box.of_new h1
 have E1:Pure w w1:=Ext.new h1
 refine ⟨_,_,_,_,_,_,b1.row,?_⟩
 refine (jIY _ _ _ _ _ _ w1).mono ?_
 rintro _ w2 ⟨k',f',t',u',x',a',b',rfl,hn,E12⟩
 cases hn
 refine ⟨_,_,_,_,_,_,_,rfl,?_⟩
 intro p3 w3 h3
 have E3:Pure w w3:=(E1.trans E12).trans (Ext.new h3)
 have o3:=New.own (E1.trans E12) h3
 have n23:p2.block≠p3.block:=New.ne h3 (b1.pure E12).blk
 refine bx 7 (Box.of_new h3) rfl rfl (fun w4 b3 E34=>?_)
 have E4:Pure w w4:=E3.own o3 E34
 have b2:=((b1.pure E12).pure (Ext.new h3)).ext E34 n23
 intro p4 w5 h5
 have E5:Pure w w5:=E4.trans (Ext.new h5)
 have o4:=New.own E4 h5
 have n34:p3.block≠p4.block:=New.ne h5 b3.blk
 have c3:=b3.pure (Ext.new h5:Pure w4 w5)
 have c4:=Box.of_new h5
 have c2:=b2.pure (Ext.new h5:Pure w4 w5)
 refine ⟨s,c2.cell rfl,?_⟩
 have hsp:Sp.grow L (.mk k f t u x ks)=Sp.vV ⟨k,f,t,u,x,0,0⟩ 0 L ks:=by rw [Sp.grow]
 rw [hsp] at hK
 have hlen:s.len=ks.length:=by cases hT;assumption
 refine ⟨fun i w'=>∃j:Nat,i=j∧j≤ks.length∧∃(nd:Sp.Node) (L':Sp.Pool) (F':NP),Sp.vV ⟨k,f,t,u,x,0,0⟩ 0 L ks=Sp.vV nd j L' (ks.drop j)∧Sp.Ok L'∧vE w' p L' F'∧(∀b,F' b→F b∨w.heap.size≤b)∧¬ F' p3.block∧¬ F' p4.block∧Ext F w w'∧Box w' p3 (jBF nd) 176∧Box w' p4 [.pointer (some (p3.add 5)),.pointer (some (p3.add 6))] 309,fun i _=>((ks.length:Int) - i).toNat,
  ⟨0,rfl,Nat.zero_le _,⟨k,f,t,u,x,0,0⟩,L,F,by simp,hok,hP.pure E5,fun b h=>.inl h,fun h=>by have:=hP.lt h;omega,fun h=>by have:=hP.lt h;omega,E5.pure,c3,c4⟩,?_⟩
 rintro _ wl ⟨j,rfl,hj,nd,L',F',heq,hok',hPl,hF',hn3,hn4,El,d3,d4⟩
 unfold m_E1_l1
 refine ⟨fun h=>?_,fun h=>?_⟩
 ·have hlt:j<ks.length:=by have h:=of_decide_eq_true h;omega
  have hTl:TreeAt S wl s (.mk k f t u x ks):=hT.ext El (fun b hs hf=>hFS b hf hs)
  have hkid:∀i (h:i<ks.length),∃a r,At s i 6 a∧Row wl a (yL ks[i] r)∧TreeAt S wl r ks[i]:=by
   cases hTl with
   | mk _ _ _ _ _ _ _ rs len fit row kid=>exact fun i h=>let ⟨a,h1,_,h3⟩:=row i h;⟨a,rs i,h1,h3,kid i h⟩
  obtain ⟨a,r,hat,hrow,hTk⟩:=hkid j hlt
  refine ⟨a,hat,_,_,_,_,_,r,hrow,?_⟩
  intro p5 w6 h6
  have o5:=New.own (Ext.refl wl) h6
  refine bx 6 (Box.of_new h6) rfl rfl (fun w7 b5 E67=>?_)
  have E7:Pure wl w7:=Ext.own (Ext.new h6) o5 E67
  refine ⟨_,_,_,_,_,r,b5.row,?_⟩
  have hsz:w.heap.size≤wl.heap.size:=El.size
  refine (ih j hlt r w7 L' F' (jDY hall hlt) (hTk.pure E7) (hPl.pure E7) hok' (fun b hb hs=>(hF' b hb).elim (fun h=>hFS b h hs) (fun h=>by have:=hSw b hs;omega)) (fun b hs=>by have:=hSw b hs;have:=E7.size;omega)).mono ?_
  rintro _ w8 ⟨r1,r2,rfl,hr,F8,hP8,E8,hF8⟩
  have e1:r1=(Sp.grow L' ks[j]).1:=congrArg Prod.fst hr
  have e2:r2=(Sp.grow L' ks[j]).2.1:=congrArg Prod.snd hr
  rw [List.drop_eq_getElem_cons hlt] at heq
  have hF8':∀b,F8 b→F b∨w.heap.size≤b:=fun b hb=>(hF8 b hb).elim (hF' b) (fun h=>by right;have:=E7.size;omega)
  have Ew8:Ext F w w8:=(El.thenPure E7).trans' E8 (fun i hi h=>(hF' i h).elim id (fun h=>by omega))
  refine ⟨_,_,rfl,fun h=>?_,fun h=>?_⟩
  ·have h:(Sp.grow L' ks[j]).2.1≠0:=by rw [← e2];simpa using h
   rw [jDL h] at heq
   refine hK _ _ _ ?_
   rw [heq];exact ⟨by rw [e2],F8,hP8,Ew8,hF8'⟩
  ·have h:(Sp.grow L' ks[j]).2.1=0:=by rw [← e2];simpa using h
   rw [jBV h] at heq
   have q3:=(d3.pure E7).ext E8 hn3
   have q4:=(d4.pure E7).ext E8 hn4
   have hs7:wl.heap.size≤w7.heap.size:=E7.size
   have n38:¬ F8 p3.block:=fun h=>(hF8 _ h).elim hn3 (fun h=>by have:=(d3.pure E7).lt;omega)
   have n48:¬ F8 p4.block:=fun h=>(hF8 _ h).elim hn4 (fun h=>by have:=(d4.pure E7).lt;omega)
   have hok8:=(Sp.tW ks[j] L' hok').1
   have fin : ∀ (w9 : World) (nd' : Sp.Node), nd' = (if j = 0 then { nd with a := (Sp.grow L' ks[j]).1 } else { nd with b := (Sp.grow L' ks[j]).1 }) → Box w9 p3 (jBF nd') 176 → Ext (· = p3.block) w8 w9 →
     (∃j':Nat,IntKind.i64.wrap ((j:Int)+1)=j'∧j'≤ks.length∧∃(nd:Sp.Node) (L':Sp.Pool) (F':NP),Sp.vV ⟨k,f,t,u,x,0,0⟩ 0 L ks=Sp.vV nd j' L' (ks.drop j')∧Sp.Ok L'∧vE w9 p L' F'∧(∀b,F' b→F b∨w.heap.size≤b)∧¬ F' p3.block∧¬ F' p4.block∧Ext F w w9∧Box w9 p3 (jBF nd) 176∧Box w9 p4 [.pointer (some (p3.add 5)),.pointer (some (p3.add 6))] 309)∧((ks.length:Int) - IntKind.i64.wrap ((j:Int)+1)).toNat<((ks.length:Int) - (j:Int)).toNat:=by
    intro w9 nd' hnd B9 E9
    rw [i64 (by omega) (by omega)]
    refine ⟨⟨j+1,by omega,hlt,nd',_,F8,by rw [heq,hnd],hok8,hP8.ext E9 (fun b hb e=>n38 (e▸hb)),hF8',n38,n48,Ew8.trans' E9 (fun i hi h=>by subst h;omega),B9,q4.ext E9 n34.symm⟩,by omega⟩
   have hj2:j=0∨j=1:=by omega
   rcases hj2 with rfl | rfl
   ·refine ⟨p4,⟨by omega,by simp,p4,rfl,rfl⟩,some (p3.add 5),q4.cell0,p3.add 5,rfl,q3.canW (by simp [jBF]),?_⟩
    intro w9 hw9
    refine fin w9 _ rfl ?_ ?_
    ·rw [hw9,e1];exact q3.set 5 _
    ·rw [hw9];have:=Ext.setCell (w:=w8) (p3.add 5) (.int .i64 r1);rw [zX] at this;exact this
   ·refine ⟨p4.add 1,⟨by omega,by simp,p4,rfl,rfl⟩,some (p3.add 6),q4.cell rfl,p3.add 6,rfl,q3.canW (by simp [jBF]),?_⟩
    intro w9 hw9
    refine fin w9 _ rfl ?_ ?_
    ·rw [hw9,e1];exact q3.set 6 _
    ·rw [hw9];have:=Ext.setCell (w:=w8) (p3.add 6) (.int .i64 r1);rw [zX] at this;exact this
 ·have hge:j=ks.length:=by have h:=of_decide_eq_false h;omega
  rw [hge,List.drop_length,Sp.vV] at heq
  obtain ⟨k0,f0,t0,u0,x0,a0,b0⟩:=nd
  refine ⟨_,_,_,_,_,_,_,d3.row,?_⟩
  refine (jJF p k0 f0 t0 u0 x0 a0 b0 wl hPl hok').mono ?_
  rintro _ w9 ⟨r1,r2,rfl,hr,F9,hP9,E9,hF9⟩
  have hsz:w.heap.size≤wl.heap.size:=El.size
  refine ⟨_,_,rfl,hK _ _ _ ?_⟩
  rw [heq]
  exact ⟨hr,F9,hP9,El.trans' E9 (fun i hi h=>(hF' i h).elim id (fun h=>by omega)),fun b hb=>(hF9 b hb).elim (hF' b) (fun h=>by right;omega)⟩
theorem jFX (t:Sp.Tree):∀i n:Int,(Sp.qY i n t).1=0→Sp.Tree.two t:=by
 induction t using Sp.Tree.ind with
 | h k f t u x ks ih =>
  have hA:∀(ks:List Sp.Tree),(∀i (hi:i<ks.length),∀j n:Int,(Sp.qY j n ks[i]).1=0→Sp.Tree.two ks[i])→∀i e n:Int,(Sp.qA i e n ks).1=0→e=0∧jFJ ks:=by
   intro ks;induction ks with
   | nil=>intro _ i e n h;exact ⟨by simpa [Sp.qA] using h,trivial⟩
   | cons t ts iht =>
    intro hh i e n h
    unfold Sp.qA at h
    split at h
    ·rename_i he
     have:=iht (fun i hi=>hh (i+1) (by simpa using hi)) _ _ _ h
     exact ⟨he,hh 0 (by simp) i n this.1,this.2⟩
    ·rename_i he;exact absurd h he
  intro i n h
  unfold Sp.qY at h
  split at h
  ·cases h
  ·split at h
   ·cases h
   ·have:=hA ks ih _ _ _ h
    refine jKO.2 ⟨?_,this.2⟩
    have ho:=this.1
    unfold Sp.xO at ho
    simp only at ho
    have hk:=Sp.jDK k
    by_cases hp:Sp.vM ⟨k,f,t,u,x,0,0⟩=0
    ·rw [if_pos hp] at ho
     by_cases hl:(ks.length:Int)≠(Sp.shapeOf k).kids
     ·rw [if_pos hl] at ho;simp at ho
     ·omega
    ·rw [if_neg hp,if_neg hp] at ho;exact absurd ho hp
theorem c_Of {S:NP} (p:Addr) (t:Sp.Tree) (s:Sl) (w:World) {L:Sp.Pool} {F:NP} (hT:TreeAt S w s t) (hP:vE w p L F) (hok:Sp.Ok L) (hFS:∀b,F b→¬ S b) (hSw:∀b,S b→b<w.heap.size) :
  Calls Tryz.prog 77 #[.pointer (some p),.agg (yL t s).toArray] w
   (fun e w'=>∃r1:Int,∃r2:Int,e=.returned (.tuple #[.int .i64 r1,.int .i64 r2])∧((r1,r2)=((Sp.of L t).1,(Sp.of L t).2.1)∧∃F',vE w' p (Sp.of L t).2.2 F'∧Ext F w w'∧∀b,F' b→F b∨w.heap.size≤b)):=by
 obtain ⟨k,f,to,u,x,ks⟩:=t
 suffices key:∀K:Int→Int→WP,(∀r1 r2 w',((r1,r2)=((Sp.of L (.mk k f to u x ks)).1,(Sp.of L (.mk k f to u x ks)).2.1)∧∃F',vE w' p (Sp.of L (.mk k f to u x ks)).2.2 F'∧Ext F w w'∧∀b,F' b→F b∨w.heap.size≤b)→K r1 r2 w')→m_B2 (some p) k f to u x s w K from
  w_B2 _ _ _ _ _ _ _ w _ (key _ (fun _ _ _ h=>h))
 intro K hK
 unfold m_B2
 intro p2 w1 h1
 have b1:=Box.of_new h1
 have E1:Pure w w1:=Ext.new h1
 refine Br.f rfl ?_
 intro p3 w2 h2
 have E2:Pure w w2:=E1.trans (Ext.new h2)
 have o3:=New.own E1 h2
 have c3:=Box.of_new h2
 have n23:p2.block≠p3.block:=New.ne h2 b1.blk
 refine ⟨c3.canW0 (by simp),?_⟩
 intro w3 hw3
 have c3':Box w3 p3 [.int .i64 0] 3:=by rw [hw3];exact c3.set0
 have E23:Ext (·=p3.block) w2 w3:=by rw [hw3];exact Ext.setCell p3 _
 clear hw3
 have E3:Pure w w3:=E2.own o3 E23
 have b3:=(b1.pure (Ext.new h2:Pure w1 w2)).ext E23 n23
 refine ⟨_,_,_,_,_,s,b3.row,?_⟩
 generalize ht:Sp.Tree.mk k f to u x ks=t at *
 have htr:(Value.agg #[.int .i64 k,.int .i64 f,.int .i64 to,.int .u64 u,.string x,s.v])=.agg (yL t s).toArray:=by rw [← ht];rfl
 rw [htr]
 refine (jPE p3 (fun h=>by have:=hSw _ h;omega) _ t s 0 0 w3 (by omega) (by omega) (hT.pure E3) c3').mono ?_
 rintro _ w4 ⟨r1,rfl,rfl,_,E34⟩
 have E4:Pure w w4:=E3.own o3 E34
 have b4:=b3.ext E34 n23
 have same:∀w',Pure w w'→∃F',vE w' p L F'∧Ext F w w'∧∀b,F' b→F b∨w.heap.size≤b:=fun w' E=>⟨F,hP.pure E,E.pure,fun _ h=>.inl h⟩
 refine ⟨_,rfl,fun h=>?_,fun h=>?_⟩
 ·have h:(Sp.qY 0 0 t).1≠0:=by simpa using h
  have:Sp.of L t=(0,(Sp.qY 0 0 t).1,L):=by rw [Sp.of,if_pos h]
  refine hK _ _ _ ?_
  rw [this];exact ⟨rfl,same _ E4⟩
 ·have h:(Sp.qY 0 0 t).1=0:=by simpa using h
  have hP4:=hP.pure E4
  obtain ⟨s0,m0,hS0,hF0⟩:=id hP4
  have hl0:s0.len=L.length:=by rw [hS0.rows.len];simp
  refine ⟨p,rfl,s0,hS0.box.cell0,_,_,_,_,_,s,b4.row,?_⟩
  rw [htr]
  refine (c_grow p t s w4 L F (jFX t _ _ h) (hT.pure E4) hP4 hok hFS (fun b hb=>by have:=hSw b hb;have:=E4.size;omega)).mono ?_
  rintro _ w5 ⟨r1,r2,rfl,hr,F5,hP5,E45,hF5⟩
  have e1:r1=(Sp.grow L t).1:=congrArg Prod.fst hr
  have e2:r2=(Sp.grow L t).2.1:=congrArg Prod.snd hr
  have hs4:w.heap.size≤w4.heap.size:=E4.size
  have E5:Ext F w w5:=E4.pure.trans E45
  have hF5':∀b,F5 b→F b∨w.heap.size≤b:=fun b hb=>(hF5 b hb).elim .inl (fun h=>.inr (by omega))
  refine ⟨_,_,rfl,fun h'=>?_,fun h'=>?_⟩
  ·have h':(Sp.grow L t).2.1≠0:=by rw [← e2];simpa using h'
   obtain ⟨hok5,M,hM⟩:=Sp.tW t L hok
   rw [hl0]
   refine (c_cut p L.length w5 hP5 hok5 (by rw [hM];simp)).mono ?_
   rintro _ w6 ⟨rfl,hP6,E56⟩
   have:Sp.of L t=(0,(Sp.grow L t).2.1,L):=by rw [Sp.of,if_neg (by simp [h]),if_pos h']
   refine ⟨rfl,hK _ _ _ ?_⟩
   rw [this]
   rw [hM,List.take_left] at hP6
   exact ⟨by rw [e2],F5,hP6,E5.trans' E56 (fun i hi h=>(hF5' i h).elim id (fun h=>by omega)),hF5'⟩
  ·have h':(Sp.grow L t).2.1=0:=by rw [← e2];simpa using h'
   have:Sp.of L t=((Sp.grow L t).1,0,(Sp.grow L t).2.2):=by rw [Sp.of,if_neg (by simp [h]),if_neg (by simp [h'])]
   refine hK _ _ _ ?_
   rw [this]
   exact ⟨by rw [e1],F5,hP5,E5,hF5'⟩
end Go.Proofs
end
section
open Go Go.SE
open Go.IntKind renaming i64 → q6
namespace Go.Proofs
set_option maxRecDepth 100000
set_option maxHeartbeats 4000000
attribute [local irreducible] wpL wpX opE wpE Calls
def m_L_j2 (p2 p3 p5:Addr) (r3:Int) (w:World) (K:Int→Int→Int→ByteArray→Bool→Bool→WP):Prop :=Calls Tryz.prog 109 #[(vp (some p3)),(vi r3),(vi 2)] w (fun e w16=>∃bH bI bK aR bJ dB dC,e=.returned (Ae bH bI bK aR bJ dB dC)∧(∀j,j<5→vG w16 (p5.add j))∧∀w17,w17=storeRow w16 p5 (Ac 7 0 aR (⟨#[]⟩) false)→∃v6,w17.cell? (p3.add 1)=some (vb v6)∧Br v6 ((∀j,j<5→vG w17 (p2.add j))∧∀w18,w18=storeRow w17 p2 (Ac 0 0 0 (⟨#[]⟩) false)→∃bT bU dD bV dE,Row w18 p2 (Ac bT bU dD bV dE)∧K bT bU dD bV dE false w18) (∃dF dG gB dH gC,Row w17 p5 (Ac dF dG gB dH gC)∧(∀j,j<5→vG w17 (p2.add j))∧∀w19,w19=storeRow w17 p2 (Ac dF dG gB dH gC)→∃bW bX dI bY dJ,Row w19 p2 (Ac bW bX dI bY dJ)∧K bW bX dI bY dJ true w19))
def m_L_j3 (p2 p3 p5:Addr) (r3:Int) (w:World) (K:Int→Int→Int→ByteArray→Bool→Bool→WP):Prop :=∃v7,w.cell? (p3.add 1)=some (vb v7)∧Br v7 (∃v8,w.cell? (p3.add 1)=some (vb v8)∧Br v8 ((∀j,j<5→vG w (p2.add j))∧∀w20,w20=storeRow w p2 (Ac 0 0 0 (⟨#[]⟩) false)→∃bZ cA dK cB dL,Row w20 p2 (Ac bZ cA dK cB dL)∧K bZ cA dK cB dL false w20) (∃cY cZ gD dA gE,Row w p5 (Ac cY cZ gD dA gE)∧(∀j,j<5→vG w (p2.add j))∧∀w21,w21=storeRow w p2 (Ac cY cZ gD dA gE)→∃dM dN gF dO gG,Row w21 p2 (Ac dM dN gF dO gG)∧K dM dN gF dO gG true w21)) (m_L_j2 p2 p3 p5 r3 w K)
def m_L_j1 (t1:Int) (p2 p3 p5:Addr) (x1:Bool) (w:World) (K:Int→Int→Int→ByteArray→Bool→Bool→WP):Prop :=Br x1 (Calls Tryz.prog 107 #[(vp (some p3)),(vi t1)] w (fun e w11=>∃bO bP dU bG dV,e=.returned (Af bO bP dU bG dV)∧(∀j,j<5→vG w11 (p5.add j))∧∀w12,w12=storeRow w11 p5 (Ac bO bP dU bG dV)→∃v5,w12.cell? (p3.add 1)=some (vb v5)∧Br v5 ((∀j,j<5→vG w12 (p2.add j))∧∀w13,w13=storeRow w12 p2 (Ac 0 0 0 (⟨#[]⟩) false)→∃aU aV cC aW cD,Row w13 p2 (Ac aU aV cC aW cD)∧K aU aV cC aW cD false w13) (∃bB bC gH bD gI,Row w12 p5 (Ac bB bC gH bD gI)∧(∀j,j<5→vG w12 (p2.add j))∧∀w14,w14=storeRow w12 p2 (Ac bB bC gH bD gI)→∃cE cF dP cG dQ,Row w14 p2 (Ac cE cF dP cG dQ)∧K cE cF dP cG dQ true w14))) (Calls Tryz.prog 108 #[(vp (some p3)),(vi t1)] w (fun e w15=>∃r2 r3,e=.returned (.tuple #[(vs r2),(vi r3)])∧∃v9,w15.cell? (p3.add 1)=some (vb v9)∧Br v9 (vG w15 (p3.add 1)∧∀w22,w22=w15.setCell (p3.add 1) (vb true)→m_L_j3 p2 p3 p5 r3 w22 K) (vG w15 (p3.add 1)∧∀w23,w23=w15.setCell (p3.add 1) (vb (!(decide (r2=(⟨#[102,117,108,108]⟩:ByteArray)))))→m_L_j3 p2 p3 p5 r3 w23 K)))
def m_L (p1:Option Addr) (t1:Int) (w:World) (K:Int→Int→Int→ByteArray→Bool→Bool→WP):Prop :=∀p2 w1,New w (.cells #[(vi 0),(vi 0),(vu 0),(vs ⟨#[]⟩),(vb false)] 35) p2 w1→∀p3 w2,New w1 (.cells #[(vp p1),(vb false)] 182) p3 w2→Calls Tryz.prog 102 #[(vp p1),(vi t1)] w2 (fun e w3=>∃aE aF aG aD aH aX aY r1,e=.returned (.tuple #[(Ae aE aF aG aD aH aX aY),(vb r1)])∧∀p4 w4,New w3 (.cells #[(vi 0),(vi 0),(vi 0),(vu 0),(vs ⟨#[]⟩),(vi 0),(vi 0)] 176) p4 w4→(∀j,j<7→vG w4 (p4.add j))∧∀w5,w5=storeRow w4 p4 (Ad aE aF aG aD aH aX aY)→∀p5 w6,New w5 (.cells #[(vi 0),(vi 0),(vu 0),(vs ⟨#[]⟩),(vb false)] 35) p5 w6→∃v1,w6.cell? p4=some (vi v1)∧Br (v1 == 7) (∃v2,w6.cell? (p4.add 1)=some (vi v2)∧∃v3,w6.cell? (p4.add 5)=some (vi v3)∧Calls Tryz.prog 106 #[(vp (some p3)),(vi v2),(vi v3)] w6 (fun e w7=>∃bE bF bM aZ bN,e=.returned (Af bE bF bM aZ bN)∧(∀j,j<5→vG w7 (p5.add j))∧∀w8,w8=storeRow w7 p5 (Ac bE bF bM aZ bN)→∃v4,w8.cell? (p3.add 1)=some (vb v4)∧Br v4 ((∀j,j<5→vG w8 (p2.add j))∧∀w9,w9=storeRow w8 p2 (Ac 0 0 0 (⟨#[]⟩) false)→∃aA aB cH aC cI,Row w9 p2 (Ac aA aB cH aC cI)∧K aA aB cH aC cI false w9) (∃aL aM gJ aN gK,Row w8 p5 (Ac aL aM gJ aN gK)∧(∀j,j<5→vG w8 (p2.add j))∧∀w10,w10=storeRow w8 p2 (Ac aL aM gJ aN gK)→∃aO aP cJ aQ cK,Row w10 p2 (Ac aO aP cJ aQ cK)∧K aO aP cJ aQ cK true w10))) (Br (v1 == 8) (m_L_j1 t1 p2 p3 p5 (v1 == 8) w6 K) (m_L_j1 t1 p2 p3 p5 (v1 == 9) w6 K)))
theorem w_L (p1 t1 w K) (h:m_L p1 t1 w K):
  Calls Tryz.prog 51 #[(vp p1),(vi t1)] w (fun e w'=>∃cT cU fU cV fV r4,e=.returned (.tuple #[(Af cT cU fU cV fV),(vb r4)])∧K cT cU fU cV fV r4 w'):=by
 refine cw (args:=[(vp p1),(vi t1)]) Tryz.func51 Tryz.ntmps51 (eg (sn (O:=(.cells #[(vi 0),(vi 0),(vu 0),(vs ⟨#[]⟩),(vb false)] 35)) (zM (Tryz.zeroValue35 _) rfl) ?_))
 intro p2 w1 hn18
 have h:=h p2 w1 hn18
 refine q (ln (jKJ rfl (fun _ _ _ h=>h) (eg (q0 (vp p1) (q0 (.agg #[(vp p1),(vb false)]) (sn (O:=(.cells #[(vp p1),(vb false)] 182)) xb ?_))))))
 intro p3 w2 hn17
 have h:=h p3 w2 hn17
 refine q (ln (eg (qb (sc Tryz.call102 (h.mono fun e w3 ⟨aE,aF,aG,aD,aH,aX,aY,r1,k,h⟩=>⟨_,k,?_⟩)))))
 refine qc (nw1 h (zM (Tryz.zeroValue176 _) rfl) fun p4 w4 h=>?_)
 obtain ⟨hp1,h⟩:=h
 refine zK (zD rfl) (xo p4 (Ad aE aF aG aD aH aX aY) (Tryz.sizeOf176 _) hp1) ?_
 intro w5 hn1
 have h:=h w5 hn1
 refine q (ln (eg (nw1 h (zM (Tryz.zeroValue35 _) rfl) fun p5 w6 h=>ln (zA (jKK (zO (zA (eg (q0 (vp (some p4)) (ql (Tryz.isAgg3 _) h fun v1 h=>ln (zJ (eg (qb (ln (cbr h ?_ ?_)))))))))))))))<;>intro h
 refine rg (qb (ql (Tryz.isAgg3 _) h fun v2 h=>q (ql (Tryz.isAgg78 _) h fun v3 h=>sc Tryz.call106 (h.mono fun e w7 ⟨bE,bF,bM,aZ,bN,k,h⟩=>⟨_,k,?_⟩))))
 obtain ⟨hp2,h⟩:=h
 refine zK (zD rfl) (xo p5 (Ac bE bF bM aZ bN) (Tryz.sizeOf35 _) hp2) ?_
 intro w8 hn2
 have h:=h w8 hn2
 refine zC (yQ (zO (zA (eg (qc (ql (Tryz.isAgg4 _) h fun v4 h=>ln (cbr h ?_ ?_)))))))<;>intro h
 refine eg (q ?_)
 obtain ⟨hp3,h⟩:=h
 refine zK (zD rfl) (xo p2 (Ac 0 0 0 (⟨#[]⟩) false) (Tryz.sizeOf35 _) hp3) ?_
 intro w9 hn3
 have h:=h w9 hn3
 refine q (ln (er (zY ?_)))
 obtain ⟨aA,aB,cH,aC,cI,hv1,h⟩:=h
 refine gg2 Tryz.results51 (rva (Tryz.isAgg35 _) (Tryz.sizeOf35 _) hv1) (rvU (vb false)) ⟨aA,aB,cH,aC,cI,false,rfl,h⟩
 refine zB (zO (eg ?_))
 obtain ⟨aL,aM,gJ,aN,gK,hv3,h⟩:=h
 refine qa (Tryz.isAgg35 _) (Tryz.sizeOf35 _) hv3 ?_
 obtain ⟨hp4,h⟩:=h
 refine zK (zD rfl) (xo p2 (Ac aL aM gJ aN gK) (Tryz.sizeOf35 _) hp4) ?_
 intro w10 hn4
 have h:=h w10 hn4
 refine q (ln (er ?_))
 obtain ⟨aO,aP,cJ,aQ,cK,hv2,h⟩:=h
 refine gg2 Tryz.results51 (rva (Tryz.isAgg35 _) (Tryz.sizeOf35 _) hv2) (rvU (vb true)) ⟨aO,aP,cJ,aQ,cK,true,rfl,h⟩
 refine qL (fun ρ w=>∃x1,Has ρ [(1,(vi t1)),(4,(vp (some p2))),(6,(vp (some p3))),(9,(vp (some p5))),(57,(vb x1))]∧m_L_j1 t1 p2 p3 p5 x1 w K) ?_ ?_
 rintro ρ w ⟨x1,hH,h⟩
 refine zU hH (cbr h ?_ ?_)<;>intro h
 refine rg (qb (sc Tryz.call107 (h.mono fun e w11 ⟨bO,bP,dU,bG,dV,k,h⟩=>⟨_,k,?_⟩)))
 obtain ⟨hp5,h⟩:=h
 refine zK (zD rfl) (xo p5 (Ac bO bP dU bG dV) (Tryz.sizeOf35 _) hp5) ?_
 intro w12 hn5
 have h:=h w12 hn5
 refine zC (yQ (zO (zA (eg (qc (ql (Tryz.isAgg4 _) h fun v5 h=>ln (cbr h ?_ ?_)))))))<;>intro h
 refine eg (q ?_)
 obtain ⟨hp6,h⟩:=h
 refine zK (zD rfl) (xo p2 (Ac 0 0 0 (⟨#[]⟩) false) (Tryz.sizeOf35 _) hp6) ?_
 intro w13 hn6
 have h:=h w13 hn6
 refine q (ln (er (zY ?_)))
 obtain ⟨aU,aV,cC,aW,cD,hv7,h⟩:=h
 refine gg2 Tryz.results51 (rva (Tryz.isAgg35 _) (Tryz.sizeOf35 _) hv7) (rvU (vb false)) ⟨aU,aV,cC,aW,cD,false,rfl,h⟩
 refine zB (zO (eg ?_))
 obtain ⟨bB,bC,gH,bD,gI,hv9,h⟩:=h
 refine qa (Tryz.isAgg35 _) (Tryz.sizeOf35 _) hv9 ?_
 obtain ⟨hp7,h⟩:=h
 refine zK (zD rfl) (xo p2 (Ac bB bC gH bD gI) (Tryz.sizeOf35 _) hp7) ?_
 intro w14 hn7
 have h:=h w14 hn7
 refine q (ln (er ?_))
 obtain ⟨cE,cF,dP,cG,dQ,hv8,h⟩:=h
 refine gg2 Tryz.results51 (rva (Tryz.isAgg35 _) (Tryz.sizeOf35 _) hv8) (rvU (vb true)) ⟨cE,cF,dP,cG,dQ,true,rfl,h⟩
 refine eg (qb (sc Tryz.call108 (h.mono fun e w15 ⟨r2,r3,k,h⟩=>⟨_,k,?_⟩)))
 refine q (qd (ln (qL (fun ρ w=>Has ρ [(4,(vp (some p2))),(6,(vp (some p3))),(9,(vp (some p5))),(11,(vi r3))]∧m_L_j2 p2 p3 p5 r3 w K) ?_ ?_)))
 rintro ρ w ⟨hH,h⟩
 refine zU hH (rg (qb (sc Tryz.call109 (h.mono fun e w16 ⟨bH,bI,bK,aR,bJ,dB,dC,k,h⟩=>⟨_,k,?_⟩))))
 refine qb ?_
 obtain ⟨hp8,h⟩:=h
 refine zK (zD rfl) (xo p5 (Ac 7 0 aR (⟨#[]⟩) false) (Tryz.sizeOf35 _) hp8) ?_
 intro w17 hn8
 have h:=h w17 hn8
 refine zC (yQ (zO (zA (eg (qc (ql (Tryz.isAgg4 _) h fun v6 h=>ln (cbr h ?_ ?_)))))))<;>intro h
 refine eg (q ?_)
 obtain ⟨hp9,h⟩:=h
 refine zK (zD rfl) (xo p2 (Ac 0 0 0 (⟨#[]⟩) false) (Tryz.sizeOf35 _) hp9) ?_
 intro w18 hn9
 have h:=h w18 hn9
 refine q (ln (er (zY ?_)))
 obtain ⟨bT,bU,dD,bV,dE,hv11,h⟩:=h
 refine gg2 Tryz.results51 (rva (Tryz.isAgg35 _) (Tryz.sizeOf35 _) hv11) (rvU (vb false)) ⟨bT,bU,dD,bV,dE,false,rfl,h⟩
 refine zB (zO (eg ?_))
 obtain ⟨dF,dG,gB,dH,gC,hv13,h⟩:=h
 refine qa (Tryz.isAgg35 _) (Tryz.sizeOf35 _) hv13 ?_
 obtain ⟨hp10,h⟩:=h
 refine zK (zD rfl) (xo p2 (Ac dF dG gB dH gC) (Tryz.sizeOf35 _) hp10) ?_
 intro w19 hn10
 have h:=h w19 hn10
 refine q (ln (er ?_))
 obtain ⟨bW,bX,dI,bY,dJ,hv12,h⟩:=h
 refine gg2 Tryz.results51 (rva (Tryz.isAgg35 _) (Tryz.sizeOf35 _) hv12) (rvU (vb true)) ⟨bW,bX,dI,bY,dJ,true,rfl,h⟩
 refine qL (fun ρ w=>Has ρ [(4,(vp (some p2))),(6,(vp (some p3))),(9,(vp (some p5))),(11,(vi r3))]∧m_L_j3 p2 p3 p5 r3 w K) ?_ ?_
 rintro ρ w ⟨hH,h⟩
 refine zU hH (eg (qc (ql (Tryz.isAgg4 _) h fun v7 h=>ln (cbr h ?_ ?_))))<;>intro h
 refine vF (yM (yK (zO (zA (eg (q0 (vp (some p3)) (q0 (vp (some p3)) (q0 (vp (some (p3.add 1))) (ql (Tryz.isAgg4 _) h fun v8 h=>ln (cbr h ?_ ?_))))))))))<;>intro h
 refine eg (q ?_)
 obtain ⟨hp11,h⟩:=h
 refine zK (zD rfl) (xo p2 (Ac 0 0 0 (⟨#[]⟩) false) (Tryz.sizeOf35 _) hp11) ?_
 intro w20 hn11
 have h:=h w20 hn11
 refine q (ln (er (zY ?_)))
 obtain ⟨bZ,cA,dK,cB,dL,hv15,h⟩:=h
 refine gg2 Tryz.results51 (rva (Tryz.isAgg35 _) (Tryz.sizeOf35 _) hv15) (rvU (vb false)) ⟨bZ,cA,dK,cB,dL,false,rfl,h⟩
 refine zB (zO (eg ?_))
 obtain ⟨cY,cZ,gD,dA,gE,hv17,h⟩:=h
 refine qa (Tryz.isAgg35 _) (Tryz.sizeOf35 _) hv17 ?_
 obtain ⟨hp12,h⟩:=h
 refine zK (zD rfl) (xo p2 (Ac cY cZ gD dA gE) (Tryz.sizeOf35 _) hp12) ?_
 intro w21 hn12
 have h:=h w21 hn12
 refine q (ln (er ?_))
 obtain ⟨dM,dN,gF,dO,gG,hv16,h⟩:=h
 refine gg2 Tryz.results51 (rva (Tryz.isAgg35 _) (Tryz.sizeOf35 _) hv16) (rvU (vb true)) ⟨dM,dN,gF,dO,gG,true,rfl,h⟩
 refine zB (zO ⟨hm,h⟩)
 refine rg (qd (ql (Tryz.isAgg4 _) h fun v9 h=>q ?_))
 rcases Bool.eq_false_or_eq_true v9 with hg1 | hg1
 have h:=h.1 hg1
 refine sj2 34 hg1 (q2 (vb true) (xT hg1) (qb ?_))
 obtain ⟨hp13,h⟩:=h
 refine zK (zD rfl) (vL (a:=(p3.add 1)) (v:=(vb true)) (by kernel_rfl) (by kernel_rfl) rfl (Tryz.sizeOf4 _) hp13) ?_
 intro w22 hn13
 have h:=h w22 hn13
 refine ln ⟨hm,h⟩
 have h:=h.2 hg1
 refine qk 34 hg1 (stq (v:=(vb (!(decide (r2=(⟨#[102,117,108,108]⟩:ByteArray)))))) (wy 34 hg1) (uM (by kernel_rfl) (by kernel_rfl)) (q2 (vb (!(decide (r2=(⟨#[102,117,108,108]⟩:ByteArray))))) (xF hg1) (qb ?_)))
 obtain ⟨hp14,h⟩:=h
 refine zK (zD rfl) (vL (a:=(p3.add 1)) (v:=(vb (!(decide (r2=(⟨#[102,117,108,108]⟩:ByteArray)))))) (by kernel_rfl) (by kernel_rfl) rfl (Tryz.sizeOf4 _) hp14) ?_
 intro w23 hn14
 have h:=h w23 hn14
 refine ln ⟨hm,h⟩
 refine eg (qb (ln (cbr h ?_ ?_)))<;>intro h
 refine zB (zO ⟨(v1 == 8),hm,h⟩)
 refine rg (qb (ln ⟨(v1 == 9),hm,h⟩))
def m_D2 (gL gM gN:Int) (gO:ByteArray) (gP first1 second1:Bool) (w:World) (K:Int→Int→Int→Int→ByteArray→Sl→WP):Prop :=∀p1 w1,New w (.cells #[(vi gL),(vi gM),(vu gN),(vs gO),(vb gP)] 35) p1 w1→∀p2 w2,New w1 (.cells #[(vi 0),(vi 0),(vi 0),(vu 0),(vs ⟨#[]⟩),Sl.nil.v] 107) p2 w2→∃v1,w2.cell? (p1.add 2)=some (vu v1)∧∃v2,w2.cell? (p1.add 3)=some (vs v2)∧Calls Tryz.prog 125 #[(vu v1),(vs v2)] w2 (fun e w3=>∃aE aF aG aD aH bL,e=.returned (Aa aE aF aG aD aH bL)∧∀p3 w4,New w3 (.cells #[(vi 0),(vi 0),(vi 0),(vu 0),(vs ⟨#[]⟩),Sl.nil.v] 107) p3 w4→(∀j,j<6→vG w4 (p3.add j))∧∀w5,w5=storeRow w4 p3 (Ab aE aF aG aD aH bL)→∃v3,w5.cell? p1=some (vi v3)∧Br (v3 == 1) (∃v4,w5.cell? (p1.add 1)=some (vi v4)∧∃aL aM aS aT aN bA,Row w5 p3 (Ab aL aM aS aT aN bA)∧∃v5,w5.cell? (p1.add 4)=some (vb v5)∧Calls Tryz.prog 126 #[(vi v4),(.agg #[(vi aL),(vi aM),(vi aS),(vu aT),(vs aN),bA.v]),(vb v5)] w5 (fun e w6=>∃bE bF bK aR aZ eX,e=.returned (Aa bE bF bK aR aZ eX)∧(∀j,j<6→vG w6 (p2.add j))∧∀w7,w7=storeRow w6 p2 (Ab bE bF bK aR aZ eX)→∃aA aB aI aJ aC aK,Row w7 p2 (Ab aA aB aI aJ aC aK)∧K aA aB aI aJ aC aK w7)) (Br (v3 == 2) (∃v6,w5.cell? (p1.add 1)=some (vi v6)∧∃bB bC bQ bR bD bS,Row w5 p3 (Ab bB bC bQ bR bD bS)∧Calls Tryz.prog 127 #[(vi v6),(.agg #[(vi bB),(vi bC),(vi bQ),(vu bR),(vs bD),bS.v])] w5 (fun e w8=>∃bO bP cW cX bG eY,e=.returned (Aa bO bP cW cX bG eY)∧(∀j,j<6→vG w8 (p2.add j))∧∀w9,w9=storeRow w8 p2 (Ab bO bP cW cX bG eY)→∃aO aP cL cM aQ dR,Row w9 p2 (Ab aO aP cL cM aQ dR)∧K aO aP cL cM aQ dR w9)) (Br (v3 == 3) (∃C1:WP,C1 w5.drew∧∀w10,w10=w5.drew→∃v7,(∀w',C1 w'→w'.cell? (p1.add 2)=some (vu v7))∧Calls Tryz.prog 129 #[(vs (⟨#[97,98,111,114,116]⟩:ByteArray))] w10 (fun e w11=>∃bH bI fW fX bJ fY,e=.returned (Aa bH bI fW fX bJ fY)∧C1 w11∧Calls Tryz.prog 130 #[(vu v7)] w11 (fun e w12=>∃cT cU eZ fA cV fB,e=.returned (Aa cT cU eZ fA cV fB)∧Calls Tryz.prog 128 #[(.agg #[(vi bH),(vi bI),(vi fW),(vu fX),(vs bJ),fY.v]),(.agg #[(vi cT),(vi cU),(vi eZ),(vu fA),(vs cV),fB.v])] w12 (fun e w13=>∃dW dX gQ gR dY gS,e=.returned (Aa dW dX gQ gR dY gS)∧Calls Tryz.prog 127 #[(vi 0),(.agg #[(vi dW),(vi dX),(vi gQ),(vu gR),(vs dY),gS.v])] w13 (fun e w14=>∃eI eJ jF jG eK jH,e=.returned (Aa eI eJ jF jG eK jH)∧(∀j,j<6→vG w14 (p2.add j))∧∀w15,w15=storeRow w14 p2 (Ab eI eJ jF jG eK jH)→∃aU aV dS dT aW gT,Row w15 p2 (Ab aU aV dS dT aW gT)∧K aU aV dS dT aW gT w15))))) (Br (v3 == 4) (∃C2:WP,C2 w5.drew∧∀w16,w16=w5.drew→∃v8,(∀w',C2 w'→w'.cell? (p1.add 1)=some (vi v8))∧∃dF dG gU gV dH gW,(∀w',C2 w'→Row w' p3 (Ab dF dG gU gV dH gW))∧∃v9,(∀w',C2 w'→w'.cell? (p1.add 4)=some (vb v9))∧∃cY cZ fC fD dA fE,(∀w',C2 w'→Row w' p3 (Ab cY cZ fC fD dA fE))∧∃v10,(∀w',C2 w'→w'.cell? (p1.add 4)=some (vb v10))∧Calls Tryz.prog 129 #[(vs (⟨#[114,101,115,111,108,118,101]⟩:ByteArray))] w16 (fun e w17=>∃dZ eA gX gY eB gZ,e=.returned (Aa dZ eA gX gY eB gZ)∧C2 w17∧Br v9 (Calls Tryz.prog 126 #[(vi 0),(.agg #[(vi dF),(vi dG),(vi gU),(vu gV),(vs dH),gW.v]),(vb first1)] w17 (fun e w18=>∃eL eM jI jJ eN jK,e=.returned (Aa eL eM jI jJ eN jK)∧C2 w18∧Br v10 (Calls Tryz.prog 126 #[(vi 1),(.agg #[(vi cY),(vi cZ),(vi fC),(vu fD),(vs dA),fE.v]),(vb second1)] w18 (fun e w19=>∃eC eD lU lV eE lW,e=.returned (Aa eC eD lU lV eE lW)∧C2 w19∧Calls Tryz.prog 128 #[(.agg #[(vi eL),(vi eM),(vi jI),(vu jJ),(vs eN),jK.v]),(.agg #[(vi eC),(vi eD),(vi lU),(vu lV),(vs eE),lW.v])] w19 (fun e w20=>∃fF fG lX lY fH lZ,e=.returned (Aa fF fG lX lY fH lZ)∧C2 w20∧Calls Tryz.prog 128 #[(.agg #[(vi dZ),(vi eA),(vi gX),(vu gY),(vs eB),gZ.v]),(.agg #[(vi fF),(vi fG),(vi lX),(vu lY),(vs fH),lZ.v])] w20 (fun e w21=>∃fI fJ mA mB fK mC,e=.returned (Aa fI fJ mA mB fK mC)∧C2 w21∧Calls Tryz.prog 127 #[(vi v8),(.agg #[(vi fI),(vi fJ),(vi mA),(vu mB),(vs fK),mC.v])] w21 (fun e w22=>∃eO eP jL jM eQ jN,e=.returned (Aa eO eP jL jM eQ jN)∧(∀j,j<6→vG w22 (p2.add j))∧∀w23,w23=storeRow w22 p2 (Ab eO eP jL jM eQ jN)→∃cE cF hA hB cG hD,Row w23 p2 (Ab cE cF hA hB cG hD)∧K cE cF hA hB cG hD w23))))) (Calls Tryz.prog 126 #[(vi 1),(.agg #[(vi cY),(vi cZ),(vi fC),(vu fD),(vs dA),fE.v]),(vb false)] w18 (fun e w24=>∃fL fM mD mE fN mF,e=.returned (Aa fL fM mD mE fN mF)∧C2 w24∧Calls Tryz.prog 128 #[(.agg #[(vi eL),(vi eM),(vi jI),(vu jJ),(vs eN),jK.v]),(.agg #[(vi fL),(vi fM),(vi mD),(vu mE),(vs fN),mF.v])] w24 (fun e w25=>∃eF eG mG mH eH mI,e=.returned (Aa eF eG mG mH eH mI)∧C2 w25∧Calls Tryz.prog 128 #[(.agg #[(vi dZ),(vi eA),(vi gX),(vu gY),(vs eB),gZ.v]),(.agg #[(vi eF),(vi eG),(vi mG),(vu mH),(vs eH),mI.v])] w25 (fun e w26=>∃fO fP mJ mK fQ mL,e=.returned (Aa fO fP mJ mK fQ mL)∧C2 w26∧Calls Tryz.prog 127 #[(vi v8),(.agg #[(vi fO),(vi fP),(vi mJ),(vu mK),(vs fQ),mL.v])] w26 (fun e w27=>∃eR eS jO jP eT jQ,e=.returned (Aa eR eS jO jP eT jQ)∧(∀j,j<6→vG w27 (p2.add j))∧∀w28,w28=storeRow w27 p2 (Ab eR eS jO jP eT jQ)→∃bT bU hE hF bV hG,Row w28 p2 (Ab bT bU hE hF bV hG)∧K bT bU hE hF bV hG w28))))))) (Calls Tryz.prog 126 #[(vi 0),(.agg #[(vi dF),(vi dG),(vi gU),(vu gV),(vs dH),gW.v]),(vb false)] w17 (fun e w29=>∃eU eV jR jS eW jT,e=.returned (Aa eU eV jR jS eW jT)∧C2 w29∧Br v10 (Calls Tryz.prog 126 #[(vi 1),(.agg #[(vi cY),(vi cZ),(vi fC),(vu fD),(vs dA),fE.v]),(vb second1)] w29 (fun e w30=>∃fR fS mM mN fT mO,e=.returned (Aa fR fS mM mN fT mO)∧C2 w30∧Calls Tryz.prog 128 #[(.agg #[(vi eU),(vi eV),(vi jR),(vu jS),(vs eW),jT.v]),(.agg #[(vi fR),(vi fS),(vi mM),(vu mN),(vs fT),mO.v])] w30 (fun e w31=>∃hI hJ mP mQ hK mR,e=.returned (Aa hI hJ mP mQ hK mR)∧C2 w31∧Calls Tryz.prog 128 #[(.agg #[(vi dZ),(vi eA),(vi gX),(vu gY),(vs eB),gZ.v]),(.agg #[(vi hI),(vi hJ),(vi mP),(vu mQ),(vs hK),mR.v])] w31 (fun e w32=>∃mS mT mU mV mW mX,e=.returned (Aa mS mT mU mV mW mX)∧C2 w32∧Calls Tryz.prog 127 #[(vi v8),(.agg #[(vi mS),(vi mT),(vi mU),(vu mV),(vs mW),mX.v])] w32 (fun e w33=>∃jU jV jW jX jY jZ,e=.returned (Aa jU jV jW jX jY jZ)∧(∀j,j<6→vG w33 (p2.add j))∧∀w34,w34=storeRow w33 p2 (Ab jU jV jW jX jY jZ)→∃bW bX hL hM bY hN,Row w34 p2 (Ab bW bX hL hM bY hN)∧K bW bX hL hM bY hN w34))))) (Calls Tryz.prog 126 #[(vi 1),(.agg #[(vi cY),(vi cZ),(vi fC),(vu fD),(vs dA),fE.v]),(vb false)] w29 (fun e w35=>∃mY mZ nA nB nC nD,e=.returned (Aa mY mZ nA nB nC nD)∧C2 w35∧Calls Tryz.prog 128 #[(.agg #[(vi eU),(vi eV),(vi jR),(vu jS),(vs eW),jT.v]),(.agg #[(vi mY),(vi mZ),(vi nA),(vu nB),(vs nC),nD.v])] w35 (fun e w36=>∃nE nF nG nH nI nJ,e=.returned (Aa nE nF nG nH nI nJ)∧C2 w36∧Calls Tryz.prog 128 #[(.agg #[(vi dZ),(vi eA),(vi gX),(vu gY),(vs eB),gZ.v]),(.agg #[(vi nE),(vi nF),(vi nG),(vu nH),(vs nI),nJ.v])] w36 (fun e w37=>∃nK nL nM nN nO nP,e=.returned (Aa nK nL nM nN nO nP)∧C2 w37∧Calls Tryz.prog 127 #[(vi v8),(.agg #[(vi nK),(vi nL),(vi nM),(vu nN),(vs nO),nP.v])] w37 (fun e w38=>∃kA kB kC kD kE kF,e=.returned (Aa kA kB kC kD kE kF)∧(∀j,j<6→vG w38 (p2.add j))∧∀w39,w39=storeRow w38 p2 (Ab kA kB kC kD kE kF)→∃bZ cA hO hQ cB hR,Row w39 p2 (Ab bZ cA hO hQ cB hR)∧K bZ cA hO hQ cB hR w39))))))))) (Br (v3 == 5) (∃C3:WP,C3 w5.drew∧∀w40,w40=w5.drew→∃v11,(∀w',C3 w'→w'.cell? (p1.add 2)=some (vu v11))∧Calls Tryz.prog 129 #[(vs (⟨#[97,98,111,114,116,101,100]⟩:ByteArray))] w40 (fun e w41=>∃nQ nR nS nT nU nV,e=.returned (Aa nQ nR nS nT nU nV)∧C3 w41∧Calls Tryz.prog 130 #[(vu v11)] w41 (fun e w42=>∃nW nX nY nZ oA oB,e=.returned (Aa nW nX nY nZ oA oB)∧Calls Tryz.prog 128 #[(.agg #[(vi nQ),(vi nR),(vi nS),(vu nT),(vs nU),nV.v]),(.agg #[(vi nW),(vi nX),(vi nY),(vu nZ),(vs oA),oB.v])] w42 (fun e w43=>∃oC oD oE oF oG oH,e=.returned (Aa oC oD oE oF oG oH)∧Calls Tryz.prog 127 #[(vi 2),(.agg #[(vi oC),(vi oD),(vi oE),(vu oF),(vs oG),oH.v])] w43 (fun e w44=>∃kG kH kI kJ kK kL,e=.returned (Aa kG kH kI kJ kK kL)∧(∀j,j<6→vG w44 (p2.add j))∧∀w45,w45=storeRow w44 p2 (Ab kG kH kI kJ kK kL)→∃dM dN hS hT dO hU,Row w45 p2 (Ab dM dN hS hT dO hU)∧K dM dN hS hT dO hU w45))))) (Br (v3 == 6) (∃C4:WP,C4 w5.drew∧∀w46,w46=w5.drew→∃iZ jA jB jC jD jE,(∀w',C4 w'→Row w' p3 (Ab iZ jA jB jC jD jE))∧Calls Tryz.prog 129 #[(vs (⟨#[105,110,115,116,101,97,100]⟩:ByteArray))] w46 (fun e w47=>∃oI oJ oK oL oM oN,e=.returned (Aa oI oJ oK oL oM oN)∧C4 w47∧Calls Tryz.prog 128 #[(.agg #[(vi oI),(vi oJ),(vi oK),(vu oL),(vs oM),oN.v]),(.agg #[(vi iZ),(vi jA),(vi jB),(vu jC),(vs jD),jE.v])] w47 (fun e w48=>∃oO oP oQ oR oS oT,e=.returned (Aa oO oP oQ oR oS oT)∧Calls Tryz.prog 127 #[(vi 2),(.agg #[(vi oO),(vi oP),(vi oQ),(vu oR),(vs oS),oT.v])] w48 (fun e w49=>∃kM kN kO kP kQ kR,e=.returned (Aa kM kN kO kP kQ kR)∧(∀j,j<6→vG w49 (p2.add j))∧∀w50,w50=storeRow w49 p2 (Ab kM kN kO kP kQ kR)→∃hV hW hX hY hZ iA,Row w50 p2 (Ab hV hW hX hY hZ iA)∧K hV hW hX hY hZ iA w50)))) (∃C5:WP,C5 w5.drew∧∀w51,w51=w5.drew→∃v12,(∀w',C5 w'→w'.cell? (p1.add 2)=some (vu v12))∧Calls Tryz.prog 129 #[(vs (⟨#[102,117,108,108]⟩:ByteArray))] w51 (fun e w52=>∃oU oV oW oX oY oZ,e=.returned (Aa oU oV oW oX oY oZ)∧C5 w52∧Calls Tryz.prog 130 #[(vu v12)] w52 (fun e w53=>∃pA pB pC pD pE pF,e=.returned (Aa pA pB pC pD pE pF)∧Calls Tryz.prog 128 #[(.agg #[(vi oU),(vi oV),(vi oW),(vu oX),(vs oY),oZ.v]),(.agg #[(vi pA),(vi pB),(vi pC),(vu pD),(vs pE),pF.v])] w53 (fun e w54=>∃kS kT kU kV kW kX,e=.returned (Aa kS kT kU kV kW kX)∧(∀j,j<6→vG w54 (p2.add j))∧∀w55,w55=storeRow w54 p2 (Ab kS kT kU kV kW kX)→∃iB iC iD iE iF iG,Row w55 p2 (Ab iB iC iD iE iF iG)∧K iB iC iD iE iF iG w55))))))))))
theorem w_D2 (gL gM gN gO gP first1 second1 w K) (h:m_D2 gL gM gN gO gP first1 second1 w K):
  Calls Tryz.prog 58 #[(.agg #[(vi gL),(vi gM),(vu gN),(vs gO),(vb gP)]),(vb first1),(vb second1)] w (fun e w'=>∃pG pH pI pJ pK pL,e=.returned (Aa pG pH pI pJ pK pL)∧K pG pH pI pJ pK pL w'):=by
 refine cw (args:=[(Af gL gM gN gO gP),(vb first1),(vb second1)]) Tryz.func58 Tryz.ntmps58 (eg (sn (O:=(.cells #[(vi gL),(vi gM),(vu gN),(vs gO),(vb gP)] 35)) xb ?_))
 intro p1 w1 hn14
 have h:=h p1 w1 hn14
 refine nw1 h (zM (Tryz.zeroValue107 _) rfl) fun p2 w2 h=>ln (eg (q (ql (Tryz.isAgg23 _) h fun v1 h=>q (ql (Tryz.isAgg9 _) h fun v2 h=>sc Tryz.call125 (h.mono fun e w3 ⟨aE,aF,aG,aD,aH,bL,k,h⟩=>⟨_,k,?_⟩)))))
 refine nw1 h (zM (Tryz.zeroValue107 _) rfl) fun p3 w4 h=>?_
 obtain ⟨hp1,h⟩:=h
 refine zK (zD rfl) (xo p3 (Ab aE aF aG aD aH bL) (Tryz.sizeOf107 _) hp1) ?_
 intro w5 hn1
 have h:=h w5 hn1
 refine ln (zA (eg (q (ql (Tryz.isAgg3 _) h fun v3 h=>ln (zJ (eg (qb (ln (cbr h ?_ ?_)))))))))<;>intro h
 refine eg (q (ql (Tryz.isAgg3 _) h fun v4 h=>?_))
 obtain ⟨aL,aM,aS,aT,aN,bA,hv3,h⟩:=h
 refine qa (Tryz.isAgg107 _) (Tryz.sizeOf107 _) hv3 (q (ql (Tryz.isAgg4 _) h fun v5 h=>sc Tryz.call126 (h.mono fun e w6 ⟨bE,bF,bK,aR,aZ,eX,k,h⟩=>⟨_,k,?_⟩)))
 obtain ⟨hp2,h⟩:=h
 refine zK (zD rfl) (xo p2 (Ab bE bF bK aR aZ eX) (Tryz.sizeOf107 _) hp2) ?_
 intro w7 hn2
 have h:=h w7 hn2
 refine ln (er (qN (zY ?_)))
 obtain ⟨aA,aB,aI,aJ,aC,aK,hv1,h⟩:=h
 refine gg1 Tryz.results58 (rva (Tryz.isAgg107 _) (Tryz.sizeOf107 _) hv1) ⟨aA,aB,aI,aJ,aC,aK,rfl,h⟩
 refine eg (qb (ln (cbr h ?_ ?_)))<;>intro h
 refine eg (q (ql (Tryz.isAgg3 _) h fun v6 h=>?_))
 obtain ⟨bB,bC,bQ,bR,bD,bS,hv6,h⟩:=h
 refine qa (Tryz.isAgg107 _) (Tryz.sizeOf107 _) hv6 (sc Tryz.call127 (h.mono fun e w8 ⟨bO,bP,cW,cX,bG,eY,k,h⟩=>⟨_,k,?_⟩))
 obtain ⟨hp3,h⟩:=h
 refine zK (zD rfl) (xo p2 (Ab bO bP cW cX bG eY) (Tryz.sizeOf107 _) hp3) ?_
 intro w9 hn3
 have h:=h w9 hn3
 refine ln (er (qN (zY ?_)))
 obtain ⟨aO,aP,cL,cM,aQ,dR,hv5,h⟩:=h
 refine gg1 Tryz.results58 (rva (Tryz.isAgg107 _) (Tryz.sizeOf107 _) hv5) ⟨aO,aP,cL,cM,aQ,dR,rfl,h⟩
 refine eg (qb (ln (cbr h ?_ ?_)))<;>intro h
 refine zA ?_
 obtain ⟨C1,hC,h⟩:=h
 refine dr1 C1 [0,3,4,5,6] [3,4,5,6] hC h fun w10 h=>qx 1 (vp (some (p1.add 2))) Kp1 (qg 2 ?_)
 obtain ⟨v7,hv9,h⟩:=h
 refine sy Kp2 (fun _ k=>xl (Tryz.isAgg23 _) (hv9 _ k)) (lg 0 (zL Kp0 (zD rfl) (by kernel_rfl) (xc Tryz.call129) (h.mono ?_)))
 rintro e w11 ⟨bH,bI,fW,fX,bJ,fY,rfl,hC,h⟩
 refine ⟨_,rfl,.inr hC,?_⟩
 refine lg 3 (zL Kp3 (zD rfl) (by kernel_rfl) (xc Tryz.call130) (h.mono ?_))
 rintro e w12 ⟨cT,cU,eZ,fA,cV,fB,rfl,h⟩
 refine ⟨_,rfl,.inl (by kernel_rfl),?_⟩
 refine lg 4 (zL Kp4 (zD rfl) (by kernel_rfl) (xc Tryz.call128) (h.mono ?_))
 rintro e w13 ⟨dW,dX,gQ,gR,dY,gS,rfl,h⟩
 refine ⟨_,rfl,.inl (by kernel_rfl),?_⟩
 refine lg 5 (zL Kp5 (zD rfl) (by kernel_rfl) (xc Tryz.call127) (h.mono ?_))
 rintro e w14 ⟨eI,eJ,jF,jG,eK,jH,rfl,h⟩
 refine ⟨_,rfl,.inl (by kernel_rfl),?_⟩
 refine lg 6 (slo Kp6 (Tryz.sizeOf107 _) h fun w15 h=>⟨.inl (by kernel_rfl),?_⟩)
 refine wn (zO (er (qN (zY ?_))))
 obtain ⟨aU,aV,dS,dT,aW,gT,hv8,h⟩:=h
 refine gg1 Tryz.results58 (rva (Tryz.isAgg107 _) (Tryz.sizeOf107 _) hv8) ⟨aU,aV,dS,dT,aW,gT,rfl,h⟩
 refine eg (qb (ln (cbr h ?_ ?_)))<;>intro h
 refine zA ?_
 obtain ⟨C2,hC,h⟩:=h
 refine dr1 C2 [2,9,16,17,18,19,20] [19,20] hC h fun w16 h=>qx 0 (vp (some (p1.add 1))) Kp0 (qg 1 ?_)
 obtain ⟨v8,hv18,h⟩:=h
 refine sy Kp1 (fun _ k=>xl (Tryz.isAgg3 _) (hv18 _ k)) (qg 3 ?_)
 obtain ⟨dF,dG,gU,gV,dH,gW,hv17,h⟩:=h
 refine sy (v:=(Aa dF dG gU gV dH gW)) Kp3 (fun w' hw'=>(xa p3 (Ab dF dG gU gV dH gW) (Tryz.isAgg107 _) (Tryz.sizeOf107 _) (hv17 w' hw'))) (qx 4 (vp (some (p1.add 4))) Kp4 (qg 5 ?_))
 obtain ⟨v9,hv16,h⟩:=h
 refine sy Kp5 (fun _ k=>xl (Tryz.isAgg4 _) (hv16 _ k)) (qg 10 ?_)
 obtain ⟨cY,cZ,fC,fD,dA,fE,hv15,h⟩:=h
 refine sy (v:=(Aa cY cZ fC fD dA fE)) (zS (S8 (zI (zI zR)))) (fun w' hw'=>(xa p3 (Ab cY cZ fC fD dA fE) (Tryz.isAgg107 _) (Tryz.sizeOf107 _) (hv15 w' hw'))) (qx 11 (vp (some (p1.add 4))) (zS (S8 (zI (zI (zI zR))))) (qg 12 ?_))
 obtain ⟨v10,hv14,h⟩:=h
 refine sy (zS (S8 (S4 zR))) (fun _ k=>xl (Tryz.isAgg4 _) (hv14 _ k)) (lg 2 (zL Kp2 (zD rfl) (by kernel_rfl) (xc Tryz.call129) (h.mono ?_)))
 rintro e w17 ⟨dZ,eA,gX,gY,eB,gZ,rfl,hC,h⟩
 refine ⟨_,rfl,.inr hC,?_⟩
 refine qx 6 (vb v9) Kp6 (qg 7 ?_)
 rcases Bool.eq_false_or_eq_true v9 with hg1 | hg1
 have h:=h.1 hg1
 refine sz (v:=(vb first1)) Kp7 (wy 45 hg1) (fun _ _=>(by kernel_rfl)) (qz 8 (vb first1) Kp8 (fun _ _=>(xT hg1)) (lg 9 (zL Kp9 (zD rfl) (by kernel_rfl) (xc Tryz.call126) (h.mono ?_))))
 rintro e w18 ⟨eL,eM,jI,jJ,eN,jK,rfl,hC,h⟩
 refine ⟨_,rfl,.inr hC,?_⟩
 refine qx 13 (vb v10) (zS (S8 (S4 (zI zR)))) (qg 14 ?_)
 rcases Bool.eq_false_or_eq_true v10 with hg2 | hg2
 have h:=h.1 hg2
 refine sz (v:=(vb second1)) (zS (S8 (S4 (zI (zI zR))))) (wy 52 hg2) (fun _ _=>(by kernel_rfl)) (qz 15 (vb second1) (zS (S8 (S4 (zI (zI (zI zR)))))) (fun _ _=>(xT hg2)) (lg 16 (zL (zS (S8 (S8 zR))) (zD rfl) (by kernel_rfl) (xc Tryz.call126) (h.mono ?_))))
 rintro e w19 ⟨eC,eD,lU,lV,eE,lW,rfl,hC,h⟩
 refine ⟨_,rfl,.inr hC,?_⟩
 refine lg 17 (zL (zS (S8 (S8 (zI zR)))) (zD rfl) (by kernel_rfl) (xc Tryz.call128) (h.mono ?_))
 rintro e w20 ⟨fF,fG,lX,lY,fH,lZ,rfl,hC,h⟩
 refine ⟨_,rfl,.inr hC,?_⟩
 refine lg 18 (zL (zS (S8 (S8 (zI (zI zR))))) (zD rfl) (by kernel_rfl) (xc Tryz.call128) (h.mono ?_))
 rintro e w21 ⟨fI,fJ,mA,mB,fK,mC,rfl,hC,h⟩
 refine ⟨_,rfl,.inr hC,?_⟩
 refine lg 19 (zL (zS (S8 (S8 (zI (zI (zI zR)))))) (zD rfl) (by kernel_rfl) (xc Tryz.call127) (h.mono ?_))
 rintro e w22 ⟨eO,eP,jL,jM,eQ,jN,rfl,h⟩
 refine ⟨_,rfl,.inl (by kernel_rfl),?_⟩
 refine lg 20 (slo (zS (S8 (S8 (S4 zR)))) (Tryz.sizeOf107 _) h fun w23 h=>⟨.inl (by kernel_rfl),?_⟩)
 refine wn (zO (er (qN (zY ?_))))
 obtain ⟨cE,cF,hA,hB,cG,hD,hv10,h⟩:=h
 refine gg1 Tryz.results58 (rva (Tryz.isAgg107 _) (Tryz.sizeOf107 _) hv10) ⟨cE,cF,hA,hB,cG,hD,rfl,h⟩
 have h:=h.2 hg2
 refine xK (zS (S8 (S4 (zI (zI zR))))) (qC rfl (yD 52 hg2) rfl) (qz 15 (vb false) (zS (S8 (S4 (zI (zI (zI zR)))))) (fun _ _=>(xF hg2)) (lg 16 (zL (zS (S8 (S8 zR))) (zD rfl) (by kernel_rfl) (xc Tryz.call126) (h.mono ?_))))
 rintro e w24 ⟨fL,fM,mD,mE,fN,mF,rfl,hC,h⟩
 refine ⟨_,rfl,.inr hC,?_⟩
 refine lg 17 (zL (zS (S8 (S8 (zI zR)))) (zD rfl) (by kernel_rfl) (xc Tryz.call128) (h.mono ?_))
 rintro e w25 ⟨eF,eG,mG,mH,eH,mI,rfl,hC,h⟩
 refine ⟨_,rfl,.inr hC,?_⟩
 refine lg 18 (zL (zS (S8 (S8 (zI (zI zR))))) (zD rfl) (by kernel_rfl) (xc Tryz.call128) (h.mono ?_))
 rintro e w26 ⟨fO,fP,mJ,mK,fQ,mL,rfl,hC,h⟩
 refine ⟨_,rfl,.inr hC,?_⟩
 refine lg 19 (zL (zS (S8 (S8 (zI (zI (zI zR)))))) (zD rfl) (by kernel_rfl) (xc Tryz.call127) (h.mono ?_))
 rintro e w27 ⟨eR,eS,jO,jP,eT,jQ,rfl,h⟩
 refine ⟨_,rfl,.inl (by kernel_rfl),?_⟩
 refine lg 20 (slo (zS (S8 (S8 (S4 zR)))) (Tryz.sizeOf107 _) h fun w28 h=>⟨.inl (by kernel_rfl),?_⟩)
 refine wn (zO (er (qN (zY ?_))))
 obtain ⟨bT,bU,hE,hF,bV,hG,hv11,h⟩:=h
 refine gg1 Tryz.results58 (rva (Tryz.isAgg107 _) (Tryz.sizeOf107 _) hv11) ⟨bT,bU,hE,hF,bV,hG,rfl,h⟩
 have h:=h.2 hg1
 refine xK Kp7 (qC rfl (yD 45 hg1) rfl) (qz 8 (vb false) Kp8 (fun _ _=>(xF hg1)) (lg 9 (zL Kp9 (zD rfl) (by kernel_rfl) (xc Tryz.call126) (h.mono ?_))))
 rintro e w29 ⟨eU,eV,jR,jS,eW,jT,rfl,hC,h⟩
 refine ⟨_,rfl,.inr hC,?_⟩
 refine qx 13 (vb v10) (zS (S8 (S4 (zI zR)))) (qg 14 ?_)
 rcases Bool.eq_false_or_eq_true v10 with hg3 | hg3
 have h:=h.1 hg3
 refine sz (v:=(vb second1)) (zS (S8 (S4 (zI (zI zR))))) (wy 52 hg3) (fun _ _=>(by kernel_rfl)) (qz 15 (vb second1) (zS (S8 (S4 (zI (zI (zI zR)))))) (fun _ _=>(xT hg3)) (lg 16 (zL (zS (S8 (S8 zR))) (zD rfl) (by kernel_rfl) (xc Tryz.call126) (h.mono ?_))))
 rintro e w30 ⟨fR,fS,mM,mN,fT,mO,rfl,hC,h⟩
 refine ⟨_,rfl,.inr hC,?_⟩
 refine lg 17 (zL (zS (S8 (S8 (zI zR)))) (zD rfl) (by kernel_rfl) (xc Tryz.call128) (h.mono ?_))
 rintro e w31 ⟨hI,hJ,mP,mQ,hK,mR,rfl,hC,h⟩
 refine ⟨_,rfl,.inr hC,?_⟩
 refine lg 18 (zL (zS (S8 (S8 (zI (zI zR))))) (zD rfl) (by kernel_rfl) (xc Tryz.call128) (h.mono ?_))
 rintro e w32 ⟨mS,mT,mU,mV,mW,mX,rfl,hC,h⟩
 refine ⟨_,rfl,.inr hC,?_⟩
 refine lg 19 (zL (zS (S8 (S8 (zI (zI (zI zR)))))) (zD rfl) (by kernel_rfl) (xc Tryz.call127) (h.mono ?_))
 rintro e w33 ⟨jU,jV,jW,jX,jY,jZ,rfl,h⟩
 refine ⟨_,rfl,.inl (by kernel_rfl),?_⟩
 refine lg 20 (slo (zS (S8 (S8 (S4 zR)))) (Tryz.sizeOf107 _) h fun w34 h=>⟨.inl (by kernel_rfl),?_⟩)
 refine wn (zO (er (qN (zY ?_))))
 obtain ⟨bW,bX,hL,hM,bY,hN,hv12,h⟩:=h
 refine gg1 Tryz.results58 (rva (Tryz.isAgg107 _) (Tryz.sizeOf107 _) hv12) ⟨bW,bX,hL,hM,bY,hN,rfl,h⟩
 have h:=h.2 hg3
 refine xK (zS (S8 (S4 (zI (zI zR))))) (qC rfl (yD 52 hg3) rfl) (qz 15 (vb false) (zS (S8 (S4 (zI (zI (zI zR)))))) (fun _ _=>(xF hg3)) (lg 16 (zL (zS (S8 (S8 zR))) (zD rfl) (by kernel_rfl) (xc Tryz.call126) (h.mono ?_))))
 rintro e w35 ⟨mY,mZ,nA,nB,nC,nD,rfl,hC,h⟩
 refine ⟨_,rfl,.inr hC,?_⟩
 refine lg 17 (zL (zS (S8 (S8 (zI zR)))) (zD rfl) (by kernel_rfl) (xc Tryz.call128) (h.mono ?_))
 rintro e w36 ⟨nE,nF,nG,nH,nI,nJ,rfl,hC,h⟩
 refine ⟨_,rfl,.inr hC,?_⟩
 refine lg 18 (zL (zS (S8 (S8 (zI (zI zR))))) (zD rfl) (by kernel_rfl) (xc Tryz.call128) (h.mono ?_))
 rintro e w37 ⟨nK,nL,nM,nN,nO,nP,rfl,hC,h⟩
 refine ⟨_,rfl,.inr hC,?_⟩
 refine lg 19 (zL (zS (S8 (S8 (zI (zI (zI zR)))))) (zD rfl) (by kernel_rfl) (xc Tryz.call127) (h.mono ?_))
 rintro e w38 ⟨kA,kB,kC,kD,kE,kF,rfl,h⟩
 refine ⟨_,rfl,.inl (by kernel_rfl),?_⟩
 refine lg 20 (slo (zS (S8 (S8 (S4 zR)))) (Tryz.sizeOf107 _) h fun w39 h=>⟨.inl (by kernel_rfl),?_⟩)
 refine wn (zO (er (qN (zY ?_))))
 obtain ⟨bZ,cA,hO,hQ,cB,hR,hv13,h⟩:=h
 refine gg1 Tryz.results58 (rva (Tryz.isAgg107 _) (Tryz.sizeOf107 _) hv13) ⟨bZ,cA,hO,hQ,cB,hR,rfl,h⟩
 refine eg (qb (ln (cbr h ?_ ?_)))<;>intro h
 refine zA ?_
 obtain ⟨C3,hC,h⟩:=h
 refine dr1 C3 [0,3,4,5,6] [3,4,5,6] hC h fun w40 h=>qx 1 (vp (some (p1.add 2))) Kp1 (qg 2 ?_)
 obtain ⟨v11,hv20,h⟩:=h
 refine sy Kp2 (fun _ k=>xl (Tryz.isAgg23 _) (hv20 _ k)) (lg 0 (zL Kp0 (zD rfl) (by kernel_rfl) (xc Tryz.call129) (h.mono ?_)))
 rintro e w41 ⟨nQ,nR,nS,nT,nU,nV,rfl,hC,h⟩
 refine ⟨_,rfl,.inr hC,?_⟩
 refine lg 3 (zL Kp3 (zD rfl) (by kernel_rfl) (xc Tryz.call130) (h.mono ?_))
 rintro e w42 ⟨nW,nX,nY,nZ,oA,oB,rfl,h⟩
 refine ⟨_,rfl,.inl (by kernel_rfl),?_⟩
 refine lg 4 (zL Kp4 (zD rfl) (by kernel_rfl) (xc Tryz.call128) (h.mono ?_))
 rintro e w43 ⟨oC,oD,oE,oF,oG,oH,rfl,h⟩
 refine ⟨_,rfl,.inl (by kernel_rfl),?_⟩
 refine lg 5 (zL Kp5 (zD rfl) (by kernel_rfl) (xc Tryz.call127) (h.mono ?_))
 rintro e w44 ⟨kG,kH,kI,kJ,kK,kL,rfl,h⟩
 refine ⟨_,rfl,.inl (by kernel_rfl),?_⟩
 refine lg 6 (slo Kp6 (Tryz.sizeOf107 _) h fun w45 h=>⟨.inl (by kernel_rfl),?_⟩)
 refine wn (zO (er (qN (zY ?_))))
 obtain ⟨dM,dN,hS,hT,dO,hU,hv19,h⟩:=h
 refine gg1 Tryz.results58 (rva (Tryz.isAgg107 _) (Tryz.sizeOf107 _) hv19) ⟨dM,dN,hS,hT,dO,hU,rfl,h⟩
 refine eg (qb (ln (cbr h ?_ ?_)))<;>intro h
 refine zA ?_
 obtain ⟨C4,hC,h⟩:=h
 refine dr1 C4 [0,2,3,4] [2,3,4] hC h fun w46 h=>qg 1 ?_
 obtain ⟨iZ,jA,jB,jC,jD,jE,hv22,h⟩:=h
 refine sy (v:=(Aa iZ jA jB jC jD jE)) Kp1 (fun w' hw'=>(xa p3 (Ab iZ jA jB jC jD jE) (Tryz.isAgg107 _) (Tryz.sizeOf107 _) (hv22 w' hw'))) (lg 0 (zL Kp0 (zD rfl) (by kernel_rfl) (xc Tryz.call129) (h.mono ?_)))
 rintro e w47 ⟨oI,oJ,oK,oL,oM,oN,rfl,hC,h⟩
 refine ⟨_,rfl,.inr hC,?_⟩
 refine lg 2 (zL Kp2 (zD rfl) (by kernel_rfl) (xc Tryz.call128) (h.mono ?_))
 rintro e w48 ⟨oO,oP,oQ,oR,oS,oT,rfl,h⟩
 refine ⟨_,rfl,.inl (by kernel_rfl),?_⟩
 refine lg 3 (zL Kp3 (zD rfl) (by kernel_rfl) (xc Tryz.call127) (h.mono ?_))
 rintro e w49 ⟨kM,kN,kO,kP,kQ,kR,rfl,h⟩
 refine ⟨_,rfl,.inl (by kernel_rfl),?_⟩
 refine lg 4 (slo Kp4 (Tryz.sizeOf107 _) h fun w50 h=>⟨.inl (by kernel_rfl),?_⟩)
 refine wn (zO (er (qN (zY ?_))))
 obtain ⟨hV,hW,hX,hY,hZ,iA,hv21,h⟩:=h
 refine gg1 Tryz.results58 (rva (Tryz.isAgg107 _) (Tryz.sizeOf107 _) hv21) ⟨hV,hW,hX,hY,hZ,iA,rfl,h⟩
 refine zB (yQ (zO (zA ?_)))
 obtain ⟨C5,hC,h⟩:=h
 refine dr1 C5 [0,3,4,5] [3,4,5] hC h fun w51 h=>qx 1 (vp (some (p1.add 2))) Kp1 (qg 2 ?_)
 obtain ⟨v12,hv24,h⟩:=h
 refine sy Kp2 (fun _ k=>xl (Tryz.isAgg23 _) (hv24 _ k)) (lg 0 (zL Kp0 (zD rfl) (by kernel_rfl) (xc Tryz.call129) (h.mono ?_)))
 rintro e w52 ⟨oU,oV,oW,oX,oY,oZ,rfl,hC,h⟩
 refine ⟨_,rfl,.inr hC,?_⟩
 refine lg 3 (zL Kp3 (zD rfl) (by kernel_rfl) (xc Tryz.call130) (h.mono ?_))
 rintro e w53 ⟨pA,pB,pC,pD,pE,pF,rfl,h⟩
 refine ⟨_,rfl,.inl (by kernel_rfl),?_⟩
 refine lg 4 (zL Kp4 (zD rfl) (by kernel_rfl) (xc Tryz.call128) (h.mono ?_))
 rintro e w54 ⟨kS,kT,kU,kV,kW,kX,rfl,h⟩
 refine ⟨_,rfl,.inl (by kernel_rfl),?_⟩
 refine lg 5 (slo Kp5 (Tryz.sizeOf107 _) h fun w55 h=>⟨.inl (by kernel_rfl),?_⟩)
 refine wn (zO (er ?_))
 obtain ⟨iB,iC,iD,iE,iF,iG,hv23,h⟩:=h
 refine gg1 Tryz.results58 (rva (Tryz.isAgg107 _) (Tryz.sizeOf107 _) hv23) ⟨iB,iC,iD,iE,iF,iG,rfl,h⟩
def m_A_j7 (who1:Int) (p1 a1 a2:Addr) (w:World) (K:Int→Int→Int→ByteArray→Bool→WP):Prop :=∃v1,w.cell? (a1.add 2)=some (vu v1)∧∃v2,w.cell? (a1.add 3)=some (vs v2)∧∃v3,w.cell? (a1.add 4)=some (vb v3)∧Br v3 ((∀j,j<5→vG w (p1.add j))∧∀w14,w14=storeRow w p1 (Ac 4 who1 v1 v2 true)→∃bT bU dD bV dE,Row w14 p1 (Ac bT bU dD bV dE)∧K bT bU dD bV dE w14) (∃v4,w.cell? (a2.add 4)=some (vb v4)∧(∀j,j<5→vG w (p1.add j))∧∀w15,w15=storeRow w p1 (Ac 4 who1 v1 v2 v4)→∃bW bX dI bY dJ,Row w15 p1 (Ac bW bX dI bY dJ)∧K bW bX dI bY dJ w15)
def m_A_j10 (r1:Option Addr) (who1:Int) (p1 a1 a2:Addr) (x8:Bool) (w:World) (K:Int→Int→Int→ByteArray→Bool→WP):Prop :=Br x8 (∃a4,r1=some a4∧vG w (a4.add 1)∧∀w16,w16=w.setCell (a4.add 1) (vb true)→m_A_j7 who1 p1 a1 a2 w16 K) (∃v6,w.cell? (a1.add 3)=some (vs v6)∧∃v7,w.cell? (a2.add 3)=some (vs v7)∧∃a5,r1=some a5∧vG w (a5.add 1)∧∀w17,w17=w.setCell (a5.add 1) (vb (!(decide (v6=v7))))→m_A_j7 who1 p1 a1 a2 w17 K)
def m_A_j9 (r1:Option Addr) (who1:Int) (p1 a1 a2:Addr) (x7:Bool) (w:World) (K:Int→Int→Int→ByteArray→Bool→WP):Prop :=Br x7 (m_A_j10 r1 who1 p1 a1 a2 true w K) (∃v8,w.cell? (a1.add 2)=some (vu v8)∧∃v9,w.cell? (a2.add 2)=some (vu v9)∧m_A_j10 r1 who1 p1 a1 a2 (v8 != v9) w K)
def m_A_j8 (r1:Option Addr) (who1:Int) (p1 a1 a2:Addr) (x6:Bool) (w:World) (K:Int→Int→Int→ByteArray→Bool→WP):Prop :=Br x6 (m_A_j9 r1 who1 p1 a1 a2 true w K) (∃v10,w.cell? (a2.add 1)=some (vi v10)∧m_A_j9 r1 who1 p1 a1 a2 (v10 != 1) w K)
def m_A_j6 (r1:Option Addr) (who1:Int) (p1 a1 a2:Addr) (w:World) (K:Int→Int→Int→ByteArray→Bool→WP):Prop :=∃a3,r1=some a3∧∃v5,w.cell? (a3.add 1)=some (vb v5)∧Br v5 (m_A_j8 r1 who1 p1 a1 a2 true w K) (∃v11,w.cell? (a1.add 1)=some (vi v11)∧m_A_j8 r1 who1 p1 a1 a2 (v11 != 0) w K)
def m_A_j5 (r1:Option Addr) (who1:Int) (p1:Addr) (r3:Int) (x5:Bool) (w:World) (K:Int→Int→Int→ByteArray→Bool→WP):Prop :=Br x5 (Calls Tryz.prog 109 #[(vp r1),(vi r3),(vi 4)] w (fun e w11=>∃bO bP cW cX bG fZ gA,e=.returned (Ae bO bP cW cX bG fZ gA)∧∀p2 w12,New w11 (.cells #[(vi 0),(vi 0),(vi 0),(vu 0),(vs ⟨#[]⟩),(vi 0),(vi 0)] 176) p2 w12→(∀j,j<7→vG w12 (p2.add j))∧∀w13,w13=storeRow w12 p2 (Ad bO bP cW cX bG fZ gA)→∃C1:WP,C1 w13.drew∧∀w18,w18=w13.drew→∃v12,(∀w',C1 w'→w'.cell? (p2.add 5)=some (vi v12))∧∃v13,(∀w',C1 w'→w'.cell? (p2.add 6)=some (vi v13))∧(Calls Tryz.prog 107 #[(vp r1),(vi v12)] w18 (fun e w19=>∃bH bI bM bJ bN,e=.returned (Af bH bI bM bJ bN)∧C1 w19∧(Calls Tryz.prog 107 #[(vp r1),(vi v13)] w19 (fun e w20=>∃cT cU dU cV dV,e=.returned (Af cT cU dU cV dV)∧(∀p3 w21,New w20 (.cells #[(vi 0),(vi 0),(vu 0),(vs ⟨#[]⟩),(vb false)] 35) p3 w21→C1 w21∧∀p4 w22,New w21 (.cells #[(vi 0),(vi 0),(vu 0),(vs ⟨#[]⟩),(vb false)] 35) p4 w22→C1 w22∧(∀j,j<5→vG w22 (p3.add j))∧∀w23,w23=storeRow w22 p3 (Ac bH bI bM bJ bN)→(∀j,j<5→vG w23 (p4.add j))∧∀w24,w24=storeRow w23 p4 (Ac cT cU dU cV dV)→m_A_j6 r1 who1 p1 p3 p4 w24 K)∧(∀p5 w25,New w20 (.cells #[(vi 0),(vi 0),(vu 0),(vs ⟨#[]⟩),(vb false)] 35) p5 w25→C1 w25∧∀p6 w26,New w25 (.cells #[(vi 0),(vi 0),(vu 0),(vs ⟨#[]⟩),(vb false)] 35) p6 w26→C1 w26∧(∀j,j<5→vG w26 (p6.add j))∧∀w27,w27=storeRow w26 p6 (Ac bH bI bM bJ bN)→(∀j,j<5→vG w27 (p5.add j))∧∀w28,w28=storeRow w27 p5 (Ac cT cU dU cV dV)→m_A_j6 r1 who1 p1 p6 p5 w28 K)))∧(∀p7 w29,New w19 (.cells #[(vi 0),(vi 0),(vu 0),(vs ⟨#[]⟩),(vb false)] 35) p7 w29→C1 w29∧(Calls Tryz.prog 107 #[(vp r1),(vi v13)] w29 (fun e w30=>∃dW dX fU dY fV,e=.returned (Af dW dX fU dY fV)∧∀p8 w31,New w30 (.cells #[(vi 0),(vi 0),(vu 0),(vs ⟨#[]⟩),(vb false)] 35) p8 w31→C1 w31∧(∀j,j<5→vG w31 (p7.add j))∧∀w32,w32=storeRow w31 p7 (Ac bH bI bM bJ bN)→(∀j,j<5→vG w32 (p8.add j))∧∀w33,w33=storeRow w32 p8 (Ac dW dX fU dY fV)→m_A_j6 r1 who1 p1 p7 p8 w33 K))∧(∀p9 w34,New w29 (.cells #[(vi 0),(vi 0),(vu 0),(vs ⟨#[]⟩),(vb false)] 35) p9 w34→C1 w34∧Calls Tryz.prog 107 #[(vp r1),(vi v13)] w34 (fun e w35=>∃eI eJ kY eK kZ,e=.returned (Af eI eJ kY eK kZ)∧(∀j,j<5→vG w35 (p7.add j))∧∀w36,w36=storeRow w35 p7 (Ac bH bI bM bJ bN)→(∀j,j<5→vG w36 (p9.add j))∧∀w37,w37=storeRow w36 p9 (Ac eI eJ kY eK kZ)→m_A_j6 r1 who1 p1 p7 p9 w37 K)))∧(∀p10 w38,New w19 (.cells #[(vi 0),(vi 0),(vu 0),(vs ⟨#[]⟩),(vb false)] 35) p10 w38→C1 w38∧(Calls Tryz.prog 107 #[(vp r1),(vi v13)] w38 (fun e w39=>∃dZ eA lA eB lB,e=.returned (Af dZ eA lA eB lB)∧∀p11 w40,New w39 (.cells #[(vi 0),(vi 0),(vu 0),(vs ⟨#[]⟩),(vb false)] 35) p11 w40→C1 w40∧(∀j,j<5→vG w40 (p11.add j))∧∀w41,w41=storeRow w40 p11 (Ac bH bI bM bJ bN)→(∀j,j<5→vG w41 (p10.add j))∧∀w42,w42=storeRow w41 p10 (Ac dZ eA lA eB lB)→m_A_j6 r1 who1 p1 p11 p10 w42 K))∧(∀p12 w43,New w38 (.cells #[(vi 0),(vi 0),(vu 0),(vs ⟨#[]⟩),(vb false)] 35) p12 w43→C1 w43∧Calls Tryz.prog 107 #[(vp r1),(vi v13)] w43 (fun e w44=>∃eL eM lC eN lD,e=.returned (Af eL eM lC eN lD)∧(∀j,j<5→vG w44 (p12.add j))∧∀w45,w45=storeRow w44 p12 (Ac bH bI bM bJ bN)→(∀j,j<5→vG w45 (p10.add j))∧∀w46,w46=storeRow w45 p10 (Ac eL eM lC eN lD)→m_A_j6 r1 who1 p1 p12 p10 w46 K)))))∧(∀p13 w47,New w18 (.cells #[(vi 0),(vi 0),(vu 0),(vs ⟨#[]⟩),(vb false)] 35) p13 w47→C1 w47∧(Calls Tryz.prog 107 #[(vp r1),(vi v12)] w47 (fun e w48=>∃eC eD iH eE iI,e=.returned (Af eC eD iH eE iI)∧C1 w48∧(Calls Tryz.prog 107 #[(vp r1),(vi v13)] w48 (fun e w49=>∃fF fG lE fH lF,e=.returned (Af fF fG lE fH lF)∧∀p14 w50,New w49 (.cells #[(vi 0),(vi 0),(vu 0),(vs ⟨#[]⟩),(vb false)] 35) p14 w50→C1 w50∧(∀j,j<5→vG w50 (p13.add j))∧∀w51,w51=storeRow w50 p13 (Ac eC eD iH eE iI)→(∀j,j<5→vG w51 (p14.add j))∧∀w52,w52=storeRow w51 p14 (Ac fF fG lE fH lF)→m_A_j6 r1 who1 p1 p13 p14 w52 K))∧(∀p15 w53,New w48 (.cells #[(vi 0),(vi 0),(vu 0),(vs ⟨#[]⟩),(vb false)] 35) p15 w53→C1 w53∧Calls Tryz.prog 107 #[(vp r1),(vi v13)] w53 (fun e w54=>∃fI fJ lG fK lH,e=.returned (Af fI fJ lG fK lH)∧(∀j,j<5→vG w54 (p13.add j))∧∀w55,w55=storeRow w54 p13 (Ac eC eD iH eE iI)→(∀j,j<5→vG w55 (p15.add j))∧∀w56,w56=storeRow w55 p15 (Ac fI fJ lG fK lH)→m_A_j6 r1 who1 p1 p13 p15 w56 K))))∧(∀p16 w57,New w47 (.cells #[(vi 0),(vi 0),(vu 0),(vs ⟨#[]⟩),(vb false)] 35) p16 w57→C1 w57∧Calls Tryz.prog 107 #[(vp r1),(vi v12)] w57 (fun e w58=>∃eO eP lI eQ lJ,e=.returned (Af eO eP lI eQ lJ)∧C1 w58∧Calls Tryz.prog 107 #[(vp r1),(vi v13)] w58 (fun e w59=>∃fL fM lK fN lL,e=.returned (Af fL fM lK fN lL)∧(∀j,j<5→vG w59 (p13.add j))∧∀w60,w60=storeRow w59 p13 (Ac eO eP lI eQ lJ)→(∀j,j<5→vG w60 (p16.add j))∧∀w61,w61=storeRow w60 p16 (Ac fL fM lK fN lL)→m_A_j6 r1 who1 p1 p13 p16 w61 K))))∧(∀p17 w62,New w18 (.cells #[(vi 0),(vi 0),(vu 0),(vs ⟨#[]⟩),(vb false)] 35) p17 w62→C1 w62∧(Calls Tryz.prog 107 #[(vp r1),(vi v12)] w62 (fun e w63=>∃eF eG iJ eH iK,e=.returned (Af eF eG iJ eH iK)∧C1 w63∧(Calls Tryz.prog 107 #[(vp r1),(vi v13)] w63 (fun e w64=>∃fO fP lM fQ lN,e=.returned (Af fO fP lM fQ lN)∧∀p18 w65,New w64 (.cells #[(vi 0),(vi 0),(vu 0),(vs ⟨#[]⟩),(vb false)] 35) p18 w65→C1 w65∧(∀j,j<5→vG w65 (p18.add j))∧∀w66,w66=storeRow w65 p18 (Ac eF eG iJ eH iK)→(∀j,j<5→vG w66 (p17.add j))∧∀w67,w67=storeRow w66 p17 (Ac fO fP lM fQ lN)→m_A_j6 r1 who1 p1 p18 p17 w67 K))∧(∀p19 w68,New w63 (.cells #[(vi 0),(vi 0),(vu 0),(vs ⟨#[]⟩),(vb false)] 35) p19 w68→C1 w68∧Calls Tryz.prog 107 #[(vp r1),(vi v13)] w68 (fun e w69=>∃eR eS lO eT lP,e=.returned (Af eR eS lO eT lP)∧(∀j,j<5→vG w69 (p19.add j))∧∀w70,w70=storeRow w69 p19 (Ac eF eG iJ eH iK)→(∀j,j<5→vG w70 (p17.add j))∧∀w71,w71=storeRow w70 p17 (Ac eR eS lO eT lP)→m_A_j6 r1 who1 p1 p19 p17 w71 K))))∧(∀p20 w72,New w62 (.cells #[(vi 0),(vi 0),(vu 0),(vs ⟨#[]⟩),(vb false)] 35) p20 w72→C1 w72∧Calls Tryz.prog 107 #[(vp r1),(vi v12)] w72 (fun e w73=>∃eU eV lQ eW lR,e=.returned (Af eU eV lQ eW lR)∧C1 w73∧Calls Tryz.prog 107 #[(vp r1),(vi v13)] w73 (fun e w74=>∃fR fS lS fT lT,e=.returned (Af fR fS lS fT lT)∧(∀j,j<5→vG w74 (p20.add j))∧∀w75,w75=storeRow w74 p20 (Ac eU eV lQ eW lR)→(∀j,j<5→vG w75 (p17.add j))∧∀w76,w76=storeRow w75 p17 (Ac fR fS lS fT lT)→m_A_j6 r1 who1 p1 p20 p17 w76 K)))))) (∃a6,r1=some a6∧vG w (a6.add 1)∧∀w77,w77=w.setCell (a6.add 1) (vb true)→(∀j,j<5→vG w77 (p1.add j))∧∀w78,w78=storeRow w77 p1 (Ac 0 0 0 (⟨#[]⟩) false)→∃bZ cA dK cB dL,Row w78 p1 (Ac bZ cA dK cB dL)∧K bZ cA dK cB dL w78)
def m_A_j4 (r1:Option Addr) (who1 body1:Int) (p1:Addr) (r2:ByteArray) (r3:Int) (x4:Bool) (w:World) (K:Int→Int→Int→ByteArray→Bool→WP):Prop :=Br x4 (Calls Tryz.prog 170 #[(vp r1),(vi body1)] w (fun e w9=>∃r6 r7,e=.returned (.tuple #[(vu r6),(vs r7)])∧(∀j,j<5→vG w9 (p1.add j))∧∀w10,w10=storeRow w9 p1 (Ac 2 who1 r6 r7 false)→∃cE cF dP cG dQ,Row w10 p1 (Ac cE cF dP cG dQ)∧K cE cF dP cG dQ w10)) (Br (decide (r2=(⟨#[114,101,115,111,108,118,101]⟩:ByteArray))) (m_A_j5 r1 who1 p1 r3 (decide (who1≤1)) w K) (m_A_j5 r1 who1 p1 r3 false w K))
def m_A_j3 (r1:Option Addr) (who1 body1:Int) (p1:Addr) (r2:ByteArray) (r3:Int) (x3:Bool) (w:World) (K:Int→Int→Int→ByteArray→Bool→WP):Prop :=Br x3 (Calls Tryz.prog 170 #[(vp r1),(vi r3)] w (fun e w7=>∃r4 r5,e=.returned (.tuple #[(vu r4),(vs r5)])∧(∀j,j<5→vG w7 (p1.add j))∧∀w8,w8=storeRow w7 p1 (Ac 6 0 r4 r5 false)→∃aU aV cC aW cD,Row w8 p1 (Ac aU aV cC aW cD)∧K aU aV cC aW cD w8)) (Br (decide (r2=(⟨#[100,101,97,108]⟩:ByteArray))) (m_A_j4 r1 who1 body1 p1 r2 r3 (decide (who1≤1)) w K) (m_A_j4 r1 who1 body1 p1 r2 r3 false w K))
def m_A_j2 (r1:Option Addr) (who1 body1:Int) (p1:Addr) (r2:ByteArray) (r3:Int) (x2:Bool) (w:World) (K:Int→Int→Int→ByteArray→Bool→WP):Prop :=Br x2 (Calls Tryz.prog 109 #[(vp r1),(vi r3),(vi 2)] w (fun e w5=>∃bE bF bK aR aZ dB dC,e=.returned (Ae bE bF bK aR aZ dB dC)∧(∀j,j<5→vG w5 (p1.add j))∧∀w6,w6=storeRow w5 p1 (Ac 5 0 aR (⟨#[]⟩) false)→∃aO aP cJ aQ cK,Row w6 p1 (Ac aO aP cJ aQ cK)∧K aO aP cJ aQ cK w6)) (Br (decide (r2=(⟨#[105,110,115,116,101,97,100]⟩:ByteArray))) (m_A_j3 r1 who1 body1 p1 r2 r3 (who1 == 2) w K) (m_A_j3 r1 who1 body1 p1 r2 r3 false w K))
def m_A_j1 (r1:Option Addr) (who1 body1:Int) (p1:Addr) (r2:ByteArray) (r3:Int) (x1:Bool) (w:World) (K:Int→Int→Int→ByteArray→Bool→WP):Prop :=Br x1 (Calls Tryz.prog 109 #[(vp r1),(vi r3),(vi 2)] w (fun e w3=>∃aE aF aG aD aH aX aY,e=.returned (Ae aE aF aG aD aH aX aY)∧(∀j,j<5→vG w3 (p1.add j))∧∀w4,w4=storeRow w3 p1 (Ac 3 0 aD (⟨#[]⟩) false)→∃aA aB cH aC cI,Row w4 p1 (Ac aA aB cH aC cI)∧K aA aB cH aC cI w4)) (Br (decide (r2=(⟨#[97,98,111,114,116,101,100]⟩:ByteArray))) (m_A_j2 r1 who1 body1 p1 r2 r3 (who1 == 2) w K) (m_A_j2 r1 who1 body1 p1 r2 r3 false w K))
def m_A (r1:Option Addr) (who1 body1:Int) (w:World) (K:Int→Int→Int→ByteArray→Bool→WP):Prop :=∀p1 w1,New w (.cells #[(vi 0),(vi 0),(vu 0),(vs ⟨#[]⟩),(vb false)] 35) p1 w1→Calls Tryz.prog 108 #[(vp r1),(vi body1)] w1 (fun e w2=>∃r2 r3,e=.returned (.tuple #[(vs r2),(vi r3)])∧Br (decide (r2=(⟨#[97,98,111,114,116]⟩:ByteArray))) (m_A_j1 r1 who1 body1 p1 r2 r3 (who1 == 0) w2 K) (m_A_j1 r1 who1 body1 p1 r2 r3 false w2 K))
theorem w_A (r1 who1 body1 w K) (h:m_A r1 who1 body1 w K):
  Calls Tryz.prog 106 #[(vp r1),(vi who1),(vi body1)] w (fun e w'=>∃hI hJ pM hK pN,e=.returned (Af hI hJ pM hK pN)∧K hI hJ pM hK pN w'):=by
 refine cw (args:=[(vp r1),(vi who1),(vi body1)]) Tryz.func106 Tryz.ntmps106 (eg (sn (O:=(.cells #[(vi 0),(vi 0),(vu 0),(vs ⟨#[]⟩),(vb false)] 35)) (zM (Tryz.zeroValue35 _) rfl) ?_))
 intro p1 w1 hn55
 have h:=h p1 w1 hn55
 refine ln (eg (qb (sc Tryz.call108 (h.mono fun e w2 ⟨r2,r3,k,h⟩=>⟨_,k,?_⟩))))
 refine q (qd (ln (zA (zJ (qL (fun ρ w=>∃x1,Has ρ [(0,(vp r1)),(1,(vi who1)),(2,(vi body1)),(6,(vp (some p1))),(7,(vs r2)),(8,(vi r3)),(22,(vb x1))]∧m_A_j1 r1 who1 body1 p1 r2 r3 x1 w K) ?_ ?_)))))
 rintro ρ w ⟨x1,hH,h⟩
 refine zU hH (cbr h ?_ ?_)<;>intro h
 refine eg (qb (sc Tryz.call109 (h.mono fun e w3 ⟨aE,aF,aG,aD,aH,aX,aY,k,h⟩=>⟨_,k,?_⟩)))
 refine qb ?_
 obtain ⟨hp1,h⟩:=h
 refine zK (zD rfl) (xo p1 (Ac 3 0 aD (⟨#[]⟩) false) (Tryz.sizeOf35 _) hp1) ?_
 intro w4 hn1
 have h:=h w4 hn1
 refine ln (er (qN (zY ?_)))
 obtain ⟨aA,aB,cH,aC,cI,hv1,h⟩:=h
 refine gg1 Tryz.results106 (rva (Tryz.isAgg35 _) (Tryz.sizeOf35 _) hv1) ⟨aA,aB,cH,aC,cI,rfl,h⟩
 refine qL (fun ρ w=>∃x2,Has ρ [(0,(vp r1)),(1,(vi who1)),(2,(vi body1)),(6,(vp (some p1))),(7,(vs r2)),(8,(vi r3)),(34,(vb x2))]∧m_A_j2 r1 who1 body1 p1 r2 r3 x2 w K) ?_ ?_
 rintro ρ w ⟨x2,hH,h⟩
 refine zU hH (cbr h ?_ ?_)<;>intro h
 refine eg (qb (sc Tryz.call109 (h.mono fun e w5 ⟨bE,bF,bK,aR,aZ,dB,dC,k,h⟩=>⟨_,k,?_⟩)))
 refine qb ?_
 obtain ⟨hp2,h⟩:=h
 refine zK (zD rfl) (xo p1 (Ac 5 0 aR (⟨#[]⟩) false) (Tryz.sizeOf35 _) hp2) ?_
 intro w6 hn2
 have h:=h w6 hn2
 refine ln (er (qN (zY ?_)))
 obtain ⟨aO,aP,cJ,aQ,cK,hv2,h⟩:=h
 refine gg1 Tryz.results106 (rva (Tryz.isAgg35 _) (Tryz.sizeOf35 _) hv2) ⟨aO,aP,cJ,aQ,cK,rfl,h⟩
 refine qL (fun ρ w=>∃x3,Has ρ [(0,(vp r1)),(1,(vi who1)),(2,(vi body1)),(6,(vp (some p1))),(7,(vs r2)),(8,(vi r3)),(46,(vb x3))]∧m_A_j3 r1 who1 body1 p1 r2 r3 x3 w K) ?_ ?_
 rintro ρ w ⟨x3,hH,h⟩
 refine zU hH (cbr h ?_ ?_)<;>intro h
 refine eg (qb (sc Tryz.call170 (h.mono fun e w7 ⟨r4,r5,k,h⟩=>⟨_,k,?_⟩)))
 refine q (qd (ln (eg (qc ?_))))
 obtain ⟨hp3,h⟩:=h
 refine zK (zD rfl) (xo p1 (Ac 6 0 r4 r5 false) (Tryz.sizeOf35 _) hp3) ?_
 intro w8 hn3
 have h:=h w8 hn3
 refine ln (er (qN (zY ?_)))
 obtain ⟨aU,aV,cC,aW,cD,hv3,h⟩:=h
 refine gg1 Tryz.results106 (rva (Tryz.isAgg35 _) (Tryz.sizeOf35 _) hv3) ⟨aU,aV,cC,aW,cD,rfl,h⟩
 refine qL (fun ρ w=>∃x4,Has ρ [(0,(vp r1)),(1,(vi who1)),(2,(vi body1)),(6,(vp (some p1))),(7,(vs r2)),(8,(vi r3)),(62,(vb x4))]∧m_A_j4 r1 who1 body1 p1 r2 r3 x4 w K) ?_ ?_
 rintro ρ w ⟨x4,hH,h⟩
 refine zU hH (cbr h ?_ ?_)<;>intro h
 refine eg (qb (sc Tryz.call170 (h.mono fun e w9 ⟨r6,r7,k,h⟩=>⟨_,k,?_⟩)))
 refine q (qd (ln (eg (qc (q ?_)))))
 obtain ⟨hp4,h⟩:=h
 refine zK (zD rfl) (xo p1 (Ac 2 who1 r6 r7 false) (Tryz.sizeOf35 _) hp4) ?_
 intro w10 hn4
 have h:=h w10 hn4
 refine ln (er (qN (zY ?_)))
 obtain ⟨cE,cF,dP,cG,dQ,hv4,h⟩:=h
 refine gg1 Tryz.results106 (rva (Tryz.isAgg35 _) (Tryz.sizeOf35 _) hv4) ⟨cE,cF,dP,cG,dQ,rfl,h⟩
 refine qL (fun ρ w=>∃x5,Has ρ [(0,(vp r1)),(1,(vi who1)),(6,(vp (some p1))),(8,(vi r3)),(79,(vb x5))]∧m_A_j5 r1 who1 p1 r3 x5 w K) ?_ ?_
 rintro ρ w ⟨x5,hH,h⟩
 refine zU hH (cbr h ?_ ?_)<;>intro h
 refine eg (qb (sc Tryz.call109 (h.mono fun e w11 ⟨bO,bP,cW,cX,bG,fZ,gA,k,h⟩=>⟨_,k,?_⟩)))
 refine nw1 h (zM (Tryz.zeroValue176 _) rfl) fun p2 w12 h=>?_
 obtain ⟨hp5,h⟩:=h
 refine zK (zD rfl) (xo p2 (Ad bO bP cW cX bG fZ gA) (Tryz.sizeOf176 _) hp5) ?_
 intro w13 hn5
 have h:=h w13 hn5
 refine ln (qL (fun ρ w=>∃a1 a2:Addr,Has ρ [(0,(vp r1)),(1,(vi who1)),(6,(vp (some p1))),(14,(vp (some a1))),(15,(vp (some a2)))]∧m_A_j6 r1 who1 p1 a1 a2 w K) ?_ ?_)
 rintro ρ w ⟨a1,a2,hH,h⟩
 refine zU hH (qL (fun ρ w=>Has ρ [(1,(vi who1)),(6,(vp (some p1))),(14,(vp (some a1))),(15,(vp (some a2)))]∧m_A_j7 who1 p1 a1 a2 w K) ?_ ?_)
 rintro ρ w ⟨hH,h⟩
 refine zU hH (eg (qb (ql (Tryz.isAgg23 _) h fun v1 h=>q (ql (Tryz.isAgg9 _) h fun v2 h=>q (ql (Tryz.isAgg4 _) h fun v3 h=>q ?_)))))
 rcases Bool.eq_false_or_eq_true v3 with hg1 | hg1
 have h:=h.1 hg1
 refine sj2 135 hg1 (q2 (vb true) (xT hg1) (q ?_))
 obtain ⟨hp6,h⟩:=h
 refine zK (zD rfl) (xo p1 (Ac 4 who1 v1 v2 true) (Tryz.sizeOf35 _) hp6) ?_
 intro w14 hn6
 have h:=h w14 hn6
 refine ln (er (qN (zY ?_)))
 obtain ⟨bT,bU,dD,bV,dE,hv5,h⟩:=h
 refine gg1 Tryz.results106 (rva (Tryz.isAgg35 _) (Tryz.sizeOf35 _) hv5) ⟨bT,bU,dD,bV,dE,rfl,h⟩
 have h:=h.2 hg1
 refine qk 135 hg1 ?_
 obtain ⟨v4,hv7,h⟩:=h
 refine q4 135 hg1 (xl (Tryz.isAgg4 _) hv7) (q2 (vb v4) (xF hg1) (q ?_))
 obtain ⟨hp7,h⟩:=h
 refine zK (zD rfl) (xo p1 (Ac 4 who1 v1 v2 v4) (Tryz.sizeOf35 _) hp7) ?_
 intro w15 hn7
 have h:=h w15 hn7
 refine ln (er (qN (zY ?_)))
 obtain ⟨bW,bX,dI,bY,dJ,hv6,h⟩:=h
 refine gg1 Tryz.results106 (rva (Tryz.isAgg35 _) (Tryz.sizeOf35 _) hv6) ⟨bW,bX,dI,bY,dJ,rfl,h⟩
 refine rg (qb ?_)
 obtain ⟨a3,hp8,h⟩:=h
 refine q2 (vp (some a3)) (zG (p:=r1) (by kernel_rfl) hp8) (q (ql (Tryz.isAgg4 _) h fun v5 h=>q (zN 4 (fun ρ w=>∃x6,Has ρ [(1,(vi who1)),(6,(vp (some p1))),(14,(vp (some a1))),(15,(vp (some a2))),(97,(vp r1)),(106,(vb x6))]∧m_A_j8 r1 who1 p1 a1 a2 x6 w K) ?_ ?_)))
 rintro ρ w ⟨x6,hH,h⟩
 refine zQ hH (q (zN 4 (fun ρ w=>∃x7,Has ρ [(1,(vi who1)),(6,(vp (some p1))),(14,(vp (some a1))),(15,(vp (some a2))),(97,(vp r1)),(111,(vb x7))]∧m_A_j9 r1 who1 p1 a1 a2 x7 w K) ?_ ?_))
 rintro ρ w ⟨x7,hH,h⟩
 refine zQ hH (q (zN 6 (fun ρ w=>∃x8,Has ρ [(1,(vi who1)),(6,(vp (some p1))),(14,(vp (some a1))),(15,(vp (some a2))),(97,(vp r1)),(118,(vb x8))]∧m_A_j10 r1 who1 p1 a1 a2 x8 w K) ?_ ?_))
 rintro ρ w ⟨x8,hH,h⟩
 refine zQ hH (q ?_)
 rcases Bool.eq_false_or_eq_true x8 with hg2 | hg2
 have h:=h.1 hg2
 refine sj5 119 hg2 (q2 (vb true) (xT hg2) ?_)
 obtain ⟨a4,hp9,h⟩:=h
 refine q2 (vp (some a4)) (zG (p:=r1) (by kernel_rfl) hp9) (q ?_)
 obtain ⟨hp10,h⟩:=h
 refine zK (zD rfl) (vL (a:=(a4.add 1)) (v:=(vb true)) (by kernel_rfl) (by kernel_rfl) rfl (Tryz.sizeOf4 _) hp10) ?_
 intro w16 hn8
 have h:=h w16 hn8
 refine ln ⟨hm,h⟩
 have h:=h.2 hg2
 refine qk 119 hg2 ?_
 obtain ⟨v6,hv12,h⟩:=h
 refine q4 119 hg2 (xl (Tryz.isAgg9 _) hv12) (qk 119 hg2 ?_)
 obtain ⟨v7,hv11,h⟩:=h
 refine q4 119 hg2 (xl (Tryz.isAgg9 _) hv11) (stq (v:=(vb (!(decide (v6=v7))))) (wy 119 hg2) (uM (by kernel_rfl) (by kernel_rfl)) (q2 (vb (!(decide (v6=v7)))) (xF hg2) ?_))
 obtain ⟨a5,hp11,h⟩:=h
 refine q2 (vp (some a5)) (zG (p:=r1) (by kernel_rfl) hp11) (q ?_)
 obtain ⟨hp12,h⟩:=h
 refine zK (zD rfl) (vL (a:=(a5.add 1)) (v:=(vb (!(decide (v6=v7))))) (by kernel_rfl) (by kernel_rfl) rfl (Tryz.sizeOf4 _) hp12) ?_
 intro w17 hn9
 have h:=h w17 hn9
 refine ln ⟨hm,h⟩
 rcases Bool.eq_false_or_eq_true x7 with hg3 | hg3
 have h:=h.1 hg3
 refine sj5 112 hg3 (q2 (vb true) (xT hg3) (zC ⟨true,hm,h⟩))
 have h:=h.2 hg3
 refine qk 112 hg3 ?_
 obtain ⟨v8,hv14,h⟩:=h
 refine q4 112 hg3 (xl (Tryz.isAgg23 _) hv14) (qk 112 hg3 ?_)
 obtain ⟨v9,hv13,h⟩:=h
 refine q4 112 hg3 (xl (Tryz.isAgg23 _) hv13) (qk 112 hg3 (q2 (vb (v8 != v9)) (xF hg3) (zC ⟨(v8 != v9),hm,h⟩)))
 rcases Bool.eq_false_or_eq_true x6 with hg4 | hg4
 have h:=h.1 hg4
 refine sj3 107 hg4 (q2 (vb true) (xT hg4) (zC ⟨true,hm,h⟩))
 have h:=h.2 hg4
 refine qk 107 hg4 ?_
 obtain ⟨v10,hv15,h⟩:=h
 refine q4 107 hg4 (xl (Tryz.isAgg3 _) hv15) (qk 107 hg4 (q2 (vb (v10 != 1)) (xF hg4) (zC ⟨(v10 != 1),hm,h⟩)))
 rcases Bool.eq_false_or_eq_true v5 with hg5 | hg5
 have h:=h.1 hg5
 refine sj3 102 hg5 (q2 (vb true) (xT hg5) (zC ⟨true,hm,h⟩))
 have h:=h.2 hg5
 refine qk 102 hg5 ?_
 obtain ⟨v11,hv16,h⟩:=h
 refine q4 102 hg5 (xl (Tryz.isAgg3 _) hv16) (qk 102 hg5 (q2 (vb (v11 != 0)) (xF hg5) (zC ⟨(v11 != 0),hm,h⟩)))
 obtain ⟨C1,hC,h⟩:=h
 refine dr1 C1 [3,7,8,9,10,11] [7,10,11] hC h fun w18 h=>qx 0 (vp r1) Kp0 (qx 1 (vp (some (p2.add 5))) Kp1 (qg 2 ?_))
 obtain ⟨v12,hv19,h⟩:=h
 refine sy Kp2 (fun _ k=>xl (Tryz.isAgg78 _) (hv19 _ k)) (qx 4 (vp r1) Kp4 (qx 5 (vp (some (p2.add 6))) Kp5 (qg 6 ?_)))
 obtain ⟨v13,hv18,h⟩:=h
 refine sy Kp6 (fun _ k=>xl (Tryz.isAgg78 _) (hv18 _ k)) (lgo3 (k:=3) (k':=8) (k'':=9) (by kernel_rfl) ?_ ?_ ?_)
 have h:=h.1
 refine zL Kp3 (zD rfl) (by kernel_rfl) (xc Tryz.call107) (h.mono ?_)
 rintro e w19 ⟨bH,bI,bM,bJ,bN,rfl,hC,h⟩
 refine ⟨_,rfl,.inr hC,?_⟩
 refine lgo3 (k:=7) (k':=8) (k'':=9) (by kernel_rfl) ?_ ?_ ?_
 have h:=h.1
 refine zL Kp7 (zD rfl) (by kernel_rfl) (xc Tryz.call107) (h.mono ?_)
 rintro e w20 ⟨cT,cU,dU,cV,dV,rfl,h⟩
 refine ⟨_,rfl,.inl (by kernel_rfl),?_⟩
 refine jMM (k:=8) (k':=9) (by kernel_rfl) ?_ ?_
 have h:=h.1
 refine qI (O:=(.cells #[(vi 0),(vi 0),(vu 0),(vs ⟨#[]⟩),(vb false)] 35)) (fun p=>.pointer (some p)) Kp8 (zD rfl) (by kernel_rfl) (zM (Tryz.zeroValue35 _) rfl) ?_
 intro p3 w21 hn13
 have h:=h p3 w21 hn13
 refine ⟨.inr h.1,?_⟩
 have h:=h.2
 refine lg 9 (qI (O:=(.cells #[(vi 0),(vi 0),(vu 0),(vs ⟨#[]⟩),(vb false)] 35)) (fun p=>.pointer (some p)) Kp9 (zD rfl) (by kernel_rfl) (zM (Tryz.zeroValue35 _) rfl) ?_)
 intro p4 w22 hn12
 have h:=h p4 w22 hn12
 refine ⟨.inr h.1,?_⟩
 have h:=h.2
 refine lg 10 (slo (zS (S8 (zI (zI zR)))) (Tryz.sizeOf35 _) h fun w23 h=>⟨.inl (by kernel_rfl),?_⟩)
 refine lg 11 (slo (zS (S8 (zI (zI (zI zR))))) (Tryz.sizeOf35 _) h fun w24 h=>⟨.inl (by kernel_rfl),?_⟩)
 refine wn (zO ⟨p3,p4,hm,h⟩)
 have h:=h.2
 refine qI (O:=(.cells #[(vi 0),(vi 0),(vu 0),(vs ⟨#[]⟩),(vb false)] 35)) (fun p=>.pointer (some p)) Kp9 (zD rfl) (by kernel_rfl) (zM (Tryz.zeroValue35 _) rfl) ?_
 intro p5 w25 hn17
 have h:=h p5 w25 hn17
 refine ⟨.inr h.1,?_⟩
 have h:=h.2
 refine lg 8 (qI (O:=(.cells #[(vi 0),(vi 0),(vu 0),(vs ⟨#[]⟩),(vb false)] 35)) (fun p=>.pointer (some p)) Kp8 (zD rfl) (by kernel_rfl) (zM (Tryz.zeroValue35 _) rfl) ?_)
 intro p6 w26 hn16
 have h:=h p6 w26 hn16
 refine ⟨.inr h.1,?_⟩
 have h:=h.2
 refine lg 10 (slo (zS (S8 (zI (zI zR)))) (Tryz.sizeOf35 _) h fun w27 h=>⟨.inl (by kernel_rfl),?_⟩)
 refine lg 11 (slo (zS (S8 (zI (zI (zI zR))))) (Tryz.sizeOf35 _) h fun w28 h=>⟨.inl (by kernel_rfl),?_⟩)
 refine wn (zO ⟨p6,p5,hm,h⟩)
 have h:=h.2.1
 refine qI (O:=(.cells #[(vi 0),(vi 0),(vu 0),(vs ⟨#[]⟩),(vb false)] 35)) (fun p=>.pointer (some p)) Kp8 (zD rfl) (by kernel_rfl) (zM (Tryz.zeroValue35 _) rfl) ?_
 intro p7 w29 hn24
 have h:=h p7 w29 hn24
 refine ⟨.inr h.1,?_⟩
 have h:=h.2
 refine jMM (k:=7) (k':=9) (by kernel_rfl) ?_ ?_
 have h:=h.1
 refine zL Kp7 (zD rfl) (by kernel_rfl) (xc Tryz.call107) (h.mono ?_)
 rintro e w30 ⟨dW,dX,fU,dY,fV,rfl,h⟩
 refine ⟨_,rfl,.inl (by kernel_rfl),?_⟩
 refine lg 9 (qI (O:=(.cells #[(vi 0),(vi 0),(vu 0),(vs ⟨#[]⟩),(vb false)] 35)) (fun p=>.pointer (some p)) Kp9 (zD rfl) (by kernel_rfl) (zM (Tryz.zeroValue35 _) rfl) ?_)
 intro p8 w31 hn20
 have h:=h p8 w31 hn20
 refine ⟨.inr h.1,?_⟩
 have h:=h.2
 refine lg 10 (slo (zS (S8 (zI (zI zR)))) (Tryz.sizeOf35 _) h fun w32 h=>⟨.inl (by kernel_rfl),?_⟩)
 refine lg 11 (slo (zS (S8 (zI (zI (zI zR))))) (Tryz.sizeOf35 _) h fun w33 h=>⟨.inl (by kernel_rfl),?_⟩)
 refine wn (zO ⟨p7,p8,hm,h⟩)
 have h:=h.2
 refine qI (O:=(.cells #[(vi 0),(vi 0),(vu 0),(vs ⟨#[]⟩),(vb false)] 35)) (fun p=>.pointer (some p)) Kp9 (zD rfl) (by kernel_rfl) (zM (Tryz.zeroValue35 _) rfl) ?_
 intro p9 w34 hn23
 have h:=h p9 w34 hn23
 refine ⟨.inr h.1,?_⟩
 have h:=h.2
 refine lg 7 (zL Kp7 (zD rfl) (by kernel_rfl) (xc Tryz.call107) (h.mono ?_))
 rintro e w35 ⟨eI,eJ,kY,eK,kZ,rfl,h⟩
 refine ⟨_,rfl,.inl (by kernel_rfl),?_⟩
 refine lg 10 (slo (zS (S8 (zI (zI zR)))) (Tryz.sizeOf35 _) h fun w36 h=>⟨.inl (by kernel_rfl),?_⟩)
 refine lg 11 (slo (zS (S8 (zI (zI (zI zR))))) (Tryz.sizeOf35 _) h fun w37 h=>⟨.inl (by kernel_rfl),?_⟩)
 refine wn (zO ⟨p7,p9,hm,h⟩)
 have h:=h.2.2
 refine qI (O:=(.cells #[(vi 0),(vi 0),(vu 0),(vs ⟨#[]⟩),(vb false)] 35)) (fun p=>.pointer (some p)) Kp9 (zD rfl) (by kernel_rfl) (zM (Tryz.zeroValue35 _) rfl) ?_
 intro p10 w38 hn31
 have h:=h p10 w38 hn31
 refine ⟨.inr h.1,?_⟩
 have h:=h.2
 refine jMM (k:=7) (k':=8) (by kernel_rfl) ?_ ?_
 have h:=h.1
 refine zL Kp7 (zD rfl) (by kernel_rfl) (xc Tryz.call107) (h.mono ?_)
 rintro e w39 ⟨dZ,eA,lA,eB,lB,rfl,h⟩
 refine ⟨_,rfl,.inl (by kernel_rfl),?_⟩
 refine lg 8 (qI (O:=(.cells #[(vi 0),(vi 0),(vu 0),(vs ⟨#[]⟩),(vb false)] 35)) (fun p=>.pointer (some p)) Kp8 (zD rfl) (by kernel_rfl) (zM (Tryz.zeroValue35 _) rfl) ?_)
 intro p11 w40 hn27
 have h:=h p11 w40 hn27
 refine ⟨.inr h.1,?_⟩
 have h:=h.2
 refine lg 10 (slo (zS (S8 (zI (zI zR)))) (Tryz.sizeOf35 _) h fun w41 h=>⟨.inl (by kernel_rfl),?_⟩)
 refine lg 11 (slo (zS (S8 (zI (zI (zI zR))))) (Tryz.sizeOf35 _) h fun w42 h=>⟨.inl (by kernel_rfl),?_⟩)
 refine wn (zO ⟨p11,p10,hm,h⟩)
 have h:=h.2
 refine qI (O:=(.cells #[(vi 0),(vi 0),(vu 0),(vs ⟨#[]⟩),(vb false)] 35)) (fun p=>.pointer (some p)) Kp8 (zD rfl) (by kernel_rfl) (zM (Tryz.zeroValue35 _) rfl) ?_
 intro p12 w43 hn30
 have h:=h p12 w43 hn30
 refine ⟨.inr h.1,?_⟩
 have h:=h.2
 refine lg 7 (zL Kp7 (zD rfl) (by kernel_rfl) (xc Tryz.call107) (h.mono ?_))
 rintro e w44 ⟨eL,eM,lC,eN,lD,rfl,h⟩
 refine ⟨_,rfl,.inl (by kernel_rfl),?_⟩
 refine lg 10 (slo (zS (S8 (zI (zI zR)))) (Tryz.sizeOf35 _) h fun w45 h=>⟨.inl (by kernel_rfl),?_⟩)
 refine lg 11 (slo (zS (S8 (zI (zI (zI zR))))) (Tryz.sizeOf35 _) h fun w46 h=>⟨.inl (by kernel_rfl),?_⟩)
 refine wn (zO ⟨p12,p10,hm,h⟩)
 have h:=h.2.1
 refine qI (O:=(.cells #[(vi 0),(vi 0),(vu 0),(vs ⟨#[]⟩),(vb false)] 35)) (fun p=>.pointer (some p)) Kp8 (zD rfl) (by kernel_rfl) (zM (Tryz.zeroValue35 _) rfl) ?_
 intro p13 w47 hn41
 have h:=h p13 w47 hn41
 refine ⟨.inr h.1,?_⟩
 have h:=h.2
 refine jMM (k:=3) (k':=9) (by kernel_rfl) ?_ ?_
 have h:=h.1
 refine zL Kp3 (zD rfl) (by kernel_rfl) (xc Tryz.call107) (h.mono ?_)
 rintro e w48 ⟨eC,eD,iH,eE,iI,rfl,hC,h⟩
 refine ⟨_,rfl,.inr hC,?_⟩
 refine jMM (k:=7) (k':=9) (by kernel_rfl) ?_ ?_
 have h:=h.1
 refine zL Kp7 (zD rfl) (by kernel_rfl) (xc Tryz.call107) (h.mono ?_)
 rintro e w49 ⟨fF,fG,lE,fH,lF,rfl,h⟩
 refine ⟨_,rfl,.inl (by kernel_rfl),?_⟩
 refine lg 9 (qI (O:=(.cells #[(vi 0),(vi 0),(vu 0),(vs ⟨#[]⟩),(vb false)] 35)) (fun p=>.pointer (some p)) Kp9 (zD rfl) (by kernel_rfl) (zM (Tryz.zeroValue35 _) rfl) ?_)
 intro p14 w50 hn34
 have h:=h p14 w50 hn34
 refine ⟨.inr h.1,?_⟩
 have h:=h.2
 refine lg 10 (slo (zS (S8 (zI (zI zR)))) (Tryz.sizeOf35 _) h fun w51 h=>⟨.inl (by kernel_rfl),?_⟩)
 refine lg 11 (slo (zS (S8 (zI (zI (zI zR))))) (Tryz.sizeOf35 _) h fun w52 h=>⟨.inl (by kernel_rfl),?_⟩)
 refine wn (zO ⟨p13,p14,hm,h⟩)
 have h:=h.2
 refine qI (O:=(.cells #[(vi 0),(vi 0),(vu 0),(vs ⟨#[]⟩),(vb false)] 35)) (fun p=>.pointer (some p)) Kp9 (zD rfl) (by kernel_rfl) (zM (Tryz.zeroValue35 _) rfl) ?_
 intro p15 w53 hn37
 have h:=h p15 w53 hn37
 refine ⟨.inr h.1,?_⟩
 have h:=h.2
 refine lg 7 (zL Kp7 (zD rfl) (by kernel_rfl) (xc Tryz.call107) (h.mono ?_))
 rintro e w54 ⟨fI,fJ,lG,fK,lH,rfl,h⟩
 refine ⟨_,rfl,.inl (by kernel_rfl),?_⟩
 refine lg 10 (slo (zS (S8 (zI (zI zR)))) (Tryz.sizeOf35 _) h fun w55 h=>⟨.inl (by kernel_rfl),?_⟩)
 refine lg 11 (slo (zS (S8 (zI (zI (zI zR))))) (Tryz.sizeOf35 _) h fun w56 h=>⟨.inl (by kernel_rfl),?_⟩)
 refine wn (zO ⟨p13,p15,hm,h⟩)
 have h:=h.2
 refine qI (O:=(.cells #[(vi 0),(vi 0),(vu 0),(vs ⟨#[]⟩),(vb false)] 35)) (fun p=>.pointer (some p)) Kp9 (zD rfl) (by kernel_rfl) (zM (Tryz.zeroValue35 _) rfl) ?_
 intro p16 w57 hn40
 have h:=h p16 w57 hn40
 refine ⟨.inr h.1,?_⟩
 have h:=h.2
 refine lg 3 (zL Kp3 (zD rfl) (by kernel_rfl) (xc Tryz.call107) (h.mono ?_))
 rintro e w58 ⟨eO,eP,lI,eQ,lJ,rfl,hC,h⟩
 refine ⟨_,rfl,.inr hC,?_⟩
 refine lg 7 (zL Kp7 (zD rfl) (by kernel_rfl) (xc Tryz.call107) (h.mono ?_))
 rintro e w59 ⟨fL,fM,lK,fN,lL,rfl,h⟩
 refine ⟨_,rfl,.inl (by kernel_rfl),?_⟩
 refine lg 10 (slo (zS (S8 (zI (zI zR)))) (Tryz.sizeOf35 _) h fun w60 h=>⟨.inl (by kernel_rfl),?_⟩)
 refine lg 11 (slo (zS (S8 (zI (zI (zI zR))))) (Tryz.sizeOf35 _) h fun w61 h=>⟨.inl (by kernel_rfl),?_⟩)
 refine wn (zO ⟨p13,p16,hm,h⟩)
 have h:=h.2.2
 refine qI (O:=(.cells #[(vi 0),(vi 0),(vu 0),(vs ⟨#[]⟩),(vb false)] 35)) (fun p=>.pointer (some p)) Kp9 (zD rfl) (by kernel_rfl) (zM (Tryz.zeroValue35 _) rfl) ?_
 intro p17 w62 hn51
 have h:=h p17 w62 hn51
 refine ⟨.inr h.1,?_⟩
 have h:=h.2
 refine jMM (k:=3) (k':=8) (by kernel_rfl) ?_ ?_
 have h:=h.1
 refine zL Kp3 (zD rfl) (by kernel_rfl) (xc Tryz.call107) (h.mono ?_)
 rintro e w63 ⟨eF,eG,iJ,eH,iK,rfl,hC,h⟩
 refine ⟨_,rfl,.inr hC,?_⟩
 refine jMM (k:=7) (k':=8) (by kernel_rfl) ?_ ?_
 have h:=h.1
 refine zL Kp7 (zD rfl) (by kernel_rfl) (xc Tryz.call107) (h.mono ?_)
 rintro e w64 ⟨fO,fP,lM,fQ,lN,rfl,h⟩
 refine ⟨_,rfl,.inl (by kernel_rfl),?_⟩
 refine lg 8 (qI (O:=(.cells #[(vi 0),(vi 0),(vu 0),(vs ⟨#[]⟩),(vb false)] 35)) (fun p=>.pointer (some p)) Kp8 (zD rfl) (by kernel_rfl) (zM (Tryz.zeroValue35 _) rfl) ?_)
 intro p18 w65 hn44
 have h:=h p18 w65 hn44
 refine ⟨.inr h.1,?_⟩
 have h:=h.2
 refine lg 10 (slo (zS (S8 (zI (zI zR)))) (Tryz.sizeOf35 _) h fun w66 h=>⟨.inl (by kernel_rfl),?_⟩)
 refine lg 11 (slo (zS (S8 (zI (zI (zI zR))))) (Tryz.sizeOf35 _) h fun w67 h=>⟨.inl (by kernel_rfl),?_⟩)
 refine wn (zO ⟨p18,p17,hm,h⟩)
 have h:=h.2
 refine qI (O:=(.cells #[(vi 0),(vi 0),(vu 0),(vs ⟨#[]⟩),(vb false)] 35)) (fun p=>.pointer (some p)) Kp8 (zD rfl) (by kernel_rfl) (zM (Tryz.zeroValue35 _) rfl) ?_
 intro p19 w68 hn47
 have h:=h p19 w68 hn47
 refine ⟨.inr h.1,?_⟩
 have h:=h.2
 refine lg 7 (zL Kp7 (zD rfl) (by kernel_rfl) (xc Tryz.call107) (h.mono ?_))
 rintro e w69 ⟨eR,eS,lO,eT,lP,rfl,h⟩
 refine ⟨_,rfl,.inl (by kernel_rfl),?_⟩
 refine lg 10 (slo (zS (S8 (zI (zI zR)))) (Tryz.sizeOf35 _) h fun w70 h=>⟨.inl (by kernel_rfl),?_⟩)
 refine lg 11 (slo (zS (S8 (zI (zI (zI zR))))) (Tryz.sizeOf35 _) h fun w71 h=>⟨.inl (by kernel_rfl),?_⟩)
 refine wn (zO ⟨p19,p17,hm,h⟩)
 have h:=h.2
 refine qI (O:=(.cells #[(vi 0),(vi 0),(vu 0),(vs ⟨#[]⟩),(vb false)] 35)) (fun p=>.pointer (some p)) Kp8 (zD rfl) (by kernel_rfl) (zM (Tryz.zeroValue35 _) rfl) ?_
 intro p20 w72 hn50
 have h:=h p20 w72 hn50
 refine ⟨.inr h.1,?_⟩
 have h:=h.2
 refine lg 3 (zL Kp3 (zD rfl) (by kernel_rfl) (xc Tryz.call107) (h.mono ?_))
 rintro e w73 ⟨eU,eV,lQ,eW,lR,rfl,hC,h⟩
 refine ⟨_,rfl,.inr hC,?_⟩
 refine lg 7 (zL Kp7 (zD rfl) (by kernel_rfl) (xc Tryz.call107) (h.mono ?_))
 rintro e w74 ⟨fR,fS,lS,fT,lT,rfl,h⟩
 refine ⟨_,rfl,.inl (by kernel_rfl),?_⟩
 refine lg 10 (slo (zS (S8 (zI (zI zR)))) (Tryz.sizeOf35 _) h fun w75 h=>⟨.inl (by kernel_rfl),?_⟩)
 refine lg 11 (slo (zS (S8 (zI (zI (zI zR))))) (Tryz.sizeOf35 _) h fun w76 h=>⟨.inl (by kernel_rfl),?_⟩)
 refine wn (zO ⟨p20,p17,hm,h⟩)
 refine zB (yQ (zO (eg (q ?_))))
 obtain ⟨a6,hp37,h⟩:=h
 refine q2 (vp (some a6)) (zG (p:=r1) (by kernel_rfl) hp37) (q ?_)
 obtain ⟨hp38,h⟩:=h
 refine zK (zD rfl) (vL (a:=(a6.add 1)) (v:=(vb true)) (by kernel_rfl) (by kernel_rfl) rfl (Tryz.sizeOf4 _) hp38) ?_
 intro w77 hn53
 have h:=h w77 hn53
 refine ln (eg (q ?_))
 obtain ⟨hp39,h⟩:=h
 refine zK (zD rfl) (xo p1 (Ac 0 0 0 (⟨#[]⟩) false) (Tryz.sizeOf35 _) hp39) ?_
 intro w78 hn54
 have h:=h w78 hn54
 refine ln (er ?_)
 obtain ⟨bZ,cA,dK,cB,dL,hv20,h⟩:=h
 refine gg1 Tryz.results106 (rva (Tryz.isAgg35 _) (Tryz.sizeOf35 _) hv20) ⟨bZ,cA,dK,cB,dL,rfl,h⟩
 refine rg (q (q2 (vb (decide (r2=(⟨#[114,101,115,111,108,118,101]⟩:ByteArray)))) (jBH (by kernel_rfl) (by kernel_rfl)) (q ?_)))
 rcases Bool.eq_false_or_eq_true (decide (r2=(⟨#[114,101,115,111,108,118,101]⟩:ByteArray))) with hg6 | hg6
 have h:=h.1 hg6
 refine qk 82 hg6 (qk 82 hg6 (q2 (vb (decide (who1≤1))) (xT hg6) (q (ln ⟨(decide (who1≤1)),hm,h⟩))))
 have h:=h.2 hg6
 refine sj2 82 hg6 (q2 (vb false) (xF hg6) (q (ln ⟨false,hm,h⟩)))
 refine rg (q (q2 (vb (decide (r2=(⟨#[100,101,97,108]⟩:ByteArray)))) (jBH (by kernel_rfl) (by kernel_rfl)) (q ?_)))
 rcases Bool.eq_false_or_eq_true (decide (r2=(⟨#[100,101,97,108]⟩:ByteArray))) with hg7 | hg7
 have h:=h.1 hg7
 refine qk 65 hg7 (qk 65 hg7 (q2 (vb (decide (who1≤1))) (xT hg7) (q (ln ⟨(decide (who1≤1)),hm,h⟩))))
 have h:=h.2 hg7
 refine sj2 65 hg7 (q2 (vb false) (xF hg7) (q (ln ⟨false,hm,h⟩)))
 refine rg (q (q2 (vb (decide (r2=(⟨#[105,110,115,116,101,97,100]⟩:ByteArray)))) (jBH (by kernel_rfl) (by kernel_rfl)) (q ?_)))
 rcases Bool.eq_false_or_eq_true (decide (r2=(⟨#[105,110,115,116,101,97,100]⟩:ByteArray))) with hg8 | hg8
 have h:=h.1 hg8
 refine qk 49 hg8 (qk 49 hg8 (q2 (vb (who1 == 2)) (xT hg8) (q (ln ⟨(who1 == 2),hm,h⟩))))
 have h:=h.2 hg8
 refine sj2 49 hg8 (q2 (vb false) (xF hg8) (q (ln ⟨false,hm,h⟩)))
 refine rg (q (q2 (vb (decide (r2=(⟨#[97,98,111,114,116,101,100]⟩:ByteArray)))) (jBH (by kernel_rfl) (by kernel_rfl)) (q ?_)))
 rcases Bool.eq_false_or_eq_true (decide (r2=(⟨#[97,98,111,114,116,101,100]⟩:ByteArray))) with hg9 | hg9
 have h:=h.1 hg9
 refine qk 37 hg9 (qk 37 hg9 (q2 (vb (who1 == 2)) (xT hg9) (q (ln ⟨(who1 == 2),hm,h⟩))))
 have h:=h.2 hg9
 refine sj2 37 hg9 (q2 (vb false) (xF hg9) (q (ln ⟨false,hm,h⟩)))
 refine rg (q (q2 (vb (decide (r2=(⟨#[97,98,111,114,116]⟩:ByteArray)))) (jBH (by kernel_rfl) (by kernel_rfl)) (q ?_)))
 rcases Bool.eq_false_or_eq_true (decide (r2=(⟨#[97,98,111,114,116]⟩:ByteArray))) with hg10 | hg10
 have h:=h.1 hg10
 refine qk 25 hg10 (qk 25 hg10 (q2 (vb (who1 == 0)) (xT hg10) (q (ln ⟨(who1 == 0),hm,h⟩))))
 have h:=h.2 hg10
 refine sj2 25 hg10 (q2 (vb false) (xF hg10) (q (ln ⟨false,hm,h⟩)))
def m_M_j1 (r1:Option Addr) (p1 p2:Addr) (w:World) (K:Int→Int→Int→ByteArray→Bool→WP):Prop :=∃v2,w.cell? (p2.add 5)=some (vi v2)∧Calls Tryz.prog 170 #[(vp r1),(vi v2)] w (fun e w5=>∃r3 r4,e=.returned (.tuple #[(vu r3),(vs r4)])∧∃v3,w5.cell? (p2.add 1)=some (vi v3)∧∃v4,w5.cell? p2=some (vi v4)∧(∀j,j<5→vG w5 (p1.add j))∧∀w6,w6=storeRow w5 p1 (Ac 1 v3 r3 r4 (v4 == 9))→∃aA aB cH aC cI,Row w6 p1 (Ac aA aB cH aC cI)∧K aA aB cH aC cI w6)
def m_M_j3 (r1:Option Addr) (p1 p2:Addr) (x2:Bool) (w:World) (K:Int→Int→Int→ByteArray→Bool→WP):Prop :=Br x2 (∃a2,r1=some a2∧vG w (a2.add 1)∧∀w7,w7=w.setCell (a2.add 1) (vb true)→(∀j,j<5→vG w7 (p1.add j))∧∀w8,w8=storeRow w7 p1 (Ac 0 0 0 (⟨#[]⟩) false)→∃aO aP cJ aQ cK,Row w8 p1 (Ac aO aP cJ aQ cK)∧K aO aP cJ aQ cK w8) (∃v6,w.cell? (p2.add 2)=some (vi v6)∧∃v7,w.cell? (p2.add 1)=some (vi v7)∧Br (v6 != (q6.wrap (1 - v7))) (∃a3,r1=some a3∧vG w (a3.add 1)∧∀w9,w9=w.setCell (a3.add 1) (vb true)→(∀j,j<5→vG w9 (p1.add j))∧∀w10,w10=storeRow w9 p1 (Ac 0 0 0 (⟨#[]⟩) false)→∃aU aV cC aW cD,Row w10 p1 (Ac aU aV cC aW cD)∧K aU aV cC aW cD w10) (m_M_j1 r1 p1 p2 w K))
def m_M_j2 (r1:Option Addr) (p1 p2:Addr) (x1:Bool) (w:World) (K:Int→Int→Int→ByteArray→Bool→WP):Prop :=Br x1 (m_M_j3 r1 p1 p2 true w K) (∃v8,w.cell? (p2.add 1)=some (vi v8)∧m_M_j3 r1 p1 p2 (decide (v8>1)) w K)
def m_M (r1:Option Addr) (t1:Int) (w:World) (K:Int→Int→Int→ByteArray→Bool→WP):Prop :=∀p1 w1,New w (.cells #[(vi 0),(vi 0),(vu 0),(vs ⟨#[]⟩),(vb false)] 35) p1 w1→∃a1,r1=some a1∧∃v1,w1.cell? a1=some (vp v1)∧Calls Tryz.prog 102 #[(vp v1),(vi t1)] w1 (fun e w2=>∃aE aF aG aD aH aX aY r2,e=.returned (.tuple #[(Ae aE aF aG aD aH aX aY),(vb r2)])∧∀p2 w3,New w2 (.cells #[(vi 0),(vi 0),(vi 0),(vu 0),(vs ⟨#[]⟩),(vi 0),(vi 0)] 176) p2 w3→(∀j,j<7→vG w3 (p2.add j))∧∀w4,w4=storeRow w3 p2 (Ad aE aF aG aD aH aX aY)→∃v5,w4.cell? p2=some (vi v5)∧Br (v5 != 8) (∃v9,w4.cell? p2=some (vi v9)∧m_M_j2 r1 p1 p2 (v9 != 9) w4 K) (m_M_j2 r1 p1 p2 false w4 K))
theorem w_M (r1 t1 w K) (h:m_M r1 t1 w K):
  Calls Tryz.prog 107 #[(vp r1),(vi t1)] w (fun e w'=>∃bE bF bM aZ bN,e=.returned (Af bE bF bM aZ bN)∧K bE bF bM aZ bN w'):=by
 refine cw (args:=[(vp r1),(vi t1)]) Tryz.func107 Tryz.ntmps107 (eg (sn (O:=(.cells #[(vi 0),(vi 0),(vu 0),(vs ⟨#[]⟩),(vb false)] 35)) (zM (Tryz.zeroValue35 _) rfl) ?_))
 intro p1 w1 hn8
 have h:=h p1 w1 hn8
 refine ln (eg (q ?_))
 obtain ⟨a1,hp1,h⟩:=h
 refine q2 (vp (some a1)) (zG (p:=r1) (by kernel_rfl) hp1) (q (ql (Tryz.isAgg68 _) h fun v1 h=>q (sc Tryz.call102 (h.mono fun e w2 ⟨aE,aF,aG,aD,aH,aX,aY,r2,k,h⟩=>⟨_,k,?_⟩))))
 refine qc (nw1 h (zM (Tryz.zeroValue176 _) rfl) fun p2 w3 h=>?_)
 obtain ⟨hp2,h⟩:=h
 refine zK (zD rfl) (xo p2 (Ad aE aF aG aD aH aX aY) (Tryz.sizeOf176 _) hp2) ?_
 intro w4 hn1
 have h:=h w4 hn1
 refine q (ln (qL (fun ρ w=>Has ρ [(0,(vp r1)),(4,(vp (some p1))),(5,(vp (some p2)))]∧m_M_j1 r1 p1 p2 w K) ?_ ?_))
 rintro ρ w ⟨hH,h⟩
 refine zU hH (eg (qb (ql (Tryz.isAgg78 _) h fun v2 h=>sc Tryz.call170 (h.mono fun e w5 ⟨r3,r4,k,h⟩=>⟨_,k,?_⟩))))
 refine q (qd (ln (eg (q (ql (Tryz.isAgg3 _) h fun v3 h=>qc (ql (Tryz.isAgg3 _) h fun v4 h=>qb ?_))))))
 obtain ⟨hp3,h⟩:=h
 refine zK (zD rfl) (xo p1 (Ac 1 v3 r3 r4 (v4 == 9)) (Tryz.sizeOf35 _) hp3) ?_
 intro w6 hn2
 have h:=h w6 hn2
 refine ln (er ?_)
 obtain ⟨aA,aB,cH,aC,cI,hv1,h⟩:=h
 refine gg1 Tryz.results107 (rva (Tryz.isAgg35 _) (Tryz.sizeOf35 _) hv1) ⟨aA,aB,cH,aC,cI,rfl,h⟩
 refine eg (q (ql (Tryz.isAgg3 _) h fun v5 h=>qb (zN 4 (fun ρ w=>∃x1,Has ρ [(0,(vp r1)),(4,(vp (some p1))),(5,(vp (some p2))),(25,(vb x1))]∧m_M_j2 r1 p1 p2 x1 w K) ?_ ?_)))
 rintro ρ w ⟨x1,hH,h⟩
 refine zQ hH (q (zN 4 (fun ρ w=>∃x2,Has ρ [(0,(vp r1)),(4,(vp (some p1))),(5,(vp (some p2))),(30,(vb x2))]∧m_M_j3 r1 p1 p2 x2 w K) ?_ ?_))
 rintro ρ w ⟨x2,hH,h⟩
 refine zQ hH (q ?_)
 rcases Bool.eq_false_or_eq_true x2 with hg1 | hg1
 have h:=h.1 hg1
 refine sj 31 hg1 (sj5 31 hg1 (q2 (vb true) (xT hg1) (ln (yH (by kernel_rfl) (eg (q ?_))))))
 obtain ⟨a2,hp4,h⟩:=h
 refine q2 (vp (some a2)) (zG (p:=r1) (by kernel_rfl) hp4) (q ?_)
 obtain ⟨hp5,h⟩:=h
 refine zK (zD rfl) (vL (a:=(a2.add 1)) (v:=(vb true)) (by kernel_rfl) (by kernel_rfl) rfl (Tryz.sizeOf4 _) hp5) ?_
 intro w7 hn3
 have h:=h w7 hn3
 refine ln (eg (q ?_))
 obtain ⟨hp6,h⟩:=h
 refine zK (zD rfl) (xo p1 (Ac 0 0 0 (⟨#[]⟩) false) (Tryz.sizeOf35 _) hp6) ?_
 intro w8 hn4
 have h:=h w8 hn4
 refine ln (er (zY ?_))
 obtain ⟨aO,aP,cJ,aQ,cK,hv5,h⟩:=h
 refine gg1 Tryz.results107 (rva (Tryz.isAgg35 _) (Tryz.sizeOf35 _) hv5) ⟨aO,aP,cJ,aQ,cK,rfl,h⟩
 have h:=h.2 hg1
 refine qk 31 hg1 ?_
 obtain ⟨v6,hv8,h⟩:=h
 refine q4 31 hg1 (xl (Tryz.isAgg3 _) hv8) (qk 31 hg1 ?_)
 obtain ⟨v7,hv7,h⟩:=h
 refine q4 31 hg1 (xl (Tryz.isAgg3 _) hv7) (qk 31 hg1 (qk 31 hg1 (q2 (vb (v6 != (q6.wrap (1 - v7)))) (xF hg1) (ln (cbr h ?_ ?_)))))<;>intro h
 refine eg (q ?_)
 obtain ⟨a3,hp7,h⟩:=h
 refine q2 (vp (some a3)) (zG (p:=r1) (by kernel_rfl) hp7) (q ?_)
 obtain ⟨hp8,h⟩:=h
 refine zK (zD rfl) (vL (a:=(a3.add 1)) (v:=(vb true)) (by kernel_rfl) (by kernel_rfl) rfl (Tryz.sizeOf4 _) hp8) ?_
 intro w9 hn5
 have h:=h w9 hn5
 refine ln (eg (q ?_))
 obtain ⟨hp9,h⟩:=h
 refine zK (zD rfl) (xo p1 (Ac 0 0 0 (⟨#[]⟩) false) (Tryz.sizeOf35 _) hp9) ?_
 intro w10 hn6
 have h:=h w10 hn6
 refine ln (er (zY ?_))
 obtain ⟨aU,aV,cC,aW,cD,hv6,h⟩:=h
 refine gg1 Tryz.results107 (rva (Tryz.isAgg35 _) (Tryz.sizeOf35 _) hv6) ⟨aU,aV,cC,aW,cD,rfl,h⟩
 refine zB (zO ⟨hm,h⟩)
 rcases Bool.eq_false_or_eq_true x1 with hg2 | hg2
 have h:=h.1 hg2
 refine sj3 26 hg2 (q2 (vb true) (xT hg2) (zC ⟨true,hm,h⟩))
 have h:=h.2 hg2
 refine qk 26 hg2 ?_
 obtain ⟨v8,hv9,h⟩:=h
 refine q4 26 hg2 (xl (Tryz.isAgg3 _) hv9) (qk 26 hg2 (q2 (vb (decide (v8>1))) (xF hg2) (zC ⟨(decide (v8>1)),hm,h⟩)))
 rcases Bool.eq_false_or_eq_true (v5 != 8) with hg3 | hg3
 have h:=h.1 hg3
 refine qk 21 hg3 ?_
 obtain ⟨v9,hv10,h⟩:=h
 refine q4 21 hg3 (xl (Tryz.isAgg3 _) hv10) (qk 21 hg3 (q2 (vb (v9 != 9)) (xT hg3) (zC ⟨(v9 != 9),hm,h⟩)))
 have h:=h.2 hg3
 refine sj3 21 hg3 (q2 (vb false) (xF hg3) (zC ⟨false,hm,h⟩))
def m_E2 (r1:Option Addr) (t1:Int) (w:World) (K:ByteArray→Int→WP):Prop :=Calls Tryz.prog 109 #[(vp r1),(vi t1),(vi 4)] w (fun e w1=>∃aE aF aG aD aH aX aY,e=.returned (Ae aE aF aG aD aH aX aY)∧∀p1 w2,New w1 (.cells #[(vi 0),(vi 0),(vi 0),(vu 0),(vs ⟨#[]⟩),(vi 0),(vi 0)] 176) p1 w2→(∀j,j<7→vG w2 (p1.add j))∧∀w3,w3=storeRow w2 p1 (Ad aE aF aG aD aH aX aY)→∃C1:WP,C1 w3.drew∧∀w4,w4=w3.drew→∃v1,(∀w',C1 w'→w'.cell? (p1.add 5)=some (vi v1))∧∃v2,(∀w',C1 w'→w'.cell? (p1.add 6)=some (vi v2))∧Calls Tryz.prog 109 #[(vp r1),(vi v1),(vi 3)] w4 (fun e w5=>∃bE bF bK aR aZ dB dC,e=.returned (Ae bE bF bK aR aZ dB dC)∧C1 w5∧K aZ v2 w5))
theorem w_E2 (r1 t1 w K) (h:m_E2 r1 t1 w K):
  Calls Tryz.prog 108 #[(vp r1),(vi t1)] w (fun e w'=>∃r2 r3,e=.returned (.tuple #[(vs r2),(vi r3)])∧K r2 r3 w'):=by
 refine cw (args:=[(vp r1),(vi t1)]) Tryz.func108 Tryz.ntmps108 (eg (q0 (vs ⟨#[]⟩) (q0 (vi 0) (ln (eg (q0 (vp r1) (q0 (vi t1) ?_)))))))
 refine sc Tryz.call109 (h.mono fun e w1 ⟨aE,aF,aG,aD,aH,aX,aY,k,h⟩=>⟨_,k,?_⟩)
 refine nw1 h (zM (Tryz.zeroValue176 _) rfl) fun p1 w2 h=>?_
 obtain ⟨hp1,h⟩:=h
 refine zK (zD rfl) (xo p1 (Ad aE aF aG aD aH aX aY) (Tryz.sizeOf176 _) hp1) ?_
 intro w3 hn1
 have h:=h w3 hn1
 refine ln (zA ?_)
 obtain ⟨C1,hC,h⟩:=h
 refine dr1 C1 [3] [] hC h fun w4 h=>qx 0 (vp r1) Kp0 (qx 1 (vp (some (p1.add 5))) Kp1 (qg 2 ?_))
 obtain ⟨v1,hv2,h⟩:=h
 refine sy Kp2 (fun _ k=>xl (Tryz.isAgg78 _) (hv2 _ k)) (qx 5 (vp (some (p1.add 6))) Kp5 (qg 6 ?_))
 obtain ⟨v2,hv1,h⟩:=h
 refine sy Kp6 (fun _ k=>xl (Tryz.isAgg78 _) (hv1 _ k)) (lg 3 (zL Kp3 (zD rfl) (by kernel_rfl) (xc Tryz.call109) (h.mono ?_)))
 rintro e w5 ⟨bE,bF,bK,aR,aZ,dB,dC,rfl,hC,h⟩
 refine ⟨_,rfl,.inr hC,?_⟩
 refine qx 4 (vs aZ) Kp4 (qx 7 (vs aZ) Kp7 (qx 8 (vi v2) Kp8 (wn (zO (er (xS (.inl rfl) Tryz.results108 (v:=(vs aZ)) (by kernel_rfl) (v':=(vi v2)) (by kernel_rfl) ⟨aZ,v2,rfl,h⟩))))))
def m_F2 (r1:Option Addr) (t1 kind1:Int) (w:World) (K:Int→Int→Int→Int→ByteArray→Int→Int→WP):Prop :=∀p1 w1,New w (.cells #[(vi 0),(vi 0),(vi 0),(vu 0),(vs ⟨#[]⟩),(vi 0),(vi 0)] 176) p1 w1→∃a1,r1=some a1∧∃v1,w1.cell? a1=some (vp v1)∧Calls Tryz.prog 102 #[(vp v1),(vi t1)] w1 (fun e w2=>∃aE aF aG aD aH aX aY r2,e=.returned (.tuple #[(Ae aE aF aG aD aH aX aY),(vb r2)])∧∀p2 w3,New w2 (.cells #[(vi 0),(vi 0),(vi 0),(vu 0),(vs ⟨#[]⟩),(vi 0),(vi 0)] 176) p2 w3→(∀j,j<7→vG w3 (p2.add j))∧∀w4,w4=storeRow w3 p2 (Ad aE aF aG aD aH aX aY)→Br (!r2) (∃a2,r1=some a2∧vG w4 (a2.add 1)∧∀w5,w5=w4.setCell (a2.add 1) (vb true)→(∀j,j<7→vG w5 (p1.add j))∧∀w6,w6=storeRow w5 p1 (Ad 0 0 0 0 (⟨#[]⟩) 0 0)→∃aA aB aI aJ aC iL iM,Row w6 p1 (Ad aA aB aI aJ aC iL iM)∧K aA aB aI aJ aC iL iM w6) (∃v2,w4.cell? p2=some (vi v2)∧Br (v2 != kind1) (∃a3,r1=some a3∧vG w4 (a3.add 1)∧∀w7,w7=w4.setCell (a3.add 1) (vb true)→(∀j,j<7→vG w7 (p1.add j))∧∀w8,w8=storeRow w7 p1 (Ad 0 0 0 0 (⟨#[]⟩) 0 0)→∃aO aP cL cM aQ iN iO,Row w8 p1 (Ad aO aP cL cM aQ iN iO)∧K aO aP cL cM aQ iN iO w8) (∃aL aM aS aT aN iP iQ,Row w4 p2 (Ad aL aM aS aT aN iP iQ)∧(∀j,j<7→vG w4 (p1.add j))∧∀w9,w9=storeRow w4 p1 (Ad aL aM aS aT aN iP iQ)→∃aU aV dS dT aW iR iS,Row w9 p1 (Ad aU aV dS dT aW iR iS)∧K aU aV dS dT aW iR iS w9)))
theorem w_F2 (r1 t1 kind1 w K) (h:m_F2 r1 t1 kind1 w K):
  Calls Tryz.prog 109 #[(vp r1),(vi t1),(vi kind1)] w (fun e w'=>∃bE bF bK aR aZ dB dC,e=.returned (Ae bE bF bK aR aZ dB dC)∧K bE bF bK aR aZ dB dC w'):=by
 refine cw (args:=[(vp r1),(vi t1),(vi kind1)]) Tryz.func109 Tryz.ntmps109 (eg (sn (O:=(.cells #[(vi 0),(vi 0),(vi 0),(vu 0),(vs ⟨#[]⟩),(vi 0),(vi 0)] 176)) (zM (Tryz.zeroValue176 _) rfl) ?_))
 intro p1 w1 hn8
 have h:=h p1 w1 hn8
 refine ln (eg (q ?_))
 obtain ⟨a1,hp1,h⟩:=h
 refine q2 (vp (some a1)) (zG (p:=r1) (by kernel_rfl) hp1) (q (ql (Tryz.isAgg68 _) h fun v1 h=>q (sc Tryz.call102 (h.mono fun e w2 ⟨aE,aF,aG,aD,aH,aX,aY,r2,k,h⟩=>⟨_,k,?_⟩))))
 refine qc (nw1 h (zM (Tryz.zeroValue176 _) rfl) fun p2 w3 h=>?_)
 obtain ⟨hp2,h⟩:=h
 refine zK (zD rfl) (xo p2 (Ad aE aF aG aD aH aX aY) (Tryz.sizeOf176 _) hp2) ?_
 intro w4 hn1
 have h:=h w4 hn1
 refine q (ln (zA (eg (qc ?_))))
 rcases Bool.eq_false_or_eq_true (!r2) with hg1 | hg1
 have h:=h.1 hg1
 refine sj4 20 hg1 (q2 (vb true) (xT hg1) (ln (yH (by kernel_rfl) (eg (q0 (vp r1) ?_)))))
 obtain ⟨a2,hp3,h⟩:=h
 refine q2 (vp (some a2)) (zG (p:=r1) (by kernel_rfl) hp3) (q ?_)
 obtain ⟨hp4,h⟩:=h
 refine zK (zD rfl) (vL (a:=(a2.add 1)) (v:=(vb true)) (by kernel_rfl) (by kernel_rfl) rfl (Tryz.sizeOf4 _) hp4) ?_
 intro w5 hn2
 have h:=h w5 hn2
 refine ln (eg (q ?_))
 obtain ⟨hp5,h⟩:=h
 refine zK (zD rfl) (xo p1 (Ad 0 0 0 0 (⟨#[]⟩) 0 0) (Tryz.sizeOf176 _) hp5) ?_
 intro w6 hn3
 have h:=h w6 hn3
 refine ln (er (zY ?_))
 obtain ⟨aA,aB,aI,aJ,aC,iL,iM,hv1,h⟩:=h
 refine gg1 Tryz.results109 (rva (Tryz.isAgg176 _) (Tryz.sizeOf176 _) hv1) ⟨aA,aB,aI,aJ,aC,iL,iM,rfl,h⟩
 have h:=h.2 hg1
 refine qk 20 hg1 ?_
 obtain ⟨v2,hv5,h⟩:=h
 refine q4 20 hg1 (xl (Tryz.isAgg3 _) hv5) (qk 20 hg1 (qk 20 hg1 (q2 (vb (v2 != kind1)) (xF hg1) (ln (cbr h ?_ ?_)))))<;>intro h
 refine eg (q ?_)
 obtain ⟨a3,hp6,h⟩:=h
 refine q2 (vp (some a3)) (zG (p:=r1) (by kernel_rfl) hp6) (q ?_)
 obtain ⟨hp7,h⟩:=h
 refine zK (zD rfl) (vL (a:=(a3.add 1)) (v:=(vb true)) (by kernel_rfl) (by kernel_rfl) rfl (Tryz.sizeOf4 _) hp7) ?_
 intro w7 hn4
 have h:=h w7 hn4
 refine ln (eg (q ?_))
 obtain ⟨hp8,h⟩:=h
 refine zK (zD rfl) (xo p1 (Ad 0 0 0 0 (⟨#[]⟩) 0 0) (Tryz.sizeOf176 _) hp8) ?_
 intro w8 hn5
 have h:=h w8 hn5
 refine ln (er (zY ?_))
 obtain ⟨aO,aP,cL,cM,aQ,iN,iO,hv2,h⟩:=h
 refine gg1 Tryz.results109 (rva (Tryz.isAgg176 _) (Tryz.sizeOf176 _) hv2) ⟨aO,aP,cL,cM,aQ,iN,iO,rfl,h⟩
 refine zB (zO (eg ?_))
 obtain ⟨aL,aM,aS,aT,aN,iP,iQ,hv4,h⟩:=h
 refine qa (Tryz.isAgg176 _) (Tryz.sizeOf176 _) hv4 ?_
 obtain ⟨hp9,h⟩:=h
 refine zK (zD rfl) (xo p1 (Ad aL aM aS aT aN iP iQ) (Tryz.sizeOf176 _) hp9) ?_
 intro w9 hn6
 have h:=h w9 hn6
 refine ln (er ?_)
 obtain ⟨aU,aV,dS,dT,aW,iR,iS,hv3,h⟩:=h
 refine gg1 Tryz.results109 (rva (Tryz.isAgg176 _) (Tryz.sizeOf176 _) hv3) ⟨aU,aV,dS,dT,aW,iR,iS,rfl,h⟩
def m_A3 (c1:Int) (text1:ByteArray) (w:World) (K:Int→Int→Int→Int→ByteArray→Sl→WP):Prop :=∀p1 w1,New w (.cells #[(vi 0),(vi 0),(vi 0),(vu 0),(vs ⟨#[]⟩),Sl.nil.v] 107) p1 w1→Calls Tryz.prog 129 #[(vs (⟨#[100,101,97,108]⟩:ByteArray))] w1 (fun e w2=>∃aE aF aG aD aH bL,e=.returned (Aa aE aF aG aD aH bL)∧Calls Tryz.prog 130 #[(vu c1)] w2 (fun e w3=>∃bE bF bK aR aZ eX,e=.returned (Aa bE bF bK aR aZ eX)∧Calls Tryz.prog 129 #[(vs text1)] w3 (fun e w4=>∃bO bP cW cX bG eY,e=.returned (Aa bO bP cW cX bG eY)∧Calls Tryz.prog 128 #[(.agg #[(vi bE),(vi bF),(vi bK),(vu aR),(vs aZ),eX.v]),(.agg #[(vi bO),(vi bP),(vi cW),(vu cX),(vs bG),eY.v])] w4 (fun e w5=>∃bH bI fW fX bJ fY,e=.returned (Aa bH bI fW fX bJ fY)∧Calls Tryz.prog 128 #[(.agg #[(vi aE),(vi aF),(vi aG),(vu aD),(vs aH),bL.v]),(.agg #[(vi bH),(vi bI),(vi fW),(vu fX),(vs bJ),fY.v])] w5 (fun e w6=>∃cT cU eZ fA cV fB,e=.returned (Aa cT cU eZ fA cV fB)∧(∀j,j<6→vG w6 (p1.add j))∧∀w7,w7=storeRow w6 p1 (Ab cT cU eZ fA cV fB)→∃aA aB aI aJ aC aK,Row w7 p1 (Ab aA aB aI aJ aC aK)∧K aA aB aI aJ aC aK w7)))))
theorem w_A3 (c1 text1 w K) (h:m_A3 c1 text1 w K):
  Calls Tryz.prog 125 #[(vu c1),(vs text1)] w (fun e w'=>∃dW dX gQ gR dY gS,e=.returned (Aa dW dX gQ gR dY gS)∧K dW dX gQ gR dY gS w'):=by
 refine cw (args:=[(vu c1),(vs text1)]) Tryz.func125 Tryz.ntmps125 (eg (sn (O:=(.cells #[(vi 0),(vi 0),(vi 0),(vu 0),(vs ⟨#[]⟩),Sl.nil.v] 107)) (zM (Tryz.zeroValue107 _) rfl) ?_))
 intro p1 w1 hn2
 have h:=h p1 w1 hn2
 refine ln (eg (sc Tryz.call129 (h.mono fun e w2 ⟨aE,aF,aG,aD,aH,bL,k,h⟩=>⟨_,k,?_⟩)))
 refine q (sc Tryz.call130 (h.mono fun e w3 ⟨bE,bF,bK,aR,aZ,eX,k,h⟩=>⟨_,k,?_⟩))
 refine q (sc Tryz.call129 (h.mono fun e w4 ⟨bO,bP,cW,cX,bG,eY,k,h⟩=>⟨_,k,?_⟩))
 refine sc Tryz.call128 (h.mono fun e w5 ⟨bH,bI,fW,fX,bJ,fY,k,h⟩=>⟨_,k,?_⟩)
 refine sc Tryz.call128 (h.mono fun e w6 ⟨cT,cU,eZ,fA,cV,fB,k,h⟩=>⟨_,k,?_⟩)
 obtain ⟨hp1,h⟩:=h
 refine zK (zD rfl) (xo p1 (Ab cT cU eZ fA cV fB) (Tryz.sizeOf107 _) hp1) ?_
 intro w7 hn1
 have h:=h w7 hn1
 refine ln (er ?_)
 obtain ⟨aA,aB,aI,aJ,aC,aK,hv1,h⟩:=h
 refine gg1 Tryz.results125 (rva (Tryz.isAgg107 _) (Tryz.sizeOf107 _) hv1) ⟨aA,aB,aI,aJ,aC,aK,rfl,h⟩
def m_B3 (who1 cN:Int) (cO cP cQ:Int) (cR:ByteArray) (cS:Sl) (fake1:Bool) (w:World) (K:Int→Int→Int→Int→ByteArray→Sl→WP):Prop :=∀p1 w1,New w (.cells #[(vi cN),(vi cO),(vi cP),(vu cQ),(vs cR),cS.v] 107) p1 w1→∀p2 w2,New w1 (.cells #[(vi 0),(vi 0),(vi 0),(vu 0),(vs ⟨#[]⟩),Sl.nil.v] 107) p2 w2→Br fake1 (∃aL aM aS aT aN bA,Row w2 p1 (Ab aL aM aS aT aN bA)∧∀p3 w3,New w2 (.cells #[(vi aL),(vi aM),(vi aS),(vu aT),(vs aN),bA.v] 107) p3 w3→(∀j,j<6→vG w3 (p2.add j))∧∀w4,w4=storeRow w3 p2 [(vi 9),(vi who1),(vi (q6.wrap (1 - who1))),(vu 0),(vs ⟨#[]⟩),(Sl.mk (some p3) 1 1).v]→∃aA aB aI aJ aC aK,Row w4 p2 (Ab aA aB aI aJ aC aK)∧K aA aB aI aJ aC aK w4) (∃bB bC bQ bR bD bS,Row w2 p1 (Ab bB bC bQ bR bD bS)∧∀p4 w5,New w2 (.cells #[(vi bB),(vi bC),(vi bQ),(vu bR),(vs bD),bS.v] 107) p4 w5→(∀j,j<6→vG w5 (p2.add j))∧∀w6,w6=storeRow w5 p2 [(vi 8),(vi who1),(vi (q6.wrap (1 - who1))),(vu 0),(vs ⟨#[]⟩),(Sl.mk (some p4) 1 1).v]→∃aO aP cL cM aQ dR,Row w6 p2 (Ab aO aP cL cM aQ dR)∧K aO aP cL cM aQ dR w6)
theorem w_B3 (who1 cN cO cP cQ cR cS fake1 w K) (h:m_B3 who1 cN cO cP cQ cR cS fake1 w K):
  Calls Tryz.prog 126 #[(vi who1),(.agg #[(vi cN),(vi cO),(vi cP),(vu cQ),(vs cR),cS.v]),(vb fake1)] w (fun e w'=>∃aE aF aG aD aH bL,e=.returned (Aa aE aF aG aD aH bL)∧K aE aF aG aD aH bL w'):=by
 refine cw (args:=[(vi who1),(Aa cN cO cP cQ cR cS),(vb fake1)]) Tryz.func126 Tryz.ntmps126 (eg (sn (O:=(.cells #[(vi cN),(vi cO),(vi cP),(vu cQ),(vs cR),cS.v] 107)) xb ?_))
 intro p1 w1 hn6
 have h:=h p1 w1 hn6
 refine nw1 h (zM (Tryz.zeroValue107 _) rfl) fun p2 w2 h=>ln (eg (q (ln (zA (eg (q (zC (zO (cbr h ?_ ?_)))))))))<;>intro h
 refine rg (q (ln (eg (qd ?_))))
 obtain ⟨aL,aM,aS,aT,aN,bA,hv2,h⟩:=h
 refine qa (Tryz.isAgg107 _) (Tryz.sizeOf107 _) hv2 (nw4 (fun p=>(Sl.mk (some p) 1 1).v) h fun p3 w3 h=>q ?_)
 obtain ⟨hp1,h⟩:=h
 refine zK (zD rfl) (xo p2 [(vi 9),(vi who1),(vi (q6.wrap (1 - who1))),(vu 0),(vs ⟨#[]⟩),(Sl.mk (some p3) 1 1).v] (Tryz.sizeOf107 _) hp1) ?_
 intro w4 hn1
 have h:=h w4 hn1
 refine ln (er ?_)
 obtain ⟨aA,aB,aI,aJ,aC,aK,hv1,h⟩:=h
 refine gg1 Tryz.results126 (rva (Tryz.isAgg107 _) (Tryz.sizeOf107 _) hv1) ⟨aA,aB,aI,aJ,aC,aK,rfl,h⟩
 refine zB (zO (eg (qd ?_)))
 obtain ⟨bB,bC,bQ,bR,bD,bS,hv4,h⟩:=h
 refine qa (Tryz.isAgg107 _) (Tryz.sizeOf107 _) hv4 (nw4 (fun p=>(Sl.mk (some p) 1 1).v) h fun p4 w5 h=>q ?_)
 obtain ⟨hp2,h⟩:=h
 refine zK (zD rfl) (xo p2 [(vi 8),(vi who1),(vi (q6.wrap (1 - who1))),(vu 0),(vs ⟨#[]⟩),(Sl.mk (some p4) 1 1).v] (Tryz.sizeOf107 _) hp2) ?_
 intro w6 hn3
 have h:=h w6 hn3
 refine ln (er ?_)
 obtain ⟨aO,aP,cL,cM,aQ,dR,hv3,h⟩:=h
 refine gg1 Tryz.results126 (rva (Tryz.isAgg107 _) (Tryz.sizeOf107 _) hv3) ⟨aO,aP,cL,cM,aQ,dR,rfl,h⟩
def m_C3 (who1 cN:Int) (cO cP cQ:Int) (cR:ByteArray) (cS:Sl) (w:World) (K:Int→Int→Int→Int→ByteArray→Sl→WP):Prop :=∀p1 w1,New w (.cells #[(vi cN),(vi cO),(vi cP),(vu cQ),(vs cR),cS.v] 107) p1 w1→∀p2 w2,New w1 (.cells #[(vi 0),(vi 0),(vi 0),(vu 0),(vs ⟨#[]⟩),Sl.nil.v] 107) p2 w2→∃aL aM aS aT aN bA,Row w2 p1 (Ab aL aM aS aT aN bA)∧∀p3 w3,New w2 (.cells #[(vi aL),(vi aM),(vi aS),(vu aT),(vs aN),bA.v] 107) p3 w3→(∀j,j<6→vG w3 (p2.add j))∧∀w4,w4=storeRow w3 p2 [(vi 7),(vi who1),(vi 0),(vu 0),(vs ⟨#[]⟩),(Sl.mk (some p3) 1 1).v]→∃aA aB aI aJ aC aK,Row w4 p2 (Ab aA aB aI aJ aC aK)∧K aA aB aI aJ aC aK w4
theorem w_C3 (who1 cN cO cP cQ cR cS w K) (h:m_C3 who1 cN cO cP cQ cR cS w K):
  Calls Tryz.prog 127 #[(vi who1),(.agg #[(vi cN),(vi cO),(vi cP),(vu cQ),(vs cR),cS.v])] w (fun e w'=>∃aE aF aG aD aH bL,e=.returned (Aa aE aF aG aD aH bL)∧K aE aF aG aD aH bL w'):=by
 refine cw (args:=[(vi who1),(Aa cN cO cP cQ cR cS)]) Tryz.func127 Tryz.ntmps127 (eg (sn (O:=(.cells #[(vi cN),(vi cO),(vi cP),(vu cQ),(vs cR),cS.v] 107)) xb ?_))
 intro p1 w1 hn4
 have h:=h p1 w1 hn4
 refine nw1 h (zM (Tryz.zeroValue107 _) rfl) fun p2 w2 h=>ln (eg (q ?_))
 obtain ⟨aL,aM,aS,aT,aN,bA,hv2,h⟩:=h
 refine qa (Tryz.isAgg107 _) (Tryz.sizeOf107 _) hv2 (nw4 (fun p=>(Sl.mk (some p) 1 1).v) h fun p3 w3 h=>q ?_)
 obtain ⟨hp1,h⟩:=h
 refine zK (zD rfl) (xo p2 [(vi 7),(vi who1),(vi 0),(vu 0),(vs ⟨#[]⟩),(Sl.mk (some p3) 1 1).v] (Tryz.sizeOf107 _) hp1) ?_
 intro w4 hn1
 have h:=h w4 hn1
 refine ln (er ?_)
 obtain ⟨aA,aB,aI,aJ,aC,aK,hv1,h⟩:=h
 refine gg1 Tryz.results127 (rva (Tryz.isAgg107 _) (Tryz.sizeOf107 _) hv1) ⟨aA,aB,aI,aJ,aC,aK,rfl,h⟩
def m_D3 (cN cO:Int) (cP cQ:Int) (cR:ByteArray) (cS:Sl) (iT iU:Int) (iV iW:Int) (iX:ByteArray) (iY:Sl) (w:World) (K:Int→Int→Int→Int→ByteArray→Sl→WP):Prop :=∀p1 w1,New w (.cells #[(vi cN),(vi cO),(vi cP),(vu cQ),(vs cR),cS.v] 107) p1 w1→∀p2 w2,New w1 (.cells #[(vi iT),(vi iU),(vi iV),(vu iW),(vs iX),iY.v] 107) p2 w2→∀p3 w3,New w2 (.cells #[(vi 0),(vi 0),(vi 0),(vu 0),(vs ⟨#[]⟩),Sl.nil.v] 107) p3 w3→∃aL aM aS aT aN bA,Row w3 p1 (Ab aL aM aS aT aN bA)∧∃bB bC bQ bR bD bS,Row w3 p2 (Ab bB bC bQ bR bD bS)∧∀p4 w4,New w3 (.cells #[(vi aL),(vi aM),(vi aS),(vu aT),(vs aN),bA.v,(vi bB),(vi bC),(vi bQ),(vu bR),(vs bD),bS.v] 107) p4 w4→(∀j,j<6→vG w4 (p3.add j))∧∀w5,w5=storeRow w4 p3 [(vi 4),(vi 0),(vi 0),(vu 0),(vs ⟨#[]⟩),(Sl.mk (some p4) 2 2).v]→∃aA aB aI aJ aC aK,Row w5 p3 (Ab aA aB aI aJ aC aK)∧K aA aB aI aJ aC aK w5
theorem w_D3 (cN cO cP cQ cR cS iT iU iV iW iX iY w K) (h:m_D3 cN cO cP cQ cR cS iT iU iV iW iX iY w K):
  Calls Tryz.prog 128 #[(.agg #[(vi cN),(vi cO),(vi cP),(vu cQ),(vs cR),cS.v]),(.agg #[(vi iT),(vi iU),(vi iV),(vu iW),(vs iX),iY.v])] w (fun e w'=>∃aE aF aG aD aH bL,e=.returned (Aa aE aF aG aD aH bL)∧K aE aF aG aD aH bL w'):=by
 refine cw (args:=[(Aa cN cO cP cQ cR cS),(Aa iT iU iV iW iX iY)]) Tryz.func128 Tryz.ntmps128 (eg (sn (O:=(.cells #[(vi cN),(vi cO),(vi cP),(vu cQ),(vs cR),cS.v] 107)) xb ?_))
 intro p1 w1 hn5
 have h:=h p1 w1 hn5
 refine nw1 h xb fun p2 w2 h=>nw1 h (zM (Tryz.zeroValue107 _) rfl) fun p3 w3 h=>ln (eg ?_)
 obtain ⟨aL,aM,aS,aT,aN,bA,hv3,h⟩:=h
 refine qa (Tryz.isAgg107 _) (Tryz.sizeOf107 _) hv3 ?_
 obtain ⟨bB,bC,bQ,bR,bD,bS,hv2,h⟩:=h
 refine qa (Tryz.isAgg107 _) (Tryz.sizeOf107 _) hv2 (nw4 (fun p=>(Sl.mk (some p) 2 2).v) h fun p4 w4 h=>q ?_)
 obtain ⟨hp1,h⟩:=h
 refine zK (zD rfl) (xo p3 [(vi 4),(vi 0),(vi 0),(vu 0),(vs ⟨#[]⟩),(Sl.mk (some p4) 2 2).v] (Tryz.sizeOf107 _) hp1) ?_
 intro w5 hn1
 have h:=h w5 hn1
 refine ln (er ?_)
 obtain ⟨aA,aB,aI,aJ,aC,aK,hv1,h⟩:=h
 refine gg1 Tryz.results128 (rva (Tryz.isAgg107 _) (Tryz.sizeOf107 _) hv1) ⟨aA,aB,aI,aJ,aC,aK,rfl,h⟩
def m_E3 (s1:ByteArray) (w:World) (K:Int→Int→Int→Int→ByteArray→Sl→WP):Prop :=∀p1 w1,New w (.cells #[(vi 0),(vi 0),(vi 0),(vu 0),(vs ⟨#[]⟩),Sl.nil.v] 107) p1 w1→(∀j,j<6→vG w1 (p1.add j))∧∀w2,w2=storeRow w1 p1 [(vi 3),(vi 0),(vi 0),(vu 0),(vs s1),Sl.nil.v]→∃aA aB aI aJ aC aK,Row w2 p1 (Ab aA aB aI aJ aC aK)∧K aA aB aI aJ aC aK w2
theorem w_E3 (s1 w K) (h:m_E3 s1 w K):
  Calls Tryz.prog 129 #[(vs s1)] w (fun e w'=>∃aE aF aG aD aH bL,e=.returned (Aa aE aF aG aD aH bL)∧K aE aF aG aD aH bL w'):=by
 refine cw (args:=[(vs s1)]) Tryz.func129 Tryz.ntmps129 (eg (sn (O:=(.cells #[(vi 0),(vi 0),(vi 0),(vu 0),(vs ⟨#[]⟩),Sl.nil.v] 107)) (zM (Tryz.zeroValue107 _) rfl) ?_))
 intro p1 w1 hn2
 have h:=h p1 w1 hn2
 refine ln (eg (qb ?_))
 obtain ⟨hp1,h⟩:=h
 refine zK (zD rfl) (xo p1 [(vi 3),(vi 0),(vi 0),(vu 0),(vs s1),Sl.nil.v] (Tryz.sizeOf107 _) hp1) ?_
 intro w2 hn1
 have h:=h w2 hn1
 refine ln (er ?_)
 obtain ⟨aA,aB,aI,aJ,aC,aK,hv1,h⟩:=h
 refine gg1 Tryz.results129 (rva (Tryz.isAgg107 _) (Tryz.sizeOf107 _) hv1) ⟨aA,aB,aI,aJ,aC,aK,rfl,h⟩
def m_F3 (n1:Int) (w:World) (K:Int→Int→Int→Int→ByteArray→Sl→WP):Prop :=∀p1 w1,New w (.cells #[(vi 0),(vi 0),(vi 0),(vu 0),(vs ⟨#[]⟩),Sl.nil.v] 107) p1 w1→(∀j,j<6→vG w1 (p1.add j))∧∀w2,w2=storeRow w1 p1 [(vi 2),(vi 0),(vi 0),(vu n1),(vs ⟨#[]⟩),Sl.nil.v]→∃aA aB aI aJ aC aK,Row w2 p1 (Ab aA aB aI aJ aC aK)∧K aA aB aI aJ aC aK w2
theorem w_F3 (n1 w K) (h:m_F3 n1 w K):
  Calls Tryz.prog 130 #[(vu n1)] w (fun e w'=>∃aE aF aG aD aH bL,e=.returned (Aa aE aF aG aD aH bL)∧K aE aF aG aD aH bL w'):=by
 refine cw (args:=[(vu n1)]) Tryz.func130 Tryz.ntmps130 (eg (sn (O:=(.cells #[(vi 0),(vi 0),(vi 0),(vu 0),(vs ⟨#[]⟩),Sl.nil.v] 107)) (zM (Tryz.zeroValue107 _) rfl) ?_))
 intro p1 w1 hn2
 have h:=h p1 w1 hn2
 refine ln (eg (qb ?_))
 obtain ⟨hp1,h⟩:=h
 refine zK (zD rfl) (xo p1 [(vi 2),(vi 0),(vi 0),(vu n1),(vs ⟨#[]⟩),Sl.nil.v] (Tryz.sizeOf107 _) hp1) ?_
 intro w2 hn1
 have h:=h w2 hn1
 refine ln (er ?_)
 obtain ⟨aA,aB,aI,aJ,aC,aK,hv1,h⟩:=h
 refine gg1 Tryz.results130 (rva (Tryz.isAgg107 _) (Tryz.sizeOf107 _) hv1) ⟨aA,aB,aI,aJ,aC,aK,rfl,h⟩
def m_W_j1 (r1:Option Addr) (p1:Addr) (w:World) (K:Int→ByteArray→WP):Prop :=∃C1:WP,C1 w.drew∧∀w5,w5=w.drew→∃v1,(∀w',C1 w'→w'.cell? (p1.add 5)=some (vi v1))∧∃v2,(∀w',C1 w'→w'.cell? (p1.add 6)=some (vi v2))∧Calls Tryz.prog 109 #[(vp r1),(vi v1),(vi 2)] w5 (fun e w6=>∃bE bF bK aR aZ dB dC,e=.returned (Ae bE bF bK aR aZ dB dC)∧C1 w6∧Calls Tryz.prog 109 #[(vp r1),(vi v2),(vi 3)] w6 (fun e w7=>∃bO bP cW cX bG fZ gA,e=.returned (Ae bO bP cW cX bG fZ gA)∧C1 w7∧K aR bG w7))
def m_W (r1:Option Addr) (t1:Int) (w:World) (K:Int→ByteArray→WP):Prop :=Calls Tryz.prog 108 #[(vp r1),(vi t1)] w (fun e w1=>∃r2 r3,e=.returned (.tuple #[(vs r2),(vi r3)])∧Calls Tryz.prog 109 #[(vp r1),(vi r3),(vi 4)] w1 (fun e w2=>∃aE aF aG aD aH aX aY,e=.returned (Ae aE aF aG aD aH aX aY)∧∀p1 w3,New w2 (.cells #[(vi 0),(vi 0),(vi 0),(vu 0),(vs ⟨#[]⟩),(vi 0),(vi 0)] 176) p1 w3→(∀j,j<7→vG w3 (p1.add j))∧∀w4,w4=storeRow w3 p1 (Ad aE aF aG aD aH aX aY)→∃a1,r1=some a1∧∃v3,w4.cell? (a1.add 1)=some (vb v3)∧Br v3 (∃a2,r1=some a2∧vG w4 (a2.add 1)∧∀w8,w8=w4.setCell (a2.add 1) (vb true)→m_W_j1 r1 p1 w8 K) (∃a3,r1=some a3∧vG w4 (a3.add 1)∧∀w9,w9=w4.setCell (a3.add 1) (vb (!(decide (r2=(⟨#[100,101,97,108]⟩:ByteArray)))))→m_W_j1 r1 p1 w9 K)))
theorem w_W (r1 t1 w K) (h:m_W r1 t1 w K):
  Calls Tryz.prog 170 #[(vp r1),(vi t1)] w (fun e w'=>∃r4 r5,e=.returned (.tuple #[(vu r4),(vs r5)])∧K r4 r5 w'):=by
 refine cw (args:=[(vp r1),(vi t1)]) Tryz.func170 Tryz.ntmps170 (eg (q0 (vu 0) (q0 (vs ⟨#[]⟩) (ln (eg (q0 (vp r1) (q0 (vi t1) ?_)))))))
 refine sc Tryz.call108 (h.mono fun e w1 ⟨r2,r3,k,h⟩=>⟨_,k,?_⟩)
 refine q (qd (ln (eg (qb (sc Tryz.call109 (h.mono fun e w2 ⟨aE,aF,aG,aD,aH,aX,aY,k,h⟩=>⟨_,k,?_⟩))))))
 refine nw1 h (zM (Tryz.zeroValue176 _) rfl) fun p1 w3 h=>?_
 obtain ⟨hp1,h⟩:=h
 refine zK (zD rfl) (xo p1 (Ad aE aF aG aD aH aX aY) (Tryz.sizeOf176 _) hp1) ?_
 intro w4 hn1
 have h:=h w4 hn1
 refine ln (qL (fun ρ w=>Has ρ [(0,(vp r1)),(8,(vp (some p1)))]∧m_W_j1 r1 p1 w K) ?_ ?_)
 rintro ρ w ⟨hH,h⟩
 refine zU hH (zA ?_)
 obtain ⟨C1,hC,h⟩:=h
 refine dr1 C1 [3,8] [] hC h fun w5 h=>qx 0 (vp r1) Kp0 (qx 1 (vp (some (p1.add 5))) Kp1 (qg 2 ?_))
 obtain ⟨v1,hv2,h⟩:=h
 refine sy Kp2 (fun _ k=>xl (Tryz.isAgg78 _) (hv2 _ k)) (qx 5 (vp r1) Kp5 (qx 6 (vp (some (p1.add 6))) Kp6 (qg 7 ?_)))
 obtain ⟨v2,hv1,h⟩:=h
 refine sy Kp7 (fun _ k=>xl (Tryz.isAgg78 _) (hv1 _ k)) (lg 3 (zL Kp3 (zD rfl) (by kernel_rfl) (xc Tryz.call109) (h.mono ?_)))
 rintro e w6 ⟨bE,bF,bK,aR,aZ,dB,dC,rfl,hC,h⟩
 refine ⟨_,rfl,.inr hC,?_⟩
 refine qx 4 (vu aR) Kp4 (lg 8 (zL Kp8 (zD rfl) (by kernel_rfl) (xc Tryz.call109) (h.mono ?_)))
 rintro e w7 ⟨bO,bP,cW,cX,bG,fZ,gA,rfl,hC,h⟩
 refine ⟨_,rfl,.inr hC,?_⟩
 refine qx 9 (vs bG) Kp9 (qx 10 (vu aR) (zS (S8 (zI (zI zR)))) (qx 11 (vs bG) (zS (S8 (zI (zI (zI zR))))) (wn (zO (er (xS (.inl rfl) Tryz.results170 (v:=(vu aR)) (by kernel_rfl) (v':=(vs bG)) (by kernel_rfl) ⟨aR,bG,rfl,h⟩))))))
 refine rg (qb ?_)
 obtain ⟨a1,hp2,h⟩:=h
 refine q2 (vp (some a1)) (zG (p:=r1) (by kernel_rfl) hp2) (q (ql (Tryz.isAgg4 _) h fun v3 h=>q ?_))
 rcases Bool.eq_false_or_eq_true v3 with hg1 | hg1
 have h:=h.1 hg1
 refine sj2 23 hg1 (q2 (vb true) (xT hg1) ?_)
 obtain ⟨a2,hp3,h⟩:=h
 refine q2 (vp (some a2)) (zG (p:=r1) (by kernel_rfl) hp3) (q ?_)
 obtain ⟨hp4,h⟩:=h
 refine zK (zD rfl) (vL (a:=(a2.add 1)) (v:=(vb true)) (by kernel_rfl) (by kernel_rfl) rfl (Tryz.sizeOf4 _) hp4) ?_
 intro w8 hn2
 have h:=h w8 hn2
 refine ln ⟨hm,h⟩
 have h:=h.2 hg1
 refine qk 23 hg1 (stq (v:=(vb (!(decide (r2=(⟨#[100,101,97,108]⟩:ByteArray)))))) (wy 23 hg1) (uM (by kernel_rfl) (by kernel_rfl)) (q2 (vb (!(decide (r2=(⟨#[100,101,97,108]⟩:ByteArray))))) (xF hg1) ?_))
 obtain ⟨a3,hp5,h⟩:=h
 refine q2 (vp (some a3)) (zG (p:=r1) (by kernel_rfl) hp5) (q ?_)
 obtain ⟨hp6,h⟩:=h
 refine zK (zD rfl) (vL (a:=(a3.add 1)) (v:=(vb (!(decide (r2=(⟨#[100,101,97,108]⟩:ByteArray)))))) (by kernel_rfl) (by kernel_rfl) rfl (Tryz.sizeOf4 _) hp6) ?_
 intro w9 hn3
 have h:=h w9 hn3
 refine ln ⟨hm,h⟩
end Go.Proofs
end
section
open Go Go.SE
namespace Go.Sp
def qM (x:ByteArray):Tree:=.mk 3 0 0 0 x []
def jBE (n:Int):Tree:=.mk 2 0 0 n ⟨#[]⟩ []
def qW (a b:Tree):Tree:=.mk 4 0 0 0 ⟨#[]⟩ [a,b]
def xG (n:Int) (a:Tree):Tree:=.mk 7 n 0 0 ⟨#[]⟩ [a]
def yT (n:Int) (a:Tree) (fake:Bool):Tree:=.mk (if fake then 9 else 8) n (1 - n) 0 ⟨#[]⟩ [a]
def jAG:ByteArray:=⟨#[100,101,97,108]⟩
def qH (c:Int) (x:ByteArray):Tree:=qW (qM jAG) (qW (jBE c) (qM x))
end Go.Sp
namespace Go.Proofs
attribute [local irreducible] Calls
theorem TreeAt.leaf {S:NP} {w:World} {k f t u:Int} {x:ByteArray}:TreeAt S w Sl.nil (.mk k f t u x []) :=
 .mk k f t u x [] Sl.nil (fun _=>Sl.nil) rfl (by simp) (fun i h=>by simp at h) (fun i h=>by simp at h)
theorem TreeAt.one {S:NP} {w:World} {k f t u:Int} {x:ByteArray} {p:Addr} {A:Sp.Tree} {sa:Sl} {T:TypeId} (hB:Box w p (yL A sa) T) (hS:S p.block) (hA:TreeAt S w sa A):TreeAt S w ⟨some p,1,1⟩ (.mk k f t u x [A]):=by
 refine .mk k f t u x [A] _ (fun _=>sa) rfl (by simp) (fun i h=>?_) (fun i h=>?_)
 ·have:i=0:=by simpa using h
  subst this;exact ⟨p,⟨by omega,by simp,p,rfl,rfl⟩,hS,hB.row⟩
 ·have:i=0:=by simpa using h
  subst this;exact hA
theorem TreeAt.pair {S:NP} {w:World} {k f t u:Int} {x:ByteArray} {p:Addr} {A B:Sp.Tree} {sa sb:Sl} {T:TypeId} (hB:Box w p (yL A sa++yL B sb) T) (hS:S p.block) (hA:TreeAt S w sa A) (hB2:TreeAt S w sb B):TreeAt S w ⟨some p,2,2⟩ (.mk k f t u x [A,B]):=by
 refine .mk k f t u x [A,B] _ (fun i=>if i=0 then sa else sb) rfl (by simp) (fun i h=>?_) (fun i h=>?_)
 ·have:i=0∨i=1:=by simp at h;omega
  rcases this with rfl | rfl
  ·refine ⟨p,⟨by omega,by simp,p,rfl,rfl⟩,hS,fun i hi=>?_⟩;have:=hB.row i (by simp [yL] at hi ⊢;omega);have hi':i<6:=by simpa [yL] using hi
   rw [this];exact List.getElem?_append_left (by simp [yL];omega)
  ·refine ⟨p.add (1*6),⟨by omega,by simp,p,rfl,rfl⟩,by rw [zX];exact hS,fun i hi=>?_⟩;have hi':i<6:=by simpa [yL] using hi
   have:=hB.row (6+i) (by simp [yL];omega);rw [uW,this,List.getElem?_append_right (by simp [yL])];simp [yL]
 ·have:i=0∨i=1:=by simp at h;omega
  rcases this with rfl | rfl
  ·exact hA
  ·exact hB2
abbrev RetT (n0:Nat) (w:World) (T:Sp.Tree) (e:Ending) (w':World):Prop:=∃s,e=.returned (.agg (yL T s).toArray)∧TreeAt (n0≤·) w' s T∧Pure w w'
theorem yJ (n0:Nat) (x:ByteArray) (w:World) (h0:n0≤w.heap.size):Calls Tryz.prog 129 #[.string x] w (RetT n0 w (Sp.qM x)):=by
 refine (w_E3 x w (fun k f t u y s w'=>(⟨k,f,t,u,y,0,0⟩:Sp.Node)=(Sp.qM x).node∧TreeAt (n0≤·) w' s (Sp.qM x)∧Pure w w') ?_).mono ?_
 ·unfold m_E3;intro p1 w1 h1;exact bx 6 (Box.of_new h1) rfl rfl (fun w' b E=>⟨_,_,_,_,_,Sl.nil,b.row,rfl,TreeAt.leaf,Ext.own (Ext.new h1) (New.own (Ext.refl w) h1) E⟩)
 ·rintro _ w' ⟨k,f,t,u,y,s,rfl,hn,hT,E⟩;cases hn;exact ⟨s,rfl,hT,E⟩
theorem uC (n0:Nat) (n:Int) (w:World) (h0:n0≤w.heap.size):Calls Tryz.prog 130 #[.int .u64 n] w (RetT n0 w (Sp.jBE n)):=by
 refine (w_F3 n w (fun k f t u y s w'=>(⟨k,f,t,u,y,0,0⟩:Sp.Node)=(Sp.jBE n).node∧TreeAt (n0≤·) w' s (Sp.jBE n)∧Pure w w') ?_).mono ?_
 ·unfold m_F3;intro p1 w1 h1;exact bx 6 (Box.of_new h1) rfl rfl (fun w' b E=>⟨_,_,_,_,_,Sl.nil,b.row,rfl,TreeAt.leaf,Ext.own (Ext.new h1) (New.own (Ext.refl w) h1) E⟩)
 ·rintro _ w' ⟨k,f,t,u,y,s,rfl,hn,hT,E⟩;cases hn;exact ⟨s,rfl,hT,E⟩
theorem qS (n0:Nat) (A B:Sp.Tree) (sa sb:Sl) (w:World) (h0:n0≤w.heap.size) (hA:TreeAt (n0≤·) w sa A) (hB:TreeAt (n0≤·) w sb B) :
  Calls Tryz.prog 128 #[.agg (yL A sa).toArray,.agg (yL B sb).toArray] w (RetT n0 w (Sp.qW A B)):=by
 refine (w_D3 _ _ _ _ _ sa _ _ _ _ _ sb w (fun k f t u y s w'=>(⟨k,f,t,u,y,0,0⟩:Sp.Node)=(Sp.qW A B).node∧TreeAt (n0≤·) w' s (Sp.qW A B)∧Pure w w') ?_).mono ?_
 ·unfold m_D3
  intro p1 w1 h1 p2 w2 h2 p3 w3 h3
  have E1:Pure w w1:=Ext.new h1
  have E2:=E1.trans (Ext.new h2)
  have E3:Pure w w3:=E2.trans (Ext.new h3)
  have b1:=((Box.of_new h1).pure (Ext.new h2)).pure (Ext.new h3:Pure w2 w3)
  have b2:=(Box.of_new h2).pure (Ext.new h3:Pure w2 w3)
  refine ⟨_,_,_,_,_,sa,b1.row,_,_,_,_,_,sb,b2.row,?_⟩
  intro p4 w4 h4
  have o3:=New.own E2 h3
  have n34:p3.block≠p4.block:=New.ne h4 (Box.of_new h3).blk
  have E4:Pure w w4:=E3.trans (Ext.new h4)
  have o4:=New.own E3 h4
  refine bx 6 ((Box.of_new h3).pure (Ext.new h4)) rfl rfl (fun w' b E=>⟨_,_,_,_,_,_,b.row,rfl,?_,E4.own o3 E⟩)
  have b4:=(Box.of_new h4).ext E n34.symm
  have E5:=E4.own o3 E
  refine TreeAt.pair (A:=A) (B:=B) (sa:=sa) (sb:=sb) b4 (by show n0≤_;omega) (hA.pure E5) (hB.pure E5)
 ·rintro _ w' ⟨k,f,t,u,y,s,rfl,hn,hT,E⟩
  cases hn;exact ⟨s,rfl,hT,E⟩
theorem uG (n0:Nat) (n:Int) (A:Sp.Tree) (sa:Sl) (w:World) (h0:n0≤w.heap.size) (hA:TreeAt (n0≤·) w sa A) :
  Calls Tryz.prog 127 #[.int .i64 n,.agg (yL A sa).toArray] w (RetT n0 w (Sp.xG n A)):=by
 refine (w_C3 n _ _ _ _ _ sa w (fun k f t u y s w'=>(⟨k,f,t,u,y,0,0⟩:Sp.Node)=(Sp.xG n A).node∧TreeAt (n0≤·) w' s (Sp.xG n A)∧Pure w w') ?_).mono ?_
 ·unfold m_C3
  intro p1 w1 h1 p3 w3 h3
  have E1:Pure w w1:=Ext.new h1
  have E3:Pure w w3:=E1.trans (Ext.new h3)
  have b1:=(Box.of_new h1).pure (Ext.new h3:Pure w1 w3)
  refine ⟨_,_,_,_,_,sa,b1.row,?_⟩
  intro p4 w4 h4
  have o3:=New.own E1 h3
  have n34:p3.block≠p4.block:=New.ne h4 (Box.of_new h3).blk
  have E4:Pure w w4:=E3.trans (Ext.new h4)
  have o4:=New.own E3 h4
  refine bx 6 ((Box.of_new h3).pure (Ext.new h4)) rfl rfl (fun w' b E=>⟨_,_,_,_,_,_,b.row,rfl,?_,E4.own o3 E⟩)
  have b4:=(Box.of_new h4).ext E n34.symm
  have E5:=E4.own o3 E
  exact TreeAt.one (A:=A) (sa:=sa) b4 (by show n0≤_;omega) (hA.pure E5)
 ·rintro _ w' ⟨k,f,t,u,y,s,rfl,hn,hT,E⟩
  cases hn;exact ⟨s,rfl,hT,E⟩
theorem yI (n0:Nat) (n:Int) (hn1:n=0∨n=1) (A:Sp.Tree) (fake:Bool) (sa:Sl) (w:World) (h0:n0≤w.heap.size) (hA:TreeAt (n0≤·) w sa A) :
  Calls Tryz.prog 126 #[.int .i64 n,.agg (yL A sa).toArray,.bool fake] w (RetT n0 w (Sp.yT n A fake)):=by
 refine (w_B3 n _ _ _ _ _ sa fake w (fun k f t u y s w'=>(⟨k,f,t,u,y,0,0⟩:Sp.Node)=(Sp.yT n A fake).node∧TreeAt (n0≤·) w' s (Sp.yT n A fake)∧Pure w w') ?_).mono ?_
 ·unfold m_B3
  intro p1 w1 h1 p3 w3 h3
  have E1:Pure w w1:=Ext.new h1
  have E3:Pure w w3:=E1.trans (Ext.new h3)
  have b1:=(Box.of_new h1).pure (Ext.new h3:Pure w1 w3)
  have hw:IntKind.i64.wrap (1 - n)=1 - n:=i64 (by omega) (by omega)
  rw [hw]
  refine ⟨fun h=>⟨_,_,_,_,_,sa,b1.row,?_⟩,fun h=>⟨_,_,_,_,_,sa,b1.row,?_⟩⟩
  all_goals
   intro p4 w4 h4
   have o3:=New.own E1 h3
   have n34:p3.block≠p4.block:=New.ne h4 (Box.of_new h3).blk
   have E4:Pure w w4:=E3.trans (Ext.new h4)
   have o4:=New.own E3 h4
   refine bx 6 ((Box.of_new h3).pure (Ext.new h4)) rfl rfl (fun w' b E=>⟨_,_,_,_,_,_,b.row,by rw [h];rfl,?_,E4.own o3 E⟩)
   have b4:=(Box.of_new h4).ext E n34.symm
   have E5:=E4.own o3 E
   exact TreeAt.one (A:=A) (sa:=sa) b4 (by show n0≤_;omega) (hA.pure E5)
 ·rintro _ w' ⟨k,f,t,u,y,s,rfl,hn,hT,E⟩
  cases hn;exact ⟨s,rfl,hT,E⟩
theorem jGL (n0:Nat) (c:Int) (x:ByteArray) (w:World) (h0:n0≤w.heap.size):Calls Tryz.prog 125 #[.int .u64 c,.string x] w (RetT n0 w (Sp.qH c x)):=by
 refine (w_A3 c x w (fun k f t u y s w'=>(⟨k,f,t,u,y,0,0⟩:Sp.Node)=(Sp.qH c x).node∧TreeAt (n0≤·) w' s (Sp.qH c x)∧Pure w w') ?_).mono ?_
 ·unfold m_A3;intro p1 w1 h1;have E1:Pure w w1:=Ext.new h1;have o1:=New.own (Ext.refl w) h1;have s1:w.heap.size≤w1.heap.size:=E1.size;refine (yJ w1.heap.size _ w1 (by omega)).mono ?_;rintro _ w2 ⟨sa,rfl,hA,E2⟩;have s2:=E2.size;refine ⟨_,_,_,_,_,sa,rfl,?_⟩;refine (uC w1.heap.size c w2 (by omega)).mono ?_;rintro _ w3 ⟨sb,rfl,hB,E3⟩;have s3:=E3.size;refine ⟨_,_,_,_,_,sb,rfl,?_⟩;refine (yJ w1.heap.size x w3 (by omega)).mono ?_;rintro _ w4 ⟨sc,rfl,hC,E4⟩;have s4:=E4.size;refine ⟨_,_,_,_,_,sc,rfl,?_⟩;refine (qS w1.heap.size (Sp.jBE c) (Sp.qM x) sb sc w4 (by omega) (hB.pure E4) hC).mono ?_;rintro _ w5 ⟨sd,rfl,hD,E5⟩;have s5:=E5.size;refine ⟨_,_,_,_,_,sd,rfl,?_⟩;refine (qS w1.heap.size (Sp.qM Sp.jAG) (Sp.qW (Sp.jBE c) (Sp.qM x)) sa sd w5 (by omega) (((hA.pure E3).pure E4).pure E5) hD).mono ?_;rintro _ w6 ⟨se,rfl,hE,E6⟩;have E:Pure w1 w6:=(((E2.trans E3).trans E4).trans E5).trans E6;refine ⟨_,_,_,_,_,se,rfl,?_⟩;refine bx 6 ((Box.of_new h1).pure E) rfl rfl (fun w' b E'=>⟨_,_,_,_,_,se,b.row,rfl,?_,(E1.trans E).own o1 E'⟩);exact (hE.ext E' (fun b hb e=>by have:=(Box.of_new h1).lt;have:w1.heap.size≤b:=hb;omega)).mono (fun b hb=>by show n0≤b;have:w1.heap.size≤b:=hb;omega)
 ·rintro _ w' ⟨k,f,t,u,y,s,rfl,hn,hT,E⟩;cases hn;exact ⟨s,rfl,hT,E⟩
end Go.Proofs
end
section
open Go Go.SE
namespace Go.Sp
structure Letter where
 kind:Int
 frm:Int
 c:Int
 text:ByteArray
 fake:Bool
deriving DecidableEq
def yN:Letter:=⟨0,0,0,⟨#[]⟩,false⟩
def uK:ByteArray:=⟨#[97,98,111,114,116]⟩
def yB:ByteArray:=⟨#[114,101,115,111,108,118,101]⟩
def qT:ByteArray:=⟨#[97,98,111,114,116,101,100]⟩
def yC:ByteArray:=⟨#[105,110,115,116,101,97,100]⟩
def jFI:ByteArray:=⟨#[102,117,108,108]⟩
def vZ (l:Letter) (first second:Bool):Tree :=
 if l.kind=1 then yT l.frm (qH l.c l.text) l.fake
 else if l.kind=2 then xG l.frm (qH l.c l.text)
 else if l.kind=3 then xG 0 (qW (qM uK) (jBE l.c))
 else if l.kind=4 then xG l.frm (qW (qM yB) (qW (yT 0 (qH l.c l.text) (l.fake && first)) (yT 1 (qH l.c l.text) (l.fake && second))))
 else if l.kind=5 then xG 2 (qW (qM qT) (jBE l.c))
 else if l.kind=6 then xG 2 (qW (qM yC) (qH l.c l.text))
 else qW (qM jFI) (jBE l.c)
end Go.Sp
namespace Go.Proofs
attribute [local irreducible] Calls
theorem jGJ (n0:Nat) (k f c:Int) (x:ByteArray) (fake first second:Bool) (w:World) (h0:n0≤w.heap.size) (hf:f=0∨f=1) :
  Calls Tryz.prog 58 #[.agg #[.int .i64 k,.int .i64 f,.int .u64 c,.string x,.bool fake],.bool first,.bool second] w (RetT n0 w (Sp.vZ ⟨k,f,c,x,fake⟩ first second)):=by
 generalize hR:Sp.vZ ⟨k,f,c,x,fake⟩ first second=R
 suffices key:∀K:Int→Int→Int→Int→ByteArray→Sl→WP,(∀s w',TreeAt (n0≤·) w' s R∧Pure w w'→K R.node.kind R.node.frm R.node.to R.node.num R.node.text s w')→m_D2 k f c x fake first second w K by
  refine (w_D2 k f c x fake first second w (fun k f t u y s w'=>(k=R.node.kind∧f=R.node.frm∧t=R.node.to∧u=R.node.num∧y=R.node.text)∧TreeAt (n0≤·) w' s R∧Pure w w') (key _ (fun s w' h=>⟨⟨rfl,rfl,rfl,rfl,rfl⟩,h⟩))).mono ?_;rintro _ w' ⟨k,f,t,u,y,s,rfl,⟨rfl,rfl,rfl,rfl,rfl⟩,hT,E⟩;exact ⟨s,rfl,hT,E⟩
 intro K hK
 unfold m_D2
 intro p1 w1 h1 p2 w2 h2
 have E1:Pure w w1:=Ext.new h1
 have E2:Pure w w2:=E1.trans (Ext.new h2)
 have o2:=New.own E1 h2
 have a1:=(Box.of_new h1).pure (Ext.new h2:Pure w1 w2)
 have a2:=Box.of_new h2
 have l1:=a1.lt
 have l2:=a2.lt
 have s2:=E2.size
 clear h1 h2
 refine ⟨_,a1.cell rfl,_,a1.cell rfl,?_⟩
 refine (jGL w2.heap.size c x w2 (Nat.le_refl _)).mono ?_
 rintro _ w3 ⟨sd,rfl,hD,E3⟩
 refine ⟨_,_,_,_,_,sd,rfl,?_⟩
 intro p3 w4 h4
 have o3:=New.own (Ext.refl w3) h4
 refine bx 6 (Box.of_new h4) rfl rfl (fun w5 b3 E'=>?_)
 have E5:Pure w3 w5:=Ext.own (Ext.new h4) o3 E'
 have hD5:=hD.pure E5
 have E25:Pure w2 w5:=E3.trans E5
 have s5:=E25.size
 have b1:=a1.pure E25
 have b3:Box w5 p3 (yL (Sp.qH c x) sd) 107:=b3
 clear E' h4 E5 hD E3
 have fin : ∀ (T : Sp.Tree) (s : Sl) (w' : World), Pure w5 w' → TreeAt (w2.heap.size ≤ ·) w' s T → T = R →
   (∀j,j<6→vG w' (p2.add j))∧∀w'':World,w''=storeRow w' p2 (yL T s) →
   ∃qKind1:Int,∃qFrom1:Int,∃qTo1:Int,∃qNum1:Int,∃qText1:ByteArray,∃qKids1:Sl,Row w'' p2 [(.int .i64 qKind1),(.int .i64 qFrom1),(.int .i64 qTo1),(.int .u64 qNum1),(.string qText1),qKids1.v]∧K qKind1 qFrom1 qTo1 qNum1 qText1 qKids1 w'':=by
  rintro T s w' E hT rfl
  refine bx 6 (a2.pure (E25.trans E)) rfl rfl (fun w'' b E'=>⟨_,_,_,_,_,s,b.row,hK s w'' ⟨?_,(E2.trans (E25.trans E)).own o2 E'⟩⟩)
  exact (hT.ext E' (fun b hb e=>by have:w2.heap.size≤b:=hb;omega)).mono (fun b hb=>by show n0≤b;have:w2.heap.size≤b:=hb;omega)
 have drawn:∃C:WP,C w5.drew∧(∀w' w'',Pure w' w''→C w'→C w'')∧(∀w',C w'→Box w' p1 [.int .i64 k,.int .i64 f,.int .u64 c,.string x,.bool fake] 35∧Box w' p3 (yL (Sp.qH c x) sd) 107) :=
  ⟨fun w'=>Box w' p1 [.int .i64 k,.int .i64 f,.int .u64 c,.string x,.bool fake] 35∧Box w' p3 (yL (Sp.qH c x) sd) 107,⟨b1.pure (Ext.drew w5),b3.pure (Ext.drew w5)⟩,fun _ _ E h=>⟨h.1.pure E,h.2.pure E⟩,fun _ h=>h⟩
 obtain ⟨C,hC,hCp,hCb⟩:=drawn
 refine ⟨k,b1.cell0,fun hk=>?_,fun hk1=>⟨fun hk=>?_,fun hk2=>⟨fun hk=>?_,fun hk3=>⟨fun hk=>?_,fun hk4=>⟨fun hk=>?_,fun hk5=>⟨fun hk=>?_,fun hk6=>?_⟩⟩⟩⟩⟩⟩
 ·have hk:k=1:=by simpa using hk
  refine ⟨f,b1.cell rfl,_,_,_,_,_,sd,b3.row,fake,b1.cell rfl,?_⟩
  refine (yI w2.heap.size f hf (Sp.qH c x) fake sd w5 s5 hD5).mono ?_
  rintro _ w6 ⟨s,rfl,hT,E6⟩
  exact ⟨_,_,_,_,_,s,rfl,fin _ s w6 E6 hT (by rw [← hR];simp only [Sp.vZ];rw [if_pos hk])⟩
 ·have hk:k=2:=by simpa using hk
  refine ⟨f,b1.cell rfl,_,_,_,_,_,sd,b3.row,?_⟩
  refine (uG w2.heap.size f (Sp.qH c x) sd w5 s5 hD5).mono ?_
  rintro _ w6 ⟨s,rfl,hT,E6⟩
  exact ⟨_,_,_,_,_,s,rfl,fin _ s w6 E6 hT (by rw [← hR];simp only [Sp.vZ];rw [if_neg (by omega),if_pos hk])⟩
 ·have hk:k=3:=by simpa using hk
  refine ⟨C,hC,?_⟩
  intro w10 hw10
  have E10:Pure w5 w10:=by rw [hw10];exact Ext.drew w5
  have hC10:C w10:=by rw [hw10];exact hC
  clear hw10
  have s10:=E10.size
  refine ⟨c,fun w' h=>(hCb w' h).1.cell rfl,?_⟩
  refine (yJ w2.heap.size _ w10 (by omega)).mono ?_
  rintro _ w11 ⟨sa,rfl,hA,E11⟩
  have s11:=E11.size
  refine ⟨_,_,_,_,_,sa,rfl,hCp _ _ E11 hC10,?_⟩
  refine (uC w2.heap.size c w11 (by omega)).mono ?_
  rintro _ w12 ⟨sb,rfl,hB,E12⟩
  have s12:=E12.size
  refine ⟨_,_,_,_,_,sb,rfl,?_⟩
  refine (qS w2.heap.size (Sp.qM Sp.uK) (Sp.jBE c) sa sb w12 (by omega) (hA.pure E12) hB).mono ?_
  rintro _ w13 ⟨se,rfl,hE,E13⟩
  have s13:=E13.size
  refine ⟨_,_,_,_,_,se,rfl,?_⟩
  refine (uG w2.heap.size 0 (Sp.qW (Sp.qM Sp.uK) (Sp.jBE c)) se w13 (by omega) hE).mono ?_
  rintro _ w14 ⟨s,rfl,hT,E14⟩
  exact ⟨_,_,_,_,_,s,rfl,fin _ s w14 ((((E10.trans E11).trans E12).trans E13).trans E14) hT (by rw [← hR];simp only [Sp.vZ];rw [if_neg (by omega),if_neg (by omega),if_pos hk])⟩
 ·have hk:k=4:=by simpa using hk
  refine ⟨C,hC,?_⟩
  intro w10 hw10
  have E10:Pure w5 w10:=by rw [hw10];exact Ext.drew w5
  have hC10:C w10:=by rw [hw10];exact hC
  clear hw10
  have s10:=E10.size
  refine ⟨f,fun w' h=>(hCb w' h).1.cell rfl,_,_,_,_,_,sd,fun w' h=>(hCb w' h).2.row,fake,fun w' h=>(hCb w' h).1.cell rfl,_,_,_,_,_,sd,fun w' h=>(hCb w' h).2.row,fake,fun w' h=>(hCb w' h).1.cell rfl,?_⟩
  refine (yJ w2.heap.size _ w10 (by omega)).mono ?_
  rintro _ w11 ⟨sa,rfl,hA,E11⟩
  have s11:=E11.size
  have hD11:=hD5.pure (E10.trans E11)
  have hC11:=hCp _ _ E11 hC10
  refine ⟨_,_,_,_,_,sa,rfl,hC11,?_⟩
  have rest : ∀ (u v : Bool) (sx sy : Sl) (w' : World), u = (fake && first) → v = (fake && second) → Pure w11 w' → TreeAt (w2.heap.size ≤ ·) w' sx (Sp.yT 0 (Sp.qH c x) u) → TreeAt (w2.heap.size ≤ ·) w' sy (Sp.yT 1 (Sp.qH c x) v) →
    Calls Tryz.prog 128 #[.agg (yL (Sp.yT 0 (Sp.qH c x) u) sx).toArray,.agg (yL (Sp.yT 1 (Sp.qH c x) v) sy).toArray] w' (fun e wa=>∃k1 f1 t1 u1 y1,∃s1:Sl,e=.returned (.agg #[.int .i64 k1,.int .i64 f1,.int .i64 t1,.int .u64 u1,.string y1,s1.v])∧C wa ∧
     Calls Tryz.prog 128 #[.agg (yL (Sp.qM Sp.yB) sa).toArray,.agg #[.int .i64 k1,.int .i64 f1,.int .i64 t1,.int .u64 u1,.string y1,s1.v]] wa (fun e wb=>∃k1 f1 t1 u1 y1,∃s1:Sl,e=.returned (.agg #[.int .i64 k1,.int .i64 f1,.int .i64 t1,.int .u64 u1,.string y1,s1.v])∧C wb ∧
      Calls Tryz.prog 127 #[.int .i64 f,.agg #[.int .i64 k1,.int .i64 f1,.int .i64 t1,.int .u64 u1,.string y1,s1.v]] wb (fun e wc=>∃k1 f1 t1 u1 y1,∃s1:Sl,e=.returned (.agg #[.int .i64 k1,.int .i64 f1,.int .i64 t1,.int .u64 u1,.string y1,s1.v]) ∧
       (∀j,j<6→vG wc (p2.add j))∧∀w'':World,w''=storeRow wc p2 [.int .i64 k1,.int .i64 f1,.int .i64 t1,.int .u64 u1,.string y1,s1.v] →
   ∃qKind1:Int,∃qFrom1:Int,∃qTo1:Int,∃qNum1:Int,∃qText1:ByteArray,∃qKids1:Sl,Row w'' p2 [(.int .i64 qKind1),(.int .i64 qFrom1),(.int .i64 qTo1),(.int .u64 qNum1),(.string qText1),qKids1.v]∧K qKind1 qFrom1 qTo1 qNum1 qText1 qKids1 w''))):=by
   intro u v sx sy w' hu hv E hX hY
   have s':=E.size
   refine (qS w2.heap.size (Sp.yT 0 (Sp.qH c x) u) (Sp.yT 1 (Sp.qH c x) v) sx sy w' (by omega) hX hY).mono ?_
   rintro _ wa ⟨s1,rfl,h1,Ea⟩
   have sa':=Ea.size
   refine ⟨_,_,_,_,_,s1,rfl,hCp _ _ (E.trans Ea) hC11,?_⟩
   refine (qS w2.heap.size (Sp.qM Sp.yB) (Sp.qW (Sp.yT 0 (Sp.qH c x) u) (Sp.yT 1 (Sp.qH c x) v)) sa s1 wa (by omega) (hA.pure (E.trans Ea)) h1).mono ?_
   rintro _ wb ⟨s2,rfl,h2,Eb⟩
   have sb':=Eb.size
   refine ⟨_,_,_,_,_,s2,rfl,hCp _ _ ((E.trans Ea).trans Eb) hC11,?_⟩
   refine (uG w2.heap.size f (Sp.qW (Sp.qM Sp.yB) (Sp.qW (Sp.yT 0 (Sp.qH c x) u) (Sp.yT 1 (Sp.qH c x) v))) s2 wb (by omega) h2).mono ?_
   rintro _ wc ⟨s3,rfl,h3,Ec⟩
   exact ⟨_,_,_,_,_,s3,rfl,fin _ s3 wc (((((E10.trans E11).trans E).trans Ea).trans Eb).trans Ec) h3 (by rw [← hR,hu,hv];simp only [Sp.vZ];rw [if_neg (by omega),if_neg (by omega),if_neg (by omega),if_pos hk])⟩
  refine ⟨fun hfk=>?_,fun hfk=>?_⟩
  ·refine (yI w2.heap.size 0 (.inl rfl) (Sp.qH c x) first sd w11 (by omega) hD11).mono ?_
   rintro _ w12 ⟨sx,rfl,hX,E12⟩
   have s12:=E12.size
   refine ⟨_,_,_,_,_,sx,rfl,hCp _ _ E12 hC11,Br.t hfk ?_⟩
   refine (yI w2.heap.size 1 (.inr rfl) (Sp.qH c x) second sd w12 (by omega) (hD11.pure E12)).mono ?_
   rintro _ w13 ⟨sy,rfl,hY,E13⟩
   exact ⟨_,_,_,_,_,sy,rfl,hCp _ _ (E12.trans E13) hC11,rest first second sx sy w13 (by rw [hfk];rfl) (by rw [hfk];rfl) (E12.trans E13) (hX.pure E13) hY⟩
  ·refine (yI w2.heap.size 0 (.inl rfl) (Sp.qH c x) false sd w11 (by omega) hD11).mono ?_
   rintro _ w12 ⟨sx,rfl,hX,E12⟩
   have s12:=E12.size
   refine ⟨_,_,_,_,_,sx,rfl,hCp _ _ E12 hC11,Br.f hfk ?_⟩
   refine (yI w2.heap.size 1 (.inr rfl) (Sp.qH c x) false sd w12 (by omega) (hD11.pure E12)).mono ?_
   rintro _ w13 ⟨sy,rfl,hY,E13⟩
   exact ⟨_,_,_,_,_,sy,rfl,hCp _ _ (E12.trans E13) hC11,rest false false sx sy w13 (by rw [hfk];rfl) (by rw [hfk];rfl) (E12.trans E13) (hX.pure E13) hY⟩
 ·have hk:k=5:=by simpa using hk
  refine ⟨C,hC,?_⟩
  intro w10 hw10
  have E10:Pure w5 w10:=by rw [hw10];exact Ext.drew w5
  have hC10:C w10:=by rw [hw10];exact hC
  clear hw10
  have s10:=E10.size
  refine ⟨c,fun w' h=>(hCb w' h).1.cell rfl,?_⟩
  refine (yJ w2.heap.size _ w10 (by omega)).mono ?_
  rintro _ w11 ⟨sa,rfl,hA,E11⟩
  have s11:=E11.size
  refine ⟨_,_,_,_,_,sa,rfl,hCp _ _ E11 hC10,?_⟩
  refine (uC w2.heap.size c w11 (by omega)).mono ?_
  rintro _ w12 ⟨sb,rfl,hB,E12⟩
  have s12:=E12.size
  refine ⟨_,_,_,_,_,sb,rfl,?_⟩
  refine (qS w2.heap.size (Sp.qM Sp.qT) (Sp.jBE c) sa sb w12 (by omega) (hA.pure E12) hB).mono ?_
  rintro _ w13 ⟨se,rfl,hE,E13⟩
  have s13:=E13.size
  refine ⟨_,_,_,_,_,se,rfl,?_⟩
  refine (uG w2.heap.size 2 (Sp.qW (Sp.qM Sp.qT) (Sp.jBE c)) se w13 (by omega) hE).mono ?_
  rintro _ w14 ⟨s,rfl,hT,E14⟩
  exact ⟨_,_,_,_,_,s,rfl,fin _ s w14 ((((E10.trans E11).trans E12).trans E13).trans E14) hT (by rw [← hR];simp only [Sp.vZ];rw [if_neg (by omega),if_neg (by omega),if_neg (by omega),if_neg (by omega),if_pos hk])⟩
 ·have hk:k=6:=by simpa using hk
  refine ⟨C,hC,?_⟩
  intro w10 hw10
  have E10:Pure w5 w10:=by rw [hw10];exact Ext.drew w5
  have hC10:C w10:=by rw [hw10];exact hC
  clear hw10
  have s10:=E10.size
  refine ⟨_,_,_,_,_,sd,fun w' h=>(hCb w' h).2.row,?_⟩
  refine (yJ w2.heap.size _ w10 (by omega)).mono ?_
  rintro _ w11 ⟨sa,rfl,hA,E11⟩
  have s11:=E11.size
  refine ⟨_,_,_,_,_,sa,rfl,hCp _ _ E11 hC10,?_⟩
  refine (qS w2.heap.size (Sp.qM Sp.yC) (Sp.qH c x) sa sd w11 (by omega) hA (hD5.pure (E10.trans E11))).mono ?_
  rintro _ w13 ⟨se,rfl,hE,E13⟩
  have s13:=E13.size
  refine ⟨_,_,_,_,_,se,rfl,?_⟩
  refine (uG w2.heap.size 2 (Sp.qW (Sp.qM Sp.yC) (Sp.qH c x)) se w13 (by omega) hE).mono ?_
  rintro _ w14 ⟨s,rfl,hT,E14⟩
  exact ⟨_,_,_,_,_,s,rfl,fin _ s w14 (((E10.trans E11).trans E13).trans E14) hT (by rw [← hR];simp only [Sp.vZ];rw [if_neg (by omega),if_neg (by omega),if_neg (by omega),if_neg (by omega),if_neg (by omega),if_pos hk])⟩
 ·have hk1:k≠1:=by simpa using hk1
  have hk2:k≠2:=by simpa using hk2
  have hk3:k≠3:=by simpa using hk3
  have hk4:k≠4:=by simpa using hk4
  have hk5:k≠5:=by simpa using hk5
  have hk6:k≠6:=by simpa using hk6
  refine ⟨C,hC,?_⟩
  intro w10 hw10
  have E10:Pure w5 w10:=by rw [hw10];exact Ext.drew w5
  have hC10:C w10:=by rw [hw10];exact hC
  clear hw10
  have s10:=E10.size
  refine ⟨c,fun w' h=>(hCb w' h).1.cell rfl,?_⟩
  refine (yJ w2.heap.size _ w10 (by omega)).mono ?_
  rintro _ w11 ⟨sa,rfl,hA,E11⟩
  have s11:=E11.size
  refine ⟨_,_,_,_,_,sa,rfl,hCp _ _ E11 hC10,?_⟩
  refine (uC w2.heap.size c w11 (by omega)).mono ?_
  rintro _ w12 ⟨sb,rfl,hB,E12⟩
  have s12:=E12.size
  refine ⟨_,_,_,_,_,sb,rfl,?_⟩
  refine (qS w2.heap.size (Sp.qM Sp.jFI) (Sp.jBE c) sa sb w12 (by omega) (hA.pure E12) hB).mono ?_
  rintro _ w13 ⟨s,rfl,hT,E13⟩
  exact ⟨_,_,_,_,_,s,rfl,fin _ s w13 (((E10.trans E11).trans E12).trans E13) hT (by rw [← hR];simp only [Sp.vZ];rw [if_neg hk1,if_neg hk2,if_neg hk3,if_neg hk4,if_neg hk5,if_neg hk6])⟩
end Go.Proofs
end
section
open Go Go.SE
namespace Go.Sp
def vC (L:Pool) (t kind:Int):Node×Bool:=if inP L t=true∧(zH L t).kind=kind then (zH L t,false) else (jBT,true)
def zW (L:Pool) (t:Int):(ByteArray×Int)×Bool :=
 (((vC L (vC L t 4).1.a 3).1.text,(vC L t 4).1.b),(vC L t 4).2 || (vC L (vC L t 4).1.a 3).2)
def vX (L:Pool) (t:Int):(Int×ByteArray)×Bool :=
 let g:=zW L t
 let n:=vC L g.1.2 4
 (((vC L n.1.a 2).1.num,(vC L n.1.b 3).1.text),g.2 || n.2 || !decide (g.1.1=jAG) || (vC L n.1.a 2).2 || (vC L n.1.b 3).2)
end Go.Sp
namespace Go.Proofs
attribute [local irreducible] Calls
def jBP (w:World) (q:Option Addr) (L:Sp.Pool) (F:NP):Prop:=match q with
 | some p=>vE w p L F
 | none=>L=[]∧∀b,¬ F b
theorem jBP.ext {G:NP} {w w':World} {p:Option Addr} {L:Sp.Pool} {F:NP} (h:jBP w p L F) (hE:Ext G w w') (hd:∀b,F b→¬ G b):jBP w' p L F:=by
 cases p with
 | none=>exact h
 | some p=>exact vE.ext h hE hd
theorem jBP.pure {w w':World} {p:Option Addr} {L:Sp.Pool} {F:NP} (h:jBP w p L F) (hE:Pure w w'):jBP w' p L F:=h.ext hE (fun _ _ h=>h)
theorem jBP.lt {w:World} {p:Option Addr} {L:Sp.Pool} {F:NP} (h:jBP w p L F) {b:Nat} (hb:F b):b<w.heap.size:=by
 cases p with
 | none=>exact absurd hb (h.2 b)
 | some p=>exact vE.lt h hb
theorem jHX (p:Option Addr) (t:Int) (w:World) {L:Sp.Pool} {F:NP} (hP:jBP w p L F) (hok:Sp.Ok L):Calls Tryz.prog 102 #[.pointer p,.int .i64 t] w
  (fun e w'=>∃k:Int,∃f:Int,∃t':Int,∃u:Int,∃x:ByteArray,∃a:Int,∃b:Int,∃r:Bool,e=.returned (.tuple #[.agg #[.int .i64 k,.int .i64 f,.int .i64 t',.int .u64 u,.string x,.int .i64 a,.int .i64 b],.bool r])∧(((⟨k,f,t',u,x,a,b⟩:Sp.Node)=Sp.zH L t∧r=Sp.inP L t)∧Pure w w')):=by
 cases p with
 | some p=>exact jJE p t w hP hok
 | none =>
  obtain ⟨rfl,_⟩:=hP
  have hin0:Sp.inP [] t=false:=by cases h:Sp.inP [] t;rfl;have:=Sp.qJ.1 h;simp at this;omega
  have hno:Sp.zH [] t=⟨0,0,0,0,⟨#[]⟩,0,0⟩:=by unfold Sp.zH Sp.get;split <;> simp [Sp.jBT]
  rw [hin0,hno]
  refine w_W1 none t w (fun k f t' u x a b r w'=>((⟨k,f,t',u,x,a,b⟩:Sp.Node)=⟨0,0,0,0,⟨#[]⟩,0,0⟩∧r=false)∧Pure w w') ?_
  unfold m_W1
  intro p1 w1 h1
  have E1:Pure w w1:=Ext.new h1
  have b1:=Box.of_new h1
  have hp:=New.own (Ext.refl w) h1
  have hin:Calls Tryz.prog 168 #[.pointer none,.int .i64 t] w1 (fun e w'=>∃r,e=.returned (.bool r)∧(r=false∧w'=w1)):=by
   refine w_R _ _ w1 (fun r w'=>r=false∧w'=w1) ?_;unfold m_R;have j1:m_R_j1 none t false w1 (fun r w'=>r=false∧w'=w1):=by
    unfold m_R_j1
    first
     | exact Br.f rfl ⟨rfl,rfl⟩
     | exact ⟨rfl,rfl⟩
     | (unfold m_R_j2;exact Br.f rfl ⟨rfl,rfl⟩)
     | (refine Br.f rfl ?_;unfold m_R_j2;exact ⟨rfl,rfl⟩)
   first
    | exact Br.f rfl j1
    | exact Br.t rfl j1
  refine hin.mono ?_
  rintro _ _ ⟨_,rfl,rfl,rfl⟩
  exact ⟨_,rfl,fun h1=>bx 7 b1 rfl rfl (fun w' b E=>⟨_,_,_,_,_,_,_,b.row,⟨rfl,rfl⟩,E1.own hp E⟩),fun h1=>by cases h1⟩
structure ReaderAt (w:World) (r:Addr) (p:Option Addr) (bad:Bool) (L:Sp.Pool) (F:NP):Prop where
 box:Box w r [.pointer p,.bool bad] 182
 pool:jBP w p L F
 ok:Sp.Ok L
 out:¬ F r.block
theorem ReaderAt.pure {w w':World} {r:Addr} {p:Option Addr} {bad:Bool} {L:Sp.Pool} {F:NP} (h:ReaderAt w r p bad L F) (E:Pure w w'):ReaderAt w' r p bad L F:=⟨h.box.pure E,h.pool.pure E,h.ok,h.out⟩
theorem uH (r:Addr) (p:Option Addr) (t kind:Int) (bad:Bool) (w:World) {L:Sp.Pool} {F:NP} (hR:ReaderAt w r p bad L F) :
  Calls Tryz.prog 109 #[.pointer (some r),.int .i64 t,.int .i64 kind] w
   (fun e w'=>∃k':Int,∃f':Int,∃t':Int,∃u':Int,∃x':ByteArray,∃a':Int,∃b':Int,e=.returned (.agg #[.int .i64 k',.int .i64 f',.int .i64 t',.int .u64 u',.string x',.int .i64 a',.int .i64 b'])∧((⟨k',f',t',u',x',a',b'⟩:Sp.Node)=(Sp.vC L t kind).1∧ReaderAt w' r p (bad || (Sp.vC L t kind).2) L F∧Ext (·=r.block) w w')):=by
 suffices key:∀K:Int→Int→Int→Int→ByteArray→Int→Int→WP,(∀k' f' t' u' x' a' b' w',((⟨k',f',t',u',x',a',b'⟩:Sp.Node)=(Sp.vC L t kind).1∧ReaderAt w' r p (bad || (Sp.vC L t kind).2) L F∧Ext (·=r.block) w w')→K k' f' t' u' x' a' b' w')→m_F2 (some r) t kind w K from
  w_F2 _ _ _ w _ (key _ (fun _ _ _ _ _ _ _ _ h=>h))
 intro K hK
 unfold m_F2
 intro p1 w1 h1
 have E1:Pure w w1:=Ext.new h1
 have o1:=New.own (Ext.refl w) h1
 have lr:=hR.box.lt
 have b1:=Box.of_new h1
 refine ⟨r,rfl,p,(hR.box.pure E1).cell0,?_⟩
 refine (jHX p t w1 (hR.pool.pure E1) hR.ok).mono ?_
 rintro _ w2 ⟨k',f',t',u',x',a',b',ok,rfl,⟨hn,hok⟩,E12⟩
 refine ⟨_,_,_,_,_,_,_,_,rfl,?_⟩
 intro p2 w3 h3
 have E2:Pure w w2:=E1.trans E12
 have o3:=New.own E2 h3
 have n12:p1.block≠p2.block:=New.ne h3 (b1.pure E12).blk
 refine bx 7 (Box.of_new h3) rfl rfl (fun w4 b2 E'=>?_)
 have E4:Pure w w4:=(E2.trans (Ext.new h3)).own o3 E'
 have c1:=((b1.pure E12).pure (Ext.new h3)).ext E' n12
 have hR4:=hR.pure E4
 clear E' E2 E12 b1 h1 h3
 have bad1 : Sp.vC L t kind = (Sp.jBT, true) → vG w4 (r.add 1) ∧ ∀ w5 : World, w5 = w4.setCell (r.add 1) (.bool true) →
   (∀j,j<7→vG w5 (p1.add j))∧∀w6:World,w6=storeRow w5 p1 [(.int .i64 0),(.int .i64 0),(.int .i64 0),(.int .u64 0),(.string (⟨#[]⟩:ByteArray)),(.int .i64 0),(.int .i64 0)] →
   ∃qKind1:Int,∃qFrom1:Int,∃qTo1:Int,∃qNum1:Int,∃qText1:ByteArray,∃qA1:Int,∃qB1:Int,Row w6 p1 [(.int .i64 qKind1),(.int .i64 qFrom1),(.int .i64 qTo1),(.int .u64 qNum1),(.string qText1),(.int .i64 qA1),(.int .i64 qB1)] ∧
   K qKind1 qFrom1 qTo1 qNum1 qText1 qA1 qB1 w6:=by
  intro hrd
  refine ⟨hR4.box.canW (by simp),?_⟩
  intro w5 hw5
  have d5:Box w5 r [.pointer p,.bool true] 182:=by rw [hw5];exact hR4.box.set 1 _
  have E5:Ext (·=r.block) w4 w5:=by rw [hw5];have:=Ext.setCell (w:=w4) (r.add 1) (.bool true);rw [zX] at this;exact this
  clear hw5
  have n1r:p1.block≠r.block:=by omega
  refine bx 7 (c1.ext E5 n1r) rfl rfl (fun w6 b6 E6=>⟨_,_,_,_,_,_,_,b6.row,hK _ _ _ _ _ _ _ _ ⟨by rw [hrd];rfl,⟨?_,?_,hR.ok,hR.out⟩,?_⟩⟩)
  ·rw [hrd];simp only [Bool.or_true];exact d5.ext E6 n1r.symm
  ·exact (hR4.pool.ext E5 (fun b hb e=>hR.out (e▸hb))).ext E6 (fun b hb e=>by have:=hR.pool.lt hb;omega)
  ·exact (E4.pure.trans E5).trans' E6 (fun i hi h=>by omega)
 refine ⟨fun h=>⟨r,rfl,?_⟩,fun h=>⟨k',b2.cell0,fun h2=>⟨r,rfl,?_⟩,fun h2=>?_⟩⟩
 ·refine bad1 ?_
  have:¬ Sp.inP L t=true:=by rw [← hok];simpa using h
  unfold Sp.vC;rw [if_neg (fun h=>this h.1)]
 ·refine bad1 ?_
  have:(Sp.zH L t).kind≠kind:=by rw [← hn];simpa using h2
  unfold Sp.vC;rw [if_neg (fun h=>this h.2)]
 ·have hi:Sp.inP L t=true:=by rw [← hok];simpa using h
  have hk:(Sp.zH L t).kind=kind:=by rw [← hn];simpa using h2
  have hrd:Sp.vC L t kind=(Sp.zH L t,false):=by unfold Sp.vC;rw [if_pos ⟨hi,hk⟩]
  refine ⟨_,_,_,_,_,_,_,b2.row,bx 7 c1 rfl rfl (fun w6 b6 E6=>⟨_,_,_,_,_,_,_,b6.row,hK _ _ _ _ _ _ _ _ ⟨by rw [hrd];exact hn,?_,?_⟩⟩)⟩
  ·rw [hrd];simp only [Bool.or_false]
   exact hR.pure (E4.own o1 E6)
  ·exact (E4.own o1 E6).pure
theorem jAM (r:Addr) (p:Option Addr) (t:Int) (bad:Bool) (w:World) {L:Sp.Pool} {F:NP} (hR:ReaderAt w r p bad L F) :
  Calls Tryz.prog 108 #[.pointer (some r),.int .i64 t] w
   (fun e w'=>∃x:ByteArray,∃b:Int,e=.returned (.tuple #[.string x,.int .i64 b])∧((x,b)=(Sp.zW L t).1∧ReaderAt w' r p (bad || (Sp.zW L t).2) L F∧Ext (·=r.block) w w')):=by
 suffices key:∀K:ByteArray→Int→WP,(∀x b w',((x,b)=(Sp.zW L t).1∧ReaderAt w' r p (bad || (Sp.zW L t).2) L F∧Ext (·=r.block) w w')→K x b w')→m_E2 (some r) t w K from
  w_E2 _ _ w _ (key _ (fun _ _ _ h=>h))
 intro K hK
 unfold m_E2
 refine (uH r p t 4 bad w hR).mono ?_
 rintro _ w1 ⟨k1,f1,t1,u1,x1,a1,b1,rfl,hn,hR1,E1⟩
 refine ⟨_,_,_,_,_,_,_,rfl,?_⟩
 intro p1 w2 h2
 have o2:=New.own (Ext.refl w1) h2
 refine bx 7 (Box.of_new h2) rfl rfl (fun w3 b3 E'=>?_)
 have E3:Pure w1 w3:=Ext.own (Ext.new h2) o2 E'
 have l1:=hR1.box.lt
 refine ⟨fun w'=>Box w' p1 [.int .i64 k1,.int .i64 f1,.int .i64 t1,.int .u64 u1,.string x1,.int .i64 a1,.int .i64 b1] 176,b3.pure (Ext.drew w3),?_⟩
 intro w4 hw4
 have E4:Pure w1 w4:=by rw [hw4];exact E3.thenPure (Ext.drew w3)
 have c4:Box w4 p1 [.int .i64 k1,.int .i64 f1,.int .i64 t1,.int .u64 u1,.string x1,.int .i64 a1,.int .i64 b1] 176:=by rw [hw4];exact b3.pure (Ext.drew w3)
 clear hw4
 refine ⟨a1,fun w' h=>h.cell rfl,b1,fun w' h=>h.cell rfl,?_⟩
 refine (uH r p a1 3 _ w4 (hR1.pure E4)).mono ?_
 rintro _ w5 ⟨k2,f2,t2,u2,x2,a2,b2,rfl,hn2,hR2,E5⟩
 refine ⟨_,_,_,_,_,_,_,rfl,c4.ext E5 (by omega),hK _ _ _ ⟨?_,?_,?_⟩⟩
 ·have ea:a1=(Sp.vC L t 4).1.a:=by rw [← hn]
  have eb:b1=(Sp.vC L t 4).1.b:=by rw [← hn]
  simp only [Sp.zW,← ea,← eb,← hn2]
 ·have ea:a1=(Sp.vC L t 4).1.a:=by rw [← hn]
  rw [ea] at hR2
  simp only [Sp.zW,← Bool.or_assoc]
  exact hR2
 ·exact (E1.thenPure E4).trans E5
end Go.Proofs
end
section
open Go Go.SE
namespace Go.Sp
def zV (L:Pool) (t:Int):Letter×Bool :=
 let n:=zH L t
 if (n.kind≠8∧n.kind≠9)∨1<n.frm∨n.to≠IntKind.i64.wrap (1 - n.frm) then (yN,true)
 else (⟨1,n.frm,(vX L n.a).1.1,(vX L n.a).1.2,n.kind == 9⟩,(vX L n.a).2)
end Go.Sp
namespace Go.Proofs
attribute [local irreducible] Calls
theorem jGR (r:Addr) (p:Option Addr) (t:Int) (bad:Bool) (w:World) {L:Sp.Pool} {F:NP} (hR:ReaderAt w r p bad L F) :
  Calls Tryz.prog 170 #[.pointer (some r),.int .i64 t] w
   (fun e w'=>∃c:Int,∃x:ByteArray,e=.returned (.tuple #[.int .u64 c,.string x])∧((c,x)=(Sp.vX L t).1∧ReaderAt w' r p (bad || (Sp.vX L t).2) L F∧Ext (·=r.block) w w')):=by
 suffices key:∀K:Int→ByteArray→WP,(∀c x w',((c,x)=(Sp.vX L t).1∧ReaderAt w' r p (bad || (Sp.vX L t).2) L F∧Ext (·=r.block) w w')→K c x w')→m_W (some r) t w K from
  w_W _ _ w _ (key _ (fun _ _ _ h=>h))
 intro K hK
 unfold m_W
 refine (jAM r p t bad w hR).mono ?_
 rintro _ w1 ⟨x1,y1,rfl,hg,hR1,E1⟩
 refine ⟨_,_,rfl,?_⟩
 refine (uH r p y1 4 _ w1 hR1).mono ?_
 rintro _ w2 ⟨k2,f2,t2,u2,x2,a2,b2,rfl,hn,hR2,E2⟩
 refine ⟨_,_,_,_,_,_,_,rfl,?_⟩
 intro p1 w3 h3
 have o3:=New.own (Ext.refl w2) h3
 have l2:=hR2.box.lt
 refine bx 7 (Box.of_new h3) rfl rfl (fun w4 b4 E'=>?_)
 have E4:Pure w2 w4:=Ext.own (Ext.new h3) o3 E'
 have hR4:=hR2.pure E4
 clear E' h3
 have ey:y1=(Sp.zW L t).1.2:=congrArg Prod.snd hg
 have ex:x1=(Sp.zW L t).1.1:=congrArg Prod.fst hg
 have ea:a2=(Sp.vC L y1 4).1.a:=by rw [← hn]
 have eb:b2=(Sp.vC L y1 4).1.b:=by rw [← hn]
 generalize hb4:(bad || (Sp.zW L t).2 || (Sp.vC L y1 4).2)=bad4 at *
 have fin:∀(v:Bool) (w5:World),(v=(bad4 || !decide (x1=Sp.jAG)))→Box w5 r [.pointer p,.bool v] 182→Ext (·=r.block) w4 w5→m_W_j1 (some r) p1 w5 K:=by
  intro v w5 hv B5 E5;have hR5:ReaderAt w5 r p v L F:=⟨B5,hR4.pool.ext E5 (fun b hb e=>hR.out (e▸hb)),hR.ok,hR.out⟩;have c5:=b4.ext E5 (by omega);unfold m_W_j1;refine ⟨fun w'=>Box w' p1 [.int .i64 k2,.int .i64 f2,.int .i64 t2,.int .u64 u2,.string x2,.int .i64 a2,.int .i64 b2] 176,c5.pure (Ext.drew w5),?_⟩;intro w6 hw6;have E6:Pure w5 w6:=by rw [hw6];exact Ext.drew w5
  clear hw6;have c6:=c5.pure E6;refine ⟨a2,fun w' h=>h.cell rfl,b2,fun w' h=>h.cell rfl,?_⟩;refine (uH r p a2 2 _ w6 (hR5.pure E6)).mono ?_;rintro _ w7 ⟨k3,f3,t3,u3,x3,a3,b3,rfl,hn3,hR7,E7⟩;have c7:=c6.ext E7 (by omega);refine ⟨_,_,_,_,_,_,_,rfl,c7,?_⟩;refine (uH r p b2 3 _ w7 hR7).mono ?_;rintro _ w8 ⟨k4,f4,t4,u4,x4,a4,b4',rfl,hn4,hR8,E8⟩;have e3:u3=(Sp.vC L a2 2).1.num:=by rw [← hn3]
  have e4:x4=(Sp.vC L b2 3).1.text:=by rw [← hn4]
  refine ⟨_,_,_,_,_,_,_,rfl,c7.ext E8 (by omega),hK _ _ _ ⟨?_,?_,?_⟩⟩
  ·simp only [Sp.vX,← ey,← ea,← eb,← e3,← e4]
  ·have : (bad || (Sp.vX L t).2) = (v || (Sp.vC L a2 2).2 || (Sp.vC L b2 3).2) := by
    simp only [Sp.vX,← ey,← ea,← eb,← ex,hv,← hb4,Bool.or_assoc]
   rw [this];exact hR8
  ·exact ((((E1.trans E2).thenPure E4).trans E5).thenPure E6 |>.trans E7).trans E8
 have setr:∀v:Bool,Box (w4.setCell (r.add 1) (.bool v)) r [.pointer p,.bool v] 182∧Ext (·=r.block) w4 (w4.setCell (r.add 1) (.bool v)):=fun v =>
  ⟨hR4.box.set 1 _,by have:=Ext.setCell (w:=w4) (r.add 1) (.bool v);rw [zX] at this;exact this⟩
 refine ⟨r,rfl,bad4,hR4.box.cell rfl,fun h=>⟨r,rfl,hR4.box.canW (by simp),?_⟩,fun h=>⟨r,rfl,hR4.box.canW (by simp),?_⟩⟩
 ·intro w8 hw8
  have:=setr true
  exact fin true w8 (by rw [h];rfl) (by rw [hw8];exact this.1) (by rw [hw8];exact this.2)
 ·intro w8 hw8
  have:=setr (!decide (x1=Sp.jAG))
  exact fin (!decide (x1=Sp.jAG)) w8 (by rw [h];rfl) (by rw [hw8];exact this.1) (by rw [hw8];exact this.2)
theorem vK (r:Addr) (p:Option Addr) (t:Int) (bad:Bool) (w:World) {L:Sp.Pool} {F:NP} (hR:ReaderAt w r p bad L F) :
  Calls Tryz.prog 107 #[.pointer (some r),.int .i64 t] w
   (fun e w'=>∃k:Int,∃f:Int,∃c:Int,∃x:ByteArray,∃fk:Bool,e=.returned (.agg #[.int .i64 k,.int .i64 f,.int .u64 c,.string x,.bool fk])∧((⟨k,f,c,x,fk⟩:Sp.Letter)=(Sp.zV L t).1∧ReaderAt w' r p (bad || (Sp.zV L t).2) L F∧Ext (·=r.block) w w')):=by
 suffices key:∀K:Int→Int→Int→ByteArray→Bool→WP,(∀k f c x fk w',((⟨k,f,c,x,fk⟩:Sp.Letter)=(Sp.zV L t).1∧ReaderAt w' r p (bad || (Sp.zV L t).2) L F∧Ext (·=r.block) w w')→K k f c x fk w')→m_M (some r) t w K from
  w_M _ _ w _ (key _ (fun _ _ _ _ _ _ h=>h))
 intro K hK
 unfold m_M
 intro p1 w1 h1
 have E1:Pure w w1:=Ext.new h1
 have o1:=New.own (Ext.refl w) h1
 have lr:=hR.box.lt
 have b1:=Box.of_new h1
 refine ⟨r,rfl,p,(hR.box.pure E1).cell0,?_⟩
 refine (jHX p t w1 (hR.pool.pure E1) hR.ok).mono ?_
 rintro _ w2 ⟨k,f,t',u,x,a,b,ok,rfl,⟨hn,hok⟩,E12⟩
 refine ⟨_,_,_,_,_,_,_,_,rfl,?_⟩
 intro p2 w3 h3
 have E2:Pure w w2:=E1.trans E12
 have o3:=New.own E2 h3
 have n12:p1.block≠p2.block:=New.ne h3 (b1.pure E12).blk
 refine bx 7 (Box.of_new h3) rfl rfl (fun w4 b2 E'=>?_)
 have E4:Pure w w4:=(E2.trans (Ext.new h3)).own o3 E'
 have c1:=((b1.pure E12).pure (Ext.new h3)).ext E' n12
 have hR4:=hR.pure E4
 clear E' E2 E12 b1 h1 h3
 have n1r:p1.block≠r.block:=by omega
 have hsp:Sp.zV L t=if (k≠8∧k≠9)∨1<f∨t'≠IntKind.i64.wrap (1 - f) then (Sp.yN,true) else (⟨1,f,(Sp.vX L a).1.1,(Sp.vX L a).1.2,k == 9⟩,(Sp.vX L a).2):=by
  simp only [Sp.zV,← hn]
 have bad1 : ((k ≠ 8 ∧ k ≠ 9) ∨ 1 < f ∨ t' ≠ IntKind.i64.wrap (1 - f)) → vG w4 (r.add 1) ∧ ∀ w5 : World, w5 = w4.setCell (r.add 1) (.bool true) →
   (∀j,j<5→vG w5 (p1.add j))∧∀w6:World,w6=storeRow w5 p1 [(.int .i64 0),(.int .i64 0),(.int .u64 0),(.string (⟨#[]⟩:ByteArray)),(.bool false)] →
   ∃qKind1:Int,∃qFrom1:Int,∃qC1:Int,∃qText1:ByteArray,∃qFake1:Bool,Row w6 p1 [(.int .i64 qKind1),(.int .i64 qFrom1),(.int .u64 qC1),(.string qText1),(.bool qFake1)] ∧
   K qKind1 qFrom1 qC1 qText1 qFake1 w6:=by
  intro hc
  rw [if_pos hc] at hsp
  refine ⟨hR4.box.canW (by simp),?_⟩
  intro w5 hw5
  have d5:Box w5 r [.pointer p,.bool true] 182:=by rw [hw5];exact hR4.box.set 1 _
  have E5:Ext (·=r.block) w4 w5:=by rw [hw5];have:=Ext.setCell (w:=w4) (r.add 1) (.bool true);rw [zX] at this;exact this
  clear hw5
  refine bx 5 (c1.ext E5 n1r) rfl rfl (fun w6 b6 E6=>⟨0,0,0,⟨#[]⟩,false,b6.row,hK _ _ _ _ _ _ ⟨by rw [hsp];rfl,⟨?_,?_,hR.ok,hR.out⟩,?_⟩⟩)
  ·rw [hsp];simp only [Bool.or_true];exact d5.ext E6 n1r.symm
  ·exact (hR4.pool.ext E5 (fun b hb e=>hR.out (e▸hb))).ext E6 (fun b hb e=>by have:=hR.pool.lt hb;omega)
  ·exact (E4.pure.trans E5).trans' E6 (fun i hi h=>by omega)
 have J1:¬ ((k≠8∧k≠9)∨1<f∨t'≠IntKind.i64.wrap (1 - f))→m_M_j1 (some r) p1 p2 w4 K:=by
  intro hc;rw [if_neg hc] at hsp;unfold m_M_j1;refine ⟨a,b2.cell rfl,?_⟩;refine (jGR r p a bad w4 hR4).mono ?_;rintro _ w5 ⟨c,y,rfl,hd,hR5,E5⟩;have d2:=b2.ext E5 (by omega);have d1:=c1.ext E5 n1r;have ec:c=(Sp.vX L a).1.1:=congrArg Prod.fst hd;have ey:y=(Sp.vX L a).1.2:=congrArg Prod.snd hd;refine ⟨_,_,rfl,f,d2.cell rfl,k,d2.cell0,bx 5 d1 rfl rfl (fun w6 b6 E6=>⟨1,f,c,y,k == 9,b6.row,hK _ _ _ _ _ _ ⟨?_,?_,?_⟩⟩)⟩
  ·rw [hsp];simp only [← ec,← ey]
  ·rw [hsp];exact ⟨hR5.box.ext E6 n1r.symm,hR5.pool.ext E6 (fun b hb e=>by have:=hR.pool.lt hb;omega),hR.ok,hR.out⟩
  ·exact (E4.pure.trans E5).trans' E6 (fun i hi h=>by omega)
 have J3:∀x2,x2=((k != 8 && k != 9) || decide (1<f))→m_M_j3 (some r) p1 p2 x2 w4 K:=by
  intro x2 hx;unfold m_M_j3;refine ⟨fun h=>⟨r,rfl,bad1 ?_⟩,fun h=>⟨t',b2.cell rfl,f,b2.cell rfl,fun h2=>⟨r,rfl,bad1 ?_⟩,fun h2=>J1 ?_⟩⟩
  ·rw [h] at hx;have hx:=hx.symm;simp at hx;rcases hx with hx | hx
   ·exact .inl hx
   ·exact .inr (.inl hx)
  ·exact .inr (.inr (by simpa using h2))
  ·rw [h] at hx;have hx:=hx.symm;simp only [Bool.or_eq_false_iff,decide_eq_false_iff_not] at hx;rintro (h3 | h3 | h3)
   ·have:=hx.1;simp [h3.1,h3.2] at this
   ·exact hx.2 h3
   ·have h2:t'=IntKind.i64.wrap (1 - f):=by simpa using h2
    exact h3 h2
 have J2:∀x1,x1=(k != 8 && k != 9)→m_M_j2 (some r) p1 p2 x1 w4 K:=by
  intro x1 hx;unfold m_M_j2;exact ⟨fun h=>J3 _ (by rw [← hx,h];rfl),fun h=>⟨f,b2.cell rfl,J3 _ (by rw [← hx,h];rfl)⟩⟩
 exact ⟨k,b2.cell0,fun h=>⟨k,b2.cell0,J2 _ (by rw [h];rfl)⟩,fun h=>J2 _ (by rw [h];rfl)⟩
end Go.Proofs
end
section
open Go Go.SE
namespace Go.Sp
def vW (L:Pool) (who n:Int):Letter×Bool :=
 let m:=vC L n 4
 let a:=zV L m.1.a
 let b:=zV L m.1.b
 (⟨4,who,a.1.c,a.1.text,a.1.fake || b.1.fake⟩,m.2 || a.2 || b.2 || a.1.frm != 0 || b.1.frm != 1 || a.1.c != b.1.c || !decide (a.1.text=b.1.text))
def qD (L:Pool) (who body:Int):Letter×Bool :=
 let g:=zW L body
 if g.1.1=uK∧who=0 then (⟨3,0,(vC L g.1.2 2).1.num,⟨#[]⟩,false⟩,g.2 || (vC L g.1.2 2).2)
 else if g.1.1=qT∧who=2 then (⟨5,0,(vC L g.1.2 2).1.num,⟨#[]⟩,false⟩,g.2 || (vC L g.1.2 2).2)
 else if g.1.1=yC∧who=2 then (⟨6,0,(vX L g.1.2).1.1,(vX L g.1.2).1.2,false⟩,g.2 || (vX L g.1.2).2)
 else if g.1.1=jAG∧who≤1 then (⟨2,who,(vX L body).1.1,(vX L body).1.2,false⟩,g.2 || (vX L body).2)
 else if g.1.1=yB∧who≤1 then ((vW L who g.1.2).1,g.2 || (vW L who g.1.2).2)
 else (yN,true)
end Go.Sp
namespace Go.Proofs
attribute [local irreducible] Calls
def lz:List Value:=[.int .i64 0,.int .i64 0,.int .u64 0,.string ⟨#[]⟩,.bool false]
theorem jGQ (r:Addr) (p:Option Addr) (p1:Addr) (who n:Int) (bad:Bool) (w:World) {L:Sp.Pool} {F:NP} (hR:ReaderAt w r p bad L F) (hB:Box w p1 lz 35) (hne:p1.block≠r.block) (K:Int→Int→Int→ByteArray→Bool→WP)
  (hK:∀w6 w',ReaderAt w6 r p (bad || (Sp.vW L who n).2) L F→Ext (·=r.block) w w6→Box w' p1 [.int .i64 4,.int .i64 who,.int .u64 (Sp.vW L who n).1.c,.string (Sp.vW L who n).1.text,.bool (Sp.vW L who n).1.fake] 35→Ext (·=p1.block) w6 w'→K 4 who (Sp.vW L who n).1.c (Sp.vW L who n).1.text (Sp.vW L who n).1.fake w') :
  m_A_j5 (some r) who p1 n true w K:=by
 unfold m_A_j5
 refine Br.t rfl ?_
 refine (uH r p n 4 bad w hR).mono ?_
 rintro _ w11 ⟨k2,f2,t2,u2,x2,a2,b2,rfl,hn,hR11,E11⟩
 refine ⟨_,_,_,_,_,_,_,rfl,?_⟩
 intro p2 w12 h12
 have o12:=New.own (Ext.refl w11) h12
 have l11:=hR11.box.lt
 have l1:=hB.lt
 have s11:=E11.size
 refine bx 7 (Box.of_new h12) rfl rfl (fun w13 b13 E'=>?_)
 have E13:Pure w11 w13:=Ext.own (Ext.new h12) o12 E'
 have hB11:=hB.ext E11 hne
 clear E' h12
 refine ⟨fun w'=>Box w' p2 [.int .i64 k2,.int .i64 f2,.int .i64 t2,.int .u64 u2,.string x2,.int .i64 a2,.int .i64 b2] 176,b13.pure (Ext.drew w13),?_⟩
 intro w18 hw18
 have E18:Pure w11 w18:=by rw [hw18];exact E13.thenPure (Ext.drew w13)
 have cN:Box w18 p2 [.int .i64 k2,.int .i64 f2,.int .i64 t2,.int .u64 u2,.string x2,.int .i64 a2,.int .i64 b2] 176:=by rw [hw18];exact b13.pure (Ext.drew w13)
 clear hw18
 have hR18:=hR11.pure E18
 have hB18:=hB11.pure E18
 have s18:=E18.size
 have Ew18:Ext (·=r.block) w w18:=E11.thenPure E18
 have ea:a2=(Sp.vC L n 4).1.a:=by rw [← hn]
 have eb:b2=(Sp.vC L n 4).1.b:=by rw [← hn]
 generalize hbad:(bad || (Sp.vC L n 4).2)=bad2 at *
 have leaf : ∀ (pA pB : Addr) (w' : World) (ka fa ca : Int) (xa : ByteArray) (ga : Bool) (kb fb cb : Int) (xb : ByteArray) (gb : Bool), (⟨ka, fa, ca, xa, ga⟩ : Sp.Letter) = (Sp.zV L a2).1 → (⟨kb, fb, cb, xb, gb⟩ : Sp.Letter) = (Sp.zV L b2).1 →
   ReaderAt w' r p (bad2 || (Sp.zV L a2).2 || (Sp.zV L b2).2) L F→Ext (·=r.block) w18 w'→Box w' pA [.int .i64 0,.int .i64 0,.int .u64 0,.string ⟨#[]⟩,.bool false] 35→Box w' pB [.int .i64 0,.int .i64 0,.int .u64 0,.string ⟨#[]⟩,.bool false] 35→pA.block≠pB.block→w18.heap.size≤pA.block→w18.heap.size≤pB.block →
   (∀j,j<5→vG w' (pA.add j))∧∀w23:World,w23=storeRow w' pA [.int .i64 ka,.int .i64 fa,.int .u64 ca,.string xa,.bool ga] →
   (∀j,j<5→vG w23 (pB.add j))∧∀w24:World,w24=storeRow w23 pB [.int .i64 kb,.int .i64 fb,.int .u64 cb,.string xb,.bool gb]→m_A_j6 (some r) who p1 pA pB w24 K:=by
  intro pA pB w' ka fa ca xa ga kb fb cb xb gb hla hlb hR' E' hA hBb hAB hoA hoB
  have s':=E'.size
  refine bx 5 hA rfl rfl (fun w23 bA E23=>?_)
  refine bx 5 (hBb.ext E23 hAB.symm) rfl rfl (fun w24 bB E24=>?_)
  have dA:=bA.ext E24 hAB
  have hR24:ReaderAt w24 r p (bad2 || (Sp.zV L a2).2 || (Sp.zV L b2).2) L F:=⟨(hR'.box.ext E23 (by omega)).ext E24 (by omega),(hR'.pool.ext E23 (fun b hb e=>by have:=hR.pool.lt hb;omega)).ext E24 (fun b hb e=>by have:=hR.pool.lt hb;omega),hR'.ok,hR'.out⟩
  have hB24:Box w24 p1 lz 35:=((hB18.ext E' hne).ext E23 (by omega)).ext E24 (by omega)
  have E24':Ext (·=r.block) w w24:=((Ew18.trans E').trans' E23 (fun i hi h=>by omega)).trans' E24 (fun i hi h=>by omega)
  have e1:fa=(Sp.zV L a2).1.frm:=by rw [← hla]
  have e2:fb=(Sp.zV L b2).1.frm:=by rw [← hlb]
  have e3:ca=(Sp.zV L a2).1.c:=by rw [← hla]
  have e4:cb=(Sp.zV L b2).1.c:=by rw [← hlb]
  have e5:xa=(Sp.zV L a2).1.text:=by rw [← hla]
  have e6:xb=(Sp.zV L b2).1.text:=by rw [← hlb]
  have e7:ga=(Sp.zV L a2).1.fake:=by rw [← hla]
  have e8:gb=(Sp.zV L b2).1.fake:=by rw [← hlb]
  generalize hb3:(bad2 || (Sp.zV L a2).2 || (Sp.zV L b2).2)=bad3 at *
  have hsp:Sp.vW L who n=(⟨4,who,ca,xa,ga || gb⟩,(Sp.vC L n 4).2 || (Sp.zV L a2).2 || (Sp.zV L b2).2 || fa != 0 || fb != 1 || ca != cb || !decide (xa=xb)):=by
   simp only [Sp.vW,← ea,← eb,← e1,← e2,← e3,← e4,← e5,← e6,← e7,← e8]
  have hbb:(bad || (Sp.vW L who n).2)=(bad3 || fa != 0 || fb != 1 || ca != cb || !decide (xa=xb)):=by
   rw [hsp,← hb3,← hbad];simp only [Bool.or_assoc]
  rw [hbb] at hK
  rw [hsp] at hK
  have J7:∀(v:Bool) (w5:World),v=(bad3 || fa != 0 || fb != 1 || ca != cb || !decide (xa=xb))→Box w5 r [.pointer p,.bool v] 182→Ext (·=r.block) w24 w5→m_A_j7 who p1 pA pB w5 K:=by
   intro v w5 hv B5 E5;have hR5:ReaderAt w5 r p v L F:=⟨B5,hR24.pool.ext E5 (fun b hb e=>hR.out (e▸hb)),hR.ok,hR.out⟩;have dA5:=dA.ext E5 (by omega);have dB5:=bB.ext E5 (by omega);have h15:=hB24.ext E5 hne;unfold m_A_j7;refine ⟨ca,dA5.cell rfl,xa,dA5.cell rfl,ga,dA5.cell rfl,fun hg=>?_,fun hg=>⟨gb,dB5.cell rfl,?_⟩⟩
   ·refine bx 5 h15 rfl rfl (fun w6 b6 E6=>⟨4,who,ca,xa,true,b6.row,?_⟩);have:=hK w5 w6 (by rw [← hv];exact hR5) (E24'.trans E5) (by rw [hg];exact b6) E6;rw [hg] at this;exact this
   ·refine bx 5 h15 rfl rfl (fun w6 b6 E6=>⟨4,who,ca,xa,gb,b6.row,?_⟩);have:=hK w5 w6 (by rw [← hv];exact hR5) (E24'.trans E5) (by rw [hg];exact b6) E6;rw [hg] at this;exact this
  have setr:∀v:Bool,Box (w24.setCell (r.add 1) (.bool v)) r [.pointer p,.bool v] 182∧Ext (·=r.block) w24 (w24.setCell (r.add 1) (.bool v)):=fun v =>
   ⟨hR24.box.set 1 _,by have:=Ext.setCell (w:=w24) (r.add 1) (.bool v);rw [zX] at this;exact this⟩
  have J10:∀x,x=(bad3 || fa != 0 || fb != 1 || ca != cb)→m_A_j10 (some r) who p1 pA pB x w24 K:=by
   intro x hx;unfold m_A_j10;refine ⟨fun h=>⟨r,rfl,hR24.box.canW (by simp),?_⟩,fun h=>⟨xa,dA.cell rfl,xb,bB.cell rfl,r,rfl,hR24.box.canW (by simp),?_⟩⟩
   ·intro w16 hw;exact J7 true w16 (by rw [← hx,h];rfl) (by rw [hw];exact (setr _).1) (by rw [hw];exact (setr _).2)
   ·intro w16 hw;exact J7 (!decide (xa=xb)) w16 (by rw [← hx,h];rfl) (by rw [hw];exact (setr _).1) (by rw [hw];exact (setr _).2)
  have J9:∀x,x=(bad3 || fa != 0 || fb != 1)→m_A_j9 (some r) who p1 pA pB x w24 K:=by
   intro x hx;unfold m_A_j9;exact ⟨fun h=>J10 _ (by rw [← hx,h];rfl),fun h=>⟨ca,dA.cell rfl,cb,bB.cell rfl,J10 _ (by rw [← hx,h];rfl)⟩⟩
  have J8:∀x,x=(bad3 || fa != 0)→m_A_j8 (some r) who p1 pA pB x w24 K:=by
   intro x hx;unfold m_A_j8;exact ⟨fun h=>J9 _ (by rw [← hx,h];rfl),fun h=>⟨fb,bB.cell rfl,J9 _ (by rw [← hx,h];rfl)⟩⟩
  unfold m_A_j6
  exact ⟨r,rfl,bad3,hR24.box.cell rfl,fun h=>J8 _ (by rw [h];rfl),fun h=>⟨fa,dA.cell rfl,J8 _ (by rw [h];rfl)⟩⟩
 have l18:=hR18.box.lt
 have Er18:Ext (·=r.block) w18 w18:=Ext.refl w18
 refine ⟨a2,fun w' h=>h.cell rfl,b2,fun w' h=>h.cell rfl,?_⟩
 ·skip
  refine ⟨?_,?_,?_⟩
  ·skip
   refine (vK r p a2 _ w18 hR18).mono ?_
   rintro _ v1 ⟨k1,f1,c1,x1,g1,rfl,hl1,R1,e1⟩
   have E1:=Er18.trans e1
   have s1:=E1.size
   refine ⟨_,_,_,_,_,rfl,cN.ext E1 (by omega),?_⟩
   refine ⟨?_,?_,?_⟩
   ·skip
    refine (vK r p b2 _ v1 R1).mono ?_
    rintro _ v2 ⟨k2,f2,c2,x2,g2,rfl,hl2,R2,e2⟩
    have E2:=E1.trans e2
    have s2:=E2.size
    refine ⟨_,_,_,_,_,rfl,?_⟩
    refine ⟨?_,?_⟩
    ·skip
     intro q3 v3 h3
     have e3:Pure v2 v3:=Ext.new h3
     have o3:=h3.at_size
     have R3:=R2.pure e3
     have E3:=E2.thenPure e3
     have s3:=E3.size
     have t3:=(E2).size
     have bA3:=Box.of_new h3
     refine ⟨cN.ext E3 (by omega),?_⟩
     intro q4 v4 h4
     have e4:Pure v3 v4:=Ext.new h4
     have o4:=h4.at_size
     have R4:=R3.pure e4
     have E4:=E3.thenPure e4
     have s4:=E4.size
     have t4:=(E3).size
     have bA4:=bA3.pure e4
     have lA4:=bA3.lt
     have bB4:=Box.of_new h4
     refine ⟨cN.ext E4 (by omega),?_⟩
     exact leaf q3 q4 v4 _ _ _ _ _ _ _ _ _ _ hl1 hl2 R4 E4 bA4 bB4 (by omega) (by omega) (by omega)
    ·skip
     intro q5 v5 h5
     have e5:Pure v2 v5:=Ext.new h5
     have o5:=h5.at_size
     have R5:=R2.pure e5
     have E5:=E2.thenPure e5
     have s5:=E5.size
     have t5:=(E2).size
     have bB5:=Box.of_new h5
     refine ⟨cN.ext E5 (by omega),?_⟩
     intro q6 v6 h6
     have e6:Pure v5 v6:=Ext.new h6
     have o6:=h6.at_size
     have R6:=R5.pure e6
     have E6:=E5.thenPure e6
     have s6:=E6.size
     have t6:=(E5).size
     have bB6:=bB5.pure e6
     have lB6:=bB5.lt
     have bA6:=Box.of_new h6
     refine ⟨cN.ext E6 (by omega),?_⟩
     exact leaf q6 q5 v6 _ _ _ _ _ _ _ _ _ _ hl1 hl2 R6 E6 bA6 bB6 (by omega) (by omega) (by omega)
   ·skip
    intro q7 v7 h7
    have e7:Pure v1 v7:=Ext.new h7
    have o7:=h7.at_size
    have R7:=R1.pure e7
    have E7:=E1.thenPure e7
    have s7:=E7.size
    have t7:=(E1).size
    have bA7:=Box.of_new h7
    refine ⟨cN.ext E7 (by omega),?_⟩
    refine ⟨?_,?_⟩
    ·skip
     refine (vK r p b2 _ v7 R7).mono ?_
     rintro _ v8 ⟨k8,f8,c8,x8,g8,rfl,hl2,R8,e8⟩
     have E8:=E7.trans e8
     have bA8:=bA7.ext e8 (by omega)
     have s8:=E8.size
     refine ⟨_,_,_,_,_,rfl,?_⟩
     intro q9 v9 h9
     have e9:Pure v8 v9:=Ext.new h9
     have o9:=h9.at_size
     have R9:=R8.pure e9
     have E9:=E8.thenPure e9
     have s9:=E9.size
     have t9:=(E8).size
     have bA9:=bA8.pure e9
     have lA9:=bA8.lt
     have bB9:=Box.of_new h9
     refine ⟨cN.ext E9 (by omega),?_⟩
     exact leaf q7 q9 v9 _ _ _ _ _ _ _ _ _ _ hl1 hl2 R9 E9 bA9 bB9 (by omega) (by omega) (by omega)
    ·skip
     intro q10 v10 h10
     have e10:Pure v7 v10:=Ext.new h10
     have o10:=h10.at_size
     have R10:=R7.pure e10
     have E10:=E7.thenPure e10
     have s10:=E10.size
     have t10:=(E7).size
     have bA10:=bA7.pure e10
     have lA10:=bA7.lt
     have bB10:=Box.of_new h10
     refine ⟨cN.ext E10 (by omega),?_⟩
     refine (vK r p b2 _ v10 R10).mono ?_
     rintro _ v11 ⟨k11,f11,c11,x11,g11,rfl,hl2,R11,e11⟩
     have E11:=E10.trans e11
     have bA11:=bA10.ext e11 (by omega)
     have bB11:=bB10.ext e11 (by omega)
     have s11:=E11.size
     refine ⟨_,_,_,_,_,rfl,?_⟩
     exact leaf q7 q10 v11 _ _ _ _ _ _ _ _ _ _ hl1 hl2 R11 E11 bA11 bB11 (by omega) (by omega) (by omega)
   ·skip
    intro q12 v12 h12
    have e12:Pure v1 v12:=Ext.new h12
    have o12:=h12.at_size
    have R12:=R1.pure e12
    have E12:=E1.thenPure e12
    have s12:=E12.size
    have t12:=(E1).size
    have bB12:=Box.of_new h12
    refine ⟨cN.ext E12 (by omega),?_⟩
    refine ⟨?_,?_⟩
    ·skip
     refine (vK r p b2 _ v12 R12).mono ?_
     rintro _ v13 ⟨k13,f13,c13,x13,g13,rfl,hl2,R13,e13⟩
     have E13:=E12.trans e13
     have bB13:=bB12.ext e13 (by omega)
     have s13:=E13.size
     refine ⟨_,_,_,_,_,rfl,?_⟩
     intro q14 v14 h14
     have e14:Pure v13 v14:=Ext.new h14
     have o14:=h14.at_size
     have R14:=R13.pure e14
     have E14:=E13.thenPure e14
     have s14:=E14.size
     have t14:=(E13).size
     have bB14:=bB13.pure e14
     have lB14:=bB13.lt
     have bA14:=Box.of_new h14
     refine ⟨cN.ext E14 (by omega),?_⟩
     exact leaf q14 q12 v14 _ _ _ _ _ _ _ _ _ _ hl1 hl2 R14 E14 bA14 bB14 (by omega) (by omega) (by omega)
    ·skip
     intro q15 v15 h15
     have e15:Pure v12 v15:=Ext.new h15
     have o15:=h15.at_size
     have R15:=R12.pure e15
     have E15:=E12.thenPure e15
     have s15:=E15.size
     have t15:=(E12).size
     have bB15:=bB12.pure e15
     have lB15:=bB12.lt
     have bA15:=Box.of_new h15
     refine ⟨cN.ext E15 (by omega),?_⟩
     refine (vK r p b2 _ v15 R15).mono ?_
     rintro _ v16 ⟨k16,f16,c16,x16,g16,rfl,hl2,R16,e16⟩
     have E16:=E15.trans e16
     have bA16:=bA15.ext e16 (by omega)
     have bB16:=bB15.ext e16 (by omega)
     have s16:=E16.size
     refine ⟨_,_,_,_,_,rfl,?_⟩
     exact leaf q15 q12 v16 _ _ _ _ _ _ _ _ _ _ hl1 hl2 R16 E16 bA16 bB16 (by omega) (by omega) (by omega)
  ·skip
   intro q17 v17 h17
   have e17:Pure w18 v17:=Ext.new h17
   have o17:=h17.at_size
   have R17:=hR18.pure e17
   have E17:=Er18.thenPure e17
   have s17:=E17.size
   have t17:=(Er18).size
   have bA17:=Box.of_new h17
   refine ⟨cN.ext E17 (by omega),?_⟩
   refine ⟨?_,?_⟩
   ·skip
    refine (vK r p a2 _ v17 R17).mono ?_
    rintro _ v18 ⟨k18,f18,c18,x18,g18,rfl,hl1,R18,e18⟩
    have E18:=E17.trans e18
    have bA18:=bA17.ext e18 (by omega)
    have s18:=E18.size
    refine ⟨_,_,_,_,_,rfl,cN.ext E18 (by omega),?_⟩
    refine ⟨?_,?_⟩
    ·skip
     refine (vK r p b2 _ v18 R18).mono ?_
     rintro _ v19 ⟨k19,f19,c19,x19,g19,rfl,hl2,R19,e19⟩
     have E19:=E18.trans e19
     have bA19:=bA18.ext e19 (by omega)
     have s19:=E19.size
     refine ⟨_,_,_,_,_,rfl,?_⟩
     intro q20 v20 h20
     have e20:Pure v19 v20:=Ext.new h20
     have o20:=h20.at_size
     have R20:=R19.pure e20
     have E20:=E19.thenPure e20
     have s20:=E20.size
     have t20:=(E19).size
     have bA20:=bA19.pure e20
     have lA20:=bA19.lt
     have bB20:=Box.of_new h20
     refine ⟨cN.ext E20 (by omega),?_⟩
     exact leaf q17 q20 v20 _ _ _ _ _ _ _ _ _ _ hl1 hl2 R20 E20 bA20 bB20 (by omega) (by omega) (by omega)
    ·skip
     intro q21 v21 h21
     have e21:Pure v18 v21:=Ext.new h21
     have o21:=h21.at_size
     have R21:=R18.pure e21
     have E21:=E18.thenPure e21
     have s21:=E21.size
     have t21:=(E18).size
     have bA21:=bA18.pure e21
     have lA21:=bA18.lt
     have bB21:=Box.of_new h21
     refine ⟨cN.ext E21 (by omega),?_⟩
     refine (vK r p b2 _ v21 R21).mono ?_
     rintro _ v22 ⟨k22,f22,c22,x22,g22,rfl,hl2,R22,e22⟩
     have E22:=E21.trans e22
     have bA22:=bA21.ext e22 (by omega)
     have bB22:=bB21.ext e22 (by omega)
     have s22:=E22.size
     refine ⟨_,_,_,_,_,rfl,?_⟩
     exact leaf q17 q21 v22 _ _ _ _ _ _ _ _ _ _ hl1 hl2 R22 E22 bA22 bB22 (by omega) (by omega) (by omega)
   ·skip
    intro q23 v23 h23
    have e23:Pure v17 v23:=Ext.new h23
    have o23:=h23.at_size
    have R23:=R17.pure e23
    have E23:=E17.thenPure e23
    have s23:=E23.size
    have t23:=(E17).size
    have bA23:=bA17.pure e23
    have lA23:=bA17.lt
    have bB23:=Box.of_new h23
    refine ⟨cN.ext E23 (by omega),?_⟩
    refine (vK r p a2 _ v23 R23).mono ?_
    rintro _ v24 ⟨k24,f24,c24,x24,g24,rfl,hl1,R24,e24⟩
    have E24:=E23.trans e24
    have bA24:=bA23.ext e24 (by omega)
    have bB24:=bB23.ext e24 (by omega)
    have s24:=E24.size
    refine ⟨_,_,_,_,_,rfl,cN.ext E24 (by omega),?_⟩
    refine (vK r p b2 _ v24 R24).mono ?_
    rintro _ v25 ⟨k25,f25,c25,x25,g25,rfl,hl2,R25,e25⟩
    have E25:=E24.trans e25
    have bA25:=bA24.ext e25 (by omega)
    have bB25:=bB24.ext e25 (by omega)
    have s25:=E25.size
    refine ⟨_,_,_,_,_,rfl,?_⟩
    exact leaf q17 q23 v25 _ _ _ _ _ _ _ _ _ _ hl1 hl2 R25 E25 bA25 bB25 (by omega) (by omega) (by omega)
  ·skip
   intro q26 v26 h26
   have e26:Pure w18 v26:=Ext.new h26
   have o26:=h26.at_size
   have R26:=hR18.pure e26
   have E26:=Er18.thenPure e26
   have s26:=E26.size
   have t26:=(Er18).size
   have bB26:=Box.of_new h26
   refine ⟨cN.ext E26 (by omega),?_⟩
   refine ⟨?_,?_⟩
   ·skip
    refine (vK r p a2 _ v26 R26).mono ?_
    rintro _ v27 ⟨k27,f27,c27,x27,g27,rfl,hl1,R27,e27⟩
    have E27:=E26.trans e27
    have bB27:=bB26.ext e27 (by omega)
    have s27:=E27.size
    refine ⟨_,_,_,_,_,rfl,cN.ext E27 (by omega),?_⟩
    refine ⟨?_,?_⟩
    ·skip
     refine (vK r p b2 _ v27 R27).mono ?_
     rintro _ v28 ⟨k28,f28,c28,x28,g28,rfl,hl2,R28,e28⟩
     have E28:=E27.trans e28
     have bB28:=bB27.ext e28 (by omega)
     have s28:=E28.size
     refine ⟨_,_,_,_,_,rfl,?_⟩
     intro q29 v29 h29
     have e29:Pure v28 v29:=Ext.new h29
     have o29:=h29.at_size
     have R29:=R28.pure e29
     have E29:=E28.thenPure e29
     have s29:=E29.size
     have t29:=(E28).size
     have bB29:=bB28.pure e29
     have lB29:=bB28.lt
     have bA29:=Box.of_new h29
     refine ⟨cN.ext E29 (by omega),?_⟩
     exact leaf q29 q26 v29 _ _ _ _ _ _ _ _ _ _ hl1 hl2 R29 E29 bA29 bB29 (by omega) (by omega) (by omega)
    ·skip
     intro q30 v30 h30
     have e30:Pure v27 v30:=Ext.new h30
     have o30:=h30.at_size
     have R30:=R27.pure e30
     have E30:=E27.thenPure e30
     have s30:=E30.size
     have t30:=(E27).size
     have bB30:=bB27.pure e30
     have lB30:=bB27.lt
     have bA30:=Box.of_new h30
     refine ⟨cN.ext E30 (by omega),?_⟩
     refine (vK r p b2 _ v30 R30).mono ?_
     rintro _ v31 ⟨k31,f31,c31,x31,g31,rfl,hl2,R31,e31⟩
     have E31:=E30.trans e31
     have bA31:=bA30.ext e31 (by omega)
     have bB31:=bB30.ext e31 (by omega)
     have s31:=E31.size
     refine ⟨_,_,_,_,_,rfl,?_⟩
     exact leaf q30 q26 v31 _ _ _ _ _ _ _ _ _ _ hl1 hl2 R31 E31 bA31 bB31 (by omega) (by omega) (by omega)
   ·skip
    intro q32 v32 h32
    have e32:Pure v26 v32:=Ext.new h32
    have o32:=h32.at_size
    have R32:=R26.pure e32
    have E32:=E26.thenPure e32
    have s32:=E32.size
    have t32:=(E26).size
    have bB32:=bB26.pure e32
    have lB32:=bB26.lt
    have bA32:=Box.of_new h32
    refine ⟨cN.ext E32 (by omega),?_⟩
    refine (vK r p a2 _ v32 R32).mono ?_
    rintro _ v33 ⟨k33,f33,c33,x33,g33,rfl,hl1,R33,e33⟩
    have E33:=E32.trans e33
    have bA33:=bA32.ext e33 (by omega)
    have bB33:=bB32.ext e33 (by omega)
    have s33:=E33.size
    refine ⟨_,_,_,_,_,rfl,cN.ext E33 (by omega),?_⟩
    refine (vK r p b2 _ v33 R33).mono ?_
    rintro _ v34 ⟨k34,f34,c34,x34,g34,rfl,hl2,R34,e34⟩
    have E34:=E33.trans e34
    have bA34:=bA33.ext e34 (by omega)
    have bB34:=bB33.ext e34 (by omega)
    have s34:=E34.size
    refine ⟨_,_,_,_,_,rfl,?_⟩
    exact leaf q32 q26 v34 _ _ _ _ _ _ _ _ _ _ hl1 hl2 R34 E34 bA34 bB34 (by omega) (by omega) (by omega)
end Go.Proofs
end
section
open Go Go.SE
namespace Go.Sp
def xH (L:Pool) (t:Int):Letter×Bool :=
 let n:=zH L t
 if n.kind=7 then qD L n.frm n.a else if n.kind=8∨n.kind=9 then zV L t
 else if ((zW L t).2 || !decide ((zW L t).1.1=jFI))=true then (yN,true)
 else (⟨7,0,(vC L (zW L t).1.2 2).1.num,⟨#[]⟩,false⟩,(vC L (zW L t).1.2 2).2)
def tJ (L:Pool) (t:Int):Letter×Bool:=if (xH L t).2=true then (yN,false) else ((xH L t).1,true)
end Go.Sp
namespace Go.Proofs
attribute [local irreducible] Calls
theorem jHW (r:Addr) (p:Option Addr) (who body:Int) (bad:Bool) (w:World) {L:Sp.Pool} {F:NP} (hR:ReaderAt w r p bad L F) :
  Calls Tryz.prog 106 #[.pointer (some r),.int .i64 who,.int .i64 body] w
   (fun e w'=>∃k:Int,∃f:Int,∃c:Int,∃x:ByteArray,∃fk:Bool,e=.returned (.agg #[.int .i64 k,.int .i64 f,.int .u64 c,.string x,.bool fk])∧((⟨k,f,c,x,fk⟩:Sp.Letter)=(Sp.qD L who body).1∧ReaderAt w' r p (bad || (Sp.qD L who body).2) L F∧Ext (·=r.block) w w')):=by
 suffices key:∀K:Int→Int→Int→ByteArray→Bool→WP,(∀k f c x fk w',((⟨k,f,c,x,fk⟩:Sp.Letter)=(Sp.qD L who body).1∧ReaderAt w' r p (bad || (Sp.qD L who body).2) L F∧Ext (·=r.block) w w')→K k f c x fk w')→m_A (some r) who body w K from
  w_A _ _ _ w _ (key _ (fun _ _ _ _ _ _ h=>h))
 intro K hK
 unfold m_A
 intro p1 w1 h1
 have E1:Pure w w1:=Ext.new h1
 have o1:=New.own (Ext.refl w) h1
 have lr:=hR.box.lt
 have b1:Box w1 p1 lz 35:=Box.of_new h1
 have ne:p1.block≠r.block:=by omega
 refine (jAM r p body bad w1 (hR.pure E1)).mono ?_
 rintro _ w2 ⟨x,y,rfl,hg,hR2,E12⟩
 refine ⟨_,_,rfl,?_⟩
 have b2:=b1.ext E12 ne
 have E2:Ext (·=r.block) w w2:=E1.pure.trans E12
 have ex:x=(Sp.zW L body).1.1:=congrArg Prod.fst hg
 have ey:y=(Sp.zW L body).1.2:=congrArg Prod.snd hg
 have hsp:Sp.qD L who body=if x=Sp.uK∧who=0 then (⟨3,0,(Sp.vC L y 2).1.num,⟨#[]⟩,false⟩,(Sp.zW L body).2 || (Sp.vC L y 2).2)
  else if x=Sp.qT∧who=2 then (⟨5,0,(Sp.vC L y 2).1.num,⟨#[]⟩,false⟩,(Sp.zW L body).2 || (Sp.vC L y 2).2)
  else if x=Sp.yC∧who=2 then (⟨6,0,(Sp.vX L y).1.1,(Sp.vX L y).1.2,false⟩,(Sp.zW L body).2 || (Sp.vX L y).2)
  else if x=Sp.jAG∧who≤1 then (⟨2,who,(Sp.vX L body).1.1,(Sp.vX L body).1.2,false⟩,(Sp.zW L body).2 || (Sp.vX L body).2)
  else if x=Sp.yB∧who≤1 then ((Sp.vW L who y).1,(Sp.zW L body).2 || (Sp.vW L who y).2)
  else (Sp.yN,true):=by
  simp only [Sp.qD,← ex,← ey]
 clear ex ey hg
 generalize hbg:(Sp.zW L body).2=g2 at *
 have fin : ∀ (k f c : Int) (z : ByteArray) (fk v : Bool) (w5 : World), Sp.qD L who body = (⟨k, f, c, z, fk⟩, v) → ReaderAt w5 r p (bad || v) L F → Ext (· = r.block) w2 w5 →
   (∀j,j<5→vG w5 (p1.add j))∧∀w6:World,w6=storeRow w5 p1 [(.int .i64 k),(.int .i64 f),(.int .u64 c),(.string z),(.bool fk)] →
   ∃qKind1:Int,∃qFrom1:Int,∃qC1:Int,∃qText1:ByteArray,∃qFake1:Bool,Row w6 p1 [(.int .i64 qKind1),(.int .i64 qFrom1),(.int .u64 qC1),(.string qText1),(.bool qFake1)] ∧
   K qKind1 qFrom1 qC1 qText1 qFake1 w6:=by
  intro k f c z fk v w5 hs hR5 E5
  refine bx 5 (b2.ext E5 ne) rfl rfl (fun w6 b6 E6=>⟨k,f,c,z,fk,b6.row,hK _ _ _ _ _ _ ⟨by rw [hs],?_,?_⟩⟩)
  ·rw [hs];exact ⟨hR5.box.ext E6 ne.symm,hR5.pool.ext E6 (fun b hb e=>by have:=hR.pool.lt hb;omega),hR.ok,hR.out⟩
  ·exact (E2.trans E5).trans' E6 (fun i hi h=>by omega)
 have nodeCase : ∀ (k : Int), Sp.qD L who body = (⟨k, 0, (Sp.vC L y 2).1.num, ⟨#[]⟩, false⟩, g2 || (Sp.vC L y 2).2) →
   Calls Tryz.prog 109 #[.pointer (some r),.int .i64 y,.int .i64 2] w2 (fun e w3=>∃rKind1:Int,∃rFrom1:Int,∃rTo1:Int,∃rNum1:Int,∃rText1:ByteArray,∃rA1:Int,∃rB1:Int,e=.returned (.agg #[(.int .i64 rKind1),(.int .i64 rFrom1),(.int .i64 rTo1),(.int .u64 rNum1),(.string rText1),(.int .i64 rA1),(.int .i64 rB1)]) ∧
    (∀j,j<5→vG w3 (p1.add j))∧∀w4:World,w4=storeRow w3 p1 [(.int .i64 k),(.int .i64 0),(.int .u64 rNum1),(.string (⟨#[]⟩:ByteArray)),(.bool false)] →
    ∃qKind1:Int,∃qFrom1:Int,∃qC1:Int,∃qText1:ByteArray,∃qFake1:Bool,Row w4 p1 [(.int .i64 qKind1),(.int .i64 qFrom1),(.int .u64 qC1),(.string qText1),(.bool qFake1)] ∧
    K qKind1 qFrom1 qC1 qText1 qFake1 w4):=by
  intro k hs
  refine (uH r p y 2 _ w2 hR2).mono ?_
  rintro _ w3 ⟨k3,f3,t3,u3,x3,a3,b3,rfl,hn3,hR3,E3⟩
  have e3:u3=(Sp.vC L y 2).1.num:=by rw [← hn3]
  refine ⟨_,_,_,_,_,_,_,rfl,?_⟩
  rw [← e3] at hs
  exact fin _ _ _ _ _ _ w3 hs (by rw [← Bool.or_assoc];exact hR3) E3
 have dealCase : ∀ (k f t : Int), Sp.qD L who body = (⟨k, f, (Sp.vX L t).1.1, (Sp.vX L t).1.2, false⟩, g2 || (Sp.vX L t).2) →
   Calls Tryz.prog 170 #[.pointer (some r),.int .i64 t] w2 (fun e w7=>∃r4:Int,∃r5:ByteArray,e=.returned (.tuple #[(.int .u64 r4),(.string r5)]) ∧
    (∀j,j<5→vG w7 (p1.add j))∧∀w8:World,w8=storeRow w7 p1 [(.int .i64 k),(.int .i64 f),(.int .u64 r4),(.string r5),(.bool false)] →
    ∃qKind1:Int,∃qFrom1:Int,∃qC1:Int,∃qText1:ByteArray,∃qFake1:Bool,Row w8 p1 [(.int .i64 qKind1),(.int .i64 qFrom1),(.int .u64 qC1),(.string qText1),(.bool qFake1)] ∧
    K qKind1 qFrom1 qC1 qText1 qFake1 w8):=by
  intro k f t hs
  refine (jGR r p t _ w2 hR2).mono ?_
  rintro _ w3 ⟨c,z,rfl,hd,hR3,E3⟩
  have e1:c=(Sp.vX L t).1.1:=congrArg Prod.fst hd
  have e2:z=(Sp.vX L t).1.2:=congrArg Prod.snd hd
  refine ⟨_,_,rfl,?_⟩
  rw [← e1,← e2] at hs
  exact fin _ _ _ _ _ _ w3 hs (by rw [← Bool.or_assoc];exact hR3) E3
 have J5:∀b,b=decide (x=Sp.yB∧who≤1)→¬ (x=Sp.uK∧who=0)→¬ (x=Sp.qT∧who=2)→¬ (x=Sp.yC∧who=2)→¬ (x=Sp.jAG∧who≤1)→m_A_j5 (some r) who p1 y b w2 K:=by
  intro b hb h1 h2 h3 h4;rw [if_neg h1,if_neg h2,if_neg h3,if_neg h4] at hsp;cases hbv:b with
  | true =>
   have hc:x=Sp.yB∧who≤1:=of_decide_eq_true (by rw [← hb,hbv])
   rw [if_pos hc] at hsp
   refine jGQ r p p1 who y _ w2 hR2 b2 ne K (fun w6 w' hR6 E6 b' E'=>hK _ _ _ _ _ _ ⟨by rw [hsp];rfl,?_,?_⟩)
   ·rw [hsp];simp only [← Bool.or_assoc]
    exact ⟨hR6.box.ext E' ne.symm,hR6.pool.ext E' (fun b hb e=>by have:=hR.pool.lt hb;omega),hR.ok,hR.out⟩
   ·exact (E2.trans E6).trans' E' (fun i hi h=>by omega)
  | false =>
   have hc:¬ (x=Sp.yB∧who≤1):=of_decide_eq_false (by rw [← hb,hbv])
   rw [if_neg hc] at hsp
   unfold m_A_j5
   refine Br.f rfl ⟨r,rfl,hR2.box.canW (by simp),?_⟩
   intro w77 hw
   have d5:Box w77 r [.pointer p,.bool true] 182:=by rw [hw];exact hR2.box.set 1 _
   have E5:Ext (·=r.block) w2 w77:=by rw [hw];have:=Ext.setCell (w:=w2) (r.add 1) (.bool true);rw [zX] at this;exact this
   exact fin 0 0 0 ⟨#[]⟩ false true w77 hsp (by rw [Bool.or_true];exact ⟨d5,hR2.pool.ext E5 (fun b hb e=>hR.out (e▸hb)),hR.ok,hR.out⟩) E5
 have J4:∀b,b=decide (x=Sp.jAG∧who≤1)→¬ (x=Sp.uK∧who=0)→¬ (x=Sp.qT∧who=2)→¬ (x=Sp.yC∧who=2)→m_A_j4 (some r) who body p1 x y b w2 K:=by
  intro b hb h1 h2 h3;unfold m_A_j4;refine ⟨fun h=>dealCase 2 who body ?_,fun h=>?_⟩
  ·rw [hsp,if_neg h1,if_neg h2,if_neg h3,if_pos (of_decide_eq_true (by rw [← hb,h]))]
  ·have h4:¬ (x=Sp.jAG∧who≤1):=of_decide_eq_false (by rw [← hb,h]);exact ⟨fun hw=>J5 _ (by have:x=Sp.yB:=of_decide_eq_true hw;simp [this]) h1 h2 h3 h4,fun hw=>J5 _ (by have:¬ x=Sp.yB:=of_decide_eq_false hw;simp [this]) h1 h2 h3 h4⟩
 have J3:∀b,b=decide (x=Sp.yC∧who=2)→¬ (x=Sp.uK∧who=0)→¬ (x=Sp.qT∧who=2)→m_A_j3 (some r) who body p1 x y b w2 K:=by
  intro b hb h1 h2;unfold m_A_j3;refine ⟨fun h=>dealCase 6 0 y ?_,fun h=>?_⟩
  ·rw [hsp,if_neg h1,if_neg h2,if_pos (of_decide_eq_true (by rw [← hb,h]))]
  ·have h3:¬ (x=Sp.yC∧who=2):=of_decide_eq_false (by rw [← hb,h]);exact ⟨fun hw=>J4 _ (by have:x=Sp.jAG:=of_decide_eq_true hw;simp [this]) h1 h2 h3,fun hw=>J4 _ (by have:¬ x=Sp.jAG:=of_decide_eq_false hw;simp [this]) h1 h2 h3⟩
 have J2:∀b,b=decide (x=Sp.qT∧who=2)→¬ (x=Sp.uK∧who=0)→m_A_j2 (some r) who body p1 x y b w2 K:=by
  intro b hb h1;unfold m_A_j2;refine ⟨fun h=>nodeCase 5 ?_,fun h=>?_⟩
  ·rw [hsp,if_neg h1,if_pos (of_decide_eq_true (by rw [← hb,h]))]
  ·have h2:¬ (x=Sp.qT∧who=2):=of_decide_eq_false (by rw [← hb,h]);exact ⟨fun hw=>J3 _ (by have:x=Sp.yC:=of_decide_eq_true hw;simp [this];rfl) h1 h2,fun hw=>J3 _ (by have:¬ x=Sp.yC:=of_decide_eq_false hw;simp [this]) h1 h2⟩
 have J1:∀b,b=decide (x=Sp.uK∧who=0)→m_A_j1 (some r) who body p1 x y b w2 K:=by
  intro b hb;unfold m_A_j1;refine ⟨fun h=>nodeCase 3 ?_,fun h=>?_⟩
  ·rw [hsp,if_pos (of_decide_eq_true (by rw [← hb,h]))]
  ·have h1:¬ (x=Sp.uK∧who=0):=of_decide_eq_false (by rw [← hb,h]);exact ⟨fun hw=>J2 _ (by have:x=Sp.qT:=of_decide_eq_true hw;simp [this];rfl) h1,fun hw=>J2 _ (by have:¬ x=Sp.qT:=of_decide_eq_false hw;simp [this]) h1⟩
 exact ⟨fun hw=>J1 _ (by have:x=Sp.uK:=of_decide_eq_true hw;simp [this];rfl),fun hw=>J1 _ (by have:¬ x=Sp.uK:=of_decide_eq_false hw;simp [this])⟩
end Go.Proofs
end
section
open Go Go.SE
namespace Go.Proofs
attribute [local irreducible] Calls
theorem xI (p:Option Addr) (t:Int) (w:World) {L:Sp.Pool} {F:NP} (hP:jBP w p L F) (hok:Sp.Ok L) :
  Calls Tryz.prog 51 #[.pointer p,.int .i64 t] w
   (fun e w'=>∃k:Int,∃f:Int,∃c:Int,∃x:ByteArray,∃fk:Bool,∃ok:Bool,e=.returned (.tuple #[.agg #[.int .i64 k,.int .i64 f,.int .u64 c,.string x,.bool fk],.bool ok])∧(((⟨k,f,c,x,fk⟩:Sp.Letter),ok)=Sp.tJ L t∧Pure w w')):=by
 suffices key:∀K:Int→Int→Int→ByteArray→Bool→Bool→WP,(∀k f c x fk ok w',(((⟨k,f,c,x,fk⟩:Sp.Letter),ok)=Sp.tJ L t∧Pure w w')→K k f c x fk ok w')→m_L p t w K from
  w_L _ _ w _ (key _ (fun _ _ _ _ _ _ _ h=>h))
 intro K hK
 unfold m_L
 intro p2 w1 h1 p3 w2 h2
 have E1:Pure w w1:=Ext.new h1
 have E2:Pure w w2:=E1.trans (Ext.new h2)
 have o2:=New.own (Ext.refl w) h1
 have o3:=New.own E1 h2
 have n23:p2.block≠p3.block:=New.ne h2 (Box.of_new h1).blk
 have b2:Box w2 p2 lz 35:=(Box.of_new h1).pure (Ext.new h2)
 have hout:¬ F p3.block:=fun h=>by have:=hP.lt h;omega
 have hR2:ReaderAt w2 p3 p false L F:=⟨Box.of_new h2,hP.pure E2,hok,hout⟩
 refine (jHX p t w2 hR2.pool hok).mono ?_
 rintro _ w3 ⟨k,f,t',u,x,a,b,ok,rfl,⟨hn,_⟩,E23⟩
 refine ⟨_,_,_,_,_,_,_,_,rfl,?_⟩
 intro p4 w4 h4
 have E3:Pure w2 w3:=E23
 have o4:=New.own (Ext.refl w3) h4
 have l3:=(hR2.pure E3).box.lt
 have l2:=(b2.pure E3).lt
 refine bx 7 (Box.of_new h4) rfl rfl (fun w5 b4 E'=>?_)
 have E5:Pure w3 w5:=Ext.own (Ext.new h4) o4 E'
 intro p5 w6 h6
 have E6:Pure w3 w6:=E5.trans (Ext.new h6)
 have o5:=New.own E5 h6
 have n45:p4.block≠p5.block:=New.ne h6 b4.blk
 have c4:=b4.pure (Ext.new h6:Pure w5 w6)
 have c5:Box w6 p5 lz 35:=Box.of_new h6
 have c2:=b2.pure (E3.trans E6)
 have hR6:=hR2.pure (E3.trans E6)
 have E26:Pure w w6:=(E2.trans E3).trans E6
 clear E' h1 h2 h4 h6
 have n35:p3.block≠p5.block:=by omega
 have n25:p2.block≠p5.block:=by omega
 have hq:Sp.xH L t=if k=7 then Sp.qD L f a else if k=8∨k=9 then Sp.zV L t else if ((Sp.zW L t).2 || !decide ((Sp.zW L t).1.1=Sp.jFI))=true then (Sp.yN,true) else (⟨7,0,(Sp.vC L (Sp.zW L t).1.2 2).1.num,⟨#[]⟩,false⟩,(Sp.vC L (Sp.zW L t).1.2 2).2):=by
  simp only [Sp.xH,← hn]
 have bad1 : ∀ (w8 : World), (Sp.xH L t).2 = true → Ext (fun b => b = p3.block ∨ b = p5.block) w6 w8 → (∀ j, j < 5 → vG w8 (p2.add j)) ∧ ∀ w9 : World, w9 = storeRow w8 p2 [(.int .i64 0), (.int .i64 0), (.int .u64 0), (.string (⟨#[]⟩ : ByteArray)), (.bool false)] →
   ∃qKind1:Int,∃qFrom1:Int,∃qC1:Int,∃qText1:ByteArray,∃qFake1:Bool,Row w9 p2 [(.int .i64 qKind1),(.int .i64 qFrom1),(.int .u64 qC1),(.string qText1),(.bool qFake1)]∧K qKind1 qFrom1 qC1 qText1 qFake1 false w9:=by
  intro w8 hb E8
  refine bx 5 (c2.ext E8 (by rintro (h | h) <;> omega)) rfl rfl (fun w9 b9 E9=>⟨0,0,0,⟨#[]⟩,false,b9.row,hK _ _ _ _ _ _ _ ⟨?_,?_⟩⟩)
  ·rw [Sp.tJ,if_pos hb];rfl
  ·exact (E26.trans' E8 (fun i hi h=>by rcases h with h | h <;> omega)).trans' E9 (fun i hi h=>by omega)
 have good1 : ∀ (w8 : World) (l : Sp.Letter), Sp.xH L t = (l, false) → Ext (fun b => b = p3.block ∨ b = p5.block) w6 w8 → Box w8 p5 [.int .i64 l.kind, .int .i64 l.frm, .int .u64 l.c, .string l.text, .bool l.fake] 35 →
   ∃vKind1:Int,∃vFrom1:Int,∃vC1:Int,∃vText1:ByteArray,∃vFake1:Bool,Row w8 p5 [(.int .i64 vKind1),(.int .i64 vFrom1),(.int .u64 vC1),(.string vText1),(.bool vFake1)] ∧
   (∀j,j<5→vG w8 (p2.add j))∧∀w9:World,w9=storeRow w8 p2 [(.int .i64 vKind1),(.int .i64 vFrom1),(.int .u64 vC1),(.string vText1),(.bool vFake1)] →
   ∃qKind1:Int,∃qFrom1:Int,∃qC1:Int,∃qText1:ByteArray,∃qFake1:Bool,Row w9 p2 [(.int .i64 qKind1),(.int .i64 qFrom1),(.int .u64 qC1),(.string qText1),(.bool qFake1)]∧K qKind1 qFrom1 qC1 qText1 qFake1 true w9:=by
  intro w8 l hb E8 B8
  refine ⟨_,_,_,_,_,B8.row,?_⟩
  refine bx 5 (c2.ext E8 (by rintro (h | h) <;> omega)) rfl rfl (fun w9 b9 E9=>⟨l.kind,l.frm,l.c,l.text,l.fake,b9.row,hK _ _ _ _ _ _ _ ⟨?_,?_⟩⟩)
  ·rw [Sp.tJ,if_neg (by rw [hb];simp),hb]
  ·exact (E26.trans' E8 (fun i hi h=>by rcases h with h | h <;> omega)).trans' E9 (fun i hi h=>by omega)
 have up:∀{w7 w8:World},Ext (·=p3.block) w6 w7→Ext (·=p5.block) w7 w8→Ext (fun b=>b=p3.block∨b=p5.block) w6 w8:=fun h h'=>(h.mono (fun _ _ h=>.inl h)).trans' h' (fun _ _ h=>.inr h)
 have J1p:∀b,b=true→k≠7→(k=8∨k=9)→m_L_j1 t p2 p3 p5 b w6 K:=by
  rintro _ rfl h7 h89;rw [if_neg h7,if_pos h89] at hq;unfold m_L_j1;refine Br.t rfl ?_;refine (vK p3 p t false w6 hR6).mono ?_;rintro _ w7 ⟨k7,f7,c7,x7,g7,rfl,hl,hR7,E7⟩;refine ⟨_,_,_,_,_,rfl,bx 5 (c5.ext E7 n35.symm) rfl rfl (fun w8 b8 E8=>⟨(Sp.zV L t).2,?_,fun h=>bad1 w8 (by rw [hq];exact h) (up E7 E8),fun h=>good1 w8 ⟨k7,f7,c7,x7,g7⟩ (by rw [hq,hl,← h]) (up E7 E8) b8⟩)⟩;have:=(hR7.box.ext E8 n35).cell (i:=1) rfl;simpa using this
 have J1t:∀b,b=false→k≠7→¬ (k=8∨k=9)→m_L_j1 t p2 p3 p5 b w6 K:=by
  rintro _ rfl h7 h89;rw [if_neg h7,if_neg h89] at hq;unfold m_L_j1;refine Br.f rfl ?_;refine (jAM p3 p t false w6 hR6).mono ?_;rintro _ w7 ⟨x7,y7,rfl,hg,hR7,E7⟩;have ex:x7=(Sp.zW L t).1.1:=congrArg Prod.fst hg;have ey:y7=(Sp.zW L t).1.2:=congrArg Prod.snd hg;rw [← ex,← ey] at hq;have setr:∀v:Bool,Box (w7.setCell (p3.add 1) (.bool v)) p3 [.pointer p,.bool v] 182∧Ext (·=p3.block) w7 (w7.setCell (p3.add 1) (.bool v)):=fun v =>
   ⟨hR7.box.set 1 _,by have:=Ext.setCell (w:=w7) (p3.add 1) (.bool v);rw [zX] at this;exact this⟩
  have J3:∀(v:Bool) (w8:World),v=((Sp.zW L t).2 || !decide (x7=Sp.jFI))→Box w8 p3 [.pointer p,.bool v] 182→Ext (·=p3.block) w7 w8→m_L_j3 p2 p3 p5 y7 w8 K:=by
   intro v w8 hv B8 E8;have E68:=E7.trans E8;have E68':Ext (fun b=>b=p3.block∨b=p5.block) w6 w8:=E68.mono (fun _ _ h=>.inl h);unfold m_L_j3;refine ⟨v,B8.cell rfl,fun h=>⟨v,B8.cell rfl,fun _=>bad1 w8 (by rw [hq,← hv,if_pos h]) E68',fun h'=>(by rw [h] at h';cases h')⟩,fun h=>?_⟩;rw [← hv,if_neg (by rw [h];simp)] at hq;subst h;unfold m_L_j2;refine (uH p3 p y7 2 false w8 ⟨B8,hR7.pool.ext E8 (fun b hb e=>hout (e▸hb)),hok,hout⟩).mono ?_;rintro _ w16 ⟨k3,f3,t3,u3,x3,a3,b3,rfl,hn3,hR3,E16⟩;have e3:u3=(Sp.vC L y7 2).1.num:=by rw [← hn3]
   rw [← e3] at hq;have E616:=E68.trans E16;refine ⟨_,_,_,_,_,_,_,rfl,bx 5 (c5.ext E616 n35.symm) rfl rfl (fun w17 b17 E17=>⟨(Sp.vC L y7 2).2,?_,fun h=>bad1 w17 (by rw [hq];exact h) (up E616 E17),fun h=>good1 w17 ⟨7,0,u3,⟨#[]⟩,false⟩ (by rw [hq,h]) (up E616 E17) b17⟩)⟩;have:=(hR3.box.ext E17 n35).cell (i:=1) rfl;simpa using this
  refine ⟨_,_,rfl,(Sp.zW L t).2,?_,fun h=>⟨hR7.box.canW (by simp),?_⟩,fun h=>⟨hR7.box.canW (by simp),?_⟩⟩
  ·have:=hR7.box.cell (i:=1) rfl;simpa using this
  ·intro w22 hw;exact J3 true w22 (by rw [h];rfl) (by rw [hw];exact (setr _).1) (by rw [hw];exact (setr _).2)
  ·intro w22 hw;exact J3 (!decide (x7=Sp.jFI)) w22 (by rw [h];rfl) (by rw [hw];exact (setr _).1) (by rw [hw];exact (setr _).2)
 refine ⟨k,c4.cell0,fun h=>⟨f,c4.cell rfl,a,c4.cell rfl,?_⟩,fun h=>⟨fun h8=>?_,fun h8=>?_⟩⟩
 ·have h7:k=7:=by simpa using h
  rw [if_pos h7] at hq
  refine (jHW p3 p f a false w6 hR6).mono ?_
  rintro _ w7 ⟨k7,f7,c7,x7,g7,rfl,hl,hR7,E7⟩
  refine ⟨_,_,_,_,_,rfl,bx 5 (c5.ext E7 n35.symm) rfl rfl (fun w8 b8 E8=>⟨(Sp.qD L f a).2,?_,fun h=>bad1 w8 (by rw [hq];exact h) (up E7 E8),fun h=>good1 w8 ⟨k7,f7,c7,x7,g7⟩ (by rw [hq,hl,← h]) (up E7 E8) b8⟩)⟩
  have:=(hR7.box.ext E8 n35).cell (i:=1) rfl
  simpa using this
 ·have h7:k≠7:=by simpa using h
  have h8:k=8:=by simpa using h8
  exact J1p _ (by simp [h8]) h7 (.inl h8)
 ·have h7:k≠7:=by simpa using h
  have h8:k≠8:=by simpa using h8
  by_cases h9:k=9
  ·exact J1p _ (by simp [h9]) h7 (.inr h9)
  ·exact J1t _ (by simpa using h9) h7 (by rintro (h | h) <;> omega)
theorem tD (p:Addr) (t:Int) (w:World) {L:Sp.Pool} {F:NP} (hP:vE w p L F) (hok:Sp.Ok L) :
  Calls Tryz.prog 51 #[.pointer (some p),.int .i64 t] w
   (fun e w'=>∃k:Int,∃f:Int,∃c:Int,∃x:ByteArray,∃fk:Bool,∃ok:Bool,e=.returned (.tuple #[.agg #[.int .i64 k,.int .i64 f,.int .u64 c,.string x,.bool fk],.bool ok])∧(((⟨k,f,c,x,fk⟩:Sp.Letter),ok)=Sp.tJ L t∧Pure w w')):=xI (some p) t w hP hok
end Go.Proofs
end
section
open Go Go.SE
open Go.IntKind renaming i64 → q6
namespace Go.Proofs
set_option maxRecDepth 100000
set_option maxHeartbeats 4000000
attribute [local irreducible] wpL wpX opE wpE Calls
def m_Q1_l1 (s1:Sl) (v1 x1:Int) (wl1:World) (Kc1:Int→WP) (K:Int→WP):Prop :=Br (decide (x1<(s1.len:Int))) (∃a1:Addr,At s1 x1 1 a1∧∃v2,wl1.cell? a1=some (vi v2)∧Br (v1 == v2) (K x1 wl1) (Kc1 (q6.wrap (x1+1)) wl1)) (K (-1) wl1)
def m_Q1 (s1:Sl) (v1:Int) (w0:World) (K:Int→WP):Prop :=∃(I1:Int→WP) (mu1:Int→World→Nat),I1 0 w0∧∀(x1:Int) (wl1:World),I1 x1 wl1→m_Q1_l1 s1 v1 x1 wl1 (fun y'0 w'=>I1 y'0 w'∧mu1 y'0 w'<mu1 x1 wl1) K
theorem w_Q1 (s1 v1 w0 K) (h:m_Q1 s1 v1 w0 K):
  Calls Tryz.prog 190 #[s1.v,(vi v1)] w0 (fun e w'=>∃r1,e=.returned (vi r1)∧K r1 w'):=by
 refine cw (args:=[s1.v,(vi v1)]) Tryz.func190 Tryz.ntmps190 (eg (q0 (vi 0) (ln (zA (eg (q0 s1.v (q0 (vi (s1.len:Int)) (q0 (vi 0) ?_))))))))
 refine ln (zJ ?_)
 obtain ⟨I1,mu1,h0,hr⟩:=h
 refine vH (σ:=Int×World) (fun s ρ w=>w=s.2∧Has ρ [(0,s1.v),(1,(vi v1)),(7,(vi (s1.len:Int))),(8,(vi s.1))]∧I1 s.1 s.2) (fun s=>mu1 s.1 s.2) (0,w0) ⟨rfl,hm,h0⟩ ?_
 rintro ⟨x1,wl1⟩ ρ w ⟨hw,hH,hI⟩
 dsimp only at hw hH;subst w
 have h:=hr x1 wl1 hI
 refine zU hH (eg (q (ln (zA (cbr h ?_ ?_)))))<;>intro h
 refine zB (zO (zA (zJ (eg (qb (ln (eg (qc (qi (Tryz.runUnderlying46 _) (Tryz.sizeOf78 _) h fun a1 h=>ql (Tryz.isAgg78 _) h fun v2 h=>q (ln (cbr h ?_ ?_)))))))))))<;>intro h
 refine eg (qb (ln (er (qN (zY (zY (qN (zY (rs1 Tryz.results190 ⟨x1,rfl,h⟩)))))))))
 refine zB (yQ (zO (rg (qb (ln ⟨((q6.wrap (x1+1)),wl1),⟨rfl,hm,h.1⟩,h.2⟩)))))
 refine vF (yM (yM (yK (zO (eg (q0 (vi (-1)) (ln (er (rs1 Tryz.results190 ⟨(-1),rfl,h⟩)))))))))
def m_G3 (s1:Sl) (v1:Int) (w0:World) (K:Bool→WP):Prop :=Calls Tryz.prog 190 #[s1.v,(vi v1)] w0 (fun e w1=>∃r1,e=.returned (vi r1)∧K (decide (r1≥0)) w1)
theorem w_G3 (s1 v1 w0 K) (h:m_G3 s1 v1 w0 K):
  Calls Tryz.prog 150 #[s1.v,(vi v1)] w0 (fun e w'=>∃r2,e=.returned (vb r2)∧K r2 w'):=by
 refine cw (args:=[s1.v,(vi v1)]) Tryz.func150 Tryz.ntmps150 (eg (q0 (vb false) (ln (eg (q0 s1.v (q0 (vi v1) ?_))))))
 refine sc Tryz.call190 (h.mono fun e w1 ⟨r1,k,h⟩=>⟨_,k,?_⟩)
 refine qb (ln (er (rs1 Tryz.results150 ⟨(decide (r1≥0)),rfl,h⟩)))
end Go.Proofs
end
section
open Go Go.SE
namespace Go.SE
section
variable {P:Program} {t e:TypeId} {sz bytes:Nat}
theorem jCV (T:SlType P t e sz bytes) (w:World) (ty:TypeId) (s x:Sl) (hc:s.len≤s.cap) (hx:x.len=0):(Builtin.append_ #[t,t] ty #[s.v,x.v]).run P w=.ok s.v w:=by
 obtain ⟨a,n,c⟩:=s;obtain ⟨b,m,d⟩:=x;simp only at hc hx;subst hx;cases b <;> cases a <;> simp [Builtin.append_,Sl.v,run_underlying T.ht,T.sizeOf,Builtin.lenOf,Builtin.firstCells,loadCells,loadCellsFrom,storeCells,hc]
end
theorem jIQ {w:World} {sz:Nat}:∀{rs:List (List Value)} {p:Addr},(∀r∈rs,r.length=sz)→(∀i (h:i<rs.length),Row w (p.add (i*sz)) rs[i])→Row w p rs.flatten
 | [],p,_,_=>fun i h=>by simp at h
 | r :: rs,p,hl,h=>by
  have hr:Row w p r:=by have:=h 0 (by simp);simpa [Addr.add] using this
  have hsz:=hl r (by simp);have ih:=jIQ (rs:=rs) (p:=p.add sz) (fun q hq=>hl q (List.mem_cons_of_mem _ hq)) (fun i hi=>by
   have:=h (i+1) (by simpa using hi);rw [uW,show sz+i*sz=(i+1)*sz by rw [Nat.succ_mul];omega];simpa using this)
  intro i hi;rw [List.flatten_cons] at hi ⊢;by_cases hlt:i<r.length
  ·rw [hr i hlt,List.getElem?_append_left hlt]
  ·have:=ih (i - r.length) (by rw [List.length_append] at hi;omega);rw [uW,show sz+(i - r.length)=i by omega] at this;rw [this,List.getElem?_append_right (by omega)]
section
variable {P:Program} {t e:TypeId} {sz bytes:Nat}
theorem Rws.appendL (T:SlType P t e sz bytes) {w:World} {ty:TypeId} {s x:Sl} {rs qs:List (List Value)} (h:Rws w e sz s rs) {S:NP} (hx:Lst S w sz x qs) (hl:∀q∈qs,q.length=sz) (h1:∀q∈qs,q.all qG=true) (hb:(rs.length+qs.length)*bytes≤140737488355328) (hm:rs.length+qs.length≤maxLen) :
  ∃s' w',(Builtin.append_ #[t,t] ty #[s.v,x.v]).run P w=.ok s'.v w'∧Rws w' e sz s' (rs++qs)∧Ext s.blk w w'∧(∀b,s'.blk b→s.blk b∨w.heap.size≤b):=by
 cases hq:qs with
 | nil =>
  subst hq
  have hc:s.len≤s.cap:=by
   rcases h.own with ⟨rfl,_⟩ | ⟨g,cur,_,_,hc,_⟩
   ·exact Nat.le_refl _
   ·rw [h.len];exact hc
  exact ⟨s,w,jCV T w ty s x hc hx.len,by simpa using h,Ext.refl w,fun b hb=>.inl hb⟩
 | cons q0 rest =>
  rw [← hq]
  have hne:qs≠[]:=by rw [hq];simp
  have hpos:=List.length_pos_iff.2 hne
  obtain ⟨_,⟨_,_,p,hp,_⟩,_,_⟩:=hx.at_ 0 hpos
  have hrow:Row w p qs.flatten:=jIQ hl (fun i hi=>by
   obtain ⟨a,⟨_,_,b,hb',rfl⟩,_,hr⟩:=hx.at_ i hi;rw [hp] at hb';cases hb';simpa using hr)
  have hxv:x.v=(Sl.mk (some p) qs.length x.cap).v:=by unfold Sl.v;rw [hp,hx.len]
  rw [hxv]
  exact h.appends T hrow hl h1 hne hb hm
end
def look {α:Type}:List (Int×α)→Int→Option α
 | [],_=>none
 | p :: M,k=>if p.1=k then some p.2 else look M k
theorem jAZ {α:Type} {M:List (Int×α)} {k:Int}:look M k=none↔k ∉ M.map Prod.fst:=by
 induction M with
 | nil=>simp [look]
 | cons p M ih =>
  rw [look]
  split
  ·rename_i h;simp [h]
  ·rename_i h;rw [ih,List.map_cons,List.mem_cons];exact ⟨fun h1 h2=>h2.elim (fun e=>h e.symm) h1,fun h1 h2=>h1 (.inr h2)⟩
theorem jEY {α:Type} {M:List (Int×α)} {k:Int} {v:α} (h:look M k=some v):(k,v)∈M:=by
 induction M with
 | nil=>cases h
 | cons p M ih =>
  rw [look] at h
  split at h
  ·rename_i e;cases h;subst e;simp
  ·exact List.mem_cons_of_mem _ (ih h)
theorem jLF {α:Type} {M:List (Int×α)} (hn:(M.map Prod.fst).Nodup) {i:Nat} {k:Int} {v:α} (h:M[i]?=some (k,v)):look M k=some v:=by
 induction M generalizing i with
 | nil=>simp at h
 | cons p M ih =>
  rw [List.map_cons,List.nodup_cons] at hn
  rw [look]
  cases i with
  | zero=>simp at h;subst h;simp
  | succ i =>
   have h':M[i]?=some (k,v):=by simpa using h
   have hne:p.1≠k:=fun e=>hn.1 (by rw [e];exact List.mem_map.2 ⟨_,List.mem_of_getElem? h',rfl⟩)
   rw [if_neg hne]
   exact ih hn.2 h'
theorem jHO {α:Type} {M:List (Int×α)} (hn:(M.map Prod.fst).Nodup) {k:Int} {v:α} (h:(k,v)∈M):look M k=some v:=by
 obtain ⟨i,hi,e⟩:=List.getElem_of_mem h;exact jLF hn (by rw [List.getElem?_eq_getElem hi,e])
def jIT (k:Int):Value:=.int .i64 k
structure IMap {α:Type} (f:α→Value) (w:World) (m:Nat) (M:List (Int×α)):Prop where
 map:CMap w m (M.map fun p=>(jIT p.1,f p.2))
 nd:(M.map Prod.fst).Nodup
section
variable {α:Type} {f:α→Value} {w w':World} {m:Nat} {M:List (Int×α)} {P:Program} {T K E:TypeId}
theorem IMap.ext {F:NP} (h:IMap f w m M) (hE:Ext F w w') (hf:¬ F m):IMap f w' m M:=⟨h.map.ext hE hf,h.nd⟩
theorem IMap.pure (h:IMap f w m M) (hE:Pure w w'):IMap f w' m M:=h.ext hE id
theorem IMap.lt (h:IMap f w m M):m<w.heap.size:=h.map.lt
theorem IMap.of_new {p:Addr} (h:New w (.map #[] 0) p w'):IMap f w' p.block []:=⟨CMap.of_new h,List.nodup_nil⟩
theorem IMap.keys (M:List (Int×α)):∀p∈M.map (fun p=>(jIT p.1,f p.2)),∃n,p.1=.int .i64 n:=by
 intro p hp;obtain ⟨q,_,rfl⟩:=List.mem_map.1 hp;exact ⟨_,rfl⟩
theorem IMap.get (h:IMap f w m M) (hT:P.underlying T=some (.map K E)) (hK:P.underlying K=some (.int .i64)) {z:Value} (hz:(zeroValue E).run P w=.ok z w) (k:Int) (ok:Bool) :
  (look M k=none∧(Instr.lookup T (.map (some m)) (.int .i64 k) ok).run P w=.ok (if ok then .tuple #[z,.bool false] else z) w)∨∃v,look M k=some v∧(Instr.lookup T (.map (some m)) (.int .i64 k) ok).run P w=.ok (if ok then .tuple #[f v,.bool true] else f v) w:=by
 rcases h.map.lookup hT (KeyOK.of_int hK) (IMap.keys M) (k:=jIT k) ⟨k,rfl⟩ hz ok with ⟨h1,h2⟩ | ⟨i,v,h1,h2⟩
 ·refine .inl ⟨jAZ.2 fun hm=>?_,h2⟩
  obtain ⟨q,hq,rfl⟩:=List.mem_map.1 hm
  exact h1 _ (List.mem_map.2 ⟨q,hq,rfl⟩) rfl
 ·rw [List.getElem?_map] at h1
  cases hi:M[i]? with
  | none=>rw [hi] at h1;cases h1
  | some q =>
   rw [hi] at h1
   obtain ⟨a,b⟩:=q
   simp [jIT] at h1
   obtain ⟨rfl,rfl⟩:=h1
   exact .inr ⟨b,jLF h.nd hi,h2⟩
theorem IMap.put (h:IMap f w m M) (hT:P.underlying T=some (.map K E)) (hK:P.underlying K=some (.int .i64)) {k:Int} (hn:look M k=none) (v:α) :
  ∃w',(Instr.mapUpdate T (.map (some m)) (.int .i64 k) (f v)).run P w=.ok () w'∧IMap f w' m (M++[(k,v)])∧Ext (·=m) w w':=by
 have hn':=jAZ.1 hn
 obtain ⟨w',h1,h2,h3⟩:=h.map.insert hT (KeyOK.of_int hK) (IMap.keys M) (k:=jIT k) (v:=f v) ⟨k,rfl⟩ (fun p hp e=>by
  obtain ⟨q,hq,rfl⟩:=List.mem_map.1 hp;simp only [jIT,Value.int.injEq,true_and] at e;exact hn' (List.mem_map.2 ⟨q,hq,e⟩))
 refine ⟨w',h1,⟨by simpa using h2,?_⟩,h3⟩
 rw [List.map_append,List.nodup_append]
 exact ⟨h.nd,by simp,fun x hx y hy e=>by simp at hy;subst hy;exact hn' (e▸hx)⟩
theorem IMap.again (h:IMap f w m M) (hT:P.underlying T=some (.map K E)) (hK:P.underlying K=some (.int .i64)) {k:Int} {v:α} (hv:look M k=some v) :
  ∃w',(Instr.mapUpdate T (.map (some m)) (.int .i64 k) (f v)).run P w=.ok () w'∧IMap f w' m M∧Ext (·=m) w w':=by
 obtain ⟨i,hi,e⟩:=List.getElem_of_mem (jEY hv)
 have hes:(M.map fun p=>(jIT p.1,f p.2))[i]?=some (jIT k,f v):=by simp [hi,e]
 obtain ⟨w',h1,h2,h3⟩:=h.map.update hT (KeyOK.of_int hK) (IMap.keys M) (k:=jIT k) (v:=f v) (v':=f v) ⟨k,rfl⟩ hes (fun j u hj=>by
  rw [List.getElem?_map] at hj;cases hq:M[j]? with
  | none=>rw [hq] at hj;cases hj
  | some q =>
   rw [hq] at hj
   simp [jIT] at hj
   obtain ⟨hj',hje⟩:=List.getElem?_eq_some_iff.1 hq
   have h4:(M.map Prod.fst)[j]'(by simpa using hj')=(M.map Prod.fst)[i]'(by simpa using hi):=by simp [hje,e,hj.1]
   exact (List.getElem_inj h.nd).1 h4)
 have hset:(M.map fun p=>(jIT p.1,f p.2)).set i (jIT k,f v)=M.map fun p=>(jIT p.1,f p.2):=by
  apply List.ext_getElem?;intro n;rw [List.getElem?_set];by_cases hn:i=n
  ·subst hn;rw [if_pos rfl];simp [hi,e]
  ·rw [if_neg hn]
 rw [hset] at h2
 exact ⟨w',h1,⟨h2,h.nd⟩,h3⟩
end
end Go.SE
end
section
open Go Go.SE
namespace Go.Proofs
attribute [local irreducible] Calls
def tmr (ts:List Int):List (List Value):=ts.map fun t=>[.int .i64 t]
theorem qF (ts:List Int):(tmr ts).length=ts.length:=by simp [tmr]
theorem jON (ts:List Int):∀q∈tmr ts,q.all qG=true:=by intro q hq;obtain ⟨t,_,rfl⟩:=List.mem_map.1 hq;rfl
theorem tmr_sz (ts:List Int):∀q∈tmr ts,q.length=1:=by intro q hq;obtain ⟨t,_,rfl⟩:=List.mem_map.1 hq;rfl
theorem jDZ:SlType Tryz.prog 46 78 1 8:=by
 refine ⟨Tryz.underlying46,⟨Tryz.t78,_,by kernel_rfl,(by kernel_rfl:Tryz.t78.zero=some (.int .i64 0)),by kernel_rfl,by kernel_rfl,rfl⟩,by omega⟩
structure RetO (w:World) (e:TypeId) (sz:Nat) (rs:List (List Value)) (s:Sl) (w':World):Prop where
 rows:Rws w' e sz s rs
 own:∀b,s.blk b→w.heap.size≤b
 pure:Pure w w'
theorem RetO.kept {w:World} {H:NP} {e:TypeId} {sz:Nat} {rs:List (List Value)} {s:Sl} {w':World} (h:RetO w e sz rs s w'):Kept H w w':=h.pure.keptP
theorem jAC {S:NP} {w:World} {s:Sl} {ts:List Int} (h:Lst S w 1 s (tmr ts)) {j:Nat} (hj:j<ts.length):∃a,At s j 1 a∧S a.block∧w.cell? a=some (.int .i64 ts[j]):=by
 obtain ⟨a,h1,h2,h3⟩:=h.at_ j (by simpa [tmr] using hj);exact ⟨a,h1,h2,jAW (by simpa [tmr] using h3)⟩
theorem jLU {S:NP} (s:Sl) (ts:List Int) (v:Int) (w0:World) (hs:Lst S w0 1 s (tmr ts)) (hn:ts.length≤1000000) :
  Calls Tryz.prog 190 #[s.v,.int .i64 v] w0 (fun e w'=>∃r:Int,e=.returned (.int .i64 r)∧((decide (r≥0)=decide (v∈ts))∧w'=w0)):=by
 refine w_Q1 _ _ w0 (fun r w'=>(decide (r≥0)=decide (v∈ts))∧w'=w0) ?_
 unfold m_Q1
 have hl:s.len=ts.length:=by rw [hs.len,qF]
 refine ⟨fun i w'=>w'=w0∧∃j:Nat,i=j∧j≤ts.length∧v ∉ ts.take j,fun i _=>((ts.length:Int) - i).toNat,⟨rfl,0,rfl,Nat.zero_le _,by simp⟩,?_⟩
 rintro _ _ ⟨rfl,j,rfl,hj,hv⟩
 unfold m_Q1_l1
 refine ⟨fun h=>?_,fun h=>?_⟩
 ·have hlt:=vS hl h
  obtain ⟨a,hat,_,hc⟩:=jAC hs hlt
  have htk:ts.take (j+1)=ts.take j++[ts[j]]:=List.take_succ_eq_append_getElem hlt
  refine ⟨a,hat,_,hc,fun h=>⟨?_,rfl⟩,fun h=>?_⟩
  ·have:v=ts[j]:=by simpa using h
   rw [decide_eq_true (by omega),decide_eq_true]
   rw [this];exact List.getElem_mem hlt
  ·rw [zZ hlt (by omega)]
   refine ⟨⟨rfl,j+1,rfl,hlt,?_⟩,qX hlt⟩
   rw [htk,List.mem_append,List.mem_singleton]
   rintro (h' | h')
   ·exact hv h'
   ·simp [h'] at h
 ·have hge:=vT hl hj h
  subst hge
  rw [List.take_length] at hv
  exact ⟨by simp [hv],rfl⟩
theorem jGI {S:NP} (s:Sl) (ts:List Int) (v:Int) (w0:World) (hs:Lst S w0 1 s (tmr ts)) (hn:ts.length≤1000000) :
  Calls Tryz.prog 150 #[s.v,.int .i64 v] w0 (fun e w'=>∃r:Bool,e=.returned (.bool r)∧(r=decide (v∈ts)∧w'=w0)):=by
 refine w_G3 _ _ w0 (fun r w'=>r=decide (v∈ts)∧w'=w0) ?_
 unfold m_G3
 refine (jLU s ts v w0 hs hn).mono ?_
 rintro _ _ ⟨r,rfl,hr,rfl⟩
 exact ⟨_,rfl,hr,rfl⟩
end Go.Proofs
end
section
open Go Go.SE
namespace Go.SE
theorem Ext.putObj (w:World) (r:Nat) (o:Obj):Ext (·=r) w (w.putObj r o):=⟨rfl,rfl,rfl,(by first | exact Nat.le_refl _ | exact Nat.le_succ _),by simp,fun b _ hne=>World.putObj_heap_other hne⟩
abbrev Yld (P:Program) (l:Nat) (args:Array Value) (w:World) (R:Ending→WP):Prop:=YieldAt Fence.wide 0 P l args w R
def jIE (P:Program) (gf:FuncId) (lb:Array Value) {α:Type} (encs:α→Array Value) (xs:List α) (Rd:WP) (w:World):Prop :=
 ∀(l:Nat) (J Jx:List α→NP→WP) (W:World),Pure w W →
  (∀pre X A,J pre X A→Rd A) →
  (∀pre X A X' A',J pre X A→Hst W X A X' A'→J pre X' A') →
  (∀pre X A X' A',Jx pre X A→Hst W X A X' A'→Jx pre X' A') →
  (∀pre y X A,J pre X A→Hst W X A X A→(∃post,xs=pre++y :: post)→Yld P l (encs y) A (fun e A'=>(e=.returned (.bool true)∧Kept X A A'∧J (pre++[y]) X A')∨(e=.returned (.bool false)∧Kept X A A'∧Jx (pre++[y]) X A'))) →
  J [] None W →
  Calls P gf (#[.func (.yield l) #[] #[]]++lb) W (fun e A=>(∃v,e=.returned v)∧∃X,Hst W X A X A∧(J xs X A∨∃pre,Jx pre X A))
def jMV:List Nat→List Value→Env→Env
 | p :: ps,v :: vs,ρ=>jMV ps vs (upd ρ p v)
 | _,_,ρ=>ρ
theorem jFQ {n:Nat}:∀(ps:List Nat) (vs:List Value) (ρ:Env) (t:Array Value),(∀p∈ps,p<n)→Rep [] n ρ { tmps:=t,defers:=[] } →
  Rep [] n (jMV ps vs ρ) { tmps:=(ps.zip vs).foldl (fun t (x:Nat×Value)=>t.setIfInBounds x.1 x.2) t,defers:=[] }
 | [],vs,ρ,t,_,h=>by cases vs <;> exact h
 | p :: ps,[],ρ,t,_,h=>h
 | p :: ps,v :: vs,ρ,t,hp,h=>by
  rw [List.zip_cons_cons,List.foldl_cons];exact jFQ ps vs _ _ (fun q hq=>hp q (by simp [hq])) (h.put (d:=some p) (fun k hk=>by cases hk;exact hp p (by simp)) v)
def jNX (id:Nat) (Y:NP) (A:World) (I Ix Ir:NP→WP):Exit→Env→WP
 | .normal,_,A'=>Kept Y A A'∧I Y A'
 | .exit id',_,A'=>id'=id∧Kept Y A A'∧Ix Y A'
 | .ret,_,A'=>Kept Y A A'∧Ir Y A'
 | _,_,_=>False
def jOE (D:Nat) (Q:Exit→Env→WP):Exit→Env→WP
 | .ret,ρ,w=>w.heap[D]?=some (.deferred (some []))∧Q .ret ρ (w.putObj D (.deferred none))
 | _,_,_=>False
theorem Kept.trans {H:NP} {a b c:World} (h:Kept H a b) (k:Kept H b c):Kept H a c:=⟨Nat.le_trans h.size k.size,fun i hi hH=>(k.keep i (Nat.lt_of_lt_of_le hi h.size) hH).trans (h.keep i hi hH)⟩
theorem Kept.mono {H H':NP} {a b:World} (h:Kept H a b) (hs:∀b,H' b→H b):Kept H' a b:=⟨h.size,fun i hi hH=>h.keep i hi (hs i hH)⟩
structure RngI {α:Type} (w0:World) (Rd:WP) (I Ix Ir:List α→NP→WP):Prop where
 rd:∀pre Y A,I pre Y A→Rd A
 i:∀pre Y A Y' A',I pre Y A→Hst w0 Y A Y' A'→I pre Y' A'
 x:∀pre Y A Y' A',Ix pre Y A→Hst w0 Y A Y' A'→Ix pre Y' A'
 r:∀pre Y A Y' A',Ir pre Y A→Hst w0 Y A Y' A'→Ir pre Y' A'
def wpB (P:Program) (n:Nat) (c y:Code) (Q:Exit→Env→WP) (ρ:Env) (w:World):Prop:=∀a,Rep [] n ρ a→c.wpIn (fen none) 0 P (Exit.then (fun a w=>y.wpIn (fen none) 0 P (jML ⟨none,[]⟩ n Q) a w) (jML ⟨none,[]⟩ n Q)) a w
theorem jMO {P:Program} {n:Nat} {Q:Exit→Env→WP} {ρ:Env} {w:World} {a c y:Code} (h:wpE (x:=⟨none,[]⟩) P n a (jBJ (fun ρ w=>wpB P n c y Q ρ w) Q) ρ w):wpE (x:=⟨none,[]⟩) P n (.seq (.seq a c) y) Q ρ w:=fun a ha =>
 wpIn_seq (wpIn_seq (wpIn_mono (h a ha) (fun e a w hl=>by
  cases e with
  | normal=>obtain ⟨ρ',hr,hq⟩:=jDJ hl;exact hq a hr
  | _=>exact hl)))
theorem af_r {D:Nat} {Q:Exit→Env→WP} {ρ:Env} {w:World} (h1:w.heap[D]?=some (.deferred (some []))) (h:∀w1,w1=w.putObj D (.deferred none)→Q .ret ρ w1):jOE D Q .ret ρ w:=⟨h1,h _ rfl⟩
theorem rd_n {id:Nat} {Y:NP} {A A':World} {I Ix Ir:NP→WP} {ρ:Env} (h:Kept Y A A'∧I Y A'):jNX id Y A I Ix Ir .normal ρ A':=h
theorem HBZ.behind {H Y:NP} {w A:World} {l:List HBx} {D:Nat} (hb:HB H w l) (hk:Kept H w A) (hH:∀b,H b→Y b) (hD:Y D) (hDe:A.heap[D]?=some (.deferred (some []))):HBZ [(D,.deferred (some []))] Y A l :=
 ⟨(hb.kept hk).box,fun x hx=>hH _ (hb.hid x hx),hb.ne,fun x hx=>by
  cases List.mem_singleton.1 hx;exact ⟨hD,hDe,rfl⟩⟩
theorem HBZ.leave {w0 wv:World} {Hv H:NP} {w:World} {l:List HBx} {D:Nat} (hb:HBZ [(D,.deferred (some []))] H w l) (hs:Hst w0 Hv wv H w) {w1:World} (h1:w1=w.putObj D (.deferred none)):Hst w0 Hv wv H w1∧HB H w1 l:=by
 have hz:=hb.fz _ (List.mem_singleton.2 rfl);have E:Ext (·=D) w w1:=by rw [h1];exact Ext.putObj w D _
 refine ⟨⟨h1▸hs.ext.trans' (Ext.putObj w D _) (fun b _ e=>by subst e;exact hz.1),hs.sub,hs.new,hs.old,fun b hb=>Nat.lt_of_lt_of_le (hs.lt b hb) E.size,Nat.le_trans hs.base E.size⟩,?_⟩;refine ⟨fun x hx=>(hb.box x hx).ext E (fun e=>?_),hb.hid,hb.ne,fun x hx=>by cases hx⟩;have h2:=(hb.box x hx).blk;rw [e,hz.2.1] at h2;cases h2
theorem HBZ.dead {H:NP} {w:World} {l:List HBx} {D:Nat} (hb:HBZ [(D,.deferred (some []))] H w l):w.heap[D]?=some (.deferred (some [])):=(hb.fz _ (List.mem_singleton.2 rfl)).2.1
theorem jOF {P:Program} {ε:Operand→Value} {w w':World} {d:Option Tmp} {ty:TypeId} {pos:String} {aft:Array Edge} {g:Option (Nat×Bool)} {l:Nat} {x:Operand} {v:Value} {c:List Operand} {ts:Array TypeId} {args:Array Value} {r:Next} (hx:ε x=v) (hv:v=.func (.yield l) #[] #[]) (ha:(c.map ε).toArray=args) (hr:(Instr.yield l args).run P w=.ok r w') :
  (execOp ε ⟨d,.call ⟨.value x,c.toArray,ts⟩,ty,pos,aft,g⟩).run P w=.ok r w':=by
 subst hv;subst ha
 simp [execOp,resolve,hx,Deferred.ofValue,invoke,hr]
theorem jMR {P:Program} {ops:Array Oper} {Q:Env→WP} {ρ:Env} {w:World} {rest:List Oper} {d:Option Tmp} {ty:TypeId} {pos:String} {aft:Array Edge} {g:Option (Nat×Bool)} {l:Nat} {x:Operand} {v:Value} {c:List Operand} {ts:Array TypeId} {args:Array Value}
  (hw:Region.wanted ⟨d,.call ⟨.value x,c.toArray,ts⟩,ty,pos,aft,g⟩ (zT ops ρ)=true) (hx:evE ρ x=v) (hv:v=.func (.yield l) #[] #[]) (ha:(c.map (evE ρ)).toArray=args)
  (h:Yld P l args w (fun e w''=>∃v,e=.returned v∧wpL P ops Q rest (put ρ d v) w'')):wpL P ops Q (⟨d,.call ⟨.value x,c.toArray,ts⟩,ty,pos,aft,g⟩ :: rest) ρ w:=by
 obtain ⟨fn,tmps,assign,body,hr,hR⟩:=h
 unfold wpL
 rw [if_pos hw]
 unfold yld
 rw [jOF hx hv ha hr]
 exact hR
theorem Yld.mono {P:Program} {l:Nat} {args:Array Value} {w:World} {R R':Ending→WP} (h:Yld P l args w R) (hr:∀e w,R e w→R' e w):Yld P l args w R':=by
 obtain ⟨fn,tmps,assign,body,h1,h2⟩:=h;exact ⟨fn,tmps,assign,body,h1,RoundIn.mono h2 hr⟩
section
variable {P:Program} {n:Nat} {Q:Exit→Env→WP} {ρ:Env} {w w0:World} {H Hv:NP} {wv:World}
theorem jKL {id:Nat} {g:Operand} {ps:Array Tmp} {assign body y:Code} {gf:FuncId} {lb:Array Value} {α:Type} {encs:α→Array Value} {xs:List α} {Rd:WP}
  (hg:evE ρ g=.func (.func gf) #[] lb) (eg:∀args w,(callFunc gf args).run P w=.ok (.enter gf args) w) (hit:jIE P gf lb encs xs Rd w) (hps:∀z,(encs z).size=ps.size) (hpn:∀p∈ps.toList,p<n)
  (hs:Hst w0 Hv wv H w) (I Ix Ir:List α→NP→WP) (hRI:RngI w0 Rd I Ix Ir)
  (h0:I [] H w)
  (hround:∀l z A,wpE (x:=⟨some l,[]⟩) P n assign (jBJ (fun ρ' A'=>A'=A∧∀pre Y A,I pre Y A→Hst w0 Y A Y A→(∃post,xs=pre++z :: post)→wpE (x:=⟨some l,[]⟩) P n body (jNX id Y A (I (pre++[z])) (Ix (pre++[z])) (Ir (pre++[z]))) ρ' A) (fun _ _ _=>False)) (jMV ps.toList (encs z).toList ρ) A)
  (hrest:∀D Y A,Hst w0 Y A Y A→Y D→A.heap[D]?=some (.deferred (some []))→(∀b,H b→Y b)→Kept H w A→(I xs Y A∨∃pre,Ix pre Y A)→wpE (x:=⟨none,[jOV D]⟩) P n y (jOE D Q) ρ A)
  (hret:∀D pre Y A,Hst w0 Y A Y A→Y D→A.heap[D]?=some (.deferred (some []))→Ir pre Y A→Q .ret ρ (A.putObj D (.deferred none))) :
  wpB P n (.block id (.rangeFunc g ps assign body)) y Q ρ w:=by
 obtain ⟨hRd,hI,hIx,hIr⟩:=hRI
 intro a ha
 refine wpIn_block (wpIn_rangeFunc ?_)
 intro fn _
 obtain ⟨rec,hrec⟩:∃rec:LoopState→Option Code→Loop,rec=fun st pe=>{ state:=st,pending:=pe,fn,tmps:=a.tmps,params:=ps,assign,body,defers:=w.heap.size }:=⟨_,rfl⟩
 obtain ⟨W1,hW1⟩:∃W1,(w.alloc (.deferred (some []))).alloc (.loop (rec .ready none))=W1:=⟨_,rfl⟩
 have hL1:W1.heap[w.heap.size+1]?=some (.loop (rec .ready none)):=by
  rw [← hW1];have:=World.alloc_heap_new (w.alloc (.deferred (some []))) (.loop (rec .ready none));rwa [World.size_alloc] at this
 have hK1:W1.heap[w.heap.size]?=some (.deferred (some [])):=by
  rw [← hW1];exact (RowKit.Below.heap_alloc _ _ _ (by simp)).trans (World.alloc_heap_new w _)
 have hsz:W1.heap.size=w.heap.size+2:=by rw [← hW1];simp
 have E1:Pure w W1:=by
  rw [← hW1];exact ⟨rfl,rfl,rfl,(by first | exact Nat.le_refl _ | exact Nat.le_succ _),by simp;omega,fun b hb _=>(RowKit.Below.heap_alloc _ _ _ (by simp;omega)).trans (RowKit.Below.heap_alloc _ _ _ hb)⟩
 let Yo:NP→NP:=fun X b=>H b∨b=w.heap.size∨b=w.heap.size+1∨X b
 have hHlt:∀b,H b→b<w.heap.size:=hs.lt
 have here:∀{X:NP} {A:World},Hst W1 X A X A→Hst w0 (Yo X) A (Yo X) A:=fun {X A} h =>
  ⟨Ext.refl _,fun _ h=>h,fun _ h=>.inl h,fun b hb=>by
   rcases hb with hb | rfl | rfl | hb
   ·exact hs.old b hb
   ·exact hs.base
   ·have:=hs.base;omega
   ·have:=h.old b hb;have:=hs.base;omega,fun b hb=>by
   have z:=h.base;rcases hb with hb | rfl | rfl | hb
   ·have:=hHlt b hb;omega
   ·omega
   ·omega
   ·exact h.lt b hb,by have:=h.base;have:=hs.base;omega⟩
 have up:∀{X X':NP} {A A':World},Hst W1 X A X A→Hst W1 X A X' A'→Hst w0 (Yo X) A (Yo X') A':=fun {X X' A A'} h k =>
  ⟨k.ext.mono (fun b _ hb=>.inr (.inr (.inr hb))),fun b hb=>by
   rcases hb with hb | hb | hb | hb
   ·exact .inl hb
   ·exact .inr (.inl hb)
   ·exact .inr (.inr (.inl hb))
   ·exact .inr (.inr (.inr (k.sub b hb))),fun b hb=>by
   rcases hb with hb | hb | hb | hb
   ·exact .inl (.inl hb)
   ·exact .inl (.inr (.inl hb))
   ·exact .inl (.inr (.inr (.inl hb)))
   ·exact (k.new b hb).imp_left (fun h=>.inr (.inr (.inr h))),(here k.here).old,(here k.here).lt,(here k.here).base⟩
 have nX:∀{X:NP} {A:World},Hst W1 X A X A→∀b,b<w.heap.size+2→¬ X b:=fun h b hb hx=>by have:=h.old b hx;omega
 have keepH:∀{X X':NP} {A A':World},Kept H w A→Hst W1 X A X' A'→Kept H w A':=fun {X X' A A'} hk k =>
  hk.trans (k.ext.kept (fun b hb hx=>nX k.here b (by have:=hHlt b hb;omega) hx))
 have turn:∀{X:NP} {A:World} (o:Obj),Hst W1 X A X A→Hst w0 (Yo X) A (Yo X) (A.putObj (w.heap.size+1) o):=fun {X A} o h =>
  ⟨(Ext.putObj A _ o).mono (fun b _ e=>by subst e;exact .inr (.inr (.inl rfl))),fun _ h=>h,fun _ h=>.inl h,(here h).old,fun b hb=>by have:=(here h).lt b hb;simpa using this,by simpa using (here h).base⟩
 have hstW:∀{X:NP} {A:World} (o:Obj),Hst W1 X A X A→Hst W1 X (A.putObj (w.heap.size+1) o) X (A.putObj (w.heap.size+1) o):=fun o h =>
  ⟨Ext.refl _,fun _ h=>h,fun _ h=>.inl h,h.old,fun b hb=>by have:=h.lt b hb;simpa using this,by simpa using h.base⟩
 have keepT:∀{A:World} (o:Obj),Kept H w A→Kept H w (A.putObj (w.heap.size+1) o):=fun {A} o hk=>hk.trans ((Ext.putObj A _ o).kept (fun b hb e=>by have:=hHlt b hb;omega))
 let Jc:Code→List α→NP→WP:=fun c pre Y A=>match c with
  | .ret=>Ir pre Y A
  | .exit id'=>id'=id∧Ix pre Y A
  | _=>False
 have hJc:∀c pre Y A Y' A',Jc c pre Y A→Hst w0 Y A Y' A'→Jc c pre Y' A':=by
  intro c pre Y A Y' A' h k;cases c <;> first | exact hIr _ _ _ _ _ h k | exact ⟨h.1,hIx _ _ _ _ _ h.2 k⟩ | exact h
 refine ⟨w.heap.size+1,[jOV w.heap.size],W1,{ target:=.fn (.func gf) lb,args:=#[.func (.yield (w.heap.size+1)) #[] #[]] },W1,gf,
  #[.func (.yield (w.heap.size+1)) #[] #[]]++lb,W1,?_,?_,fun _ _=>trivial,?_,(fun h=>by cases h),callsIn_wide.2 ?_⟩
 ·rw [← hW1,hrec];exact run_enterLoop_outer _ _ _ _ _
 ·have hev:a.eval g=.func (.func gf) #[] lb:=by rw [ha.eval];exact hg
  simp only [resolve,hev]
  simp [go_sem]
 ·simp [invoke,go_sem,eg]
 have hst1:Hst W1 None W1 None W1:=Hst.start W1
 refine (hit (w.heap.size+1)
  (fun pre X A=>Hst W1 X A X A∧I pre (Yo X) A∧A.heap[w.heap.size+1]?=some (.loop (rec .ready none))∧A.heap[w.heap.size]?=some (.deferred (some []))∧Kept H w A)
  (fun pre X A=>Hst W1 X A X A∧∃c,Jc c pre (Yo X) A∧A.heap[w.heap.size+1]?=some (.loop (rec .done (some c)))∧A.heap[w.heap.size]?=some (.deferred (some []))∧Kept H w A)
  W1 E1 (fun pre X A h=>hRd _ _ _ h.2.1)
  (fun pre X A X' A' h k=>⟨k.here,hI _ _ _ _ _ h.2.1 (up h.1 k),k.ext.heap h.2.2.1 (nX k.here _ (by omega)),k.ext.heap h.2.2.2.1 (nX k.here _ (by omega)),keepH h.2.2.2.2 k⟩)
  (fun pre X A X' A' h k=>by
   obtain ⟨h1,c,h2,h3,h4,h5⟩:=h;exact ⟨k.here,c,hJc _ _ _ _ _ _ h2 (up h1 k),k.ext.heap h3 (nX k.here _ (by omega)),k.ext.heap h4 (nX k.here _ (by omega)),keepH h5 k⟩)
  ?_ ⟨hst1,hI _ _ _ _ _ h0 ⟨E1.pure,fun b hb=>.inl hb,fun b hb=>?_,(here hst1).old,(here hst1).lt,(here hst1).base⟩,hL1,hK1,E1.keptP⟩).mono ?_
 ·-- one round
  rintro pre z X A ⟨hX,hi,hl,hk,hkH⟩ _ hpost
  have hlt:w.heap.size+1<A.heap.size:=(Array.getElem?_eq_some_iff.1 hl).1
  have hy:=run_yield (P:=P) (args:=encs z) hl (by rw [hrec];exact hps z)
  rw [hrec] at hy
  refine ⟨fn,_,assign,body,hy,roundIn_of_wpIn (F:=Fence.wide) trivial ?_⟩
  have hrep:Rep [] n (jMV ps.toList (encs z).toList ρ) { tmps:=(ps.zip (encs z)).foldl (fun t (x:Nat×Value)=>t.setIfInBounds x.1 x.2) a.tmps,defers:=[] }:=by
   have:=jFQ ps.toList (encs z).toList ρ a.tmps hpn ⟨rfl,ha.size,ha.get⟩;rw [← Array.foldl_toList,Array.toList_zip];exact this
  refine wpIn_mono (hround (w.heap.size+1) z A _ hrep) ?_
  rintro e a1 A1 ⟨ρ',hor⟩
  have hor:=hor.resolve_right (fun h=>by cases h.2.1)
  obtain ⟨hr1,hq⟩:=hor
  cases e <;> first | exact hq.elim | skip
  obtain ⟨rfl,hbody⟩:=hq
  refine ⟨_,run_beginRound hl (by rw [hrec]),?_⟩
  have T1:=turn (.loop { rec .ready none with state:=.busy }) hX
  have hX1:=hstW (.loop { rec .ready none with state:=.busy }) hX
  have hl2:(A1.putObj (w.heap.size+1) (.loop { rec .ready none with state:=.busy })).heap[w.heap.size+1]?=some (.loop { rec .ready none with state:=.busy }):=World.putObj_heap_same hlt
  have hk2:(A1.putObj (w.heap.size+1) (.loop { rec .ready none with state:=.busy })).heap[w.heap.size]?=some (.deferred (some [])):=(World.putObj_heap_other (by omega)).trans hk
  have hkH2:=keepT (.loop { rec .ready none with state:=.busy }) hkH
  have hi2:=hI _ _ _ _ _ hi T1
  refine wpIn_mono (hbody pre (Yo X) _ hi2 T1.here hpost a1 hr1) ?_
  have fin : ∀ (jump : Option Code) (A3 : World), Kept (Yo X) (A1.putObj (w.heap.size + 1) (.loop { rec .ready none with state := .busy })) A3 →
    (Instr.endRound (w.heap.size+1) jump).run P A3=.ok (.bool jump.isNone) (A3.putObj (w.heap.size+1) (.loop (rec (if jump.isNone then .ready else .done) jump))) ∧
    Hst W1 X (A3.putObj (w.heap.size+1) (.loop (rec (if jump.isNone then .ready else .done) jump))) X (A3.putObj (w.heap.size+1) (.loop (rec (if jump.isNone then .ready else .done) jump))) ∧
    Hst w0 (Yo X) A3 (Yo X) (A3.putObj (w.heap.size+1) (.loop (rec (if jump.isNone then .ready else .done) jump))) ∧
    (A3.putObj (w.heap.size+1) (.loop (rec (if jump.isNone then .ready else .done) jump))).heap[w.heap.size+1]?=some (.loop (rec (if jump.isNone then .ready else .done) jump)) ∧
    (A3.putObj (w.heap.size+1) (.loop (rec (if jump.isNone then .ready else .done) jump))).heap[w.heap.size]?=some (.deferred (some [])) ∧
    Kept H w (A3.putObj (w.heap.size+1) (.loop (rec (if jump.isNone then .ready else .done) jump))) ∧
    Kept X A1 (A3.putObj (w.heap.size+1) (.loop (rec (if jump.isNone then .ready else .done) jump))):=fun jump A3 hk3=>by
   have hl3:A3.heap[w.heap.size+1]?=some (.loop { rec .ready none with state:=.busy }):=by
    rw [hk3.keep _ (by simpa using hlt) (.inr (.inr (.inl rfl)))];exact hl2
   have hD3:A3.heap[w.heap.size]?=some (.deferred (some [])):=by
    rw [hk3.keep _ (by simp;omega) (.inr (.inl rfl))];exact hk2
   have hX3:Hst W1 X A3 X A3:=hX1.again (hk3.mono (fun b hb=>.inr (.inr (.inr hb))))
   have hrun:=run_endRound (P:=P) jump hl3
   rw [hrec] at hrun
   refine ⟨by rw [hrec];exact hrun,hstW _ hX3,turn _ hX3,World.putObj_heap_same (Array.getElem?_eq_some_iff.1 hl3).1,(World.putObj_heap_other (by omega)).trans hD3,keepT _ (hkH2.trans (hk3.mono (fun b hb=>.inl hb))),?_⟩
   have k1:Kept X A1 (A1.putObj (w.heap.size+1) (.loop { rec .ready none with state:=.busy })):=(Ext.putObj A1 _ _).kept (fun b hb e=>by have:=hX.old b hb;omega)
   exact (k1.trans (hk3.mono (fun b hb=>.inr (.inr (.inr hb))))).trans ((Ext.putObj A3 _ _).kept (fun b hb e=>by have:=hX.old b hb;omega))
  rintro e a3 A3 ⟨ρ3,hor⟩
  have hor:=hor.resolve_right (fun h=>by cases h.2.1)
  obtain ⟨hr3,hq⟩:=hor
  cases e with
  | normal =>
   obtain ⟨hk3,hi3⟩:=hq
   obtain ⟨f1,f2,f3,f4,f5,f6,f7⟩:=fin none A3 hk3
   exact ⟨_,_,f1,.inl ⟨rfl,f7,f2,hI _ _ _ _ _ hi3 f3,f4,f5,f6⟩⟩
  | ret =>
   obtain ⟨hk3,hi3⟩:=hq
   obtain ⟨f1,f2,f3,f4,f5,f6,f7⟩:=fin (some .ret) A3 hk3
   exact ⟨_,_,f1,.inr ⟨rfl,f7,f2,.ret,hIr _ _ _ _ _ hi3 f3,f4,f5,f6⟩⟩
  | exit id' =>
   obtain ⟨rfl,hk3,hi3⟩:=hq
   obtain ⟨f1,f2,f3,f4,f5,f6,f7⟩:=fin (some (.exit id')) A3 hk3
   exact ⟨_,_,f1,.inr ⟨rfl,f7,f2,.exit id',⟨rfl,hIx _ _ _ _ _ hi3 f3⟩,f4,f5,f6⟩⟩
  | goto t=>exact hq.elim
  | panic ch=>exact hq.elim
  | outgrown=>exact hq.elim
 ·rcases hb with hb | rfl | rfl | hb
  ·exact .inl hb
  ·exact .inr (Nat.le_refl _)
  ·exact .inr (by omega)
  ·exact hb.elim
 ·-- behind the iterator
  have hrepM:Rep [jOV w.heap.size] n ρ { a with defers:=[jOV w.heap.size]++a.defers }:=⟨by rw [show a.defers=[] from ha.defers];rfl,ha.size,ha.get⟩
  have go:∀(A:World),Hst w0 (Yo fun b=>H b∨b=w.heap.size∨b=w.heap.size+1) A (Yo fun b=>H b∨b=w.heap.size∨b=w.heap.size+1) A→True:=fun _ _=>trivial
  have rest : ∀ (X : NP) (A : World), Hst w0 (Yo X) A (Yo X) A → A.heap[w.heap.size]? = some (.deferred (some [])) → Kept H w A → (I xs (Yo X) A ∨ ∃ pre, Ix pre (Yo X) A) →
    y.wpIn (fen none) 0 P (jML ⟨none,[]⟩ n Q) { a with defers:=[jOV w.heap.size]++a.defers } A:=by
   intro X A hA hD hkA hIA
   refine wpIn_mono (hrest w.heap.size (Yo X) A hA (.inr (.inl rfl)) hD (fun b hb=>.inl hb) hkA hIA _ hrepM) ?_
   rintro e a2 A2 ⟨ρ2,⟨hr2,hq⟩ | ⟨_,_,h,_⟩⟩
   ·cases e <;> first | exact hq.elim | skip
    exact ⟨ρ2,.inr ⟨rfl,rfl,rfl,w.heap.size,hr2,hq.1,hq.2⟩⟩
   ·cases h
  rintro e A ⟨⟨v,rfl⟩,X,_,⟨hX,hi,hl,hk,hkH⟩ | ⟨pre,hX,c,hc,hl,hk,hkH⟩⟩
  ·obtain ⟨o, hrun⟩ : ∃ o, (Instr.endLoop (w.heap.size + 1)).run P A = .ok none (A.putObj (w.heap.size + 1) o) := by
    have:=run_endLoop (P:=P) hl (by rw [hrec];simp);rw [hrec] at this;exact ⟨_,this⟩
   have T:=turn o hX
   exact ⟨none,_,hrun,rest X _ T.here ((World.putObj_heap_other (by omega)).trans hk) (keepT _ hkH) (.inl (hI _ _ _ _ _ hi T))⟩
  ·obtain ⟨o, hrun⟩ : ∃ o, (Instr.endLoop (w.heap.size + 1)).run P A = .ok (some c) (A.putObj (w.heap.size + 1) o) := by
    have:=run_endLoop (P:=P) hl (by rw [hrec];simp);rw [hrec] at this;exact ⟨_,this⟩
   have T:=turn o hX
   refine ⟨some c,_,hrun,?_⟩
   have hc':=hJc _ _ _ _ _ _ hc T
   have hD:=(World.putObj_heap_other (w:=A) (r:=w.heap.size+1) (o:=o) (k:=w.heap.size) (by omega)).trans hk
   cases c <;> first | exact hc.elim | skip
   case exit id' =>
    obtain ⟨rfl,hx⟩:=hc'
    refine wpIn_exit ?_
    simp only [Exit.inBlock,if_true]
    exact rest X _ T.here hD (keepT _ hkH) (.inr ⟨pre,hx⟩)
   case ret =>
    refine wpIn_ret ?_
    exact ⟨ρ,.inr ⟨rfl,rfl,rfl,w.heap.size,hrepM,hD,hret w.heap.size pre (Yo X) _ T.here (.inr (.inl rfl)) hD hc'⟩⟩
end
end Go.SE
namespace Go.SE
end Go.SE
end
