import Derived.Test.YtcldldjildmdlaaGreatPa4
import Derived.Test.YtcldldjildmdlaaGreatPa3
import Derived.Test.YtcldldjildmdlaaGreatProg
import Derived.KernelRfl
import Derived.Test.YtcldldjildmdlaaGreatPa0
section
open Go Go.SE
namespace Go.Proofs
attribute [local irreducible] Calls
theorem c_ref05_cut (p : Addr) (n : Nat) (w0 : World) {L : Sp.Pool} {F : NP} (hP : PoolR w0 p L F) (hn : n ≤ L.length) :
  Calls Tryz.prog 73 #[.pointer (some p),.int .i64 n] w0 (fun e w'=>e=.returned (.tuple #[])∧PoolR w' p (L.take n) F∧Ext F w0 w'):=by
 suffices key:∀K:WP,(∀w',PoolR w' p (L.take n) F∧Ext F w0 w'→K w')→m_T1 (some p) n w0 K from
  w_T1 _ _ w0 _ (key _ (fun _ h=>h))
 intro K hK
 unfold m_T1
 obtain ⟨s1,s2,s3,hS,hF⟩:=hP
 obtain ⟨t1,hr1,R1,hb1⟩:=Rws.hi (P:=Tryz.prog) slT_node hS.r1 (k:=.i64) (n:=n) (by omega) (by simpa using hn)
 refine ⟨p,rfl,s1,hS.box.cell0,t1,hr1,p,rfl,hS.box.canW0 (by simp),?_⟩
 rintro w1 hw1
 have B1:Box w1 p [t1.v,s2.v,s3.v] 45:=by rw [hw1];exact hS.box.set0
 have X1:Ext (·=p.block) w0 w1:=by rw [hw1];exact Ext.setCell p _
 clear hw1
 obtain ⟨t2,hr2,R2,hb2⟩:=Rws.hi (P:=Tryz.prog) slT_int (hS.r2.ext X1 (fun b hb e=>hS.n2 (e▸hb))) (k:=.i64) (n:=n) (by omega) (by simpa using hn)
 refine ⟨p,rfl,s2,B1.cell rfl,t2,hr2,p,rfl,B1.canW (by simp),?_⟩
 rintro w2 hw2
 have B2:Box w2 p [t1.v,t2.v,s3.v] 45:=by rw [hw2];exact B1.set 1 _
 have X2:Ext (·=p.block) w1 w2:=by rw [hw2];have:=Ext.setCell (w:=w1) (p.add 1) t2.v;rw [add_block] at this;exact this
 clear hw2
 obtain ⟨t3,hr3,R3,hb3⟩:=Rws.hi (P:=Tryz.prog) slT_int (hS.r3.ext (X1.trans X2) (fun b hb e=>hS.n3 (e▸hb))) (k:=.i64) (n:=n) (by omega) (by simpa using hn)
 refine ⟨p,rfl,s3,B2.cell rfl,t3,hr3,p,rfl,B2.canW (by simp),?_⟩
 rintro w3 hw3
 have B3:Box w3 p [t1.v,t2.v,t3.v] 45:=by rw [hw3];exact B2.set 2 _
 have X3:Ext (·=p.block) w2 w3:=by rw [hw3];have:=Ext.setCell (w:=w2) (p.add 2) t3.v;rw [add_block] at this;exact this
 clear hw3
 have E:=(X1.trans X2).trans X3
 refine hK _ ⟨⟨t1,t2,t3,⟨B3,?_,?_,?_,fun h=>hS.n1 ((hb1 _).1 h),fun h=>hS.n2 ((hb2 _).1 h),fun h=>hS.n3 ((hb3 _).1 h),fun b h1 h2=>hS.d12 b ((hb1 b).1 h1) ((hb2 b).1 h2),fun b h1 h2=>hS.d13 b ((hb1 b).1 h1) ((hb3 b).1 h2),fun b h1 h2=>hS.d23 b ((hb2 b).1 h1) ((hb3 b).1 h2)⟩,fun b=>by rw [hF b,hb1 b,hb2 b,hb3 b]⟩,E.mono (fun i _ h=>(hF i).2 (.inl h))⟩
 ·have:=R1.ext E (fun b hb e=>hS.n1 ((hb1 _).1 (e▸hb)))
  rw [List.map_take];simpa using this
 ·have:=R2.ext (X2.trans X3) (fun b hb e=>hS.n2 ((hb2 _).1 (e▸hb)))
  rw [List.map_take];simpa using this
 ·have:=R3.ext X3 (fun b hb e=>hS.n3 ((hb3 _).1 (e▸hb)))
  rw [List.map_take];simpa using this
theorem c_ref05_made {S : NP} (p : Addr) (t : Sp.Tree) : ∀ (s : Sl) (w0 : World) (L : Sp.Pool) (F : NP), Sp.Tree.two t → TreeAt S w0 s t → PoolR w0 p L F → Sp.Ok L → (∀ b, F b → ¬ S b) → (∀ b, S b → b < w0.heap.size) →
  Calls Tryz.prog 72 #[.pointer (some p),.agg (trow t s).toArray] w0
   (fun e w'=>∃r1:Int,∃r2:Int,e=.returned (.tuple #[.int .i64 r1,.int .i64 r2])∧((r1,r2)=((Sp.grow L t).1,(Sp.grow L t).2.1)∧∃F',PoolR w' p (Sp.grow L t).2.2 F'∧Ext F w0 w'∧∀b,F' b→F b∨w0.heap.size≤b)):=by
 induction t using Sp.Tree.ind with
 | h k f t u x ks ih =>
 intro s w0 L F h2 hT hP hok hFS hSw
 suffices key:∀K:Int→Int→WP,(∀r1 r2 w',((r1,r2)=((Sp.grow L (.mk k f t u x ks)).1,(Sp.grow L (.mk k f t u x ks)).2.1)∧∃F',PoolR w' p (Sp.grow L (.mk k f t u x ks)).2.2 F'∧Ext F w0 w'∧∀b,F' b→F b∨w0.heap.size≤b)→K r1 r2 w')→m_C1 (some p) k f t u x s w0 K from
  w_C1 _ _ _ _ _ _ _ w0 _ (key _ (fun _ _ _ h=>h))
 intro K hK
 obtain ⟨hk2,hall⟩:=two_mk.1 h2
 have hsp:Sp.grow L (.mk k f t u x ks)=Sp.growAll ⟨k,f,t,u,x,0,0⟩ 0 L ks:=by rw [Sp.grow]
 rw [hsp] at hK
 have hlen:s.len=ks.length:=by cases hT;assumption
 unfold m_C1
 intro H2 w4 hs4
 refine ⟨fun i a1 a2 a3 a4 a5 a6 a7 H w'=>∃j:Nat,i=j∧j≤ks.length∧∃(L':Sp.Pool) (F':NP),Sp.growAll ⟨k,f,t,u,x,0,0⟩ 0 L ks=Sp.growAll ⟨a1,a2,a3,a4,a5,a6,a7⟩ j L' (ks.drop j)∧Sp.Ok L'∧PoolR w' p L' F'∧(∀b,F' b→F b∨w0.heap.size≤b)∧(∀b,F' b→¬ H b)∧Ext F w0 w',fun i _ _ _ _ _ _ _ _=>((ks.length:Int) - i).toNat,
  ⟨0,rfl,Nat.zero_le _,L,F,by simp,hok,hP.pure hs4.first,fun b h=>.inl h,hs4.disj0 (fun b hb=>hP.lt hb),hs4.first.pure⟩,?_⟩
 rintro _ a1 a2 a3 a4 a5 a6 a7 Hl wl hl ⟨j,rfl,hj,L',F',heq,hok',hPl,hF',hv,El⟩
 unfold m_C1_l1
 refine ⟨fun h=>?_,fun h=>?_⟩
 ·have hlt:=lt_of_dec hlen h
  have hTl:TreeAt S wl s (.mk k f t u x ks):=hT.ext El (fun b hs hf=>hFS b hf hs)
  have hkid:∃a r,At s j 6 a∧Row wl a (trow ks[j] r)∧TreeAt S wl r ks[j]:=by
   cases hTl with
   | mk _ _ _ _ _ _ _ rs len fit row kid=>exact let ⟨a,h1,_,h3⟩:=row j hlt;⟨a,rs j,h1,h3,kid j hlt⟩
  obtain ⟨a,r,hat,hrow,hTk⟩:=hkid
  refine ⟨a,hat,_,_,_,_,_,r,hrow,?_⟩
  have hsz:w0.heap.size≤wl.heap.size:=El.size
  refine (ih j hlt r wl L' F' (twoAll_get hall hlt) hTk hPl hok' (fun b hb hs=>(hF' b hb).elim (fun h=>hFS b h hs) (fun h=>by have:=hSw b hs;omega)) (fun b hs=>by have:=hSw b hs;omega)).mono ?_
  rintro _ w8 ⟨r1,r2,rfl,hr,F8,hP8,E8,hF8⟩
  have e1:r1=(Sp.grow L' ks[j]).1:=congrArg Prod.fst hr
  have e2:r2=(Sp.grow L' ks[j]).2.1:=congrArg Prod.snd hr
  rw [List.drop_eq_getElem_cons hlt] at heq
  have hF8':∀b,F8 b→F b∨w0.heap.size≤b:=fun b hb=>(hF8 b hb).elim (hF' b) (fun h=>by right;omega)
  have Ew8:Ext F w0 w8:=El.trans' E8 (fun i hi h=>(hF' i h).elim id (fun h=>by omega))
  refine ⟨_,_,rfl,E8.kept (fun b hH hF=>hv b hF hH),fun h=>?_,fun h=>?_⟩
  ·have h:(Sp.grow L' ks[j]).2.1≠0:=by rw [← e2];simpa using h
   rw [growAll_bad h] at heq
   refine hK _ _ _ ?_
   rw [heq];exact ⟨by rw [e2],F8,hP8,Ew8,hF8'⟩
  ·have h:(Sp.grow L' ks[j]).2.1=0:=by rw [← e2];simpa using h
   rw [growAll_good h] at heq
   intro H3 w9 hs9
   have hv8:∀b,F8 b→¬ Hl b:=fun b hb hH=>(hF8 b hb).elim (fun h=>hv b h hH) (fun h=>by have:=hl.lt b hH;omega)
   have hv9:∀b,F8 b→¬ H3 b:=hs9.disj (fun b hb=>⟨hP8.lt hb,hv8 b hb⟩)
   rw [wrap_succ hlt (by omega)]
   refine ⟨⟨j+1,rfl,hlt,_,F8,?_,(Sp.grow_facts ks[j] L' hok').1,hP8.ext hs9.ext hv9,hF8',hv9,Ew8.hst hs9⟩,lt_dec hlt⟩
   rw [heq,e1]
   have hj0:(((j:Int)) == 0)=decide (j=0):=by rw [Bool.eq_iff_iff];simp
   rw [hj0]
   by_cases hj0':j=0
   ·subst hj0';rfl
   ·simp [hj0']
 ·have hge:=eq_of_dec hlen hj h
  rw [hge,List.drop_length,Sp.growAll] at heq
  refine (c_ref05_Make p ⟨a1,a2,a3,a4,a5,a6,a7⟩ wl hPl hok').mono ?_
  rintro _ w9 ⟨r1,r2,rfl,hr,F9,hP9,E9,hF9⟩
  have hsz:w0.heap.size≤wl.heap.size:=El.size
  refine ⟨_,_,rfl,E9.kept (fun b hH hF=>hv b hF hH),hK _ _ _ ?_⟩
  rw [heq]
  exact ⟨hr,F9,hP9,El.trans' E9 (fun i hi h=>(hF' i h).elim id (fun h=>by omega)),fun b hb=>(hF9 b hb).elim (hF' b) (fun h=>by right;omega)⟩
theorem grow_bad_term (t:Sp.Tree):∀L,(Sp.grow L t).2.1≠0→(Sp.grow L t).1=0:=by
 induction t using Sp.Tree.ind with
 | h k f t u x ks ih =>
  have hmk:∀L n,(Sp.make L n).2.1≠0→(Sp.make L n).1=0:=by
   intro L n h
   unfold Sp.make at h ⊢
   simp only at h ⊢
   split at h
   ·rename_i h1;rw [if_pos h1]
   ·rename_i h1
    rw [if_neg h1]
    split at h
    ·rename_i hf;exact absurd rfl h
    ·split at h
     ·rename_i h2;simp [h2]
     ·exact absurd rfl h
  have:∀(ks:List Sp.Tree),(∀i (hi:i<ks.length),∀L,(Sp.grow L ks[i]).2.1≠0→(Sp.grow L ks[i]).1=0)→∀n i L,(Sp.growAll n i L ks).2.1≠0→(Sp.growAll n i L ks).1=0:=by
   intro ks
   induction ks with
   | nil=>intro _ n i L h;unfold Sp.growAll at h ⊢;exact hmk L n h
   | cons t ts iht =>
    intro hh n i L h
    unfold Sp.growAll at h ⊢
    split at h
    ·rename_i h1;rw [if_pos h1]
    ·rename_i h1;rw [if_neg h1];exact iht (fun i hi=>hh (i+1) (by simpa using hi)) _ _ _ h
  intro L h
  unfold Sp.grow at h ⊢
  exact this ks ih _ _ L h
theorem c_ref05_Of {S : NP} (p : Addr) (t : Sp.Tree) (s : Sl) (w0 : World) {L : Sp.Pool} {F : NP} (hT : TreeAt S w0 s t) (hP : PoolR w0 p L F) (hok : Sp.Ok L) (hFS : ∀ b, F b → ¬ S b) (hSw : ∀ b, S b → b < w0.heap.size) :
  Calls Tryz.prog 34 #[.pointer (some p),.agg (trow t s).toArray] w0
   (fun e w'=>∃r1:Int,∃r2:Int,e=.returned (.tuple #[.int .i64 r1,.int .i64 r2])∧((r1,r2)=((Sp.of L t).1,(Sp.of L t).2.1)∧∃F',PoolR w' p (Sp.of L t).2.2 F'∧Ext F w0 w'∧∀b,F' b→F b∨w0.heap.size≤b)):=by
 obtain ⟨k,f,to,u,x,ks⟩:=t
 suffices key:∀K:Int→Int→WP,(∀r1 r2 w',((r1,r2)=((Sp.of L (.mk k f to u x ks)).1,(Sp.of L (.mk k f to u x ks)).2.1)∧∃F',PoolR w' p (Sp.of L (.mk k f to u x ks)).2.2 F'∧Ext F w0 w'∧∀b,F' b→F b∨w0.heap.size≤b)→K r1 r2 w')→m_U1 (some p) k f to u x s w0 K from
  w_U1 _ _ _ _ _ _ _ w0 _ (key _ (fun _ _ _ h=>h))
 intro K hK
 unfold m_U1
 intro H1 w1 hs1
 have E1:=hs1.first
 generalize ht:Sp.Tree.mk k f to u x ks=t at *
 have htr:(Value.agg #[.int .i64 k,.int .i64 f,.int .i64 to,.int .u64 u,.string x,s.v])=.agg (trow t s).toArray:=by rw [← ht];rfl
 rw [htr]
 refine (c_ref05_Looks t s w1 (hT.pure E1) (fun b hb=>by have:=hSw b hb;have:=E1.size;omega)).mono ?_
 rintro _ w2 ⟨r1,rfl,rfl,E2⟩
 have E12:=E1.trans E2
 refine ⟨_,rfl,E2.keptP,fun h=>?_,fun h=>?_⟩
 ·have h:(Sp.looks 0 0 t).1≠0:=by simpa using h
  have:Sp.of L t=(0,(Sp.looks 0 0 t).1,L):=by rw [Sp.of,if_pos h]
  refine hK _ _ _ ?_
  rw [this];exact ⟨rfl,F,hP.pure E12,E12.pure,fun _ h=>.inl h⟩
 ·have h:(Sp.looks 0 0 t).1=0:=by simpa using h
  have hP2:=hP.pure E12
  have hv:∀b,F b→¬ H1 b:=hs1.disj0 (fun b hb=>hP.lt hb)
  obtain ⟨s1,s2,s3,hS,hF0⟩:=id hP2
  have hl0:s1.len=L.length:=by rw [hS.r1.len];simp
  refine ⟨p,rfl,s1,hS.box.cell0,?_⟩
  refine (c_ref05_made p t s w2 L F (looks_two t _ _ h) (hT.pure E12) hP2 hok hFS (fun b hb=>by have:=hSw b hb;have:=E12.size;omega)).mono ?_
  rintro _ w5 ⟨r1,r2,rfl,hr,F5,hP5,E5,hF5⟩
  have e1:r1=(Sp.grow L t).1:=congrArg Prod.fst hr
  have e2:r2=(Sp.grow L t).2.1:=congrArg Prod.snd hr
  have hs4:w0.heap.size≤w2.heap.size:=E12.size
  have E05:Ext F w0 w5:=E12.pure.trans E5
  have hF5':∀b,F5 b→F b∨w0.heap.size≤b:=fun b hb=>(hF5 b hb).elim .inl (fun h=>.inr (by omega))
  have hs2:=hs1.again E2.keptP
  have hv5:∀b,F5 b→¬ H1 b:=fun b hb hH=>(hF5 b hb).elim (fun h=>hv b h hH) (fun h=>by have:=hs2.lt b hH;omega)
  refine ⟨_,_,rfl,E5.kept (fun b hH hF=>hv b hF hH),fun h'=>?_,fun h'=>?_⟩
  ·have h':(Sp.grow L t).2.1≠0:=by rw [← e2];simpa using h'
   obtain ⟨hok5,M,hM⟩:=Sp.grow_facts t L hok
   rw [hl0]
   refine (c_ref05_cut p L.length w5 hP5 (by rw [hM];simp)).mono ?_
   rintro _ w6 ⟨rfl,hP6,E6⟩
   have:Sp.of L t=(0,(Sp.grow L t).2.1,L):=by rw [Sp.of,if_neg (by simp [h]),if_pos h']
   refine ⟨rfl,E6.kept (fun b hH hF=>hv5 b hF hH),hK _ _ _ ?_⟩
   rw [this]
   rw [hM,List.take_left] at hP6
   exact ⟨by rw [e1,e2,grow_bad_term t L h'],F5,hP6,E05.trans' E6 (fun i hi h=>(hF5' i h).elim id (fun h=>by omega)),hF5'⟩
  ·have h':(Sp.grow L t).2.1=0:=by rw [← e2];simpa using h'
   have:Sp.of L t=((Sp.grow L t).1,0,(Sp.grow L t).2.2):=by rw [Sp.of,if_neg (by simp [h]),if_neg (by simp [h'])]
   refine hK _ _ _ ?_
   rw [this]
   exact ⟨by rw [e1,e2,h'],F5,hP5,E05,hF5'⟩
end Go.Proofs
end
section
namespace Go.Sp
theorem find_some {L:Pool} {n:Node} {i:Nat} (h:find L n=some i):∃hi:i<L.length,L[i].node=n:=by
 unfold find at h
 rw [List.findIdx?_eq_some_iff_getElem] at h
 obtain ⟨hi,h1,_⟩:=h
 exact ⟨hi,by simpa using h1⟩
theorem make_node {L:Pool} {n:Node} (h:(make L n).2.1=0):inP (make L n).2.2 (make L n).1=true∧nodeOf (make L n).2.2 (make L n).1=n∧(check L n).2.2=0:=by
 unfold make at h ⊢
 simp only at h ⊢
 by_cases hc:(check L n).2.2≠0
 ·rw [if_pos hc] at h;exact absurd h hc
 ·rw [if_neg hc] at h ⊢
  have hc:(check L n).2.2=0:=by simpa using hc
  cases hf:find L n with
  | some i =>
   obtain ⟨hi,hn⟩:=find_some hf
   simp only
   exact ⟨inP_iff.2 ⟨by omega,by omega⟩,by rw [nodeOf_lt hi,hn],hc⟩
  | none =>
   rw [hf] at h
   simp only at h ⊢
   split at h
   ·simp at h
   ·rename_i hl
    rw [if_neg hl]
    simp only
    have hi:L.length<(L++[(⟨n,(check L n).1,(check L n).2.1⟩:Ent)]).length:=by simp
    refine ⟨inP_iff.2 ⟨by omega,by simp⟩,?_,hc⟩
    rw [nodeOf_lt hi]
    simp
theorem make_app (L:Pool) (n:Node):∃M,(make L n).2.2=L++M:=make_grows L n
theorem kidsOf_len (n:Node):(kidsOf n).length=(shapeOf n.kind).kids.toNat:=by
 unfold kidsOf
 rcases kids_le n.kind with h | h | h <;> simp [h]
inductive Good:Tree→Prop
 | mk (k f t u:Int) (x:ByteArray) (ks:List Tree) (own:ownErr ⟨k,f,t,u,x,0,0⟩ ks.length=0) (kids:∀i (hi:i<ks.length),Good ks[i]):Good (.mk k f t u x ks)
theorem treeOf_inj {L:Pool} (hW:Wf L):∀(n:Nat) (s t:Int),s.toNat+t.toNat=n→inP L s=true→inP L t=true→treeOf L s=treeOf L t→s=t:=by
 intro n
 induction n using Nat.strongRecOn with
 | _ n ih =>
  intro s t hn hs ht he
  rw [treeOf_in hW hs,treeOf_in hW ht] at he
  injection he with e1 e2 e3 e4 e5 e6
  obtain ⟨i,hi,rfl⟩:=inP_at hs
  obtain ⟨j,hj,rfl⟩:=inP_at ht
  have hki:=(hW.node hs)
  have hkj:=(hW.node ht)
  rw [nodeOf_lt hi] at e1 e2 e3 e4 e5 e6 hki
  rw [nodeOf_lt hj] at e1 e2 e3 e4 e5 e6 hkj
  generalize hni:L[i].node=ni at *
  generalize hnj:L[j].node=nj at *
  have hsame:∀a∈kidsOf ni,∀b∈kidsOf nj,treeOf L a=treeOf L b→a=b:=by
   intro a ha b hb hab
   have h1:=hki.2.2.2.2.1 a ha
   have h2:=hkj.2.2.2.2.1 b hb
   have p1:=inP_iff.1 h1.1
   have p2:=inP_iff.1 h2.1
   exact ih (a.toNat+b.toNat) (by omega) a b rfl h1.1 h2.1 hab
  have hab:ni.a=nj.a∧ni.b=nj.b:=by
   have z1:=hki.2.1;have z2:=hki.2.2.1;have z3:=hkj.2.1;have z4:=hkj.2.2.1
   unfold kidsOf at e6 hsame
   rw [← e1] at e6 hsame z3 z4
   rcases kids_le ni.kind with h | h | h <;> rw [h] at e6 hsame z1 z2 z3 z4
   ·exact ⟨by rw [z1 (by omega),z3 (by omega)],by rw [z2 (by omega),z4 (by omega)]⟩
   ·simp at e6 hsame
    exact ⟨hsame e6,by rw [z2 (by omega),z4 (by omega)]⟩
   ·simp at e6 hsame
    exact ⟨hsame.1.1 e6.1,hsame.2.2 e6.2⟩
  have hnn:L[i].node=L[j].node:=by
   rw [hni,hnj]
   obtain ⟨_,_,_,_,_,_,_⟩:=ni;obtain ⟨_,_,_,_,_,_,_⟩:=nj
   simp at e1 e2 e3 e4 e5 hab
   simp [e1,e2,e3,e4,e5,hab]
  have:=List.pairwise_iff_getElem.1 hW.ok.nodup
  have hij:i=j:=by
   rcases Nat.lt_trichotomy i j with h | h | h
   ·exact absurd (by rw [List.getElem_map,List.getElem_map];exact hnn) (this i j (by simpa using hi) (by simpa using hj) h)
   ·exact h
   ·exact absurd (by rw [List.getElem_map,List.getElem_map];exact hnn.symm) (this j i (by simpa using hj) (by simpa using hi) h)
  rw [hij]
end Go.Sp
end
section
namespace Go.Sp
mutual
def cnt:Tree→Nat
 | .mk _ _ _ _ _ ks=>1+cntAll ks
def cntAll:List Tree→Nat
 | []=>0
 | t :: ts=>cnt t+cntAll ts
end
theorem cnt_pos (t:Tree):1≤cnt t:=by cases t;simp [cnt]
theorem cntAll_len:∀ks:List Tree,ks.length≤cntAll ks
 | []=>by simp
 | t :: ts=>by have:=cnt_pos t;have:=cntAll_len ts;simp only [cntAll,List.length_cons];omega
theorem cntAll_get:∀{ks:List Tree} {i:Nat} (hi:i<ks.length),cnt ks[i]≤cntAll ks
 | t :: ts,0,_=>by simp [cntAll]
 | t :: ts,i+1,hi=>by
  have:=cntAll_get (ks:=ts) (i:=i) (by simpa using hi)
  simp only [cntAll,List.getElem_cons_succ];omega
mutual
def parts (most:Int):Tree→Int
 | .mk _ _ _ _ _ ks=>partsAll most 1 ks
def partsAll (most n:Int):List Tree→Int
 | []=>n
 | t :: ts=>if n≤most then partsAll most (n+parts (most - n) t) ts else n
end
theorem parts_facts (t:Tree):∀most:Int,0≤most→1≤parts most t∧parts most t≤most+1∧(parts most t≤most→(cnt t:Int)=parts most t):=by
 induction t using Tree.ind with
 | h k f tt u x ks ih =>
  have hA : ∀ (ks : List Tree), (∀ i (hi : i < ks.length), ∀ most : Int, 0 ≤ most → 1 ≤ parts most ks[i] ∧ parts most ks[i] ≤ most + 1 ∧ (parts most ks[i] ≤ most → (cnt ks[i] : Int) = parts most ks[i])) →
    ∀most n:Int,1≤n→n≤most+1→n≤partsAll most n ks∧partsAll most n ks≤most+1∧(partsAll most n ks≤most→n+(cntAll ks:Int)=partsAll most n ks):=by
   intro ks
   induction ks with
   | nil=>intro _ most n h1 h2;simp [partsAll,cntAll,h2]
   | cons t ts iht =>
    intro hh most n h1 h2
    unfold partsAll
    by_cases hn:n≤most
    ·rw [if_pos hn]
     have h0:=hh 0 (by simp) (most - n) (by omega)
     simp only [List.getElem_cons_zero] at h0
     have h3:=iht (fun i hi=>hh (i+1) (by simpa using hi)) most (n+parts (most - n) t) (by omega) (by omega)
     refine ⟨by omega,h3.2.1,fun h=>?_⟩
     have h4:=h3.2.2 h
     have h5:=h0.2.2 (by omega)
     simp only [cntAll];omega
    ·rw [if_neg hn];exact ⟨Int.le_refl _,h2,fun h=>absurd h hn⟩
  intro most hm
  have:=hA ks ih most 1 (by omega) (by omega)
  simp only [parts,cnt]
  refine ⟨this.1,this.2.1,fun h=>?_⟩
  have:=this.2.2 h
  omega
mutual
def same:Tree→Tree→Bool
 | .mk k f t u x ks,.mk k' f' t' u' x' ks'=>decide (k=k') && decide (f=f') && decide (t=t') && decide (u=u') && decide (x=x') && sameAll ks ks'
def sameAll:List Tree→List Tree→Bool
 | [],[]=>true
 | t :: ts,t' :: ts'=>same t t' && sameAll ts ts'
 | _,_=>false
end
theorem same_iff (a:Tree):∀b,same a b=true↔a=b:=by
 induction a using Tree.ind with
 | h k f t u x ks ih =>
  have hA:∀(ks:List Tree),(∀i (hi:i<ks.length),∀b,same ks[i] b=true↔ks[i]=b)→∀ks',sameAll ks ks'=true↔ks=ks':=by
   intro ks
   induction ks with
   | nil=>intro _ ks';cases ks' <;> simp [sameAll]
   | cons t ts iht =>
    intro hh ks'
    cases ks' with
    | nil=>simp [sameAll]
    | cons t' ts' =>
     have h0:=hh 0 (by simp) t'
     simp only [List.getElem_cons_zero] at h0
     simp only [sameAll,Bool.and_eq_true,h0,iht (fun i hi=>hh (i+1) (by simpa using hi)) ts',List.cons.injEq]
  intro b
  obtain ⟨k',f',t',u',x',ks'⟩:=b
  simp only [same,Bool.and_eq_true,decide_eq_true_eq,hA ks ih ks',Tree.mk.injEq]
  constructor
  ·rintro ⟨⟨⟨⟨⟨h1,h2⟩,h3⟩,h4⟩,h5⟩,h6⟩;exact ⟨h1,h2,h3,h4,h5,h6⟩
  ·rintro ⟨h1,h2,h3,h4,h5,h6⟩;exact ⟨⟨⟨⟨⟨h1,h2⟩,h3⟩,h4⟩,h5⟩,h6⟩
end Go.Sp
end
section
open Go Go.SE
namespace Go.Proofs
attribute [local irreducible] Calls
theorem TreeAt.hst {S:NP} {w0 w w':World} {H H':NP} {s:Sl} {t:Sp.Tree} (h:TreeAt S w s t) (hs:Hst w0 H w H' w') (hd:∀b,S b→b<w.heap.size∧¬ H b):TreeAt S w' s t :=
 h.ext hs.ext (fun b hb hh=>hs.disj (G:=S) hd b hb hh)
theorem c_ref05_Parts {S : NP} (t : Sp.Tree) : ∀ (s : Sl) (most : Int) (w0 : World), 0 ≤ most → most ≤ 1000000000 → TreeAt S w0 s t → (∀ b, S b → b < w0.heap.size) →
  Calls Tryz.prog 26 #[.agg (trow t s).toArray,.int .i64 most] w0 (fun e w'=>∃r:Int,e=.returned (.int .i64 r)∧(r=Sp.parts most t∧Pure w0 w')):=by
 induction t using Sp.Tree.ind with
 | h k f t u x ks ih =>
 intro s most w0 hm0 hm hT hSw
 suffices key:∀K:Int→WP,(∀r w',(r=Sp.parts most (.mk k f t u x ks)∧Pure w0 w')→K r w')→m_Z k f t u x s most w0 K from
  w_Z _ _ _ _ _ _ _ w0 _ (key _ (fun _ _ h=>h))
 intro K hK
 have hlen:s.len=ks.length:=by cases hT;assumption
 have hfit:ks.length≤9223372036854775807:=by cases hT;assumption
 unfold m_Z
 intro H1 w1 hs1
 refine ⟨fun n i H w'=>∃j:Nat,i=j∧j≤ks.length∧1≤n∧n≤most+1∧Pure w0 w'∧Sp.partsAll most 1 ks=Sp.partsAll most n (ks.drop j),fun _ i _=>((ks.length:Int) - i).toNat,⟨0,rfl,Nat.zero_le _,Int.le_refl _,by omega,hs1.first,rfl⟩,?_⟩
 rintro n _ Hl wl hl ⟨j,rfl,hj,hn1,hn2,El,heq⟩
 unfold m_Z_l1
 refine ⟨fun hc=>?_,fun hc=>?_⟩
 ·simp only [Bool.and_eq_true,decide_eq_true_eq] at hc
  have hlt:j<ks.length:=by omega
  rw [List.drop_eq_getElem_cons hlt,Sp.partsAll,if_pos hc.2] at heq
  have hT1:=hT.pure El
  cases hT1 with
  | mk _ _ _ _ _ _ _ rs len fit row kid =>
  obtain ⟨a,hat,ha,hr⟩:=row j hlt
  refine ⟨a,hat,?_⟩
  intro H2 w2 hs2
  have hd:∀b,S b→¬ H2 b:=fun b hb hh=>by have:=hs2.old _ hh;have:=hSw b hb;omega
  refine ⟨_,_,_,_,_,rs j,hs2.ext.row hr (hd _ ha),?_⟩
  rw [i64 (n:=most - n) (by omega) (by omega)]
  refine (ih j hlt (rs j) (most - n) w2 (by omega) (by omega) ((kid j hlt).ext hs2.ext hd) (fun b hb=>by have:=hSw b hb;have:=(El.hst hs2).size;omega)).mono ?_
  rintro _ w3 ⟨r,rfl,rfl,E3⟩
  have hpf:=Sp.parts_facts ks[j] (most - n) (by omega)
  refine ⟨_,rfl,E3.keptP,?_⟩
  rw [wrap_succ hlt (by omega),i64 (n:=n+Sp.parts (most - n) ks[j]) (by omega) (by omega)]
  exact ⟨⟨j+1,rfl,hlt,by omega,by omega,(El.hst hs2).trans E3,heq⟩,lt_dec hlt⟩
 ·intro H2 w2 hs2
  refine hK _ _ ⟨?_,El.hst hs2⟩
  rw [Sp.parts,heq]
  by_cases hj2:j=ks.length
  ·rw [hj2,List.drop_length];rfl
  ·have hlt:j<ks.length:=by omega
   rw [List.drop_eq_getElem_cons hlt,Sp.partsAll,if_neg]
   intro h
   have:decide (n≤most)=true:=decide_eq_true h
   have h2:decide ((j:Int)<(s.len:Int))=true:=decide_eq_true (by omega)
   rw [this,h2] at hc;cases hc
theorem sameAll_drop {xs ys:List Sp.Tree} {j:Nat} (hl:xs.length=ys.length) (hj:j<xs.length):Sp.sameAll (xs.drop j) (ys.drop j)=(Sp.same xs[j] (ys[j]'(by omega)) && Sp.sameAll (xs.drop (j+1)) (ys.drop (j+1))):=by
 rw [List.drop_eq_getElem_cons hj,List.drop_eq_getElem_cons (show j<ys.length by omega),Sp.sameAll]
theorem sameAll_len:∀{xs ys:List Sp.Tree},Sp.sameAll xs ys=true→xs.length=ys.length
 | [],[],_=>rfl
 | a :: xs,b :: ys,h=>by simp only [Sp.sameAll,Bool.and_eq_true] at h;simp [sameAll_len h.2]
 | [],b :: ys,h=>by simp [Sp.sameAll] at h
 | a :: xs,[],h=>by simp [Sp.sameAll] at h
theorem c_ref05_Same {S : NP} (t : Sp.Tree) : ∀ (t' : Sp.Tree) (s s' : Sl) (w0 : World), TreeAt S w0 s t → TreeAt S w0 s' t' → (∀ b, S b → b < w0.heap.size) →
  Calls Tryz.prog 14 #[.agg (trow t s).toArray,.agg (trow t' s').toArray] w0 (fun e w'=>∃r:Bool,e=.returned (.bool r)∧(r=Sp.same t t'∧Pure w0 w')):=by
 induction t using Sp.Tree.ind with
 | h k f t u x ks ih =>
 intro t' s s' w0 hT hT' hSw
 obtain ⟨k',f',tt',u',x',ks'⟩:=t'
 suffices key:∀K:Bool→WP,(∀r w',(r=Sp.same (.mk k f t u x ks) (.mk k' f' tt' u' x' ks')∧Pure w0 w')→K r w')→m_Y k f t u x s k' f' tt' u' x' s' w0 K from
  w_Y _ _ _ _ _ _ _ _ _ _ _ _ w0 _ (key _ (fun _ _ h=>h))
 intro K hK
 have hlen:s.len=ks.length:=by cases hT;assumption
 have hlen':s'.len=ks'.length:=by cases hT';assumption
 have hfit:ks.length≤9223372036854775807:=by cases hT;assumption
 unfold m_Y
 rintro y1 rfl
 refine ⟨fun h=>?_,fun h=>?_⟩
 ·intro H7 w7 hs7
  refine hK _ _ ⟨?_,hs7.first⟩
  symm
  apply Bool.eq_false_iff.2
  intro hs
  simp only [Sp.same,Bool.and_eq_true,decide_eq_true_eq] at hs
  obtain ⟨⟨⟨⟨⟨rfl,rfl⟩,rfl⟩,rfl⟩,rfl⟩,h6⟩:=hs
  have:=sameAll_len h6
  simp [hlen,hlen',this] at h
 ·have hne : k = k' ∧ f = f' ∧ t = tt' ∧ u = u' ∧ x = x' ∧ ks.length = ks'.length := by
   simp only [Bool.or_eq_false_iff,bne_eq_false_iff_eq,Bool.not_eq_false',decide_eq_true_eq] at h
   obtain ⟨⟨⟨⟨⟨h1,h2⟩,h3⟩,h4⟩,h5⟩,h6⟩:=h
   exact ⟨h1,h2,h3,h4,h5,by omega⟩
  obtain ⟨rfl,rfl,rfl,rfl,rfl,hll⟩:=hne
  have hsp:Sp.same (.mk k f t u x ks) (.mk k f t u x ks')=Sp.sameAll ks ks':=by simp [Sp.same]
  rw [hsp] at hK
  intro H7 w7 hs7
  refine ⟨fun i H w'=>∃j:Nat,i=j∧j≤ks.length∧Pure w0 w'∧Sp.sameAll ks ks'=Sp.sameAll (ks.drop j) (ks'.drop j),fun i _=>((ks.length:Int) - i).toNat,⟨0,rfl,Nat.zero_le _,hs7.first,rfl⟩,?_⟩
  rintro _ Hl wl hl ⟨j,rfl,hj,El,heq⟩
  unfold m_Y_l1
  refine ⟨fun hc=>?_,fun hc=>?_⟩
  ·have hlt:=lt_of_dec hlen hc
   have hlt':j<ks'.length:=by omega
   rw [sameAll_drop hll hlt] at heq
   have g1:∃a r,At s j 6 a∧S a.block∧(∀w',Pure w0 w'→Row w' a (trow ks[j] r))∧TreeAt S w0 r ks[j]:=by
    cases hT with
    | mk _ _ _ _ _ _ _ rs len fit row kid=>obtain ⟨a,h1,h2,h3⟩:=row j hlt;exact ⟨a,rs j,h1,h2,fun w' E=>E.row h3 id,kid j hlt⟩
   have g2:∃a r,At s' j 6 a∧S a.block∧(∀w',Pure w0 w'→Row w' a (trow ks'[j] r))∧TreeAt S w0 r ks'[j]:=by
    cases hT' with
    | mk _ _ _ _ _ _ _ rs len fit row kid=>obtain ⟨a,h1,h2,h3⟩:=row j hlt';exact ⟨a,rs j,h1,h2,fun w' E=>E.row h3 id,kid j hlt'⟩
   obtain ⟨a,r,hat,_,hr,hk⟩:=g1
   obtain ⟨a',r',hat',_,hr',hk'⟩:=g2
   refine ⟨fun w'=>Pure w0 w',El.trans (Ext.drew wl),?_⟩
   rintro _ rfl
   have Ed:=El.trans (Ext.drew wl)
   refine ⟨a,hat,_,_,_,_,_,r,fun w' h=>hr w' h,a',hat',_,_,_,_,_,r',fun w' h=>hr' w' h,?_⟩
   refine (ih j hlt ks'[j] r r' wl.drew (hk.pure Ed) (hk'.pure Ed) (fun b hb=>by have:=hSw b hb;have:=Ed.size;omega)).mono ?_
   rintro _ w13 ⟨q,rfl,rfl,E13⟩
   refine ⟨_,rfl,Ed.trans E13,E13.keptP,fun h=>?_,fun h=>?_⟩
   ·have h:Sp.same ks[j] ks'[j]=false:=by simpa using h
    exact hK _ _ ⟨by rw [heq,h];rfl,Ed.trans E13⟩
   ·have h:Sp.same ks[j] ks'[j]=true:=by simpa using h
    rw [h,Bool.true_and] at heq
    rw [wrap_succ hlt (by omega)]
    exact ⟨⟨j+1,rfl,hlt,Ed.trans E13,heq⟩,lt_dec hlt⟩
  ·have hge:=eq_of_dec hlen hj hc
   subst hge
   rw [List.drop_length,hll,List.drop_length] at heq
   exact hK _ _ ⟨heq.symm,El⟩
end Go.Proofs
end
section
open Go Go.SE
namespace Go.Proofs
attribute [local irreducible] wpL wpX opE wpE Calls
end Go.Proofs
end
section
open Go Go.SE
namespace Go.Sp
end Go.Sp
namespace Go.Proofs
attribute [local irreducible] Calls
theorem TreeAt.leaf {S:NP} {w:World} {k f t u:Int} {x:ByteArray}:TreeAt S w Sl.nil (.mk k f t u x []) :=
 .mk k f t u x [] Sl.nil (fun _=>Sl.nil) rfl (by simp) (fun i h=>by simp at h) (fun i h=>by simp at h)
theorem TreeAt.one {S:NP} {w:World} {k f t u:Int} {x:ByteArray} {p:Addr} {A:Sp.Tree} {sa:Sl} {T:TypeId} (hB:Box w p (trow A sa) T) (hS:S p.block) (hA:TreeAt S w sa A):TreeAt S w ⟨some p,1,1⟩ (.mk k f t u x [A]):=by
 refine .mk k f t u x [A] _ (fun _=>sa) rfl (by simp) (fun i h=>?_) (fun i h=>?_)
 ·have:i=0:=by simpa using h
  subst this
  exact ⟨p,⟨by omega,by simp,p,rfl,rfl⟩,hS,hB.row⟩
 ·have:i=0:=by simpa using h
  subst this
  exact hA
theorem TreeAt.pair {S:NP} {w:World} {k f t u:Int} {x:ByteArray} {p:Addr} {A B:Sp.Tree} {sa sb:Sl} {T:TypeId} (hB:Box w p (trow A sa++trow B sb) T) (hS:S p.block) (hA:TreeAt S w sa A) (hB2:TreeAt S w sb B):TreeAt S w ⟨some p,2,2⟩ (.mk k f t u x [A,B]):=by
 refine .mk k f t u x [A,B] _ (fun i=>if i=0 then sa else sb) rfl (by simp) (fun i h=>?_) (fun i h=>?_)
 ·have:i=0∨i=1:=by simp at h;omega
  rcases this with rfl | rfl
  ·refine ⟨p,⟨by omega,by simp,p,rfl,rfl⟩,hS,fun i hi=>?_⟩
   have:=hB.row i (by simp [trow] at hi ⊢;omega)
   have hi':i<6:=by simpa [trow] using hi
   rw [this];exact List.getElem?_append_left (by simp [trow];omega)
  ·refine ⟨p.add (1*6),⟨by omega,by simp,p,rfl,rfl⟩,by rw [add_block];exact hS,fun i hi=>?_⟩
   have hi':i<6:=by simpa [trow] using hi
   have:=hB.row (6+i) (by simp [trow];omega)
   rw [add_add,this,List.getElem?_append_right (by simp [trow])]
   simp [trow]
 ·have:i=0∨i=1:=by simp at h;omega
  rcases this with rfl | rfl
  ·exact hA
  ·exact hB2
abbrev RetT (n0:Nat) (w:World) (T:Sp.Tree) (e:Ending) (w':World):Prop:=∃s,e=.returned (.agg (trow T s).toArray)∧TreeAt (n0≤·) w' s T∧Pure w w'
end Go.Proofs
end
section
open Go Go.SE
namespace Go.Proofs
attribute [local irreducible] Calls
theorem slT_tree:SlType Tryz.prog 22 49 6 72:=by
 refine ⟨Tryz.underlying22,⟨Tryz.t49,_,by kernel_rfl,(by kernel_rfl:Tryz.t49.zero=some (.agg #[.int .i64 0,.int .i64 0,.int .i64 0,.int .u64 0,.string ⟨#[]⟩,.slice none 0 0])),by kernel_rfl,by kernel_rfl,rfl⟩,by omega⟩
def prow (p:Sp.Tree×Sl):List Value:=trow p.1 p.2
theorem TreeAt.of_pairs {S:NP} {w:World} {s:Sl} {e:TypeId} {ps:List (Sp.Tree×Sl)} {k f t u:Int} {x:ByteArray} (hR:Rws w e 6 s (ps.map prow)) (hS:∀b,s.blk b→S b) (hk:∀p∈ps,TreeAt S w p.2 p.1) (fit:ps.length≤9223372036854775807):TreeAt S w s (.mk k f t u x (ps.map Prod.fst)):=by
 refine .mk k f t u x _ s (fun i=>(ps.getD i (Sp.noTree,Sl.nil)).2) (by rw [hR.len];simp) (by simpa using fit) (fun i h=>?_) (fun i h=>?_)
 ·have h':i<ps.length:=by simpa using h
  obtain ⟨a,h1,h2,h3⟩:=hR.at (i:=i) (by omega) (by simpa using h')
  refine ⟨a,h1,hS _ h3,?_⟩
  have e1:(ps.map Prod.fst)[i]=ps[i].1:=by simp
  have e2:(ps.getD i (Sp.noTree,Sl.nil)).2=ps[i].2:=by simp [List.getD_eq_getElem?_getD,h']
  rw [e1,e2];simpa [prow] using h2
 ·have h':i<ps.length:=by simpa using h
  have e1:(ps.map Prod.fst)[i]=ps[i].1:=by simp
  have e2:(ps.getD i (Sp.noTree,Sl.nil)).2=ps[i].2:=by simp [List.getD_eq_getElem?_getD,h']
  rw [e1,e2];exact hk _ (List.getElem_mem h')
theorem trow_one (t:Sp.Tree) (s:Sl):(trow t s).all oneCell=true:=by simp [trow,oneCell,Sl.v]
theorem c_ref05_Lent {S : NP} (t : Sp.Tree) : ∀ (s : Sl) (w0 : World), Sp.cnt t ≤ 1000000 → TreeAt S w0 s t → (∀ b, S b → b < w0.heap.size) →
  Calls Tryz.prog 33 #[.agg (trow t s).toArray] w0 (RetT w0.heap.size w0 t):=by
 induction t using Sp.Tree.ind with
 | h k f t u x ks ih =>
 intro s w0 hcnt hT hSw
 suffices key:∀K:Int→Int→Int→Int→ByteArray→Sl→WP,(∀s' w',TreeAt (w0.heap.size≤·) w' s' (.mk k f t u x ks)→Pure w0 w'→K k f t u x s' w')→m_A1 k f t u x s w0 K by
  refine (w_A1 _ _ _ _ _ _ w0 (fun k' f' t' u' x' s' w'=>(k'=k∧f'=f∧t'=t∧u'=u∧x'=x)∧TreeAt (w0.heap.size≤·) w' s' (.mk k f t u x ks)∧Pure w0 w') (key _ (fun s' w' h1 h2=>⟨⟨rfl,rfl,rfl,rfl,rfl⟩,h1,h2⟩))).mono ?_
  rintro _ w' ⟨_,_,_,_,_,s',rfl,⟨rfl,rfl,rfl,rfl,rfl⟩,h1,h2⟩
  exact ⟨s',rfl,h1,h2⟩
 intro K hK
 have hlen:s.len=ks.length:=by cases hT;assumption
 have hca:1+Sp.cntAll ks≤1000000:=by simpa [Sp.cnt] using hcnt
 have hkl:=Sp.cntAll_len ks
 have hnil:∀b,¬ Sl.nil.blk b:=fun b hb=>by obtain ⟨a,h,_⟩:=hb;cases h
 unfold m_A1
 intro H3 w5 hs5
 refine ⟨fun i _ _ _ _ _ yk H w'=>∃j:Nat,i=j∧j≤ks.length∧Pure w0 w'∧∃(ps:List (Sp.Tree×Sl)) (S':NP),ps.map Prod.fst=ks.take j∧Own H w' 49 6 yk (ps.map prow)∧(∀p∈ps,TreeAt S' w' p.2 p.1)∧(∀b,S' b→w0.heap.size≤b∧b<w'.heap.size∧¬ H b∧¬ yk.blk b)∧(∀b,yk.blk b→w0.heap.size≤b),
  fun i _ _ _ _ _ _ _=>((ks.length:Int) - i).toNat,⟨0,rfl,Nat.zero_le _,hs5.first,[],fun _=>False,by simp,Own.nil _ _,by simp,fun b h=>h.elim,fun b h=>(hnil b h).elim⟩,?_⟩
 rintro _ y1 y2 y3 y4 y5 yk Hl wl hl ⟨j,rfl,hj,El,ps,S',hps,Oy,hkids,hS',hyk⟩
 have hpl:ps.length=j:=by have:=congrArg List.length hps;simpa [Nat.min_eq_left hj] using this
 unfold m_A1_l1
 refine ⟨fun hc=>?_,fun hc=>?_⟩
 ·have hlt:=lt_of_dec hlen hc
  have g1:∃a r,At s j 6 a∧S a.block∧(∀w',Pure w0 w'→Row w' a (trow ks[j] r))∧TreeAt S w0 r ks[j]:=by
   cases hT with
   | mk _ _ _ _ _ _ _ rs len fit row kid=>obtain ⟨a,h1,h2,h3⟩:=row j hlt;exact ⟨a,rs j,h1,h2,fun w' E=>E.row h3 id,kid j hlt⟩
  obtain ⟨a,r,hat,_,hr,hk⟩:=g1
  have E6:Pure wl wl.drew:=Ext.drew wl
  have Ed:=El.trans E6
  refine ⟨fun w'=>Pure w0 w',Ed,?_⟩
  rintro _ rfl
  refine ⟨a,hat,_,_,_,_,_,r,fun w' h=>hr w' h,?_⟩
  have hcj:=Sp.cntAll_get (ks:=ks) hlt
  refine (ih j hlt r wl.drew (by omega) (hk.pure Ed) (fun b hb=>by have:=hSw b hb;have:=Ed.size;omega)).mono ?_
  rintro _ w7 ⟨s',rfl,hTk,E7⟩
  have E07:=Ed.trans E7
  refine ⟨_,_,_,_,_,s',rfl,E07,E7.keptP,?_⟩
  intro p4 w8 h8
  have E8:Pure w7 w8:=Ext.new h8
  refine ⟨E07.trans E8,?_⟩
  have hs8:Hst w0 Hl w8 Hl w8:=(hl.again E6.keptP).again (E7.trans E8).keptP
  have O8:=Oy.pure ((E6.trans E7).trans E8)
  obtain ⟨s1,w9,hr9,hO9,hE9,hk9,hb9⟩:=O8.append (P:=Tryz.prog) (ty:=22) (c:=1) slT_tree hs8 (r:=trow ks[j] s') (Box.of_new h8).row rfl (trow_one _ _) (by simp;omega) (by simp [maxLen];omega)
  have E09:Pure w0 w9:=(E07.trans E8).trans' hE9 (fun i hi hb=>by have:=hyk i hb;omega)
  refine ⟨s1,w9,hr9,E09,hk9,?_⟩
  intro w10 hs10
  have hsd:wl.drew.heap.size=wl.heap.size:=rfl
  have z7:=E7.size
  have z8:=E8.size
  have z9:=hE9.size
  have hSn:∀b,(S' b∨(wl.heap.size≤b∧b<w7.heap.size))→w0.heap.size≤b∧b<w9.heap.size∧¬ Hl b∧¬ s1.blk b:=by
   rintro b (hb | ⟨h1,h2⟩)
   ·obtain ⟨q1,q2,q3,q4⟩:=hS' b hb
    exact ⟨q1,by omega,q3,fun h=>(hb9 b h).elim q4 (fun h=>by omega)⟩
   ·refine ⟨by have:=El.size;omega,by omega,fun h=>by have:=hl.lt b h;omega,fun h=>(hb9 b h).elim (fun h=>by have:=Oy.rows.lt h;omega) (fun h=>by omega)⟩
  rw [wrap_succ hlt (by omega)]
  refine ⟨⟨j+1,rfl,hlt,E09.hst hs10,ps++[(ks[j],s')],fun b=>S' b∨(wl.heap.size≤b∧b<w7.heap.size),?_,?_,?_,?_,?_⟩,lt_dec hlt⟩
  ·rw [List.map_append,hps,List.take_succ_eq_append_getElem hlt];rfl
  ·have:(ps++[(ks[j],s')]).map prow=ps.map prow++[trow ks[j] s']:=by simp [prow]
   rw [this];exact hO9.hst hs10
  ·intro p hp
   have hnb:∀b,(S' b∨(wl.heap.size≤b∧b<w7.heap.size))→b<w9.heap.size∧¬ Hl b:=fun b hb=>⟨(hSn b hb).2.1,(hSn b hb).2.2.1⟩
   rcases List.mem_append.1 hp with h | h
   ·have:=(hkids p h).pure ((E6.trans E7).trans E8)
    have:=this.ext hE9 (fun b hb hy=>(hS' b hb).2.2.2 hy)
    exact (this.mono (fun b hb=>.inl hb)).hst hs10 hnb
   ·simp only [List.mem_singleton] at h;subst h
    have:=(hTk.lt.pure E8).ext hE9 (fun b hb hy=>by have:=Oy.rows.lt hy;have:=hb.1;omega)
    exact (this.mono (S':=fun b=>S' b∨(wl.heap.size≤b∧b<w7.heap.size)) (fun b hb=>.inr ⟨by have:=hb.1;omega,hb.2⟩)).hst hs10 hnb
  ·intro b hb
   obtain ⟨q1,q2,q3,q4⟩:=hSn b hb
   exact ⟨q1,Nat.lt_of_lt_of_le q2 hs10.ext.size,q3,q4⟩
  ·intro b hb
   exact (hb9 b hb).elim (hyk b) (fun h=>by have:=(E07.trans E8).size;omega)
 ·have hge:=eq_of_dec hlen hj hc
  subst hge
  rw [List.take_length] at hps
  have E6:Pure wl wl.drew:=Ext.drew wl
  refine ⟨fun _=>True,trivial,?_⟩
  rintro _ rfl
  intro p5 w12 h12
  have E12:Pure wl w12:=E6.trans (Ext.new h12)
  refine ⟨trivial,?_⟩
  have hs12:Hst w0 Hl w12 Hl w12:=hl.again E12.keptP
  obtain ⟨s2,w13,hr13,hO13,hE13,hk13,hb13⟩:=(Oy.pure E12).append (P:=Tryz.prog) (ty:=22) (c:=1) slT_tree hs12 (r:=trow (.mk (-1) 0 0 0 ⟨#[]⟩ []) Sl.nil) (Box.of_new h12).row rfl (trow_one _ _) (by simp;omega) (by simp [maxLen];omega)
  refine ⟨s2,w13,hr13,trivial,hk13,?_⟩
  have hyl:yk.len=ks.length:=by rw [Oy.len];simp [hpl]
  obtain ⟨s3,hr3,hR3,hb3⟩:=Rws.hiA (P:=Tryz.prog) slT_tree hO13.rows (k:=.i64) (n:=(ks.length:Int)) (by omega) (by simp [hpl];omega)
  rw [hyl]
  refine ⟨s3,fun w' _=>hr3 w',?_⟩
  intro w14 hs14
  have hR3':Rws w13 49 6 s3 (ps.map prow):=by
   have e:((ps.map prow)++[trow (.mk (-1) 0 0 0 ⟨#[]⟩ []) Sl.nil]).take (ks.length:Int).toNat=ps.map prow:=by
    rw [Int.toNat_natCast];exact List.take_left' (by simp [hpl])
   rw [e] at hR3;exact hR3
  have hv3:∀b,s3.blk b→b<w13.heap.size∧¬ Hl b:=fun b hb=>⟨hR3'.lt hb,hO13.vis b ((hb3 b).1 hb)⟩
  have hR14:=hR3'.ext hs14.ext (hs14.disj (G:=s3.blk) hv3)
  have z12:=E12.size
  have z13:=hE13.size
  have hs3:∀b,s3.blk b→w0.heap.size≤b:=fun b hb=>(hb13 b ((hb3 b).1 hb)).elim (hyk b) (fun h=>by have:=El.size;omega)
  refine hK s3 w14 ?_ ?_
  ·have hT3:=TreeAt.of_pairs (S:=fun b=>w0.heap.size≤b) (k:=k) (f:=f) (t:=t) (u:=u) (x:=x) hR14 hs3 (fun p hp=>?_) (by omega)
   ·rw [hps] at hT3;exact hT3
   ·have h1:=((hkids p hp).pure E12).ext hE13 (fun b hb hy=>(hS' b hb).2.2.2 hy)
    exact (h1.hst hs14 (fun b hb=>⟨by have:=(hS' b hb).2.1;omega,(hS' b hb).2.2.1⟩)).mono (fun b hb=>(hS' b hb).1)
  ·exact ((El.trans E12).trans' hE13 (fun i hi hb=>by have:=hyk i hb;omega)).hst hs14
end Go.Proofs
end
section
open Go Go.SE
namespace Go.Proofs
attribute [local irreducible] Calls
theorem c_term_Len (p:Addr) (w:World) {L:Sp.Pool} {F:NP} (hP:PoolAt w p L F):Calls Tryz.prog 13 #[.pointer (some p)] w (fun e w'=>∃r:Int,e=.returned (.int .i64 r)∧(r=L.length∧w'=w)):=by
 refine w_M3 _ w (fun r w'=>r=L.length∧w'=w) ?_
 unfold m_M3
 obtain ⟨s,m,h,_⟩:=hP
 refine Br.f rfl ⟨p,rfl,s,h.box.cell0,?_,rfl⟩
 have:=h.rows.len
 rw [this];simp
theorem c_kids (p:Addr) (t:Int) (w:World) {L:Sp.Pool} {F:NP} (hP:PoolAt w p L F) (hok:Sp.Ok L):Calls Tryz.prog 44 #[.pointer (some p),.int .i64 t] w (fun e w'=>∃s:Sl,e=.returned s.v∧(Lst (fun b=>w.heap.size≤b∧b<w'.heap.size) w' 1 s (tmr (Sp.kidsOf (Sp.nodeOf L t)))∧Pure w w')):=by
 refine w_R3 _ _ w (fun s w'=>Lst (fun b=>w.heap.size≤b∧b<w'.heap.size) w' 1 s (tmr (Sp.kidsOf (Sp.nodeOf L t)))∧Pure w w') ?_
 unfold m_R3
 refine (c_Node p t w hP hok).mono ?_
 rintro _ w1 ⟨k,f,t',u,x,a,b,r,rfl,⟨hn,_⟩,E1⟩
 refine ⟨_,_,_,_,_,_,_,_,rfl,?_⟩
 intro p2 w2 h2
 have E2:Pure w w2:=E1.trans (Ext.new h2)
 have o2:=New.own E1 h2
 refine bx 7 (Box.of_new h2) rfl rfl (fun w3 b2 E=>?_)
 have E3:Pure w w3:=E2.own o2 E
 refine ⟨k,b2.cell0,?_⟩
 refine (c_shapeOf k w3).mono ?_
 rintro _ w4 ⟨s1,s2,s3,s4,s5,ok,rfl,⟨hs,_⟩,E4⟩
 refine ⟨_,_,_,_,_,_,rfl,?_⟩
 have b24:=b2.pure E4
 intro p3 w5 h5
 have E5:Pure w4 w5:=Ext.new h5
 have b25:=b24.pure E5
 have ne:p2.block≠p3.block:=h5.ne b24.blk
 have E05:Pure w w5:=(E3.trans E4).trans E5
 have o5:=New.own (E3.trans E4) h5
 refine bx 5 (Box.of_new h5) rfl rfl (fun w6 b3 E=>?_)
 have b26:=b25.ext E ne
 have E06:Pure w w6:=E05.own o5 E
 refine ⟨a,b26.cell rfl,b,b26.cell rfl,?_⟩
 intro p4 w7 h7
 have E7:Pure w6 w7:=Ext.new h7
 have b4:=Box.of_new h7
 have hsh:Sp.shapeOf k=⟨s1,s2,s3,s4,s5⟩:=hs.symm
 have hk5:s5=0∨s5=1∨s5=2:=by have:=Sp.kids_le k;rw [hsh] at this;exact this
 refine ⟨s5,(b3.pure E7).cell rfl,_,run_cut2 p4 s5 w7 hk5,?_,E06.trans E7⟩
 have hks:Sp.kidsOf (Sp.nodeOf L t)=[a,b].take s5.toNat:=by rw [← hn];simp [Sp.kidsOf,hsh]
 rw [hks]
 have z:=h7.at_size
 have z6:=E06.size
 have zl:=b4.lt
 refine ⟨by rcases hk5 with rfl | rfl | rfl <;> rfl,fun i hi=>?_⟩
 rw [tmr_len] at hi
 have hi2:i<s5.toNat:=by simp at hi;omega
 refine ⟨p4.add (i*1),⟨by omega,by show (i:Int)<(s5.toNat:Int);omega,p4,rfl,rfl⟩,by rw [add_block];omega,?_⟩
 intro j hj
 have hj1:j<1:=by simp only [tmr,List.getElem_map,List.length_cons,List.length_nil] at hj;omega
 have hj0:j=0:=by omega
 subst hj0
 rw [add_add]
 have h01:i=0∨i=1:=by omega
 rcases h01 with rfl | rfl
 ·rw [b4.cell (i:=0*1+0) rfl];simp [tmr]
 ·rw [b4.cell (i:=1*1+0) rfl];simp [tmr]
theorem c_Tree (p : Addr) {L : Sp.Pool} (hW : Sp.Wf L) : ∀ (n : Nat) (t : Int) (w0 : World) (F : NP), t.toNat = n → PoolAt w0 p L F →
  Calls Tryz.prog 15 #[.pointer (some p),.int .i64 t] w0 (RetT w0.heap.size w0 (Sp.treeOf L t)):=by
 intro n
 induction n using Nat.strongRecOn with
 | _ n ih =>
 intro t w0 F hn hP
 suffices key:∀K:Int→Int→Int→Int→ByteArray→Sl→WP,(∀k f t' u x s' w' ks,Sp.treeOf L t=.mk k f t' u x ks→TreeAt (w0.heap.size≤·) w' s' (.mk k f t' u x ks)→Pure w0 w'→K k f t' u x s' w')→m_G1 (some p) t w0 K by
  refine (w_G1 _ _ w0 (fun k f t' u x s' w'=>∃ks,Sp.treeOf L t=.mk k f t' u x ks∧TreeAt (w0.heap.size≤·) w' s' (.mk k f t' u x ks)∧Pure w0 w') (key _ (fun k f t' u x s' w' ks h1 h2 h3=>⟨ks,h1,h2,h3⟩))).mono ?_
  rintro _ w' ⟨k,f,t',u,x,s',rfl,ks,h1,h2,h3⟩
  rw [h1]
  exact ⟨s',rfl,h2,h3⟩
 intro K hK
 have hok:=hW.ok
 have hnil:∀b,¬ Sl.nil.blk b:=fun b hb=>by obtain ⟨a,h,_⟩:=hb;cases h
 unfold m_G1
 intro p2 w1 h1
 have E1:Pure w0 w1:=Ext.new h1
 have b1:=Box.of_new h1
 have z1:=h1.at_size
 have l1:=b1.lt
 refine (c_Node p t w1 (hP.pure E1) hok).mono ?_
 rintro _ w2 ⟨k,f,t',u,x,a,b,r,rfl,⟨hnd,hr⟩,E2⟩
 refine ⟨_,_,_,_,_,_,_,_,rfl,?_⟩
 intro p3 w3 h3
 have b2:=b1.pure E2
 have n23:p2.block≠p3.block:=h3.ne b2.blk
 have E3:Pure w0 w3:=(E1.trans E2).trans (Ext.new h3)
 have o3:=New.own (E1.trans E2) h3
 have b23:=b2.pure (Ext.new h3:Pure w2 w3)
 refine bx 7 (Box.of_new h3) rfl rfl (fun w4 b3 X4=>?_)
 have b24:=b23.ext X4 n23
 have E4:Pure w0 w4:=E3.own o3 X4
 refine ⟨fun h=>?_,fun h=>?_⟩
 ·have hin:Sp.inP L t=false:=by rw [← hr];simpa using h
  refine bx 6 b24 rfl rfl (fun w5 b5 X5=>⟨_,_,_,_,_,Sl.nil,b5.row,?_⟩)
  exact hK _ _ _ _ _ _ _ [] (by rw [Sp.treeOf_none hin];rfl) TreeAt.leaf (E4.own (by omega) X5)
 ·have hin:Sp.inP L t=true:=by rw [← hr];simpa using h
  have htr:=Sp.treeOf_in hW hin
  have hnode:=hW.node hin
  obtain ⟨_,_,_,_,hkid,_,_⟩:=hnode
  have hpos:=Sp.inP_iff.1 hin
  refine ⟨k,b3.cell0,f,b3.cell rfl,t',b3.cell rfl,u,b3.cell rfl,x,b3.cell rfl,?_⟩
  intro p4 w6 h6
  have n24:p2.block≠p4.block:=h6.ne b24.blk
  have E6:Pure w4 w6:=Ext.new h6
  have o6:=New.own E4 h6
  have b26:=b24.pure E6
  refine bx 6 (Box.of_new h6) rfl rfl (fun w7 b4 X7=>?_)
  have b27:=b26.ext X7 n24
  have E7:Pure w0 w7:=(E4.trans E6).own o6 X7
  refine (c_kids p t w7 (hP.pure E7) hok).mono ?_
  rintro _ w8 ⟨r2,rfl,hL,E8⟩
  refine ⟨r2,rfl,?_⟩
  generalize hks:Sp.kidsOf (Sp.nodeOf L t)=ks at *
  have hkl:ks.length≤2:=by rw [← hks,Sp.kidsOf_len];have:=Sp.kids_le (Sp.nodeOf L t).kind;omega
  have hrl:r2.len=ks.length:=by rw [hL.len,tmr_len]
  have q7:=b4.lt
  have q8:=E8.size
  refine ⟨fun i w=>∃(j:Nat) (xs:Sl) (ps:List (Sp.Tree×Sl)),i=j∧j≤ks.length∧Pure w0 w∧w8.heap.size≤w.heap.size∧Lst (fun b=>w7.heap.size≤b∧b<w8.heap.size) w 1 r2 (tmr ks)∧Box w p2 [.int .i64 0,.int .i64 0,.int .i64 0,.int .u64 0,.string ⟨#[]⟩,Sl.nil.v] 49∧Box w p4 [.int .i64 k,.int .i64 f,.int .i64 t',.int .u64 u,.string x,xs.v] 49 ∧
   Rws w 49 6 xs (ps.map prow)∧(∀b,xs.blk b→w8.heap.size≤b)∧(∀q∈ps,TreeAt (fun b=>w8.heap.size≤b∧¬ xs.blk b) w q.2 q.1)∧ps.map Prod.fst=(ks.take j).map (Sp.treeOf L),fun i _=>((ks.length:Int) - i).toNat,⟨0,Sl.nil,[],rfl,Nat.zero_le _,E7.trans E8,Nat.le_refl _,hL,b27.pure E8,b4.pure E8,Rws.nil _ _ _,fun b hb=>(hnil b hb).elim,fun q hq=>by simp at hq,by simp⟩,?_⟩
  rintro _ w ⟨j,xs,ps,rfl,hj,E,zw,hLw,b2w,b4w,hxs,hxo,hps,hpf⟩
  have hpl:ps.length=j:=by have:=congrArg List.length hpf;simp at this;omega
  unfold m_G1_l1
  refine ⟨fun h=>?_,fun h=>?_⟩
  ·have hlt:=lt_of_dec hrl h
   obtain ⟨ad,hat,hSa,hc⟩:=tm_nth hLw hlt
   refine ⟨ad,hat,ks[j],hc,fun w=>Box w p4 [.int .i64 k,.int .i64 f,.int .i64 t',.int .u64 u,.string x,xs.v] 49,b4w.pure (Ext.drew w:Pure _ _),?_⟩
   rintro _ rfl
   refine ⟨xs,fun _ h=>h.cell rfl,?_⟩
   have Ed:Pure w w.drew:=Ext.drew w
   have hkj:=hkid ks[j] (List.getElem_mem hlt)
   have hkp:=Sp.inP_iff.1 hkj.1
   refine (ih ks[j].toNat (by omega) ks[j] w.drew F rfl (hP.pure (E.trans Ed))).mono ?_
   rintro _ w10 ⟨s',rfl,hTb,E10⟩
   generalize hTt:Sp.treeOf L ks[j]=tb at *
   obtain ⟨k2,f2,t2,u2,x2,ks2⟩:=tb
   have E10':Pure w w10:=Ed.trans E10
   refine ⟨_,_,_,_,_,s',rfl,b4w.pure E10',?_⟩
   intro p5 w11 h11
   have E11:Pure w w11:=E10'.trans (Ext.new h11)
   refine ⟨b4w.pure E11,?_⟩
   have zd:w.drew.heap.size=w.heap.size:=rfl
   have z10:=E10.size
   have z11:=(Ext.new h11:Pure w10 w11).size
   have np4:¬ xs.blk p4.block:=fun hb=>by have:=hxo _ hb;omega
   have np2:¬ xs.blk p2.block:=fun hb=>by have:=hxo _ hb;have:=b27.lt;omega
   obtain ⟨s1,w12,hr12,hR12,X12,hb12⟩:=(hxs.pure E11).append (P:=Tryz.prog) (ty:=22) (c:=1) slT_tree (r:=trow (.mk k2 f2 t2 u2 x2 ks2) s') (Box.of_new h11).row rfl (trow_one _ _) (by simp;omega) (by simp [maxLen];omega)
   have b412:=(b4w.pure E11).ext X12 np4
   refine ⟨s1,w12,hr12,b412,b412.canW (by simp),?_⟩
   rintro _ rfl
   have X13:=Ext.setCell (w:=w12) (p4.add 5) s1.v
   rw [add_block] at X13
   have z12:=X12.size
   have z13:=X13.size
   rw [wrap_succ hlt (by omega)]
   have hs1:∀b,s1.blk b→xs.blk b∨w.heap.size≤b:=fun b hb=>(hb12 b hb).imp_right (fun h=>by omega)
   have hs1o:∀b,s1.blk b→w8.heap.size≤b:=fun b hb=>(hs1 b hb).elim (hxo b) (fun h=>by omega)
   have np4':¬ s1.blk p4.block:=fun hb=>by have:=hs1o _ hb;omega
   have q12:=b412.lt
   refine ⟨⟨j+1,s1,ps++[(.mk k2 f2 t2 u2 x2 ks2,s')],rfl,hlt,?_,by omega,?_,?_,b412.set 5 s1.v,?_,hs1o,?_,?_⟩,lt_dec hlt⟩
   ·exact ((E.trans E11).trans' X12 (fun i hi hs=>by have:=hxo i hs;have:=E7.size;omega)).trans' X13 (fun i hi e=>by omega)
   ·exact ((hLw.pure E11).ext X12 (fun b hb hs=>by have:=hxo b hs;omega)).ext X13 (fun b hb e=>by omega)
   ·exact ((b2w.pure E11).ext X12 np2).ext X13 n24
   ·have:=hR12.ext X13 (fun b hb e=>np4' (e▸hb))
    simpa [prow] using this
   ·intro q hq
    rcases List.mem_append.1 hq with h | h
    ·have h':=((hps q h).lt.pure E11).ext X12 (fun b hb hs=>hb.1.2 hs)
     refine (h'.ext X13 (fun b hb e=>by have:=hb.1.1;omega)).mono (fun b hb=>⟨hb.1.1,fun hs=>(hs1 b hs).elim hb.1.2 (fun h=>by have:=hb.2;omega)⟩)
    ·simp only [List.mem_singleton] at h;subst h
     have h':=((hTb.lt.pure (Ext.new h11:Pure w10 w11)).ext X12 (fun b hb hs=>by have:=hxs.lt hs;have:=hb.1;omega))
     refine (h'.ext X13 (fun b hb e=>by have:=hb.1;omega)).mono (fun b hb=>⟨by have:=hb.1;omega,fun hs=>(hb12 b hs).elim (fun h=>by have:=hxs.lt h;have:=hb.1;omega) (fun h=>by have:=hb.2;omega)⟩)
   ·rw [List.map_append,hpf,List.take_succ_eq_append_getElem hlt,List.map_append]
    simp [hTt]
  ·have hge:=eq_of_dec hrl hj h
   subst hge
   rw [List.take_length] at hpf
   refine ⟨k,f,t',u,x,xs,b4w.row,bx 6 b2w rfl rfl (fun w14 b14 X14=>⟨k,f,t',u,x,xs,b14.row,?_⟩)⟩
   have np2:¬ xs.blk p2.block:=fun hb=>by have:=hxo _ hb;have:=b27.lt;omega
   have hT:=TreeAt.of_pairs (S:=fun b=>w0.heap.size≤b) (k:=k) (f:=f) (t:=t') (u:=u) (x:=x) (hxs.ext X14 (fun b hb e=>np2 (e▸hb))) (fun b hb=>by have:=hxo b hb;have:=E7.size;omega) (fun q hq=>?_) (by omega)
   ·rw [hpf] at hT
    rw [← hnd] at htr
    exact hK _ _ _ _ _ _ _ _ htr hT (E.own (by omega) X14)
   ·exact ((hps q hq).ext X14 (fun b hb e=>by have:=hb.1;have:=b27.lt;omega)).mono (fun b hb=>by have:=hb.1;have:=E7.size;omega)
end Go.Proofs
end
section
namespace Go.Proofs
theorem toNat_ofNat {n:Nat} (h:n<256):(UInt8.ofNat n).toNat=n:=by simp [UInt8.toNat_ofNat];omega
theorem pow_fit {i y m:Nat} (hi:i≤8) (hy:y≤127) (hb:m*128 ^ (i+1)<18446744073709551616):(y+128*m)*128 ^ i<18446744073709551616:=by
 rw [Nat.pow_succ] at hb
 obtain ⟨q,hq⟩:∃q,18446744073709551616=q*(128 ^ i*128):=by
  refine ⟨2 ^ (64 - 7*(i+1)),?_⟩
  rw [show 128 ^ i*128=2 ^ (7*(i+1)) by rw [Nat.pow_mul];rfl,← Nat.pow_add,show 64 - 7*(i+1)+7*(i+1)=64 by omega]
 have hp:0<128 ^ i:=Nat.pow_pos (by omega)
 generalize 128 ^ i=P at *
 rw [hq] at hb ⊢
 have hm:m<q:=Nat.lt_of_mul_lt_mul_right hb
 have h1:(y+128*m)*P<128*(m+1)*P:=Nat.mul_lt_mul_of_pos_right (by omega) hp
 have h2:128*(m+1)*P≤128*q*P:=Nat.mul_le_mul_right _ (Nat.mul_le_mul_left _ hm)
 have h3:q*(P*128)=128*q*P:=by rw [Nat.mul_comm P,← Nat.mul_assoc,Nat.mul_comm q]
 omega
theorem rdNum_get:∀(l:List UInt8) (i acc n k:Nat),i≤9→rdNum i acc l=.ok (n,k)→∃m c,l=varint m++c∧n=acc+m*128 ^ i∧k=i+(varint m).length∧(0<i→0<m)∧m*128 ^ i<18446744073709551616:=by
 intro l
 induction l with
 | nil=>intro i acc n k _ h;simp [rdNum] at h
 | cons x l ih =>
  intro i acc n k hi h
  have hx:=x.toNat_lt
  have hx8:UInt8.ofNat x.toNat=x:=by simp
  rw [rdNum_cons] at h
  split at h
  ·cases h
  ·rename_i h9
   split at h
   ·rename_i h128
    split at h
    ·cases h
    ·rename_i hz
     cases h
     refine ⟨x.toNat,l,by rw [varint_lt h128,hx8];rfl,rfl,by rw [varint_lt h128];rfl,by omega,?_⟩
     have:i=0∨i=1∨i=2∨i=3∨i=4∨i=5∨i=6∨i=7∨i=8∨i=9:=by omega
     rcases this with rfl | rfl | rfl | rfl | rfl | rfl | rfl | rfl | rfl | rfl <;> omega
   ·rename_i h128
    have hi8:i≤8:=by omega
    obtain ⟨m,c,rfl,rfl,rfl,hp,hb⟩:=ih _ _ _ _ (by omega) h
    have hp:=hp (by omega)
    have hxm:0<x.toNat % 128+128*m:=by omega
    have e:x.toNat % 128+128*m=x.toNat % 128+128*m:=rfl
    refine ⟨x.toNat % 128+128*m,c,?_,?_,?_,fun _=>hxm,?_⟩
    ·rw [varint_ge (n:=x.toNat % 128+128*m) (by omega),List.cons_append]
     have e1:(x.toNat % 128+128*m) % 128+128=x.toNat:=by omega
     have e2:(x.toNat % 128+128*m) / 128=m:=by omega
     rw [e1,e2,hx8]
    ·rw [Nat.add_mul,Nat.pow_succ]
     have:m*(128 ^ i*128)=128*m*128 ^ i:=by rw [Nat.mul_comm (128 ^ i),← Nat.mul_assoc,Nat.mul_comm m]
     omega
    ·rw [varint_ge (n:=x.toNat % 128+128*m) (by omega),List.length_cons]
     have e2:(x.toNat % 128+128*m) / 128=m:=by omega
     rw [e2];omega
    ·exact pow_fit hi8 (by omega) hb
theorem rdNum_inv {l:List UInt8} {n k:Nat} (h:rdNum 0 0 l=.ok (n,k)):∃c,l=varint n++c∧k=(varint n).length∧n<18446744073709551616:=by
 obtain ⟨m,c,h1,h2,h3,_,h5⟩:=rdNum_get l 0 0 n k (by omega) h
 simp at h2 h3 h5
 subst h2;exact ⟨c,h1,h3,h5⟩
end Go.Proofs
end
section
namespace Go.Sp
def Nums (L:Pool):Prop:=∀e∈L,isNum e.node.num
theorem Nums.nil:Nums []:=fun _ h=>(by cases h)
theorem Nums.make {L:Pool} (h:Nums L) {n:Node} (hn:isNum n.num):Nums (make L n).2.2:=by
 rcases make_pool L n with e | ⟨_,e⟩
 ·rw [e];exact h
 ·rw [e];intro x hx
  rcases List.mem_append.1 hx with hx | hx
  ·exact h x hx
  ·rw [List.mem_singleton] at hx;subst hx;exact hn
theorem Nums.grow (t:Tree):∀L,Nums L→NumT t→Nums (grow L t).2.2:=by
 induction t using Tree.ind with
 | h k f t u x ks ih =>
  have:∀(ks:List Tree),(∀i (hi:i<ks.length),∀L,Nums L→NumT ks[i]→Nums (Sp.grow L ks[i]).2.2)→(∀i (hi:i<ks.length),NumT ks[i])→∀(n:Node) i L,isNum n.num→Nums L→Nums (growAll n i L ks).2.2:=by
   intro ks
   induction ks with
   | nil=>intro _ _ n i L hn h;unfold growAll;exact h.make hn
   | cons t ts iht =>
    intro hh hk n i L hn h
    have h0:=hh 0 (by simp) L h (hk 0 (by simp))
    simp only [List.getElem_cons_zero] at h0
    unfold growAll
    split
    ·exact h0
    ·exact iht (fun i hi=>hh (i+1) (by simpa using hi)) (fun i hi=>hk (i+1) (by simpa using hi)) _ _ _ (by split <;> exact hn) h0
  intro L h hT
  cases hT with
  | mk _ _ _ _ _ _ own kids =>
   unfold Sp.grow
   exact this ks ih kids _ _ L own h
theorem Nums.of {L:Pool} (h:Nums L) {t:Tree} (hT:NumT t):Nums (of L t).2.2:=by
 unfold Sp.of
 split
 ·exact h
 ·split
  ·exact h
  ·exact Nums.grow t L h hT
theorem Nums.node {L:Pool} (h:Nums L) (t:Int):isNum (nodeOf L t).num:=by
 cases ht:inP L t with
 | true=>obtain ⟨e,he,hm,_⟩:=get_some ht;simp only [nodeOf,he,Option.map_some,Option.getD_some];exact h e hm
 | false=>simp only [nodeOf,get_none ht,Option.map_none,Option.getD_none];exact ⟨by decide,by decide⟩
theorem node_fit {L:Pool} (hW:Wf L) {t:Int} (ht:inP L t=true):1≤(nodeOf L t).kind∧(nodeOf L t).kind≤9∧0≤(nodeOf L t).frm∧(nodeOf L t).frm<16∧0≤(nodeOf L t).to∧(nodeOf L t).to<16∧(nodeOf L t).text.size≤64:=by
 obtain ⟨h1,_,_,h4,_⟩:=hW.node ht
 generalize nodeOf L t=n at *
 have hp:isKind n.kind=true∧((shapeOf n.kind).frm=false→n.frm=0)∧((shapeOf n.kind).to=false→n.to=0):=by
  unfold plainErr at h1
  simp only at h1
  split at h1
  ·cases h1
  ·rename_i h;simp at h;exact ⟨h.1.1.1.1,h.1.1.1.2,h.1.1.2⟩
 have hk:=hp.1
 simp only [isKind,Bool.and_eq_true,decide_eq_true_eq] at hk
 have hf:((shapeOf n.kind).frm=true→isName n.frm=true)∧((shapeOf n.kind).to=true→isName n.to=true)∧n.text.size≤64:=by
  unfold fieldsErr at h4
  split at h4
  ·cases h4
  ·rename_i h
   split at h4
   ·cases h4
   ·simp at h;exact ⟨fun hh=>h.1 hh,fun hh=>(h.2 hh).1,by omega⟩
 refine ⟨hk.1,hk.2,?_⟩
 have n1:0≤n.frm∧n.frm<16:=by
  cases hs:(shapeOf n.kind).frm with
  | true=>have:=hf.1 hs;simpa [isName] using this
  | false=>rw [hp.2.1 hs];decide
 have n2:0≤n.to∧n.to<16:=by
  cases hs:(shapeOf n.kind).to with
  | true=>have:=hf.2.1 hs;simpa [isName] using this
  | false=>rw [hp.2.2 hs];decide
 exact ⟨n1.1,n1.2,n2.1,n2.2,hf.2.2⟩
end Go.Sp
namespace Go.Proofs
theorem flds_len (k : Int) : (flds k).length ≤ 3 := by unfold flds; repeat' split
                                                       all_goals decide
theorem fld_len (n:Sp.Node) (na nb:Nat) (f:Fld) (h1:n.frm<16) (h2:n.to<16) (h3:Sp.isNum n.num) (h4:n.text.size≤64) (ha:na<65537) (hb:nb<65537):(f.bytes n na nb).length≤74:=by
 have h3:=h3.2
 cases f <;> simp only [Fld.bytes,textBytes,List.length_append]
 ·have:=varint_le10 (n:=n.frm.toNat) (by omega);omega
 ·have:=varint_le10 (n:=n.to.toNat) (by omega);omega
 ·have:=varint_le10 (n:=n.num.toNat) (by omega);omega
 ·have:=varint_le10 (n:=n.text.size) (by omega)
  have:n.text.data.toList.length=n.text.size:=Array.length_toList
  omega
 ·have:=varint_le10 (n:=na) (by omega);omega
 ·have:=varint_le10 (n:=nb) (by omega);omega
theorem flat_lenN {α β:Type} (f:α→List β) (c:Nat):∀l:List α,(∀x∈l,(f x).length≤c)→(l.flatMap f).length≤c*l.length:=by
 intro l
 induction l with
 | nil=>intro _;simp
 | cons a l ih =>
  intro h
  have h1:=h a (by simp)
  have h2:=ih (fun x hx=>h x (List.mem_cons_of_mem _ hx))
  rw [List.flatMap_cons,List.length_append,List.length_cons,Nat.mul_succ];omega
theorem posOf_le (l:List Int) (t:Int):posOf l t≤l.length:=List.idxOf_le_length
theorem nodeText_len {L:Sp.Pool} (hW:Sp.Wf L) (hN:Sp.Nums L) {seen:List Int} {t:Int} (ht:Sp.inP L t=true) (hs:seen.length≤65536):(nodeText L seen t).length≤300:=by
 obtain ⟨_,_,_,h1,_,h2,h4⟩:=Sp.node_fit hW ht
 have:=flat_lenN (Fld.bytes (Sp.nodeOf L t) (posOf seen (Sp.nodeOf L t).a) (posOf seen (Sp.nodeOf L t).b)) 74 (flds (Sp.nodeOf L t).kind) (fun f _=>fld_len _ _ _ f h1 h2 (hN.node t) h4 (by have:=posOf_le seen (Sp.nodeOf L t).a;omega) (by have:=posOf_le seen (Sp.nodeOf L t).b;omega))
 have h3:=flds_len (Sp.nodeOf L t).kind
 have:74*(flds (Sp.nodeOf L t).kind).length≤74*3:=Nat.mul_le_mul_left _ h3
 unfold nodeText
 rw [List.length_cons];omega
theorem textFrom_len {L:Sp.Pool} (hW:Sp.Wf L) (hN:Sp.Nums L):∀(l seen:List Int),(∀t∈l,Sp.inP L t=true)→seen.length+l.length≤65536→(textFrom L seen l).length≤300*l.length:=by
 intro l
 induction l with
 | nil=>intro seen _ _;simp [textFrom]
 | cons t l ih =>
  intro seen h hl
  rw [List.length_cons] at hl
  have h1:=nodeText_len hW hN (seen:=seen) (h t (by simp)) (by omega)
  have h2:=ih (seen++[t]) (fun x hx=>h x (List.mem_cons_of_mem _ hx)) (by rw [List.length_append,List.length_singleton];omega)
  rw [textFrom,List.length_append,List.length_cons,Nat.mul_succ];omega
end Go.Proofs
end
section
namespace Go.Proofs
def Fld.same (n m:Sp.Node) (na nb ma mb:Nat):Fld→Prop
 | .from_=>n.frm.toNat=m.frm.toNat | .to_=>n.to.toNat=m.to.toNat | .num=>n.num.toNat=m.num.toNat | .text=>n.text=m.text | .fst=>na=ma | .snd=>nb=mb
theorem fst_kid {n:Sp.Node} (h:Fld.fst∈flds n.kind):n.a∈Sp.kidsOf n:=by
 unfold flds at h
 unfold Sp.kidsOf Sp.shapeOf
 repeat' split at h
 all_goals first | (exfalso;revert h;decide) | skip
 all_goals (rename_i h1;rw [h1];simp)
theorem snd_kid {n:Sp.Node} (h:Fld.snd∈flds n.kind):n.b∈Sp.kidsOf n:=by
 unfold flds at h
 unfold Sp.kidsOf Sp.shapeOf
 repeat' split at h
 all_goals first | (exfalso;revert h;decide) | skip
 all_goals (rename_i h1;rw [h1];simp)
theorem nodeOf_inj {L:Sp.Pool} (hW:Sp.Wf L) {s t:Int} (hs:Sp.inP L s=true) (ht:Sp.inP L t=true) (h:Sp.nodeOf L s=Sp.nodeOf L t):s=t:=by
 obtain ⟨i,hi,rfl⟩:=Sp.inP_at hs
 obtain ⟨j,hj,rfl⟩:=Sp.inP_at ht
 rw [Sp.nodeOf_lt hi,Sp.nodeOf_lt hj] at h
 have:=hW.ok.nodup
 have e:i=j:=by
  refine (List.getElem_inj (h₀:=by simpa using hi) (h₁:=by simpa using hj) this).1 ?_
  simpa using h
 rw [e]
def OrdF (L:Sp.Pool):List Int→List Int→Prop
 | _,[]=>True
 | seen,z :: l=>(∀k∈Sp.kidsOf (Sp.nodeOf L z),k∈seen)∧OrdF L (seen++[z]) l
theorem ordF_of {L:Sp.Pool}:∀(l seen:List Int),(∀pre z post,l=pre++z :: post→∀k∈Sp.kidsOf (Sp.nodeOf L z),k∈seen++pre)→OrdF L seen l:=by
 intro l
 induction l with
 | nil=>intro _ _;trivial
 | cons z l ih =>
  intro seen h
  refine ⟨fun k hk=>by simpa using h [] z l rfl k hk,ih _ (fun pre y post e k hk=>?_)⟩
  have:=h (z :: pre) y post (by rw [e];rfl) k hk
  simpa using this
theorem ordF_subs {L:Sp.Pool} (hW:Sp.Wf L) (t:Int):OrdF L [] (Sp.subs L t):=ordF_of _ _ (fun pre z post e k hk=>by rw [List.nil_append];exact Sp.subs_ord hW t pre z post e k hk)
theorem subs_in {L:Sp.Pool} (hW:Sp.Wf L) {t u:Int} (h:u∈Sp.subs L t):Sp.inP L u=true:=have h:=(Sp.subs_mem hW).1 h;(Sp.Sub.le hW h.1 h.2).1
theorem self_sub {L:Sp.Pool} (hW:Sp.Wf L) {t:Int} (h:Sp.inP L t=true):t∈Sp.subs L t:=(Sp.subs_mem hW).2 ⟨h,.refl _⟩
end Go.Proofs
end
section
namespace Go.Sp
theorem map_corr {α β γ δ:Type} {f:α→γ} {g:β→γ} {f':α→δ} {g':β→δ}:∀{K1:List α} {K2:List β},K1.map f=K2.map g→(∀a∈K1,∀b∈K2,f a=g b→f' a=g' b)→K1.map f'=K2.map g':=by
 intro K1
 induction K1 with
 | nil=>intro K2 h _;cases K2 with
  | nil=>rfl
  | cons b K2=>simp at h
 | cons a K1 ih=>intro K2 h hh;cases K2 with
  | nil=>simp at h
  | cons b K2 =>
   simp only [List.map_cons,List.cons.injEq] at h ⊢
   exact ⟨hh a (by simp) b (by simp) h.1,ih h.2 (fun x hx y hy=>hh x (List.mem_cons_of_mem _ hx) y (List.mem_cons_of_mem _ hy))⟩
theorem tree_node {L M : Pool} (hL : Wf L) (hM : Wf M) {s t : Int} (hs : inP L s = true) (ht : inP M t = true) (h : treeOf L s = treeOf M t) :
  (nodeOf L s).kind=(nodeOf M t).kind∧(nodeOf L s).frm=(nodeOf M t).frm∧(nodeOf L s).to=(nodeOf M t).to∧(nodeOf L s).num=(nodeOf M t).num∧(nodeOf L s).text=(nodeOf M t).text∧(kidsOf (nodeOf L s)).map (treeOf L)=(kidsOf (nodeOf M t)).map (treeOf M):=by
 rw [treeOf_in hL hs,treeOf_in hM ht] at h
 simpa using h
theorem tree_size {L M:Pool} (hL:Wf L) (hM:Wf M):∀(n:Nat) (s t:Int),s.toNat=n→inP L s=true→inP M t=true→treeOf L s=treeOf M t→sizeOf L s=sizeOf M t∧depthOf L s=depthOf M t:=by
 intro n
 induction n using Nat.strongRecOn with
 | _ n ih =>
 intro s t hn hs ht h
 have hk:=(tree_node hL hM hs ht h).2.2.2.2.2
 obtain ⟨_,_,_,_,c1,c2,c3⟩:=hL.node hs
 obtain ⟨_,_,_,_,d1,d2,d3⟩:=hM.node ht
 have key:∀a∈kidsOf (nodeOf L s),∀b∈kidsOf (nodeOf M t),treeOf L a=treeOf M b→sizeOf L a=sizeOf M b∧depthOf L a=depthOf M b:=fun a ha b hb e=>by
  have:=inP_iff.1 (c1 a ha).1
  exact ih a.toNat (by have:=(c1 a ha).2;omega) a b rfl (c1 a ha).1 (d1 b hb).1 e
 refine ⟨?_,?_⟩
 ·rw [c2,d2,map_corr hk (fun a ha b hb e=>(key a ha b hb e).1)]
 ·have e:=map_corr hk (fun a ha b hb e=>(key a ha b hb e).2)
  rw [c3,d3]
  have f1:∀(l:List Int) (P:Pool),l.foldl (fun d k=>max d (depthOf P k)) 0=(l.map (depthOf P)).foldl max 0:=fun l P=>by rw [List.foldl_map]
  rw [f1,f1,e]
theorem map_inj {L:Pool} (hL:Wf L):∀{K1 K2:List Int},(∀k∈K1,inP L k=true)→(∀k∈K2,inP L k=true)→K1.map (treeOf L)=K2.map (treeOf L)→K1=K2:=by
 intro K1
 induction K1 with
 | nil=>intro K2 _ _ h;cases K2 with
  | nil=>rfl
  | cons b K2=>simp at h
 | cons a K1 ih=>intro K2 h1 h2 h;cases K2 with
  | nil=>simp at h
  | cons b K2 =>
   simp only [List.map_cons,List.cons.injEq] at h
   rw [treeOf_inj hL _ a b rfl (h1 a (by simp)) (h2 b (by simp)) h.1,ih (fun k hk=>h1 k (List.mem_cons_of_mem _ hk)) (fun k hk=>h2 k (List.mem_cons_of_mem _ hk)) h.2]
structure Ren (L q:Pool) (z:Int) (n:Node):Prop where
 kind:n.kind=(nodeOf L z).kind
 frm:n.frm=(nodeOf L z).frm
 to:n.to=(nodeOf L z).to
 num:n.num=(nodeOf L z).num
 text:n.text=(nodeOf L z).text
 kin:∀k∈kidsOf n,inP q k=true
 kids:(kidsOf n).map (treeOf q)=(kidsOf (nodeOf L z)).map (treeOf L)
 a0:(shapeOf n.kind).kids<1→n.a=0
 b0:(shapeOf n.kind).kids<2→n.b=0
theorem kidsOf_eq {n m:Node} (hk:n.kind=m.kind) (h:kidsOf n=kidsOf m) (a1:(shapeOf n.kind).kids<1→n.a=0) (b1:(shapeOf n.kind).kids<2→n.b=0) (a2:(shapeOf m.kind).kids<1→m.a=0) (b2:(shapeOf m.kind).kids<2→m.b=0):n.a=m.a∧n.b=m.b:=by
 unfold kidsOf at h
 rw [← hk] at h a2 b2
 rcases kids_le n.kind with e | e | e
 ·exact ⟨by rw [a1 (by omega),a2 (by omega)],by rw [b1 (by omega),b2 (by omega)]⟩
 ·rw [e] at h
  simp at h
  exact ⟨h,by rw [b1 (by omega),b2 (by omega)]⟩
 ·rw [e] at h
  simpa using h
section
variable {L q:Pool} (hL:Wf L) (hq:Wf q) {z:Int} (hz:inP L z=true) {n:Node} (h:Ren L q z n)
include hL hq hz h
theorem Ren.check:check q n=(sizeOf L z,depthOf L z,0):=by
 obtain ⟨p1,p2,p3,p4,p5,p6,p7⟩:=hL.node hz
 have e1:plainErr n=0:=by
  have:plainErr n=plainErr (nodeOf L z):=by unfold plainErr;rw [h.kind,h.frm,h.to,h.num,h.text]
  rw [this,p1]
 have e2:fieldsErr (shapeOf n.kind) n=0:=by
  have:fieldsErr (shapeOf n.kind) n=fieldsErr (shapeOf (nodeOf L z).kind) (nodeOf L z):=by unfold fieldsErr;rw [h.kind,h.frm,h.to,h.text]
  rw [this,p4]
 have key:∀a∈kidsOf n,∀b∈kidsOf (nodeOf L z),treeOf q a=treeOf L b→sizeOf q a=sizeOf L b∧depthOf q a=depthOf L b:=fun a ha b hb e=>tree_size hq hL _ a b rfl (h.kin a ha) (p5 b hb).1 e
 have e3:=map_corr h.kids (fun a ha b hb e=>(key a ha b hb e).1)
 have e4:=map_corr h.kids (fun a ha b hb e=>(key a ha b hb e).2)
 have f1:∀(l:List Int) (P:Pool),l.foldl (fun d k=>max d (depthOf P k)) 0=(l.map (depthOf P)).foldl max 0:=fun l P=>by rw [List.foldl_map]
 have s1:1+((kidsOf n).map (sizeOf q)).sum=sizeOf L z:=by rw [e3,p6]
 have s2:(kidsOf n).foldl (fun d k=>max d (depthOf q k)) 0+1=depthOf L z:=by rw [f1,e4,← f1,p7]
 have b1:=hL.ok.sizeOf z
 have b2:=hL.ok.depthOf z
 unfold Sp.check
 simp only
 rw [if_neg (by simpa using e1),if_neg,if_neg (by simpa using e2),if_neg,s1,s2,if_neg (by omega)]
 ·simp only [List.any_eq_true,not_exists,not_and]
  intro k hk;rw [h.kin k hk];decide
 ·have a0:=h.a0;have b0:=h.b0
  simp only [Bool.or_eq_true,Bool.and_eq_true,decide_eq_true_eq,bne_iff_ne,ne_eq,not_or,not_and,Decidable.not_not]
  exact ⟨a0,b0⟩
omit hq in
theorem Ren.tree {v:Int} {M:Pool} (hM:Wf M) (hv:inP M v=true) (hn:nodeOf M v=n) (hk:∀k∈kidsOf n,treeOf M k=treeOf q k):treeOf M v=treeOf L z:=by
 rw [treeOf_in hM hv,treeOf_in hL hz,hn,h.kind,h.frm,h.to,h.num,h.text,← h.kids]
 congr 1
 exact List.map_congr_left hk
theorem Ren.node {v:Int} (hv:inP q v=true) (ht:treeOf q v=treeOf L z):nodeOf q v=n:=by
 obtain ⟨k1,k2,k3,k4,k5,k6⟩:=tree_node hq hL hv hz ht
 obtain ⟨_,c2,c3,_,c5,_⟩:=hq.node hv
 have hkk:=map_inj hq (fun k hk=>(c5 k hk).1) h.kin (k6.trans h.kids.symm)
 obtain ⟨ea,eb⟩:=kidsOf_eq (k1.trans h.kind.symm) hkk c2 c3 h.a0 h.b0
 have g1:=h.kind;have g2:=h.frm;have g3:=h.to;have g4:=h.num;have g5:=h.text
 generalize nodeOf q v=m at *
 generalize nodeOf L z=o at *
 cases m;cases n;simp_all
theorem Ren.find_none (hn:∀v,inP q v=true→treeOf q v≠treeOf L z):find q n=none:=by
 cases hf:find q n with
 | none=>rfl
 | some i =>
  exfalso
  obtain ⟨hi,e⟩:=find_some hf
  have hv:inP q ((i:Int)+1)=true:=inP_iff.2 ⟨by omega,by omega⟩
  exact hn _ hv (h.tree hL hz hq hv (by rw [nodeOf_lt hi,e]) (fun _ _=>rfl))
theorem Ren.find_old {v:Int} (hv:inP q v=true) (ht:treeOf q v=treeOf L z):find q n=some (v - 1).toNat:=by
 have hn:=h.node hL hq hz hv ht
 cases hf:find q n with
 | none =>
  exfalso
  unfold find at hf
  rw [List.findIdx?_eq_none_iff] at hf
  obtain ⟨i,hi,rfl⟩:=inP_at hv
  rw [nodeOf_lt hi] at hn
  have:=hf q[i] (List.getElem_mem hi)
  simp at this;exact this hn
 | some i =>
  obtain ⟨hi,e⟩:=find_some hf
  have hv2:inP q ((i:Int)+1)=true:=inP_iff.2 ⟨by omega,by omega⟩
  have:=Go.Proofs.nodeOf_inj hq hv2 hv (by rw [nodeOf_lt hi,e,hn])
  rw [← this];simp
theorem Ren.make_old {v:Int} (hv:inP q v=true) (ht:treeOf q v=treeOf L z):make q n=(v,0,q):=by
 have hc:=h.check hL hq hz
 have hf:=h.find_old hL hq hz hv ht
 have h1:=(inP_iff.1 hv).1
 unfold make
 simp only [hc,hf]
 rw [if_neg (by simp)]
 simp only [Prod.mk.injEq,and_true];omega
theorem Ren.make_new (hn:∀v,inP q v=true→treeOf q v≠treeOf L z) (hl:q.length<65536):make q n=((q.length:Int)+1,0,q++[⟨n,sizeOf L z,depthOf L z⟩]):=by
 have hc:=h.check hL hq hz
 have hf:=h.find_none hL hq hz hn
 unfold make
 simp only [hc,hf]
 rw [if_neg (by simp),if_neg (by omega)]
theorem Ren.make_full (hl:¬ q.length<65536) (hn:∀v,inP q v=true→treeOf q v≠treeOf L z):make q n=(0,6,q):=by
 have hc:=h.check hL hq hz
 have hf:=h.find_none hL hq hz hn
 unfold make
 simp only [hc,hf]
 rw [if_neg (by simp),if_pos (by omega)]
theorem Ren.made (h0:(make q n).2.1=0):Wf (make q n).2.2∧inP (make q n).2.2 (make q n).1=true∧treeOf (make q n).2.2 (make q n).1=treeOf L z∧∀v,inP q v=true→inP (make q n).2.2 v=true∧treeOf (make q n).2.2 v=treeOf q v:=by
 have hw:=make_wf hq n
 obtain ⟨M,e⟩:=make_app q n
 obtain ⟨m1,m2,_⟩:=make_node h0
 have hold:∀v,inP q v=true→inP (make q n).2.2 v=true∧treeOf (make q n).2.2 v=treeOf q v:=fun v hv=>by
  rw [e] at hw ⊢
  exact ⟨inP_app hv,treeOf_app hw _ v rfl hv⟩
 exact ⟨hw,m1,h.tree hL hz hw m1 m2 (fun k hk=>(hold k (h.kin k hk)).2),hold⟩
theorem Ren.err:(make q n).2.1=0∨(make q n).2.1=6∧65536≤q.length∧∀v,inP q v=true→treeOf q v≠treeOf L z:=by
 by_cases hx:∃v,inP q v=true∧treeOf q v=treeOf L z
 ·obtain ⟨v,hv,ht⟩:=hx
  rw [h.make_old hL hq hz hv ht];exact .inl rfl
 ·have hx:∀v,inP q v=true→treeOf q v≠treeOf L z:=fun v hv e=>hx ⟨v,hv,e⟩
  by_cases hl:q.length<65536
  ·rw [h.make_new hL hq hz hx hl];exact .inl rfl
  ·rw [h.make_full hL hq hz hl hx];exact .inr ⟨rfl,by omega,hx⟩
end
end Go.Sp
end
section
namespace Go.Sp
open Go.Proofs
structure Cp (Lq L:Pool) (own:Int→Int) (seen:List Int):Prop where
 wf:Wf L
 inn:∀s∈seen,inP Lq s=true
 at_:∀s∈seen,inP L (own s)=true∧treeOf L (own s)=treeOf Lq s
 out:∀x,x ∉ seen→own x=0
theorem kidsOf_own (n:Node) (own:Int→Int):kidsOf { n with a:=own n.a,b:=own n.b }=(kidsOf n).map own:=by
 unfold kidsOf;simp only [List.map_take,List.map_cons,List.map_nil]
theorem Cp.ren {Lq L : Pool} {own : Int → Int} {seen : List Int} (h : Cp Lq L own seen) (hq : Wf Lq) {z : Int} (hz : inP Lq z = true) (hk : ∀ k ∈ kidsOf (nodeOf Lq z), k ∈ seen) :
  Ren Lq L z { nodeOf Lq z with a:=own (nodeOf Lq z).a,b:=own (nodeOf Lq z).b }:=by
 obtain ⟨_,c2,c3,_⟩:=hq.node hz
 have o0:own 0=0:=h.out 0 (fun h0=>by have:=(inP_iff.1 (h.inn 0 h0)).1;omega)
 refine ⟨rfl,rfl,rfl,rfl,rfl,?_,?_,fun e=>by simp only;rw [c2 e,o0],fun e=>by simp only;rw [c3 e,o0]⟩
 ·intro k hk2
  rw [kidsOf_own] at hk2
  obtain ⟨x,hx,rfl⟩:=List.mem_map.1 hk2
  exact (h.at_ x (hk x hx)).1
 ·rw [kidsOf_own,List.map_map]
  exact List.map_congr_left (fun x hx=>(h.at_ x (hk x hx)).2)
theorem Cp.step {Lq L : Pool} {own : Int → Int} {seen : List Int} (h : Cp Lq L own seen) (hq : Wf Lq) {z : Int} (hz : inP Lq z = true) (hk : ∀ k ∈ kidsOf (nodeOf Lq z), k ∈ seen) {n : Node} (hn : Ren Lq L z n) (h0 : (make L n).2.1 = 0) :
  Cp Lq (make L n).2.2 (fun x=>if x=z then (make L n).1 else own x) (seen++[z]):=by
 obtain ⟨m1,m2,m3,m4⟩:=hn.made hq h.wf hz h0
 refine ⟨m1,fun s hs=>?_,fun s hs=>?_,fun x hx=>?_⟩
 ·rcases List.mem_append.1 hs with hs | hs
  ·exact h.inn s hs
  ·rw [List.mem_singleton] at hs;subst hs;exact hz
 ·by_cases e:s=z
  ·subst e;simp only [if_true];exact ⟨m2,m3⟩
  ·simp only [if_neg e]
   have hs:s∈seen:=(List.mem_append.1 hs).resolve_right (fun hs=>e (List.mem_singleton.1 hs))
   obtain ⟨a1,a2⟩:=h.at_ s hs
   exact ⟨(m4 _ a1).1,(m4 _ a1).2.trans a2⟩
 ·simp only [List.mem_append,List.mem_singleton,not_or] at hx
  rw [if_neg hx.2];exact h.out x hx.1
theorem make_fewC (L:Pool) (n:Node):(make L n).2.2.length≤L.length+1:=by
 rcases make_pool L n with e | ⟨_,e⟩ <;> rw [e] <;> simp
theorem copyGo_cons (Lq : Pool) (z : Int) (l : List Int) (L : Pool) (own : Int → Int) {n : Node} (hn : { nodeOf Lq z with a := own (nodeOf Lq z).a, b := own (nodeOf Lq z).b } = n) {x e : Int} {L' : Pool} (hm : make L n = (x, e, L')) :
  copyGo Lq (z :: l) L own=if e≠0 then (L,e,own) else copyGo Lq l L' (fun y=>if y=z then x else own y):=by
 subst hn
 show (if (make L _).2.1≠0 then _ else _)=_
 rw [hm]
theorem copyGo_ok {Lq : Pool} (hq : Wf Lq) : ∀ (l seen : List Int) (L : Pool) (own : Int → Int), Cp Lq L own seen → (∀ z ∈ l, inP Lq z = true) → OrdF Lq seen l →
  ((copyGo Lq l L own).2.1=0∧Cp Lq (copyGo Lq l L own).1 (copyGo Lq l L own).2.2 (seen++l))∨((copyGo Lq l L own).2.1=6∧¬ (L.length+l.length≤65536)):=by
 intro l
 induction l with
 | nil=>intro seen L own h _ _;exact .inl ⟨rfl,by rw [List.append_nil];exact h⟩
 | cons z l ih =>
  intro seen L own h hl ho
  have hz:=hl z (by simp)
  have hn:=h.ren hq hz ho.1
  generalize hnn:({ nodeOf Lq z with a:=own (nodeOf Lq z).a,b:=own (nodeOf Lq z).b }:Node)=n at hn
  have hf:=make_fewC L n
  have he:=hn.err hq h.wf hz
  have hs:=fun h0=>h.step hq hz ho.1 hn h0
  obtain ⟨x,e,L',hm⟩:∃x e L',make L n=(x,e,L'):=⟨_,_,_,rfl⟩
  rw [copyGo_cons Lq z l L own hnn hm]
  rw [hm] at hf he hs
  simp only at hf he hs
  rcases he with rfl | ⟨rfl,hg,_⟩
  ·rw [if_neg (by simp)]
   rcases ih _ _ _ (hs rfl) (fun x hx=>hl x (List.mem_cons_of_mem _ hx)) ho.2 with ⟨e1,e2⟩ | ⟨e1,e2⟩
   ·exact .inl ⟨e1,by rw [List.append_assoc,List.singleton_append] at e2;exact e2⟩
   ·refine .inr ⟨e1,fun hle=>e2 ?_⟩
    rw [List.length_cons] at hle;omega
  ·rw [if_pos (by simp)]
   exact .inr ⟨rfl,by rw [List.length_cons];omega⟩
theorem Cp.start {Lq L:Pool} (hL:Wf L):Cp Lq L (fun _=>0) []:=⟨hL,fun _ h=>(by cases h),fun _ h=>(by cases h),fun _ _=>rfl⟩
theorem copyS_err {L Lq:Pool} (hL:Wf L) (hq:Wf Lq) (t:Int):(copyS L Lq t).2.1=0∨((copyS L Lq t).1=0∧(copyS L Lq t).2.2=L):=by
 unfold copyS;split
 ·simp only;split
  ·exact .inr ⟨rfl,rfl⟩
  ·exact .inl rfl
 ·exact .inr ⟨rfl,rfl⟩
theorem copyS_ok {L Lq : Pool} (hL : Wf L) (hq : Wf Lq) {t : Int} (ht : inP Lq t = true) (h0 : (copyS L Lq t).2.1 = 0) :
  Wf (copyS L Lq t).2.2∧inP (copyS L Lq t).2.2 (copyS L Lq t).1=true∧treeOf (copyS L Lq t).2.2 (copyS L Lq t).1=treeOf Lq t:=by
 have h:=copyGo_ok hq (subs Lq t) [] L (fun _=>0) (Cp.start hL) (fun z hz=>subs_in hq hz) (ordF_subs hq t)
 unfold copyS at *
 rw [if_pos ht] at *
 simp only at *
 split at h0
 ·rename_i h1;exact absurd h0 h1
 ·rename_i h1
  rw [if_neg h1]
  simp only
  rcases h with ⟨_,h⟩ | ⟨h6,_⟩
  ·rw [List.nil_append] at h
   have:=h.at_ t (self_sub hq ht)
   exact ⟨h.wf,this.1,this.2⟩
  ·exact absurd (by rw [h6];decide) h1
structure OvC (L M:Pool) (s1 s2:(Int→Bool)×List Int):Prop where
 list:s1.2.map (treeOf L)=s2.2.map (treeOf M)
 i1:∀x∈s1.2,inP L x=true
 i2:∀x∈s2.2,inP M x=true
 mark:∀x y,inP L x=true→inP M y=true→treeOf L x=treeOf M y→s1.1 x=s2.1 y
theorem over_corr {L M:Pool} (hL:Wf L) (hM:Wf M):∀(n:Nat) (m:Nat) (s t:Int) (st1 st2:(Int→Bool)×List Int),s.toNat<n→t.toNat<m→((inP L s=false∧inP M t=false)∨(inP L s=true∧inP M t=true∧treeOf L s=treeOf M t))→OvC L M st1 st2→OvC L M (overS L n s st1) (overS M m t st2):=by
 intro n
 induction n with
 | zero=>intro m s t st1 st2 h;omega
 | succ n ih =>
  intro m s t st1 st2 hn hm hst hC
  cases m with
  | zero=>omega
  | succ m =>
  rw [overS,overS]
  rcases hst with ⟨e1,e2⟩ | ⟨hs,ht,e⟩
  ·rw [if_neg (by rw [e1];simp),if_neg (by rw [e2];simp)];exact hC
  ·have hmk:=hC.mark s t hs ht e
   rw [hs,ht]
   cases hv:st1.1 s with
   | true=>rw [if_neg (by simp),if_neg (by rw [← hmk,hv];simp)];exact hC
   | false =>
    rw [if_pos ⟨rfl,rfl⟩,if_pos ⟨rfl,by rw [← hmk,hv]⟩]
    obtain ⟨k1,_,_,_,_,k6⟩:=tree_node hL hM hs ht e
    obtain ⟨_,c2,c3,_,c5,_⟩:=hL.node hs
    obtain ⟨_,d2,d3,_,d5,_⟩:=hM.node ht
    have C1:OvC L M (upd st1.1 s true,st1.2) (upd st2.1 t true,st2.2):=⟨hC.list,hC.i1,hC.i2,fun x y hx hy exy=>by
     simp only [upd]
     by_cases ex:x=s
     ·subst ex
      have:y=t:=treeOf_inj hM _ y t rfl hy ht (exy.symm.trans e)
      rw [if_pos rfl,if_pos this]
     ·have:y≠t:=fun ey=>ex (treeOf_inj hL _ x s rfl hx hs (by rw [exy,ey,e]))
      rw [if_neg ex,if_neg this];exact hC.mark x y hx hy exy⟩
    have hs1:=(inP_iff.1 hs).1
    have ht1:=(inP_iff.1 ht).1
    have kid : (((inP L (nodeOf L s).a = false ∧ inP M (nodeOf M t).a = false) ∨ (inP L (nodeOf L s).a = true ∧ inP M (nodeOf M t).a = true ∧ treeOf L (nodeOf L s).a = treeOf M (nodeOf M t).a)) ∧
      ((inP L (nodeOf L s).b=false∧inP M (nodeOf M t).b=false)∨(inP L (nodeOf L s).b=true∧inP M (nodeOf M t).b=true∧treeOf L (nodeOf L s).b=treeOf M (nodeOf M t).b))) ∧
      ((nodeOf L s).a.toNat<n∧(nodeOf L s).b.toNat<n)∧(nodeOf M t).a.toNat<m∧(nodeOf M t).b.toNat<m:=by
     have z0:∀P:Pool,inP P 0=false:=fun P=>by simp [inP]
     unfold kidsOf at k6 c5 d5
     rw [← k1] at k6 d2 d3 d5
     rcases kids_le (nodeOf L s).kind with h | h | h
     ·rw [c2 (by omega),c3 (by omega),d2 (by omega),d3 (by omega)]
      exact ⟨⟨.inl ⟨z0 _,z0 _⟩,.inl ⟨z0 _,z0 _⟩⟩,⟨by omega,by omega⟩,by omega,by omega⟩
     ·rw [c3 (by omega),d3 (by omega)]
      rw [h] at k6 c5 d5
      simp at k6 c5 d5
      have:=inP_iff.1 c5.1;have:=inP_iff.1 d5.1
      exact ⟨⟨.inr ⟨c5.1,d5.1,k6⟩,.inl ⟨z0 _,z0 _⟩⟩,⟨by omega,by omega⟩,by omega,by omega⟩
     ·rw [h] at k6 c5 d5
      simp at k6 c5 d5
      have:=inP_iff.1 c5.1.1;have:=inP_iff.1 d5.1.1;have:=inP_iff.1 c5.2.1;have:=inP_iff.1 d5.2.1
      exact ⟨⟨.inr ⟨c5.1.1,d5.1.1,k6.1⟩,.inr ⟨c5.2.1,d5.2.1,k6.2⟩⟩,⟨by omega,by omega⟩,by omega,by omega⟩
    have r1:=ih m _ _ _ _ kid.2.1.1 kid.2.2.1 kid.1.1 C1
    have r2:=ih m _ _ _ _ kid.2.1.2 kid.2.2.2 kid.1.2 r1
    refine ⟨?_,?_,?_,r2.mark⟩
    ·simp only [List.map_append,List.map_cons,List.map_nil,r2.list,e]
    ·intro x hx
     rcases List.mem_append.1 hx with hx | hx
     ·exact r2.i1 x hx
     ·rw [List.mem_singleton] at hx;subst hx;exact hs
    ·intro x hx
     rcases List.mem_append.1 hx with hx | hx
     ·exact r2.i2 x hx
     ·rw [List.mem_singleton] at hx;subst hx;exact ht
theorem subs_tree {L M:Pool} (hL:Wf L) (hM:Wf M) {s t:Int} (hs:inP L s=true) (ht:inP M t=true) (e:treeOf L s=treeOf M t):(subs L s).map (treeOf L)=(subs M t).map (treeOf M) :=
 (over_corr hL hM (s.toNat+1) (t.toNat+1) s t (fun _=>false,[]) (fun _=>false,[]) (by omega) (by omega) (.inr ⟨hs,ht,e⟩) ⟨rfl,by simp,by simp,fun _ _ _ _ _=>rfl⟩).list
theorem posOf_tree {L M:Pool} (hL:Wf L) (hM:Wf M) {a b:Int} (ha:inP L a=true) (hb:inP M b=true) (e:treeOf L a=treeOf M b):∀(l1 l2:List Int),(∀x∈l1,inP L x=true)→(∀x∈l2,inP M x=true)→l1.map (treeOf L)=l2.map (treeOf M)→posOf l1 a=posOf l2 b:=by
 intro l1
 induction l1 with
 | nil=>intro l2 _ _ h;cases l2 with
  | nil=>rfl
  | cons y l2=>simp at h
 | cons x l1 ih=>intro l2 h1 h2 h;cases l2 with
  | nil=>simp at h
  | cons y l2 =>
   simp only [List.map_cons,List.cons.injEq] at h
   have hi:=ih l2 (fun k hk=>h1 k (List.mem_cons_of_mem _ hk)) (fun k hk=>h2 k (List.mem_cons_of_mem _ hk)) h.2
   have hxy:(x == a)=(y == b):=by
    by_cases ex:x=a
    ·have:y=b:=treeOf_inj hM _ y b rfl (h2 y (by simp)) hb (by rw [← h.1,ex,e])
     simp [ex,this]
    ·have:y≠b:=fun ey=>ex (treeOf_inj hL _ x a rfl (h1 x (by simp)) ha (by rw [h.1,ey,e]))
     rw [beq_false_of_ne ex,beq_false_of_ne this]
   unfold posOf at *
   rw [List.idxOf_cons,List.idxOf_cons,hxy,hi]
theorem textFrom_tree {L M:Pool} (hL:Wf L) (hM:Wf M):∀(l1 l2 s1 s2:List Int),(∀x∈l1,inP L x=true)→(∀x∈l2,inP M x=true)→(∀x∈s1,inP L x=true)→(∀x∈s2,inP M x=true)→l1.map (treeOf L)=l2.map (treeOf M)→s1.map (treeOf L)=s2.map (treeOf M)→textFrom L s1 l1=textFrom M s2 l2:=by
 intro l1
 induction l1 with
 | nil=>intro l2 s1 s2 _ _ _ _ h _;cases l2 with
  | nil=>rfl
  | cons y l2=>simp at h
 | cons x l1 ih=>intro l2 s1 s2 h1 h2 h3 h4 h h5;cases l2 with
  | nil=>simp at h
  | cons y l2 =>
   simp only [List.map_cons,List.cons.injEq] at h
   have hx:=h1 x (by simp)
   have hy:=h2 y (by simp)
   obtain ⟨k1,k2,k3,k4,k5,k6⟩:=tree_node hL hM hx hy h.1
   obtain ⟨_,_,_,_,c5,_⟩:=hL.node hx
   obtain ⟨_,_,_,_,d5,_⟩:=hM.node hy
   have hi:=ih l2 (s1++[x]) (s2++[y]) (fun k hk=>h1 k (List.mem_cons_of_mem _ hk)) (fun k hk=>h2 k (List.mem_cons_of_mem _ hk))
    (fun k hk=>by rcases List.mem_append.1 hk with hk | hk;exact h3 k hk;rw [List.mem_singleton] at hk;subst hk;exact hx)
    (fun k hk=>by rcases List.mem_append.1 hk with hk | hk;exact h4 k hk;rw [List.mem_singleton] at hk;subst hk;exact hy) h.2 (by simp [h5,h.1])
   rw [textFrom,textFrom,hi]
   congr 1
   unfold nodeText
   rw [k1]
   congr 1
   have hf:∀f∈flds (nodeOf M y).kind,f.bytes (nodeOf L x) (posOf s1 (nodeOf L x).a) (posOf s1 (nodeOf L x).b)=f.bytes (nodeOf M y) (posOf s2 (nodeOf M y).a) (posOf s2 (nodeOf M y).b):=by
    intro f hf
    have hk1:Fld.fst∈flds (nodeOf M y).kind→posOf s1 (nodeOf L x).a=posOf s2 (nodeOf M y).a:=fun hf=>by
     have m1:=fst_kid (n:=nodeOf L x) (by rw [k1];exact hf)
     have m2:=fst_kid hf
     refine posOf_tree hL hM (c5 _ m1).1 (d5 _ m2).1 ?_ s1 s2 h3 h4 h5
     unfold kidsOf at k6 m1
     rw [k1] at k6 m1
     rcases kids_le (nodeOf M y).kind with e | e | e <;> rw [e] at k6 m1 <;> simp at k6 m1
     ·exact k6
     ·exact k6.1
    have hk2:Fld.snd∈flds (nodeOf M y).kind→posOf s1 (nodeOf L x).b=posOf s2 (nodeOf M y).b:=fun hf=>by
     have m1:=snd_kid (n:=nodeOf L x) (by rw [k1];exact hf)
     have m2:=snd_kid hf
     have e:(shapeOf (nodeOf M y).kind).kids=2:=by
      unfold flds at hf
      repeat' split at hf
      all_goals first | (exfalso;revert hf;decide) | skip
      all_goals (rename_i h4;rw [h4];rfl)
     refine posOf_tree hL hM (c5 _ m1).1 (d5 _ m2).1 ?_ s1 s2 h3 h4 h5
     unfold kidsOf at k6
     rw [k1,e] at k6
     simp at k6
     exact k6.2
    cases f
    ·simp only [Fld.bytes,k2]
    ·simp only [Fld.bytes,k3]
    ·simp only [Fld.bytes,k4]
    ·simp only [Fld.bytes,k5]
    ·simp only [Fld.bytes,hk1 hf]
    ·simp only [Fld.bytes,hk2 hf]
   have cg:∀(fs:List Fld) (g1 g2:Fld→List UInt8),(∀f∈fs,g1 f=g2 f)→fs.flatMap g1=fs.flatMap g2:=by
    intro fs g1 g2
    induction fs with
    | nil=>intro _;rfl
    | cons f fs ihf=>intro hh;rw [List.flatMap_cons,List.flatMap_cons,hh f (by simp),ihf (fun x hx=>hh x (List.mem_cons_of_mem _ hx))]
   exact cg _ _ _ hf
theorem textOf_tree {L M:Pool} (hL:Wf L) (hM:Wf M) {s t:Int} (hs:inP L s=true) (ht:inP M t=true) (e:treeOf L s=treeOf M t):textOf L s=textOf M t :=
 textFrom_tree hL hM _ _ [] [] (fun _ h=>subs_in hL h) (fun _ h=>subs_in hM h) (by simp) (by simp) (subs_tree hL hM hs ht e) rfl
end Go.Sp
end
section
namespace Go.Sp
open Go.Proofs
end Go.Sp
end
section
namespace Go.Sp
open Go.Proofs
end Go.Sp
end
section
namespace Go.Sp
open Go.Proofs
def ones:Nat→List Int
 | 0=>[]
 | n+1=>ones n++[(n:Int)+1]
theorem ones_len (n:Nat):(ones n).length=n:=by induction n with
 | zero=>rfl
 | succ n ih=>simp [ones,ih]
theorem ones_mem {n:Nat} {x:Int}:x∈ones n↔1≤x∧x≤n:=by
 induction n with
 | zero=>simp [ones];omega
 | succ n ih=>simp only [ones,List.mem_append,ih,List.mem_singleton];omega
theorem ones_pos {n:Nat}:∀{x:Int},1≤x→x≤n→posOf (ones n) x=(x - 1).toNat:=by
 induction n with
 | zero=>intro x h1 h2;omega
 | succ n ih =>
  intro x h1 h2
  rw [ones]
  by_cases h:x≤n
  ·rw [posOf_app (ones_mem.2 ⟨h1,h⟩),ih h1 h]
  ·have:x=(n:Int)+1:=by omega
   subst this
   rw [posOf_new (by rw [ones_mem];omega),ones_len];omega
theorem ones_get {n:Nat} {j:Nat} (h:j<(ones n).length):(ones n)[j]=(j:Int)+1:=by
 induction n with
 | zero=>simp [ones] at h
 | succ n ih =>
  simp only [ones]
  rw [List.getElem_append]
  split
  ·exact ih _
  ·rename_i h1
   have:j=n:=by rw [ones_len] at h h1;omega
   subst this;simp
def _root_.Go.Proofs.Fld.said (x:Raw):Fld→List UInt8
 | .from_=>varint x.frm | .to_=>varint x.to | .num=>varint x.num | .text=>textBytes ⟨x.text.toArray⟩ | .fst=>varint x.a | .snd=>varint x.b
theorem rdNum_err:∀{l:List UInt8} {i n x:Nat},rdNum i n l=.error x→x≠0:=by
 intro l
 induction l with
 | nil=>intro i n x h;simp [rdNum] at h;omega
 | cons c l ih =>
  intro i n x h
  rw [rdNum_cons] at h
  split at h
  ·cases h;decide
  ·split at h
   ·split at h
    ·cases h;decide
    ·cases h
   ·exact ih h
theorem rNum_get {bs:List UInt8} {r:Rd} (h:(rNum bs r).2.err=0):r.err=0∧bs.drop r.at_=varint (rNum bs r).1++bs.drop (rNum bs r).2.at_∧(rNum bs r).1<18446744073709551616:=by
 unfold rNum at h ⊢
 by_cases he:r.err=0
 ·rw [if_pos he] at h ⊢
  cases hr:rdNum 0 0 (bs.drop r.at_) with
  | error x =>
   rw [hr] at h
   simp only at h
   exact absurd h (rdNum_err hr)
  | ok p =>
   obtain ⟨n,k⟩:=p
   obtain ⟨c,h1,h2,h3⟩:=rdNum_inv hr
   refine ⟨he,?_,h3⟩
   simp only
   rw [← List.drop_drop,h1,h2,List.drop_left]
 ·rw [if_neg he] at h;exact absurd h he
theorem rText_get {bs:List UInt8} {r:Rd} (h:(rText bs 64 r).2.err=0):r.err=0∧bs.drop r.at_=textBytes ⟨(rText bs 64 r).1.toArray⟩++bs.drop (rText bs 64 r).2.at_:=by
 have hn:=@rNum_get bs r
 unfold rNum at hn
 unfold rText at h ⊢
 by_cases he:r.err=0
 ·rw [if_pos he] at h hn ⊢
  cases hr:rdNum 0 0 (bs.drop r.at_) with
  | error x =>
   rw [hr] at h hn
   simp only at h hn
   exact absurd (hn h).2.1 (by
    have:=(hn h).2.1
    intro _
    have hl:=congrArg List.length this
    rw [List.length_append,varint_lt (by omega)] at hl
    simp at hl)
  | ok p =>
   obtain ⟨n,k⟩:=p
   rw [hr] at h hn
   simp only at h hn ⊢
   obtain ⟨c,h1,h2,h3⟩:=rdNum_inv hr
   split at h
   ·simp at h
   ·rename_i h64
    rw [if_neg h64]
    split at h
    ·simp at h
    ·rename_i hlen
     rw [if_neg hlen]
     refine ⟨he,?_⟩
     simp only
     have hd:bs.drop (r.at_+k)=c:=by rw [← List.drop_drop,h1,h2,List.drop_left]
     have hcl:n≤c.length:=by rw [← hd,List.length_drop];omega
     have hs:(ByteArray.mk (c.take n).toArray).size=n:=by show (c.take n).toArray.size=n;simp;omega
     have hd2:bs.drop (r.at_+k+n)=c.drop n:=by rw [← List.drop_drop,hd]
     rw [hd,hd2]
     unfold textBytes
     rw [hs,h1,List.append_assoc]
     congr 1
     simp
 ·rw [if_neg he] at h;exact absurd h he
theorem fld_get {bs:List UInt8} {r:Rd} {x:Raw} (f:Fld) (h:(f.rd bs r).err=0):r.err=0∧bs.drop r.at_=f.said (f.raw bs r x)++bs.drop (f.rd bs r).at_:=by
 cases f
 ·exact ⟨(rNum_get h).1,(rNum_get h).2.1⟩
 ·exact ⟨(rNum_get h).1,(rNum_get h).2.1⟩
 ·exact ⟨(rNum_get h).1,(rNum_get h).2.1⟩
 ·exact rText_get h
 ·exact ⟨(rNum_get h).1,(rNum_get h).2.1⟩
 ·exact ⟨(rNum_get h).1,(rNum_get h).2.1⟩
theorem said_keep {bs:List UInt8} {r:Rd} {x:Raw} {f g:Fld} (h:f≠g):f.said (g.raw bs r x)=f.said x:=by
 cases f <;> cases g <;> first | rfl | exact absurd rfl h
theorem rdFlds_keep {bs:List UInt8} {f:Fld}:∀(fs:List Fld) (x:Raw) (r:Rd),f ∉ fs→f.said (rdFlds bs fs (x,r)).1=f.said x:=by
 intro fs
 induction fs with
 | nil=>intro x r _;rfl
 | cons g fs ih =>
  intro x r h
  simp only [List.mem_cons,not_or] at h
  rw [rdFlds,ih _ _ h.2,said_keep h.1]
theorem rdFlds_get {bs:List UInt8}:∀(fs:List Fld) (x:Raw) (r:Rd),fs.Nodup→(rdFlds bs fs (x,r)).2.err=0→r.err=0∧bs.drop r.at_=fs.flatMap (fun f=>f.said (rdFlds bs fs (x,r)).1)++bs.drop (rdFlds bs fs (x,r)).2.at_:=by
 intro fs
 induction fs with
 | nil=>intro x r _ h;exact ⟨h,rfl⟩
 | cons f fs ih =>
  intro x r hn h
  rw [rdFlds] at h ⊢
  rw [List.nodup_cons] at hn
  obtain ⟨h1,h2⟩:=ih _ _ hn.2 h
  obtain ⟨h3,h4⟩:=fld_get (x:=x) f h1
  refine ⟨h3,?_⟩
  rw [List.flatMap_cons,h4,h2,rdFlds_keep fs _ _ hn.1,List.append_assoc]
theorem flds_nodup (k:Int):(flds k).Nodup:=by
 unfold flds;repeat' split
 all_goals decide
theorem num_raw {bs:List UInt8}:∀(fs:List Fld) (x:Raw) (r:Rd),(x.num<18446744073709551616)→(rdFlds bs fs (x,r)).1.num<18446744073709551616:=by
 intro fs
 induction fs with
 | nil=>intro x r h;exact h
 | cons f fs ih =>
  intro x r h
  rw [rdFlds]
  refine ih _ _ ?_
  cases f <;> try exact h
  simp only [Fld.raw]
  by_cases he:(rNum bs r).2.err=0
  ·exact (rNum_get he).2.2
  ·unfold rNum at he ⊢
   split
   ·rename_i h1
    rw [if_pos h1] at he
    split
    ·rename_i hk
     rw [hk] at he
     exact absurd rfl he
    ·simp
   ·simp
theorem flds_kids {bs:List UInt8} {k:Int} (h1:1≤k) (h9:k≤9) (r:Rd):(rdFlds bs (flds k) (noRaw,r)).1.kids=(shapeOf k).kids.toNat∧(Fld.fst∈flds k↔0<(shapeOf k).kids)∧(Fld.snd∈flds k↔1<(shapeOf k).kids):=by
 have:k=1∨k=2∨k=3∨k=4∨k=5∨k=6∨k=7∨k=8∨k=9:=by omega
 rcases this with rfl | rfl | rfl | rfl | rfl | rfl | rfl | rfl | rfl <;> simp [flds,rdFlds,Fld.raw,noRaw,shapeOf]
theorem rdStep_get {bs : List UInt8} {q : Pool} {r : Rd} (hW : Wf q) (hN : Nums q) (hl : r.at_ < bs.length) (he : r.err = 0) (h0 : (rdStep bs q r).2.1 = 0) :
  Wf (rdStep bs q r).1∧Nums (rdStep bs q r).1∧(rdStep bs q r).1.length=q.length+1∧(∀v,inP q v=true→inP (rdStep bs q r).1 v=true∧treeOf (rdStep bs q r).1 v=treeOf q v) ∧
  bs.drop r.at_=nodeText (rdStep bs q r).1 (ones q.length) ((q.length:Int)+1)++bs.drop (rdStep bs q r).2.2.at_:=by
 rw [rdStep_eq bs q r hl he] at h0 ⊢
 have hcons:bs.drop r.at_=bs[r.at_] :: bs.drop (r.at_+1):=List.drop_eq_getElem_cons hl
 have hb8:UInt8.ofNat bs[r.at_].toNat=bs[r.at_]:=by simp
 generalize bs[r.at_]=c at *
 split at h0
 ·rename_i hk
  rw [if_pos hk]
  have hk1:1≤c.toNat∧c.toNat≤9:=by unfold isKindN at hk;simpa using hk
  have hfl:=@rdFlds_get bs (flds c.toNat) noRaw ⟨r.at_+1,0,r.spot⟩ (flds_nodup _)
  have hnum:=@num_raw bs (flds c.toNat) noRaw ⟨r.at_+1,0,r.spot⟩ (by decide)
  obtain ⟨hkd,hk2,hk3⟩:=@flds_kids bs (c.toNat:Int) (by omega) (by omega) ⟨r.at_+1,0,r.spot⟩
  generalize rdFlds bs (flds c.toNat) (noRaw,⟨r.at_+1,0,r.spot⟩)=s at *
  obtain ⟨x,r'⟩:=s
  simp only at *
  obtain ⟨e1,e2,e3,e4,e5⟩:=rdIn_zero h0
  simp only at e1 e2 e3 e4 e5
  rw [e5]
  simp only
  obtain ⟨_,hfl⟩:=hfl e1
  obtain ⟨m1,m2,m3⟩:=make_node e4
  have hw:=make_wf hW (x.node c.toNat)
  have hnn:Nums (make q (x.node c.toNat)).2.2:=hN.make (by simp only [Raw.node,isNum];omega)
  have hmk:(make q (x.node c.toNat)).1=(q.length:Int)+1∧(make q (x.node c.toNat)).2.2.length=q.length+1:=by
   have hc:=m3
   unfold make at e4 ⊢
   simp only [e3] at e4 ⊢
   rw [if_neg (by rw [hc];simp)] at e4 ⊢
   split at e4
   ·simp at e4
   ·rename_i hf;rw [if_neg hf];exact ⟨rfl,by simp⟩
  obtain ⟨M,eM⟩:=make_app q (x.node c.toNat)
  refine ⟨hw,hnn,hmk.2,fun v hv=>?_,?_⟩
  ·rw [eM] at hw ⊢;exact ⟨inP_app hv,treeOf_app hw _ v rfl hv⟩
  ·rw [hmk.1] at m2
   rw [hcons,hfl]
   unfold nodeText
   rw [m2]
   have hkk:(x.node c.toNat).kind=c.toNat:=rfl
   rw [hkk,Int.toNat_natCast,hb8,List.cons_append]
   congr 1
   congr 1
   have hne:nodeErr c.toNat q.length x r'.err=0:=e2
   unfold nodeErr at hne
   rw [if_neg (by omega)] at hne
   split at hne
   ·simp at hne
   ·split at hne
    ·simp at hne
    ·rename_i href
     have cg:∀(fs:List Fld) (g1 g2:Fld→List UInt8),(∀f∈fs,g1 f=g2 f)→fs.flatMap g1=fs.flatMap g2:=by
      intro fs g1 g2
      induction fs with
      | nil=>intro _;rfl
      | cons f fs ihf=>intro hh;rw [List.flatMap_cons,List.flatMap_cons,hh f (by simp),ihf (fun x hx=>hh x (List.mem_cons_of_mem _ hx))]
     refine cg _ _ _ (fun f hf=>?_)
     cases f
     ·simp [Fld.said,Fld.bytes,Raw.node]
     ·simp [Fld.said,Fld.bytes,Raw.node]
     ·simp [Fld.said,Fld.bytes,Raw.node]
     ·simp [Fld.said,Fld.bytes,Raw.node]
     ·have h2:=hk2.1 hf
      have hx:0<x.kids:=by omega
      have ha:x.a<q.length:=by omega
      simp only [Fld.said,Fld.bytes,Raw.node,if_pos hx]
      rw [ones_pos (by omega) (by omega)]
      congr 1;omega
     ·have h2:=hk3.1 hf
      have hx:1<x.kids:=by omega
      have ha:x.b<q.length:=by omega
      simp only [Fld.said,Fld.bytes,Raw.node,if_pos hx]
      rw [ones_pos (by omega) (by omega)]
      congr 1;omega
 ·simp at h0
theorem rdGo_get {bs : List UInt8} : ∀ (fuel : Nat) (q : Pool) (r : Rd) (ps : List Nat) (q' : Pool), Wf q → Nums q → ps.length = q.length → r.err = 0 → r.at_ ≤ bs.length → bs.length - r.at_ ≤ fuel → bs.take r.at_ = textFrom q [] (ones q.length) → (rdGo bs fuel q r ps).1 = some q' →
  Wf q'∧Nums q'∧q.length≤q'.length∧bs=textFrom q' [] (ones q'.length)∧q'.length≤inRow 0 (subs q' q'.length):=by
 have hend:∀(q:Pool) (ps:List Nat) (q':Pool),ps.length=q.length→(rdEnd q ps).1=some q'→q=q'∧q.length≤inRow 0 (subs q q.length):=by
  intro q ps q' hp h
  unfold rdEnd at h
  simp only at h
  split at h
  ·cases h
  ·cases h;exact ⟨rfl,by omega⟩
 intro fuel
 induction fuel with
 | zero =>
  intro q r ps q' hW hN hp he hat hf ht h
  obtain ⟨rfl,h2⟩:=hend q ps q' hp h
  rw [List.take_of_length_le (by omega)] at ht
  exact ⟨hW,hN,Nat.le_refl _,ht,h2⟩
 | succ fuel ih =>
  intro q r ps q' hW hN hp he hat hf ht h
  by_cases hl:r.at_<bs.length
  ·rw [rdGo,if_pos hl] at h
   by_cases h0:(rdStep bs q r).2.1=0
   ·rw [if_neg (by simpa using h0)] at h
    obtain ⟨s1,s2,s3,s4,s5⟩:=rdStep_get hW hN hl he h0
    obtain ⟨a1,a2,a3⟩:=rdStep_at bs q r hl he h0
    have htake:bs.take (rdStep bs q r).2.2.at_=textFrom (rdStep bs q r).1 [] (ones (rdStep bs q r).1.length):=by
     have hold:∀z∈ones q.length,inP q z=true:=fun z hz=>inP_iff.2 (ones_mem.1 hz)
     have hsame:textFrom q [] (ones q.length)=textFrom (rdStep bs q r).1 [] (ones q.length) :=
      textFrom_tree hW s1 _ _ [] [] hold (fun z hz=>(s4 z (hold z hz)).1) (by simp) (by simp) (List.map_congr_left (fun z hz=>((s4 z (hold z hz)).2).symm)) rfl
     rw [s3,ones,textFrom_snoc,List.nil_append,← hsame,← ht]
     have hsplit:bs.take (rdStep bs q r).2.2.at_=bs.take r.at_++(bs.drop r.at_).take ((rdStep bs q r).2.2.at_ - r.at_):=by
      rw [← List.take_add];congr 1;omega
     rw [hsplit]
     congr 1
     have hlen:=congrArg List.length s5
     rw [List.length_drop,List.length_append,List.length_drop] at hlen
     rw [s5,List.take_append_of_le_length (by omega),List.take_of_length_le (by omega)]
    obtain ⟨g1,g2,g3,g4,g5⟩:=ih _ _ _ q' s1 s2 (by simp [hp,s3]) a3 a2 (by omega) htake h
    exact ⟨g1,g2,by omega,g4,g5⟩
   ·rw [if_pos h0] at h;cases h
  ·rw [rdGo_end hl] at h
   obtain ⟨rfl,h2⟩:=hend q ps q' hp h
   rw [List.take_of_length_le (by omega)] at ht
   exact ⟨hW,hN,Nat.le_refl _,ht,h2⟩
theorem inRow_get:∀(l:List Int) (i m:Nat),i+m≤inRow i l→m≤l.length∧∀j (h:j<l.length),j<m→l[j]=((i+j:Nat):Int)+1:=by
 intro l
 induction l with
 | nil=>intro i m h;rw [inRow] at h;exact ⟨by simp;omega,fun j h=>(by simp at h)⟩
 | cons s l ih =>
  intro i m h
  rw [inRow] at h
  split at h
  ·rename_i hs
   cases m with
   | zero=>exact ⟨by simp,fun j _ hj=>(by omega)⟩
   | succ m =>
    obtain ⟨h1,h2⟩:=ih (i+1) m (by omega)
    refine ⟨by rw [List.length_cons];omega,fun j hj hjm=>?_⟩
    cases j with
    | zero=>simp [hs]
    | succ j=>simp only [List.getElem_cons_succ];rw [h2 j (by simpa using hj) (by omega)];congr 2;omega
  ·exact ⟨by simp;omega,fun j _ hj=>by omega⟩
theorem rdText_get {bs:List UInt8} {q:Pool} (h:(rdText bs).1=some q):Wf q∧Nums q∧inP q q.length=true∧textOf q q.length=bs∧bs.length≤4096:=by
 unfold rdText at h
 split at h
 ·cases h
 ·split at h
  ·cases h
  ·rename_i h1 h2
   obtain ⟨g1,g2,_,g4,g5⟩:=rdGo_get bs.length [] ⟨0,0,0⟩ [] q Wf.nil Nums.nil rfl rfl (Nat.zero_le _) (Nat.le_refl _) (by simp [ones,textFrom]) h
   have hpos:0<q.length:=by
    rcases Nat.eq_zero_or_pos q.length with e | e
    ·rw [e,ones,textFrom] at g4;rw [g4] at h2;simp at h2
    ·exact e
   have hin:inP q q.length=true:=inP_iff.2 ⟨by omega,by omega⟩
   obtain ⟨k1,k2⟩:=inRow_get (subs q q.length) 0 q.length (by omega)
   have hfew:=subs_few g1 q.length
   have hs:subs q q.length=ones q.length:=by
    refine List.ext_getElem (by rw [ones_len];omega) (fun j h1 h2=>?_)
    rw [k2 j h1 (by rw [ones_len] at h2;exact h2),ones_get];simp
   refine ⟨g1,g2,hin,?_,by omega⟩
   unfold textOf;rw [hs];exact g4.symm
theorem decS_wf {L:Pool} (h:Wf L) (bs:List UInt8):Wf (decS L bs).2.2.2:=by
 unfold decS
 cases hq:(rdText bs).1 with
 | none=>exact h
 | some q =>
  obtain ⟨g1,_,g3,_⟩:=rdText_get hq
  by_cases h0:(copyS L q q.length).2.1=0
  ·exact (copyS_ok h g1 g3 h0).1
  ·simp only;rw [((copyS_err h g1 _).resolve_left h0).2];exact h
theorem rdText_err {bs:List UInt8} (h:(rdText bs).1=none):(rdText bs).2.1≠0:=by
 have hend:∀(q:Pool) (ps:List Nat),(rdEnd q ps).1=none→(rdEnd q ps).2.1≠0:=by
  intro q ps h
  unfold rdEnd at h ⊢
  simp only at h ⊢
  split at h
  ·rename_i hh;rw [dif_pos hh];show (73:Int)≠0;decide
  ·cases h
 have hgo:∀(bs:List UInt8) (fuel:Nat) (q:Pool) (r:Rd) (ps:List Nat),(rdGo bs fuel q r ps).1=none→(rdGo bs fuel q r ps).2.1≠0:=by
  intro bs fuel
  induction fuel with
  | zero=>intro q r ps h;exact hend _ _ h
  | succ fuel ih =>
   intro q r ps h
   rw [rdGo] at h ⊢
   split at h
   ·rename_i h1
    rw [if_pos h1]
    split at h
    ·rename_i h2;rw [if_pos h2];exact h2
    ·rename_i h2;rw [if_neg h2];exact ih _ _ _ h
   ·rename_i h1;rw [if_neg h1];exact hend _ _ h
 unfold rdText at h ⊢
 split at h
 ·rename_i h1;rw [if_pos h1];decide
 ·rename_i h1
  rw [if_neg h1]
  split at h
  ·rename_i h2;rw [if_pos h2];decide
  ·rename_i h2;rw [if_neg h2];exact hgo _ _ _ _ _ h
theorem rdText_ok {bs:List UInt8} {q:Pool} (h:(rdText bs).1=some q):(rdText bs).2.1=0:=by
 have hend:∀(q:Pool) (ps:List Nat) (x:Pool),(rdEnd q ps).1=some x→(rdEnd q ps).2.1=0:=by
  intro q ps x h
  unfold rdEnd at h ⊢
  simp only at h ⊢
  split at h
  ·cases h
  ·rename_i hh;rw [dif_neg hh]
 have hgo:∀(fuel:Nat) (q:Pool) (r:Rd) (ps:List Nat) (x:Pool),(rdGo bs fuel q r ps).1=some x→(rdGo bs fuel q r ps).2.1=0:=by
  intro fuel
  induction fuel with
  | zero=>intro q r ps x h;exact hend _ _ _ h
  | succ fuel ih =>
   intro q r ps x h
   rw [rdGo] at h ⊢
   split at h
   ·rename_i h1
    rw [if_pos h1]
    split at h
    ·cases h
    ·rename_i h2;rw [if_neg h2];exact ih _ _ _ _ h
   ·rename_i h1;rw [if_neg h1];exact hend _ _ _ h
 unfold rdText at h ⊢
 split at h
 ·cases h
 ·rename_i h1
  rw [if_neg h1]
  split at h
  ·cases h
  ·rename_i h2;rw [if_neg h2];exact hgo _ _ _ _ _ h
theorem enc_dec {L:Pool} (hW:Wf L) {bs:List UInt8} (h0:(decS L bs).2.1=0):Wf (decS L bs).2.2.2∧inP (decS L bs).2.2.2 (decS L bs).1=true∧textOf (decS L bs).2.2.2 (decS L bs).1=bs∧bs.length≤4096:=by
 cases hq:(rdText bs).1 with
 | none =>
  unfold decS at h0;rw [hq] at h0
  exact absurd h0 (rdText_err hq)
 | some q =>
  obtain ⟨g1,g2,g3,g4,g5⟩:=rdText_get hq
  unfold decS at h0 ⊢
  rw [hq] at h0 ⊢
  simp only at h0 ⊢
  obtain ⟨c1,c2,c3⟩:=copyS_ok hW g1 g3 h0
  exact ⟨c1,c2,by rw [textOf_tree c1 g1 c2 g3 c3,g4],g5⟩
end Go.Sp
end
section
open Go Go.SE
namespace Go.Proofs
attribute [local irreducible] Calls CallsD
def Raw.cells (k:Nat) (x:Raw):List Value:=[.int .i64 k,.int .i64 0,.int .i64 0,.int .u64 x.num,.string ⟨x.text.toArray⟩,.int .i64 0,.int .i64 0,.int .u64 x.frm,.int .u64 x.to,.int .u64 x.a,.int .u64 x.b,.int .i64 x.kids]
theorem upd_cells (bs:List UInt8) (r:Rd) (k:Nat) (x:Raw) (f:Fld):f.upd bs r (x.cells k)=(f.raw bs r x).cells k:=by cases f <;> rfl
theorem rdFlds_app (bs:List UInt8):∀(l1 l2:List Fld) (s:Raw×Rd),rdFlds bs (l1++l2) s=rdFlds bs l2 (rdFlds bs l1 s):=by
 intro l1
 induction l1 with
 | nil=>intro l2 s;rfl
 | cons f l1 ih=>intro l2 s;obtain ⟨x,r⟩:=s;rw [List.cons_append,rdFlds,rdFlds,ih]
theorem rdFlds_snoc (bs:List UInt8) (fs:List Fld) (j:Nat) (hj:j<fs.length) (s:Raw×Rd):rdFlds bs (fs.take (j+1)) s=(fs[j].raw bs (rdFlds bs (fs.take j) s).2 (rdFlds bs (fs.take j) s).1,fs[j].rd bs (rdFlds bs (fs.take j) s).2):=by
 rw [List.take_succ_eq_append_getElem hj,rdFlds_app]
 obtain ⟨x,r⟩:=rdFlds bs (fs.take j) s
 rfl
theorem call_get (f:Fld):∀args w,(callFunc f.get args).run Tryz.prog w=.ok (.enter f.get args) w:=by
 cases f
 ·exact Tryz.call111
 ·exact Tryz.call114
 ·exact Tryz.call116
 ·exact Tryz.call119
 ·exact Tryz.call122
 ·exact Tryz.call124
structure StAt (w:World) (q a:Addr) (s:Sl) (bs:List UInt8) (L:Sp.Pool) (r:Rd) (m:Nat) (S FP F:NP):Prop where
 pool:PoolAt w q L FP
 rd:RdS S w a s bs r
 kinds:Kinds w m F
 lS:∀b,S b→b<w.heap.size
 la:a.block<w.heap.size
 dP:∀b,FP b→b≠a.block∧¬ S b∧¬ F b∧b≠m
 dF:∀b,F b→b≠a.block∧¬ S b
 dm:m≠a.block∧¬ S m
theorem StAt.ext {w w':World} {q a:Addr} {s:Sl} {bs:List UInt8} {L:Sp.Pool} {r:Rd} {m:Nat} {S FP F G:NP} (h:StAt w q a s bs L r m S FP F) (E:Ext G w w') (hG:∀b,b<w.heap.size→¬ G b):StAt w' q a s bs L r m S FP F :=
 ⟨h.pool.ext E (fun b hb=>hG b (h.pool.lt hb)),h.rd.ext E (fun b hb=>hG b (h.lS b hb)) (hG _ h.la),h.kinds.ext E (fun b hb=>hG b (hb.elim (h.kinds.lt b) (fun e=>e▸h.kinds.mlt))),fun b hb=>Nat.lt_of_lt_of_le (h.lS b hb) E.size,Nat.lt_of_lt_of_le h.la E.size,h.dP,h.dF,h.dm⟩
theorem StAt.pure {w w':World} {q a:Addr} {s:Sl} {bs:List UInt8} {L:Sp.Pool} {r:Rd} {m:Nat} {S FP F:NP} (h:StAt w q a s bs L r m S FP F) (E:Pure w w'):StAt w' q a s bs L r m S FP F:=h.ext E (fun _ _ h=>h)
theorem wrap_id {n:Nat} (h:n<9223372036854775808):IntKind.i64.wrap (n:Int)=(n:Int):=IntWalk.i64_in _ (by omega)
theorem wire_name (n:Nat):s_L (n:Int)=if 2147483647<n then -1 else (n:Int):=by
 unfold s_L
 by_cases h:2147483647<n
 ·rw [if_pos h,show decide ((n:Int)>2147483647)=true by simp;omega];rfl
 ·rw [if_neg h,show decide ((n:Int)>2147483647)=false by simp;omega];exact wrap_id (by omega)
theorem wire_names (k f t:Nat) (u:Int) (x:ByteArray) (a b:Int):s_O (k:Int) (s_L (f:Int)) (s_L (t:Int)) u x a b=if 16≤f∨16≤t∨((k=8∨k=9)∧f=t) then 50 else 0:=by
 unfold s_O
 rw [wire_name,wire_name]
 have key:((((decide ((if 2147483647<f then -1 else (f:Int))<0) || decide ((if 2147483647<f then -1 else (f:Int))≥16)) || decide ((if 2147483647<t then -1 else (t:Int))<0)) || decide ((if 2147483647<t then -1 else (t:Int))≥16)) || ((((k:Int) == 8) || ((k:Int) == 9)) && ((if 2147483647<f then -1 else (f:Int)) == (if 2147483647<t then -1 else (t:Int)))))=decide (16≤f∨16≤t∨((k=8∨k=9)∧f=t)):=by
  rw [Bool.eq_iff_iff]
  simp only [Bool.or_eq_true,Bool.and_eq_true,decide_eq_true_eq,beq_iff_eq]
  by_cases h1:2147483647<f
  ·rw [if_pos h1]
   exact ⟨fun _=>.inl (by omega),fun _=>.inl (.inl (.inl (.inl (by omega))))⟩
  ·by_cases h2:2147483647<t
   ·rw [if_pos h2]
    exact ⟨fun _=>.inr (.inl (by omega)),fun _=>.inl (.inl (.inr (by omega)))⟩
   ·rw [if_neg h1,if_neg h2];omega
 rw [key]
 by_cases h:16≤f∨16≤t∨((k=8∨k=9)∧f=t)
 ·rw [decide_eq_true h,if_pos h];rfl
 ·rw [decide_eq_false h,if_neg h];rfl
theorem row_left {w:World} {p:Addr} {n:Sp.Node} {cs:List Value} {T:TypeId} (h:Box w p (nrow n++cs) T):Row w p (nrow n):=fun i hi=>by
 have:=h.row i (by rw [List.length_append];omega)
 rw [List.getElem?_append_left hi] at this;exact this
theorem c_sub4 (q a : Addr) (s : Sl) (bs : List UInt8) (r : Rd) (m : Nat) {S FP F : NP} {L : Sp.Pool} (p : Addr) (n : Sp.Node) (cs : List Value) {w : World} (h : StAt w q a s bs L r m S FP F) (hok : Sp.Ok L) (hB : Box w p (nrow n ++ cs) 188) (hp : ¬ FP p.block) (K : Int → WP)
  (hK:∀x w',x=(if (Sp.find L n).isSome=true then 72 else (Sp.make L n).2.1)→(∃F',PoolAt w' q (if (Sp.find L n).isSome=true then L else (Sp.make L n).2.2) F'∧RdS S w' a s bs r∧Ext FP w w'∧∀b,F' b→FP b∨w.heap.size≤b)→K x w') :
  m_G_j4 (some q) p None w K:=by
 unfold m_G_j4
 refine ⟨n.kind,n.frm,n.to,n.num,n.text,n.a,n.b,row_left hB,?_⟩
 refine (c_Has q n w h.pool hok).mono ?_
 rintro _ w1 ⟨x,ok,rfl,hf,E1⟩
 refine ⟨_,_,rfl,E1.keptP,fun hok1=>?_,fun hok1=>?_⟩
 ·have : (Sp.find L n).isSome = true := by
   cases hn:Sp.find L n with
   | some i=>rfl
   | none=>rw [hn] at hf;simp only at hf;rw [hf.2] at hok1;cases hok1
  rw [if_pos this,if_pos this] at hK
  exact hK _ _ rfl ⟨FP,h.pool.pure E1,h.rd.pure E1,Ext.pure E1,fun b hb=>.inl hb⟩
 ·have : ¬ (Sp.find L n).isSome = true := by
   cases hn:Sp.find L n with
   | some i=>rw [hn] at hf;simp only at hf;rw [hf.2] at hok1;cases hok1
   | none=>simp
  rw [if_neg this,if_neg this] at hK
  refine ⟨n.kind,n.frm,n.to,n.num,n.text,n.a,n.b,row_left (hB.pure E1),?_⟩
  refine (c_Make q n.kind n.frm n.to n.num n.text n.a n.b w1 (h.pool.pure E1) hok).mono ?_
  rintro _ w2 ⟨x1,x2,rfl,he,F',hP,E2,hF'⟩
  have he2:=congrArg Prod.snd he
  simp only at he2
  refine ⟨x1,x2,rfl,E2.kept (fun b hb=>hb.elim),hK _ _ he2 ⟨F',hP,(h.rd.pure E1).ext E2 (fun b hb hh=>(h.dP b hh).2.1 hb) (fun hh=>(h.dP _ hh).1 rfl),(Ext.pure E1).trans E2,fun b hb=>(hF' b hb).elim .inl (fun hb=>.inr (by have:=E1.size;omega))⟩⟩
theorem raw_row (k:Nat) (x:Raw):(((x.cells k).set 1 (.int .i64 (s_L x.frm))).set 2 (.int .i64 (s_L x.to)))=nrow ⟨k,s_L x.frm,s_L x.to,x.num,⟨x.text.toArray⟩,0,0⟩++[.int .u64 x.frm,.int .u64 x.to,.int .u64 x.a,.int .u64 x.b,.int .i64 x.kids]:=rfl
theorem raw_rowA (n:Sp.Node) (cs:List Value) (v:Int):(nrow n++cs).set 5 (.int .i64 v)=nrow { n with a:=v }++cs:=rfl
theorem raw_rowB (n:Sp.Node) (cs:List Value) (v:Int):(nrow n++cs).set 6 (.int .i64 v)=nrow { n with b:=v }++cs:=rfl
theorem c_sub3 (q a : Addr) (s : Sl) (bs : List UInt8) (r : Rd) (m : Nat) {S FP F : NP} {L : Sp.Pool} (p : Addr) (k : Nat) (x : Raw) {w : World} (h : StAt w q a s bs L r m S FP F) (hok : Sp.Ok L)
  (h1:x.frm<16) (h2:x.to<16) (ha:0<x.kids→x.a<L.length) (hb:1<x.kids→x.b<L.length)
  (hB:Box w p (nrow ⟨k,s_L x.frm,s_L x.to,x.num,⟨x.text.toArray⟩,0,0⟩++[.int .u64 x.frm,.int .u64 x.to,.int .u64 x.a,.int .u64 x.b,.int .i64 x.kids]) 188) (hpS:p.block≠a.block∧¬ S p.block∧¬ FP p.block∧¬ F p.block∧p.block≠m) (K:Int→WP)
  (hK:∀y w',y=(if (Sp.find L (x.node k)).isSome=true then 72 else (Sp.make L (x.node k)).2.1)→(∃F',PoolAt w' q (if (Sp.find L (x.node k)).isSome=true then L else (Sp.make L (x.node k)).2.2) F'∧RdS S w' a s bs r∧Ext (fun b=>FP b∨b=p.block) w w'∧∀b,F' b→FP b∨w.heap.size≤b)→K y w') :
  m_G_j2 (some q) p false None w K:=by
 have hok2:=hok.few
 have fs:s_L (x.frm:Int)=(x.frm:Int):=by rw [wire_name,if_neg (by omega)]
 have ts:s_L (x.to:Int)=(x.to:Int):=by rw [wire_name,if_neg (by omega)]
 rw [fs,ts] at hB
 have st5:∀{w w':World} {i:Nat} {v:Value},StAt w q a s bs L r m S FP F→w'=w.setCell (p.add i) v→StAt w' q a s bs L r m S FP F∧Ext (·=p.block) w w':=fun {w w' i v} h e=>by
  have E:Ext (·=p.block) w w':=by rw [e];exact ext_set
  refine ⟨⟨h.pool.ext E (fun b hb e=>hpS.2.2.1 (e▸hb)),h.rd.ext E (fun b hb e=>hpS.2.1 (e▸hb)) (fun e=>hpS.1 e.symm),h.kinds.ext E (fun b hb e=>hb.elim (fun hb=>hpS.2.2.2.1 (e▸hb)) (fun hb=>hpS.2.2.2.2 (e.symm.trans hb))),fun b hb=>Nat.lt_of_lt_of_le (h.lS b hb) E.size,Nat.lt_of_lt_of_le h.la E.size,h.dP,h.dF,h.dm⟩,E⟩
 have wr:∀n:Nat,n<L.length→IntKind.i64.wrap (IntKind.u64.wrap ((n:Int)+1))=(n:Int)+1:=fun n hn=>by
  rw [show (n:Int)+1=((n+1:Nat):Int) by omega,wrap_u64 (by omega),wrap_id (by omega)]
 have fin : ∀ (va vb : Int) (w1 : World), StAt w1 q a s bs L r m S FP F → Box w1 p (nrow ⟨k, x.frm, x.to, x.num, ⟨x.text.toArray⟩, va, vb⟩ ++ [.int .u64 x.frm, .int .u64 x.to, .int .u64 x.a, .int .u64 x.b, .int .i64 x.kids]) 188 → Ext (· = p.block) w w1 →
   va=(if 0<x.kids then (x.a:Int)+1 else 0)→vb=(if 1<x.kids then (x.b:Int)+1 else 0)→m_G_j4 (some q) p None w1 K:=by
  intro va vb w1 h1 hB1 E1 hva hvb
  have hn:(⟨k,x.frm,x.to,x.num,⟨x.text.toArray⟩,va,vb⟩:Sp.Node)=x.node k:=by subst hva hvb;rfl
  rw [hn] at hB1
  refine c_sub4 q a s bs r m p (x.node k) _ h1 hok hB1 hpS.2.2.1 K (fun y w' hy ⟨F',g1,g2,g3,g4⟩=>hK y w' hy ⟨F',g1,g2,(E1.mono (fun b _ h=>.inr h)).trans (g3.mono (fun b _ h=>.inl h)),fun b hb=>(g4 b hb).imp id (fun h=>by have:=E1.size;omega)⟩)
 unfold m_G_j2
 refine ⟨fun hc=>(by cases hc),fun _=>⟨x.kids,hB.cell (i:=11) rfl,?_⟩⟩
 have j3 : ∀ (va : Int) (w1 : World), StAt w1 q a s bs L r m S FP F → Box w1 p (nrow ⟨k, x.frm, x.to, x.num, ⟨x.text.toArray⟩, va, 0⟩ ++ [.int .u64 x.frm, .int .u64 x.to, .int .u64 x.a, .int .u64 x.b, .int .i64 x.kids]) 188 → Ext (· = p.block) w w1 →
   va=(if 0<x.kids then (x.a:Int)+1 else 0)→m_G_j3 (some q) p None w1 K:=by
  intro va w1 h1 hB1 E1 hva
  unfold m_G_j3
  refine ⟨x.kids,hB1.cell (i:=11) rfl,fun hc=>?_,fun hc=>?_⟩
  ·have hc:1<x.kids:=by have:=of_decide_eq_true hc;omega
   refine ⟨x.b,hB1.cell (i:=10) rfl,hB1.canW (i:=6) (by simp [nrow]),id,?_⟩
   rintro w2 e2
   obtain ⟨h2,E2⟩:=st5 h1 e2
   have hB2:=hB1.set 6 (.int .i64 (IntKind.i64.wrap (IntKind.u64.wrap ((x.b:Int)+1))))
   rw [← e2,raw_rowB,wr _ (hb hc)] at hB2
   exact fin va _ w2 h2 hB2 (E1.trans E2) hva (by rw [if_pos hc])
  ·have hc:¬ 1<x.kids:=by have:=of_decide_eq_false hc;omega
   exact fin va 0 w1 h1 hB1 E1 hva (by rw [if_neg hc])
 refine ⟨fun hc=>?_,fun hc=>?_⟩
 ·have hc:0<x.kids:=by have:=of_decide_eq_true hc;omega
  refine ⟨x.a,hB.cell (i:=9) rfl,hB.canW (i:=5) (by simp [nrow]),id,?_⟩
  rintro w2 e2
  obtain ⟨h2,E2⟩:=st5 h e2
  have hB2:=hB.set 5 (.int .i64 (IntKind.i64.wrap (IntKind.u64.wrap ((x.a:Int)+1))))
  rw [← e2,raw_rowA,wr _ (ha hc)] at hB2
  exact j3 _ w2 h2 hB2 E2 (by rw [if_pos hc])
 ·have hc:¬ 0<x.kids:=by have:=of_decide_eq_false hc;omega
  exact j3 0 w h hB (Ext.refl _) (by rw [if_neg hc])
theorem c_subterm (q a : Addr) (s : Sl) (bs : List UInt8) (r : Rd) (m : Nat) {S FP F : NP} {L : Sp.Pool} {w0 : World} (h : StAt w0 q a s bs L r m S FP F) (hok : Sp.Ok L) (hlt : r.at_ < bs.length) (he : r.err = 0) :
  Calls Tryz.prog 78 #[.pointer (some q),.pointer (some a),.map (some m)] w0 (fun e w'=>∃y:Int,e=.returned (.int .i64 y)∧(y=(rdStep bs L r).2.1∧∃F',PoolAt w' q (rdStep bs L r).1 F'∧RdS S w' a s bs (rdStep bs L r).2.2∧Ext (fun b=>FP b∨b=a.block) w0 w'∧∀b,F' b→FP b∨w0.heap.size≤b)):=by
 refine w_G (some q) (some a) (some m) w0 (fun y w'=>y=(rdStep bs L r).2.1∧∃F',PoolAt w' q (rdStep bs L r).1 F'∧RdS S w' a s bs (rdStep bs L r).2.2∧Ext (fun b=>FP b∨b=a.block) w0 w'∧∀b,F' b→FP b∨w0.heap.size≤b) ?_
 unfold m_G
 refine (c_Byte a s bs r w0 h.rd (Nat.le_of_lt hlt) h.lS).mono ?_
 rintro _ w1 ⟨_,rfl,rfl,hR1,E1⟩
 refine ⟨_,rfl,E1.kept (fun b hb=>hb.elim),?_⟩
 rw [rdStep_eq bs L r hlt he]
 rw [rByte_ok bs r hlt he] at hR1 ⊢
 simp only at hR1 ⊢
 generalize hk:bs[r.at_].toNat=k at *
 have hk256:k<256:=by rw [← hk];exact bs[r.at_].toNat_lt
 have S1:StAt w1 q a s bs L ⟨r.at_+1,0,r.spot⟩ m S FP F:=⟨h.pool.ext E1 (fun b hb e=>(h.dP b hb).1 e),hR1,h.kinds.ext E1 (fun b hb e=>hb.elim (fun hb=>(h.dF b hb).1 e) (fun hb=>h.dm.1 (hb.symm.trans e))),fun b hb=>Nat.lt_of_lt_of_le (h.lS b hb) E1.size,Nat.lt_of_lt_of_le h.la E1.size,h.dP,h.dF,h.dm⟩
 intro p1 w2 n2
 rw [wrap_id (by omega)] at n2
 have E2:Pure w1 w2:=Ext.new n2
 have S2:=S1.pure E2
 have B2:Box w2 p1 (noRaw.cells k) 188:=Box.of_newA n2
 have bp:=n2.at_size
 have z1:=E1.size
 have E02:Ext (·=a.block) w0 w2:=E1.thenPure E2
 refine ⟨k,B2.cell0,?_⟩
 by_cases hkk:isKindN k=true
 ·have hk19:1≤k∧k≤9:=by unfold isKindN at hkk;simpa using hkk
  obtain ⟨v2,hlook,hLst⟩:=S2.kinds.get (k:Int) (by omega) (by omega) true
  refine ⟨v2,true,hlook,fun hc=>(by cases hc),fun _=>?_⟩
  rw [if_pos hkk]
  generalize hfs:flds (k:Int)=fs at *
  have hf3:fs.length≤3:=by rw [← hfs];exact flds_len _
  have hrat:∀j,(rdFlds bs (fs.take j) (noRaw,⟨r.at_+1,0,r.spot⟩)).2.at_≤bs.length:=fun j=>(rdFlds_at bs (fs.take j) noRaw ⟨r.at_+1,0,r.spot⟩ (by simp only;omega)).2
  refine ⟨fun x1 Hl w=>∃j:Nat,x1=j∧j≤fs.length∧Hl=None∧StAt w q a s bs L (rdFlds bs (fs.take j) (noRaw,⟨r.at_+1,0,r.spot⟩)).2 m S FP F∧Box w p1 ((rdFlds bs (fs.take j) (noRaw,⟨r.at_+1,0,r.spot⟩)).1.cells k) 188∧Lst F w 2 v2 (fs.map Fld.row)∧Ext (·=a.block) w0 w,fun x1 _=>((fs.length:Int) - x1).toNat,⟨0,rfl,Nat.zero_le _,rfl,S2,B2,hLst,E02⟩,?_⟩
  rintro _ _ wl _ ⟨j,rfl,hj,rfl,hS,hB,hL,hE⟩
  unfold m_G_l1
  have hlen:v2.len=fs.length:=by rw [hL.len,List.length_map]
  have ple:p1.block<wl.heap.size:=hB.lt
  have zE:=hE.size
  have nS:¬ S p1.block:=fun hh=>by have:=h.lS _ hh;omega
  have nF:¬ F p1.block:=fun hh=>by have:=h.kinds.lt _ hh;omega
  have nP:¬ FP p1.block:=fun hh=>by have:=h.pool.lt hh;omega
  have na:p1.block≠a.block:=fun hh=>by have:=h.la;omega
  have nm:p1.block≠m:=fun hh=>by have:=h.kinds.mlt;omega
  refine ⟨fun hc=>?_,fun hc=>?_⟩
  ·have hc:=lt_of_dec hlen hc
   obtain ⟨a1,hat,_,hrow⟩:=hL.nth hc
   refine ⟨a1,hat,_,_,hrow,?_⟩
   intro p2 w3 n3
   have E3:Pure wl w3:=Ext.new n3
   refine ⟨⟨rfl,fun i hi=>(Box.of_newA n3).canW (by simpa using hi)⟩,id,?_⟩
   rintro w4 e4
   have X4:Ext (·=p2.block) w3 w4:=by rw [e4];exact Ext.storeRow _ _ _
   have B4:Box w4 p2 [.func (.func fs[j].put) #[] #[],.func (.func fs[j].get) #[] #[]] 174:=by rw [e4];exact (Box.of_newA n3).store rfl
   have hp2:=n3.at_size
   have E34:Pure wl w4:=E3.own (by rw [hp2];exact Nat.le_refl _) X4
   have S4:=hS.pure E34
   refine ⟨_,B4.cell (i:=1) rfl,fs[j].get,#[],#[],rfl,call_get fs[j],?_⟩
   refine (c_get fs[j] a p1 s bs _ _ w4 S4.rd (hrat j) S4.lS (hB.pure E34) rfl (fun e=>na e.symm) (fun b hb e=>nS (e▸hb))).mono ?_
   rintro _ w5 ⟨rfl,hR5,hB5,E5⟩
   rw [upd_cells] at hB5
   have hsn:=rdFlds_snoc bs fs j hc (noRaw,⟨r.at_+1,0,r.spot⟩)
   refine ⟨rfl,E5.kept (fun b hb=>hb.elim),⟨j+1,wrap_succ hc (by omega),hc,rfl,?_,?_,?_,?_⟩,by rw [wrap_succ hc (by omega)];exact lt_dec hc⟩
   ·rw [hsn]
    exact ⟨S4.pool.ext E5 (fun b hb e=>e.elim (fun e=>(h.dP b hb).1 e) (fun e=>nP (e▸hb))),hR5,S4.kinds.ext E5 (fun b hb e=>hb.elim (fun hb=>e.elim (fun e=>(h.dF b hb).1 e) (fun e=>nF (e▸hb))) (fun hb=>e.elim (fun e=>h.dm.1 (hb.symm.trans e)) (fun e=>nm (e.symm.trans hb)))),fun b hb=>Nat.lt_of_lt_of_le (S4.lS b hb) E5.size,Nat.lt_of_lt_of_le S4.la E5.size,h.dP,h.dF,h.dm⟩
   ·rw [hsn];exact hB5
   ·exact (hL.pure E34).ext E5 (fun b hb e=>e.elim (fun e=>(h.dF b hb).1 e) (fun e=>nF (e▸hb)))
   ·exact (hE.thenPure E34).trans' E5 (fun i hi e=>e.elim id (fun e=>by omega))
  ·have hc:=eq_of_dec hlen hj hc
   subst hc
   rw [List.take_length] at hS hB
   have hkd:=(@Sp.flds_kids bs (k:Int) (by omega) (by omega) ⟨r.at_+1,0,r.spot⟩).1
   rw [hfs] at hkd
   generalize rdFlds bs fs (noRaw,⟨r.at_+1,0,r.spot⟩)=st at *
   obtain ⟨x,r'⟩:=st
   simp only at hS hB hkd
   have fin : ∀ (y : Int) (w : World) (F' : NP), PoolAt w q (rdIn L k (x, r')).1 F' → RdS S w a s bs (rdIn L k (x, r')).2.2 → Ext (fun b => FP b ∨ b = a.block) w0 w → (∀ b, F' b → FP b ∨ w0.heap.size ≤ b) → y = (rdIn L k (x, r')).2.1 →
     y=(rdIn L k (x,r')).2.1∧∃F',PoolAt w q (rdIn L k (x,r')).1 F'∧RdS S w a s bs (rdIn L k (x,r')).2.2∧Ext (fun b=>FP b∨b=a.block) w0 w∧∀b,F' b→FP b∨w0.heap.size≤b:=fun y w F' a1 a2 a3 a4 a5=>⟨a5,F',a1,a2,a3,a4⟩
   have hEo:Ext (fun b=>FP b∨b=a.block) w0 wl:=hE.mono (fun b _ h=>.inr h)
   have bad:∀(e:Nat) (w:World),nodeErr k L.length x r'.err=e→e≠0→Ext (·=p1.block) wl w→(((e:Nat):Int)=(rdIn L k (x,r')).2.1∧∃F',PoolAt w q (rdIn L k (x,r')).1 F'∧RdS S w a s bs (rdIn L k (x,r')).2.2∧Ext (fun b=>FP b∨b=a.block) w0 w∧∀b,F' b→FP b∨w0.heap.size≤b):=by
    intro e w hne h0 E
    have hr:rdIn L k (x,r')=(L,(e:Int),r'):=by
     unfold rdIn;simp only;rw [if_pos (by rw [hne];exact h0),hne]
    rw [hr]
    exact ⟨rfl,FP,hS.pool.ext E (fun b hb e=>nP (e▸hb)),hS.rd.ext E (fun b hb e=>nS (e▸hb)) (fun e=>na e.symm),hEo.trans' E (fun i hi e=>by omega),fun b hb=>.inl hb⟩
   refine (c_Why a s bs r' wl hS.rd).mono ?_
   rintro _ w6 ⟨_,_,rfl,rfl,rfl,E6⟩
   have S6:=hS.pure E6
   have B6:=hB.pure E6
   refine ⟨_,_,rfl,E6.keptP,fun hc=>?_,fun hc=>?_⟩
   ·have hc:r'.err≠0:=by have:=bne_iff_ne.1 hc;omega
    exact bad r'.err w6 (by unfold nodeErr;rw [if_pos hc]) hc (Ext.pure E6)
   ·have hc : r'.err = 0 := by
     have:((r'.err:Int) != 0)=false:=hc
     simpa using this
    refine ⟨fun w'=>w'.cell? (p1.add 8)=some (.int .u64 x.to),(B6.pure (Ext.drew w6)).cell (i:=8) rfl,?_⟩
    rintro w7 e7
    have E7:Pure w6 w7:=by rw [e7];exact Ext.drew w6
    have B7:=B6.pure E7
    refine ⟨x.frm,B7.cell (i:=7) rfl,x.to,fun w' hw'=>hw',?_⟩
    refine (p_L (x.frm:Int) w7).mono ?_
    rintro _ w8 ⟨rfl,E8⟩
    have B8:=B7.pure E8
    refine ⟨_,rfl,B8.cell (i:=8) rfl,E8.keptP,?_⟩
    refine (p_L (x.to:Int) w8).mono ?_
    rintro _ w9 ⟨rfl,E9⟩
    have B9:=B8.pure E9
    refine ⟨_,rfl,B9.cell (i:=8) rfl,E9.keptP,B9.canW (i:=1) (by simp [Raw.cells]),id,?_⟩
    rintro w10 e10
    have X10:Ext (·=p1.block) w9 w10:=by rw [e10];exact ext_set
    have B10:=B9.set 1 (.int .i64 (s_L x.frm))
    rw [← e10] at B10
    refine ⟨B10.cell (i:=8) rfl,B10.canW (i:=2) (by simp [Raw.cells]),id,?_⟩
    rintro w11 e11
    have X11:Ext (·=p1.block) w10 w11:=by rw [e11];exact ext_set
    have B11:=B10.set 2 (.int .i64 (s_L x.to))
    rw [← e11,raw_row] at B11
    have E11:Ext (·=p1.block) wl w11:=((Ext.pure (((E6.trans E7).trans E8).trans E9)).trans X10).trans X11
    have S11:StAt w11 q a s bs L r' m S FP F:=⟨hS.pool.ext E11 (fun b hb e=>nP (e▸hb)),hS.rd.ext E11 (fun b hb e=>nS (e▸hb)) (fun e=>na e.symm),hS.kinds.ext E11 (fun b hb e=>hb.elim (fun hb=>nF (e▸hb)) (fun hb=>nm (e.symm.trans hb))),fun b hb=>Nat.lt_of_lt_of_le (hS.lS b hb) E11.size,Nat.lt_of_lt_of_le hS.la E11.size,h.dP,h.dF,h.dm⟩
    refine ⟨k,s_L x.frm,s_L x.to,x.num,⟨x.text.toArray⟩,0,0,row_left B11,?_⟩
    rw [wire_names]
    by_cases hnm:16≤x.frm∨16≤x.to∨((k=8∨k=9)∧x.frm=x.to)
    ·rw [if_pos hnm]
     refine ⟨fun _ w12 hs12=>?_,fun hc=>(by cases hc)⟩
     exact bad 50 w12 (by unfold nodeErr;rw [if_neg (by omega),if_pos hnm]) (by decide) (E11.thenPure hs12.ext)
    ·rw [if_neg hnm]
     refine ⟨fun hc=>(by cases hc),fun _ w12 hs12=>?_⟩
     have E12:Pure w11 w12:=hs12.ext
     have S12:=S11.pure E12
     refine (c_term_Len q w12 S12.pool).mono ?_
     rintro _ w13 ⟨_,rfl,rfl,rfl⟩
     have B12:=B11.pure E12
     have hLs:=hok.few
     refine ⟨_,rfl,Kept.refl _,x.kids,B12.cell (i:=11) rfl,?_⟩
     rw [wrap_u64 (by omega)]
     have bad71:((0<x.kids∧L.length≤x.a)∨(1<x.kids∧L.length≤x.b))→((71:Int)=(rdIn L k (x,r')).2.1∧∃F',PoolAt w13 q (rdIn L k (x,r')).1 F'∧RdS S w13 a s bs (rdIn L k (x,r')).2.2∧Ext (fun b=>FP b∨b=a.block) w0 w13∧∀b,F' b→FP b∨w0.heap.size≤b):=fun hh =>
      bad 71 w13 (by unfold nodeErr;rw [if_neg (by omega),if_neg hnm,if_pos hh]) (by decide) (E11.thenPure E12)
     have good:¬ ((0<x.kids∧L.length≤x.a)∨(1<x.kids∧L.length≤x.b))→m_G_j2 (some q) p1 false None w13 (fun y w'=>y=(rdIn L k (x,r')).2.1∧∃F',PoolAt w' q (rdIn L k (x,r')).1 F'∧RdS S w' a s bs (rdIn L k (x,r')).2.2∧Ext (fun b=>FP b∨b=a.block) w0 w'∧∀b,F' b→FP b∨w0.heap.size≤b):=fun hh=>by
      have hr:rdIn L k (x,r')=(if (Sp.find L (x.node k)).isSome=true then L else (Sp.make L (x.node k)).2.2,if (Sp.find L (x.node k)).isSome=true then 72 else (Sp.make L (x.node k)).2.1,r'):=by
       have hne:nodeErr k L.length x r'.err=0:=by unfold nodeErr;rw [if_neg (by omega),if_neg hnm,if_neg hh]
       unfold rdIn
       simp only
       rw [if_neg (by rw [hne];simp)]
       split <;> rfl
      rw [hr]
      refine c_sub3 q a s bs r' m p1 k x S12 hok (by omega) (by omega) (by omega) (by omega) B12 ⟨na,nS,nP,nF,nm⟩ _ ?_
      rintro y w' hy ⟨F',g1,g2,g3,g4⟩
      exact ⟨hy,F',g1,g2,(hEo.trans' (E11.thenPure E12) (fun i hi e=>by omega)).trans' g3 (fun i hi e=>e.elim .inl (fun e=>by omega)),fun b hb=>(g4 b hb).imp id (fun hh=>by have:=E11.size;have:=E12.size;omega)⟩
     have j5:∀x3:Bool,x3=decide (0<x.kids∧L.length≤x.a)→m_G_j5 (some q) p1 (L.length:Int) x3 None w13 (fun y w'=>y=(rdIn L k (x,r')).2.1∧∃F',PoolAt w' q (rdIn L k (x,r')).1 F'∧RdS S w' a s bs (rdIn L k (x,r')).2.2∧Ext (fun b=>FP b∨b=a.block) w0 w'∧∀b,F' b→FP b∨w0.heap.size≤b):=by
      intro x3 h3
      unfold m_G_j5
      refine ⟨fun hc=>?_,fun hc=>?_⟩
      ·rw [hc] at h3
       have h3:=of_decide_eq_true h3.symm
       unfold m_G_j2
       exact ⟨fun _=>bad71 (.inl h3),fun hc=>(by cases hc)⟩
      ·rw [hc] at h3
       have h3:=of_decide_eq_false h3.symm
       refine ⟨x.kids,B12.cell (i:=11) rfl,fun hc=>?_,fun hc=>?_⟩
       ·have hc:=of_decide_eq_true hc
        refine ⟨x.b,B12.cell (i:=10) rfl,?_⟩
        rw [wrap_u64 (by omega)]
        by_cases hb:L.length≤x.b
        ·rw [decide_eq_true (show (x.b:Int)≥(L.length:Int) by omega)]
         unfold m_G_j2
         exact ⟨fun _=>bad71 (.inr ⟨by omega,hb⟩),fun hc=>(by cases hc)⟩
        ·rw [decide_eq_false (show ¬ (x.b:Int)≥(L.length:Int) by omega)]
         exact good (by omega)
       ·have hc:=of_decide_eq_false hc
        exact good (by omega)
     refine ⟨fun hc=>?_,fun hc=>?_⟩
     ·have hc:=of_decide_eq_true hc
      refine ⟨x.a,B12.cell (i:=9) rfl,j5 _ ?_⟩
      rw [decide_eq_decide];omega
     ·have hc:=of_decide_eq_false hc
      refine j5 _ ?_
      rw [decide_eq_false];omega
 ·have hnk:¬ (1≤(k:Int)∧(k:Int)≤9):=fun hh=>hkk (by unfold isKindN;simp;omega)
  refine ⟨_,false,S2.kinds.none (k:Int) hnk,fun _=>?_,fun hc=>(by cases hc)⟩
  rw [if_neg hkk]
  exact ⟨rfl,FP,S2.pool,S2.rd,E02.mono (fun b _ h=>.inr h),fun b hb=>.inl hb⟩
end Go.Proofs
end
section
open Go Go.SE
open Go.IntKind renaming i64 → q6
namespace Go.Proofs
set_option maxRecDepth 100000
set_option maxHeartbeats 4000000
attribute [local irreducible] wpL wpX opE wpE Calls
def m_B4 (p1:Option Addr) (aA:Option Addr) (t1:Int) (w0:World) (K:Int→Int→WP):Prop :=
 ∀(p2:Addr) (w1:World),New w0 (.cells #[(vp p1)] 26) p2 w1 →
 ∀(p3:Addr) (w2:World),New w1 (.cells #[(vp aA)] 26) p3 w2 →
 ∀(p4:Addr) (w3:World),New w2 (.cells #[(vi 0)] 30) p4 w3 →
 ∀(p5:Addr) (w4:World),New w3 (.cells #[(vi 0)] 31) p5 w4 →
 ∃v1:Option Addr,w4.cell? p2=some (vp v1) ∧
 Br (Option.isNone v1)
  (CanW w4 p4∧¬ None p4.block∧∀w5:World,w5=w4.setCell p4 (vi 0) →
  CanW w5 p5∧¬ None p5.block∧∀w6:World,w6=w5.setCell p5 (vi 0) →
  ∃aB:Int,w6.cell? p4=some (vi aB) ∧
  ∃aC:Int,w6.cell? p5=some (vi aC) ∧
  K aB aC w6)
  (∃v2:Option Addr,w4.cell? p3=some (vp v2) ∧
  Calls Tryz.prog 80 #[(vp v2),(vi t1)] w4 (fun e w7=>∃r1:Bool,e=.returned (vb r1)∧
   Kept None w4 w7 ∧
   Br (!r1)
    (CanW w7 p4∧¬ None p4.block∧∀w8:World,w8=w7.setCell p4 (vi 0) →
    CanW w8 p5∧¬ None p5.block∧∀w9:World,w9=w8.setCell p5 (vi 51) →
    ∃aD:Int,w9.cell? p4=some (vi aD) ∧
    ∃aE:Int,w9.cell? p5=some (vi aE) ∧
    K aD aE w9)
    (∃v3:Option Addr,w7.cell? p2=some (vp v3) ∧
    ∃a1:Addr,v3=some a1 ∧
    ∃v4:Sl,w7.cell? a1=some v4.v ∧
    ∀(p6:Addr) (w10:World),New w7 (.cells #[(vi 0)] 3) p6 w10 →
    CanW w10 p6∧¬ None p6.block∧∀w11:World,w11=w10.setCell p6 (vi (v4.len:Int)) →
    ∀(p7:Addr) (w12:World),New w11 (.map #[] 0) p7 w12 →
    ∀(p8:Addr) (w13:World),New w12 (.cells #[(.map none)] 133) p8 w13 →
    CanW w13 p8∧¬ None p8.block∧∀w14:World,w14=w13.setCell p8 (.map (some p7.block)) →
    ∃v5:Option Addr,w14.cell? p3=some (vp v5) ∧
    Calls Tryz.prog 79 #[(vp v5),(vi t1)] w14 (fun e w15=>∃r2:Value,e=.returned r2∧
     Kept None w14 w15 ∧
     ∃(f1:FuncId) (cs1:Array Value),r2=.func (.func f1) #[] cs1∧(∀args w,(callFunc f1 args).run Tryz.prog w=.ok (.enter f1 args) w) ∧
     ∃(xs1:List (Int)) (Rd1:WP),IterC Tryz.prog f1 cs1 (fun (z2:Int)=>#[(vi z2)]) xs1 Rd1 w15 ∧
     ∃(I1 Ir1:List (Int)→NP→WP),RngI w0 Rd1 I1 (fun _ _ _=>False) Ir1∧I1 [] None w15 ∧
     (∀(pre1:List (Int)) (z2:Int) (Y1:NP) (A1:World),I1 pre1 Y1 A1→Hst w0 Y1 A1 Y1 A1→(∃post,xs1=pre1++z2 :: post) →
      ∃v6:Option Addr,A1.cell? p3=some (vp v6) ∧
      Calls Tryz.prog 43 #[(vp v6),(vi z2)] A1 (fun e w16=>∃aF aG:Int,∃aH aI:Int,∃aJ:ByteArray,∃aK aL:Int,∃r3:Bool,e=.returned (.tuple #[(.agg #[(vi aF),(vi aG),(vi aH),(vu aI),(vs aJ),(vi aK),(vi aL)]),(vb r3)])∧
       Kept None A1 w16 ∧
       ∀(p9:Addr) (w17:World),New w16 (.cells #[(vi 0),(vi 0),(vi 0),(vu 0),(vs ⟨#[]⟩),(vi 0),(vi 0)] 86) p9 w17 →
       (∀j,j<7→CanW w17 (p9.add j))∧¬ None p9.block∧∀w18:World,w18=storeRow w17 p9 [(vi aF),(vi aG),(vi aH),(vu aI),(vs aJ),(vi aK),(vi aL)] →
       ∃C1:WP,C1 w18.drew∧∀w19,w19=w18.drew →
       ∃v7:Option Nat,w19.cell? p8=some (.map v7) ∧
       ∃v8:Int,w19.cell? (p9.add 5)=some (vi v8) ∧
       ∃v9:Int,(Instr.lookup 133 (.map v7) (vi v8) false).run Tryz.prog w19=.ok (vi v9) w19 ∧
       ∃v10:Option Nat,(∀w',C1 w'→w'.cell? p8=some (.map v10)) ∧
       ∃v11:Int,w19.cell? (p9.add 6)=some (vi v11) ∧
       ∃v12:Int,(∀w',C1 w'→(Instr.lookup 133 (.map v10) (vi v11) false).run Tryz.prog w'=.ok (vi v12) w') ∧
       CanW w19 (p9.add 5)∧¬ None (p9.add 5).block∧∀w20:World,w20=w19.setCell (p9.add 5) (vi v9)→C1 w20 ∧
       CanW w20 (p9.add 6)∧¬ None (p9.add 6).block∧∀w21:World,w21=w20.setCell (p9.add 6) (vi v12) →
       ∃v13:Option Addr,w21.cell? p2=some (vp v13) ∧
       ∃aQ aR:Int,∃aS aT:Int,∃aU:ByteArray,∃aV aW:Int,Row w21 p9 [(vi aQ),(vi aR),(vi aS),(vu aT),(vs aU),(vi aV),(vi aW)] ∧
       Calls Tryz.prog 66 #[(vp v13),(.agg #[(vi aQ),(vi aR),(vi aS),(vu aT),(vs aU),(vi aV),(vi aW)])] w21 (fun e w22=>∃r4 r5:Int,e=.returned (.tuple #[(vi r4),(vi r5)])∧
        Kept None w21 w22 ∧
        Br (r5 != 0)
         (∃v14:Option Addr,w22.cell? p2=some (vp v14) ∧
         ∃v15:Int,w22.cell? p6=some (vi v15) ∧
         Calls Tryz.prog 70 #[(vp v14),(vi v15)] w22 (fun e w23=>e=.returned (.tuple #[])∧
          Kept None w22 w23 ∧
          CanW w23 p4∧¬ None p4.block∧∀w24:World,w24=w23.setCell p4 (vi 0) →
          CanW w24 p5∧¬ None p5.block∧∀w25:World,w25=w24.setCell p5 (vi r5) →
          Kept Y1 A1 w25∧Ir1 (pre1++[z2]) Y1 w25))
         (∃v16:Option Nat,w22.cell? p8=some (.map v16) ∧
         ∃w26:World,(Instr.mapUpdate 133 (.map v16) (vi z2) (vi r4)).run Tryz.prog w22=.ok () w26 ∧
         Kept None w22 w26 ∧
         Kept Y1 A1 w26∧I1 (pre1++[z2]) Y1 w26)))) ∧
     (∀(H1:NP) (w27:World),Hst w0 H1 w27 H1 w27→(∀b,None b→H1 b)→Kept None w15 w27→I1 xs1 H1 w27 →
      ∃v17:Option Nat,w27.cell? p8=some (.map v17) ∧
      ∃v18:Int,(Instr.lookup 133 (.map v17) (vi t1) false).run Tryz.prog w27=.ok (vi v18) w27 ∧
      CanW w27 p4∧¬ H1 p4.block∧∀w28:World,w28=w27.setCell p4 (vi v18) →
      CanW w28 p5∧¬ H1 p5.block∧∀w29:World,w29=w28.setCell p5 (vi 0) →
      ∀(w30:World),Hst w0 H1 w29 H1 w30 →
      ∃aM:Int,w30.cell? p4=some (vi aM) ∧
      ∃aN:Int,w30.cell? p5=some (vi aN) ∧
      K aM aN w30) ∧
     (∀(pre2:List (Int)) (H2:NP) (w32:World),Hst w0 H2 w32 H2 w32→Ir1 pre2 H2 w32 →
      ∃aO:Int,w32.cell? p4=some (vi aO) ∧
      ∃aP:Int,w32.cell? p5=some (vi aP) ∧
      K aO aP w32)))))
theorem w_B4 (p1 : Option Addr) (aA : Option Addr) (t1 : Int) (w0 : World) (K : Int → Int → WP) (h : m_B4 p1 aA t1 w0 K) :
  Calls Tryz.prog 36 #[(vp p1),(vp aA),(vi t1)] w0 (fun e w'=>∃r6 r7:Int,e=.returned (.tuple #[(vi r6),(vi r7)])∧K r6 r7 w'):=by
 unfold m_B4 at h
 refine cw (args:=[(vp p1),(vp aA),(vi t1)]) Tryz.func36 Tryz.ntmps36 ?_
 have hs:=Hst.start w0
 have hb:=HB.nil None w0
 refine wpE_seq (rg (sn (O:=(.cells #[(vp p1)] 26)) xb ?_))
 intro p2 w1 hn21
 have h:=h p2 w1 hn21
 have hs:=hs.again (Ext.new (F:=None) hn21).keptP
 have hb:=hb.kept (Ext.new (F:=None) hn21).keptP
 refine sn (O:=(.cells #[(vp aA)] 26)) xb ?_
 intro p3 w2 hn20
 have h:=h p3 w2 hn20
 have hs:=hs.again (Ext.new (F:=None) hn20).keptP
 have hb:=hb.kept (Ext.new (F:=None) hn20).keptP
 refine sn (O:=(.cells #[(vi 0)] 30)) (x_alloc (Tryz.zeroValue30 _) rfl) ?_
 intro p4 w3 hn19
 have h:=h p4 w3 hn19
 have hs:=hs.again (Ext.new (F:=None) hn19).keptP
 have hb:=hb.kept (Ext.new (F:=None) hn19).keptP
 refine sn (O:=(.cells #[(vi 0)] 31)) (x_alloc (Tryz.zeroValue31 _) rfl) ?_
 intro p5 w4 hn18
 have h:=h p5 w4 hn18
 have hs:=hs.again (Ext.new (F:=None) hn18).keptP
 have hb:=hb.kept (Ext.new (F:=None) hn18).keptP
 refine wpL_nil (th_n (wpE_seq (wpE_seq (rg ?_))))
 obtain ⟨v1,hv29,h⟩:=h
 refine q2 (vp v1) (xl (Tryz.isAgg26 _) hv29) (q2 (vb (Option.isNone v1)) (x_ptreq (by kernel_rfl) rfl Tryz.underlying26) (wpL_nil (th_n ?_)))
 refine wpE_cond (t:=(Option.isNone v1)) (by kernel_rfl) (fun hc1=>?_) (fun hc1=>?_)
 ·have h:=h.1 hc1
  refine wpE_seq (rg ?_)
  obtain ⟨hp1,hnh,h⟩:=h
  refine st_set (want0 rfl) (x_store (a:=p4) (v:=(vi 0)) (by kernel_rfl) (by kernel_rfl) rfl (Tryz.sizeOf30 _) hp1) ?_
  intro w5 hn1
  have h:=h w5 hn1
  have hk:=Kept.sc hnh hn1
  obtain ⟨hs,hb⟩:=hk.hh hs hb
  obtain ⟨hp2,hnh,h⟩:=h
  refine st_set (want0 rfl) (x_store (a:=p5) (v:=(vi 0)) (by kernel_rfl) (by kernel_rfl) rfl (Tryz.sizeOf31 _) hp2) ?_
  intro w6 hn2
  have h:=h w6 hn2
  have hk:=Kept.sc hnh hn2
  obtain ⟨hs,hb⟩:=hk.hh hs hb
  refine wpL_nil (th_n (wpE_ret (th_r ?_)))
  obtain ⟨aB,hv1,h⟩:=h
  obtain ⟨aC,hv2,h⟩:=h
  refine resG (.inl rfl) (vs:=[(vi aB),(vi aC)]) (v:=(.tuple #[(vi aB),(vi aC)])) Tryz.results36 ⟨(RV.cell1 (A:=p4) (by kernel_rfl) (Tryz.isAgg30 _) hv1),(RV.cell1 (A:=p5) (by kernel_rfl) (Tryz.isAgg31 _) hv2),trivial⟩ (by kernel_rfl) ?_
  exact ⟨aB,aC,rfl,h⟩
 ·have h:=h.2 hc1
  refine wpE_skip (th_n (wpE_seq (wpE_seq (rg ?_))))
  obtain ⟨v2,hv28,h⟩:=h
  refine q2 (vp v2) (xl (Tryz.isAgg26 _) hv28) (q0 (vi t1) ?_)
  refine sc Tryz.call80 (h.mono ?_)
  rintro e w7 ⟨r1,rfl,hk,h⟩
  refine ⟨_,rfl,?_⟩
  obtain ⟨hs,hb⟩:=hk.hh hs hb
  refine q0 (vb (!r1)) (wpL_nil (th_n ?_))
  refine wpE_cond (t:=(!r1)) (by kernel_rfl) (fun hc2=>?_) (fun hc2=>?_)
  ·have h:=h.1 hc2
   refine wpE_seq (rg ?_)
   obtain ⟨hp3,hnh,h⟩:=h
   refine st_set (want0 rfl) (x_store (a:=p4) (v:=(vi 0)) (by kernel_rfl) (by kernel_rfl) rfl (Tryz.sizeOf30 _) hp3) ?_
   intro w8 hn3
   have h:=h w8 hn3
   have hk:=Kept.sc hnh hn3
   obtain ⟨hs,hb⟩:=hk.hh hs hb
   obtain ⟨hp4,hnh,h⟩:=h
   refine st_set (want0 rfl) (x_store (a:=p5) (v:=(vi 51)) (by kernel_rfl) (by kernel_rfl) rfl (Tryz.sizeOf31 _) hp4) ?_
   intro w9 hn4
   have h:=h w9 hn4
   have hk:=Kept.sc hnh hn4
   obtain ⟨hs,hb⟩:=hk.hh hs hb
   refine wpL_nil (th_n (wpE_ret (th_r ?_)))
   obtain ⟨aD,hv3,h⟩:=h
   obtain ⟨aE,hv4,h⟩:=h
   refine resG (.inl rfl) (vs:=[(vi aD),(vi aE)]) (v:=(.tuple #[(vi aD),(vi aE)])) Tryz.results36 ⟨(RV.cell1 (A:=p4) (by kernel_rfl) (Tryz.isAgg30 _) hv3),(RV.cell1 (A:=p5) (by kernel_rfl) (Tryz.isAgg31 _) hv4),trivial⟩ (by kernel_rfl) ?_
   exact ⟨aD,aE,rfl,h⟩
  ·have h:=h.2 hc2
   refine wpE_skip (th_n (wpE_seq (rg ?_)))
   obtain ⟨v3,hv27,h⟩:=h
   refine q2 (vp v3) (xl (Tryz.isAgg26 _) hv27) ?_
   obtain ⟨a1,hp5,h⟩:=h
   refine q2 (vp (some a1)) (x_nilCheck (p:=v3) (by kernel_rfl) hp5) (q0 (vp (some a1)) ?_)
   obtain ⟨v4,hv26,h⟩:=h
   refine q2 v4.v (xl (Tryz.isAgg91 _) hv26) (q0 (vi (v4.len:Int)) (sn (O:=(.cells #[(vi 0)] 3)) (x_alloc (Tryz.zeroValue3 _) rfl) ?_))
   intro p6 w10 hn17
   have h:=h p6 w10 hn17
   have hs:=hs.again (Ext.new (F:=None) hn17).keptP
   have hb:=hb.kept (Ext.new (F:=None) hn17).keptP
   obtain ⟨hp6,hnh,h⟩:=h
   refine st_set (want0 rfl) (x_store (a:=p6) (v:=(vi (v4.len:Int))) (by kernel_rfl) (by kernel_rfl) rfl (Tryz.sizeOf3 _) hp6) ?_
   intro w11 hn5
   have h:=h w11 hn5
   have hk:=Kept.sc hnh hn5
   obtain ⟨hs,hb⟩:=hk.hh hs hb
   refine wpL_nil (th_n (wpE_seq (rg (st_new (O:=(.map #[] 0)) (fun p=>.map (some p.block)) (want0 rfl) (by kernel_rfl) ?_))))
   intro p7 w12 hn16
   have h:=h p7 w12 hn16
   have hs:=hs.again (Ext.new (F:=None) hn16).keptP
   have hb:=hb.kept (Ext.new (F:=None) hn16).keptP
   refine sn (O:=(.cells #[(.map none)] 133)) (x_alloc (Tryz.zeroValue133 _) rfl) ?_
   intro p8 w13 hn15
   have h:=h p8 w13 hn15
   have hs:=hs.again (Ext.new (F:=None) hn15).keptP
   have hb:=hb.kept (Ext.new (F:=None) hn15).keptP
   obtain ⟨hp7,hnh,h⟩:=h
   refine st_set (want0 rfl) (x_store (a:=p8) (v:=(.map (some p7.block))) (by kernel_rfl) (by kernel_rfl) rfl (Tryz.sizeOf133 _) hp7) ?_
   intro w14 hn6
   have h:=h w14 hn6
   have hk:=Kept.sc hnh hn6
   obtain ⟨hs,hb⟩:=hk.hh hs hb
   refine wpL_nil (th_n (wpE_seqC (rg ?_)))
   obtain ⟨v5,hv25,h⟩:=h
   refine q2 (vp v5) (xl (Tryz.isAgg26 _) hv25) (q0 (vi t1) ?_)
   refine sc Tryz.call79 (h.mono ?_)
   rintro e w15 ⟨r2,rfl,hk,h⟩
   refine ⟨_,rfl,?_⟩
   obtain ⟨hs,hb⟩:=hk.hh hs hb
   refine wpL_nil (th_n ?_)
   obtain ⟨f1,cs1,hv5,hf1,h⟩:=h
   obtain ⟨xs1,Rd1,hit,I1,Ir1,hRI,h0,hbody,h⟩:=h
   refine wpB_range (encs:=(fun (z2:Int)=>#[(vi z2)])) (Eq.trans (b:=r2) (by kernel_rfl) hv5) hf1 hit (fun _=>rfl) (by decide) hs I1 (fun _ _ _=>False) Ir1 hRI h0 ?ha ?hr ?ht
   case ha =>
    intro l z2 w33
    refine rg (q0 (vi z2) (wpL_nil (th_n ?_)))
    refine ⟨rfl,?_⟩
    intro pre1 Y1 A1 hi hY hpost
    have h:=hbody pre1 z2 Y1 A1 hi hY hpost
    have hs:=Hst.start A1
    have hb:=HB.nil None A1
    refine wpE_block (wpE_seq (rg ?_))
    obtain ⟨v6,hv18,h⟩:=h
    refine q2 (vp v6) (xl (Tryz.isAgg26 _) hv18) (q0 (vi z2) ?_)
    refine sc Tryz.call43 (h.mono ?_)
    rintro e w16 ⟨aF,aG,aH,aI,aJ,aK,aL,r3,rfl,hk,h⟩
    refine ⟨_,rfl,?_⟩
    obtain ⟨hs,hb⟩:=hk.hh hs hb
    refine q0 (.tuple #[(.agg #[(vi aF),(vi aG),(vi aH),(vu aI),(vs aJ),(vi aK),(vi aL)]),(vb r3)]) (q0 (.agg #[(vi aF),(vi aG),(vi aH),(vu aI),(vs aJ),(vi aK),(vi aL)]) (q0 (vb r3) (sn (O:=(.cells #[(vi 0),(vi 0),(vi 0),(vu 0),(vs ⟨#[]⟩),(vi 0),(vi 0)] 86)) (x_alloc (Tryz.zeroValue86 _) rfl) ?_)))
    intro p9 w17 hn12
    have h:=h p9 w17 hn12
    have hs:=hs.again (Ext.new (F:=None) hn12).keptP
    have hb:=hb.kept (Ext.new (F:=None) hn12).keptP
    obtain ⟨hp8,hnh,h⟩:=h
    refine st_set (want0 rfl) (x_storeA (a:=p9) (vs:=[(vi aF),(vi aG),(vi aH),(vu aI),(vs aJ),(vi aK),(vi aL)]) (by kernel_rfl) (by kernel_rfl) rfl (Tryz.sizeOf86 _) rfl hp8) ?_
    intro w18 hn7
    have h:=h w18 hn7
    have hk:Kept None w17 w18:=by rw [hn7];exact Kept.storeRow hnh
    obtain ⟨hs,hb⟩:=hk.hh hs hb
    refine q0 (vb r3) (wpL_nil (th_n (wpE_seq ?_)))
    obtain ⟨C1,hC,h⟩:=h
    refine wpE_drawnC C1 [9,11] [11] (by kernel_rfl) (by kernel_rfl) (by kernel_rfl) (by kernel_rfl) hC ?_
    intro w19 hw19
    have h:=h w19 hw19
    have hs:Hst A1 None w18 None w19:=by rw [hw19];exact hs.drew
    have hb:HB None w19 []:=by rw [hw19];exact hb.drew
    have hs:=hs.here
    refine qg 0 ?_
    obtain ⟨v7,hv17,h⟩:=h
    refine sye Kp0 (xl (Tryz.isAgg133 _) hv17) (qx 1 (vp (some (p9.add 5))) Kp1 (qg 2 ?_))
    obtain ⟨v8,hv16,h⟩:=h
    refine sye Kp2 (xl (Tryz.isAgg30 _) hv16) (qg 3 ?_)
    obtain ⟨v9,hv15,h⟩:=h
    refine sye (v:=(vi v9)) Kp3 (x_lookup (by kernel_rfl) (by kernel_rfl) hv15) (qg 4 ?_)
    obtain ⟨v10,hv14,h⟩:=h
    refine sy (v:=(.map v10)) Kp4 (fun w' hw'=>(xl (Tryz.isAgg133 _) (hv14 w' hw'))) (qx 5 (vp (some (p9.add 6))) Kp5 (qg 6 ?_))
    obtain ⟨v11,hv13,h⟩:=h
    refine sye Kp6 (xl (Tryz.isAgg30 _) hv13) (qg 7 ?_)
    obtain ⟨v12,hv12,h⟩:=h
    refine sy (v:=(vi v12)) Kp7 (fun w' hw'=>(x_lookup (by kernel_rfl) (by kernel_rfl) (hv12 w' hw'))) (qx 8 (vp (some (p9.add 5))) Kp8 (lg 9 ?_))
    obtain ⟨hp9,hnh,h⟩:=h
    refine sl_t Kp9 (xs (v:=(vi v9)) (Tryz.sizeOf30 _) hp9) ?_
    intro w20 hn8
    have h:=h w20 hn8
    refine ⟨.inr h.1,?_⟩
    have h:=h.2
    have hk:=Kept.sc hnh hn8
    obtain ⟨hs,hb⟩:=hk.hh hs hb
    refine qx 10 (vp (some (p9.add 6))) (pickA (S8 (pickS (pickS pickZ)))) (lg 11 ?_)
    obtain ⟨hp10,hnh,h⟩:=h
    refine sl_t (pickA (S8 (pickS (pickS (pickS pickZ))))) (xs (v:=(vi v12)) (Tryz.sizeOf30 _) hp10) ?_
    intro w21 hn9
    have h:=h w21 hn9
    refine ⟨.inl (by kernel_rfl),?_⟩
    have hk:=Kept.sc hnh hn9
    obtain ⟨hs,hb⟩:=hk.hh hs hb
    refine wn (th_n (wpE_seq (rg ?_)))
    obtain ⟨v13,hv11,h⟩:=h
    refine q2 (vp v13) (xl (Tryz.isAgg26 _) hv11) ?_
    obtain ⟨aQ,aR,aS,aT,aU,aV,aW,hv10,h⟩:=h
    refine q2 (.agg #[(vi aQ),(vi aR),(vi aS),(vu aT),(vs aU),(vi aV),(vi aW)]) (x_loadA (a:=p9) (vs:=[(vi aQ),(vi aR),(vi aS),(vu aT),(vs aU),(vi aV),(vi aW)]) (by kernel_rfl) (Tryz.isAgg86 _) (Tryz.sizeOf86 _) rfl hv10) ?_
    refine sc Tryz.call66 (h.mono ?_)
    rintro e w22 ⟨r4,r5,rfl,hk,h⟩
    refine ⟨_,rfl,?_⟩
    obtain ⟨hs,hb⟩:=hk.hh hs hb
    refine q0 (.tuple #[(vi r4),(vi r5)]) (q0 (vi r4) (q0 (vi r5) (q0 (vi r4) (q0 (vi r5) (wpL_nil (th_n (wpE_seq (wpE_seq (rg (q0 (vi r5) (q0 (vb (r5 != 0)) ?_)))))))))))
    refine wpL_nil (th_n ?_)
    refine wpE_cond (t:=(r5 != 0)) (by kernel_rfl) (fun hc3=>?_) (fun hc3=>?_)
    ·have h:=h.1 hc3
     refine wpE_seq (rg ?_)
     obtain ⟨v14,hv7,h⟩:=h
     refine q2 (vp v14) (xl (Tryz.isAgg26 _) hv7) ?_
     obtain ⟨v15,hv6,h⟩:=h
     refine q2 (vi v15) (xl (Tryz.isAgg3 _) hv6) ?_
     refine sc Tryz.call70 (h.mono ?_)
     rintro e w23 ⟨rfl,hk,h⟩
     refine ⟨_,rfl,?_⟩
     obtain ⟨hs,hb⟩:=hk.hh hs hb
     refine wpL_nil (th_n (wpE_seq (rg (q0 (vi r5) ?_))))
     obtain ⟨hp11,hnh,h⟩:=h
     refine st_set (want0 rfl) (x_store (a:=p4) (v:=(vi 0)) (by kernel_rfl) (by kernel_rfl) rfl (Tryz.sizeOf30 _) hp11) ?_
     intro w24 hn10
     have h:=h w24 hn10
     have hk:=Kept.sc hnh hn10
     obtain ⟨hs,hb⟩:=hk.hh hs hb
     obtain ⟨hp12,hnh,h⟩:=h
     refine st_set (want0 rfl) (x_store (a:=p5) (v:=(vi r5)) (by kernel_rfl) (by kernel_rfl) rfl (Tryz.sizeOf31 _) hp12) ?_
     intro w25 hn11
     have h:=h w25 hn11
     have hk:=Kept.sc hnh hn11
     obtain ⟨hs,hb⟩:=hk.hh hs hb
     refine wpL_nil (th_n (wpE_ret (th_r (bl_r ?_))))
     exact rd_r h
    ·have h:=h.2 hc3
     refine wpE_skip (th_n (rg ?_))
     obtain ⟨v16,hv9,h⟩:=h
     refine q2 (.map v16) (xl (Tryz.isAgg133 _) hv9) (q0 (vi z2) (q0 (vi r4) ?_))
     obtain ⟨w26,hv8,hk,h⟩:=h
     refine st_skip (want0 rfl) (x_mapUpdate (by kernel_rfl) (by kernel_rfl) (by kernel_rfl) hv8) ?_
     obtain ⟨hs,hb⟩:=hk.hh hs hb
     refine wpL_nil (bl_n ?_)
     exact rd_n h
   case hr =>
    intro D1 H1 w27 hs' hD hDe aX hk1 hio1
    have hb':=hb.behind hk1 aX hD hDe
    have hs:=hs'
    have hb:=hb'
    have h:=h.1 H1 w27 hs aX hk1 (hio1.elim id (fun h=>h.elim (fun _ h=>h.elim)))
    refine wpE_seq (rg ?_)
    obtain ⟨v17,hv22,h⟩:=h
    refine q2 (.map v17) (xl (Tryz.isAgg133 _) hv22) (q0 (vi t1) ?_)
    obtain ⟨v18,hv21,h⟩:=h
    refine q2 (vi v18) (x_lookup (by kernel_rfl) (by kernel_rfl) hv21) ?_
    obtain ⟨hp13,hnh,h⟩:=h
    refine st_set (want0 rfl) (x_store (a:=p4) (v:=(vi v18)) (by kernel_rfl) (by kernel_rfl) rfl (Tryz.sizeOf30 _) hp13) ?_
    intro w28 hn13
    have h:=h w28 hn13
    have hk:=Kept.sc hnh hn13
    obtain ⟨hs,hb⟩:=hk.hh hs hb
    obtain ⟨hp14,hnh,h⟩:=h
    refine st_set (want0 rfl) (x_store (a:=p5) (v:=(vi 0)) (by kernel_rfl) (by kernel_rfl) rfl (Tryz.sizeOf31 _) hp14) ?_
    intro w29 hn14
    have h:=h w29 hn14
    have hk:=Kept.sc hnh hn14
    obtain ⟨hs,hb⟩:=hk.hh hs hb
    refine wpL_nil (th_n (wpE_ret (af_r hb.dead ?_)))
    intro w30 hw'
    have hl:=hb.leave hs hw'
    obtain ⟨hs,hb⟩:=hl
    -- behind the loop
    have h:=h w30 hs
    have hs:=hs.here
    obtain ⟨aM,hv19,h⟩:=h
    obtain ⟨aN,hv20,h⟩:=h
    refine resG (.inl rfl) (vs:=[(vi aM),(vi aN)]) (v:=(.tuple #[(vi aM),(vi aN)])) Tryz.results36 ⟨(RV.cell1 (A:=p4) (by kernel_rfl) (Tryz.isAgg30 _) hv19),(RV.cell1 (A:=p5) (by kernel_rfl) (Tryz.isAgg31 _) hv20),trivial⟩ (by kernel_rfl) ?_
    exact ⟨aM,aN,rfl,h⟩
   case ht =>
    intro D1 pre2 H2 w31 hs' hD hDe hio
    have hs2:=hs'.putD (o:=.deferred none) hD
    have hio:=hRI.r _ _ _ _ _ hio hs2
    have hs2:=hs2.here
    have hs:=hs2
    generalize World.putObj w31 D1 (.deferred none)=w32 at hs hio ⊢
    have hb:=HB.nil H2 w32
    have h:=h.2 pre2 H2 w32 hs hio
    obtain ⟨aO,hv23,h⟩:=h
    obtain ⟨aP,hv24,h⟩:=h
    refine resG (.inl rfl) (vs:=[(vi aO),(vi aP)]) (v:=(.tuple #[(vi aO),(vi aP)])) Tryz.results36 ⟨(RV.cell1 (A:=p4) (by kernel_rfl) (Tryz.isAgg30 _) hv23),(RV.cell1 (A:=p5) (by kernel_rfl) (Tryz.isAgg31 _) hv24),trivial⟩ (by kernel_rfl) ?_
    exact ⟨aO,aP,rfl,h⟩
def m_Q1_l1 (yield1:Value) (r1:Sl) (x1:Int) (wl1:World) (Kc1:Int→WP) (K:WP):Prop :=
 Br (decide (x1<(r1.len:Int)))
  (∃a1:Addr,At r1 x1 1 a1 ∧
  ∃v3:Int,wl1.cell? a1=some (vi v3) ∧
  ∃(ly1:Nat),yield1=.func (.yield ly1) #[] #[] ∧
  Yld Tryz.prog ly1 #[(vi v3)] wl1 (fun e w2=>∃b1:Bool,e=.returned (vb b1) ∧
   Br (!b1)
    (K w2)
    (Kc1 (q6.wrap (x1+1)) w2)))
  (K wl1)
def m_Q1 (yield1:Value) (cap1 cap2:Addr) (w0:World) (K:WP):Prop :=
 ∃v1:Option Addr,w0.cell? cap1=some (vp v1) ∧
 ∃v2:Int,w0.cell? cap2=some (vi v2) ∧
 Calls Tryz.prog 131 #[(vp v1),(vi v2)] w0 (fun e w1=>∃r1:Sl,e=.returned r1.v∧
  ∃(I1:Int→WP) (mu1:Int→World→Nat),I1 0 w1 ∧
   ∀(x1:Int) (wl1:World),I1 x1 wl1→m_Q1_l1 yield1 r1 x1 wl1 (fun y'0 w'=>I1 y'0 w'∧mu1 y'0 w'<mu1 x1 wl1) K)
theorem w_Q1 (yield1 : Value) (cap1 cap2 : Addr) (w0 : World) (K : WP) (h : m_Q1 yield1 cap1 cap2 w0 K) :
  Calls Tryz.prog 130 #[yield1,(vp (some cap1)),(vp (some cap2))] w0 (fun e w'=>e=.returned (.tuple #[])∧K  w'):=by
 unfold m_Q1 at h
 refine cw (args:=[yield1,(vp (some cap1)),(vp (some cap2))]) Tryz.func130 Tryz.ntmps130 (wpE_seq (rg ?_))
 obtain ⟨v1,hv4,h⟩:=h
 refine q2 (vp v1) (xl (Tryz.isAgg26 _) hv4) ?_
 obtain ⟨v2,hv3,h⟩:=h
 refine q2 (vi v2) (xl (Tryz.isAgg30 _) hv3) ?_
 refine sc Tryz.call131 (h.mono ?_)
 rintro e w1 ⟨r1,rfl,h⟩
 refine ⟨_,rfl,?_⟩
 refine q0 (vi (r1.len:Int)) (q0 (vi 0) (wpL_nil (th_n (wpE_block ?_))))
 obtain ⟨I1,mu1,h0,hr⟩:=h
 refine wpE_loop (σ:=Int×World) (fun s ρ w=>w=s.2∧Has ρ [(0,yield1),(8,r1.v),(9,(vi (r1.len:Int))),(10,(vi s.1))]∧I1 s.1 s.2) (fun s=>mu1 s.1 s.2) (0,w1) ⟨rfl,hm,h0⟩ ?_
 rintro ⟨x1,wl1⟩ ρ w ⟨hw,hH,hI⟩
 obtain rfl:wl1=w:=(show w=wl1 from hw).symm
 have hH:Has ρ [(0,yield1),(8,r1.v),(9,(vi (r1.len:Int))),(10,(vi x1))]:=hH
 have h:=hr x1 wl1 hI
 unfold m_Q1_l1 at h
 refine wpE_has hH ?_
 refine wpE_seq (rg (q0 (vb (decide (x1<(r1.len:Int)))) (wpL_nil (th_n (wpE_seq ?_)))))
 refine wpE_cond (t:=(decide (x1<(r1.len:Int)))) (by kernel_rfl) (fun hc1=>?_) (fun hc1=>?_)
 ·have h:=h.1 hc1
  refine wpE_skip (th_n (wpE_seq (wpE_block (wpE_seq (rg ?_)))))
  obtain ⟨a1,hv2,h⟩:=h
  refine q2 (vp (some a1)) (xi (Tryz.runUnderlying52 _) (Tryz.sizeOf30 _) hv2) ?_
  obtain ⟨v3,hv1,h⟩:=h
  refine q2 (vi v3) (xl (Tryz.isAgg30 _) hv1) (q0 (vi v3) (wpL_nil (th_n (wpE_seq (rg (q0 yield1 (q0 (vi v3) ?_)))))))
  obtain ⟨ly1,hy1,h⟩:=h
  refine st_yield (want0 rfl) (by kernel_rfl) hy1 (by kernel_rfl) (h.mono ?_)
  rintro e w2 ⟨b1,rfl,h⟩
  refine ⟨_,rfl,?_⟩
  refine q0 (vb (!b1)) (wpL_nil (th_n ?_))
  refine wpE_cond (t:=(!b1)) (by kernel_rfl) (fun hc2=>?_) (fun hc2=>?_)
  ·have h:=h.1 hc2
   refine wpE_ret (bl_r (th_r (th_r (bl_r (res0 (.inl rfl) Tryz.results130 ?_)))))
   exact ⟨rfl,h⟩
  ·have h:=h.2 hc2
   refine wpE_skip (bl_n (th_n (rg (q0 (vi (q6.wrap (x1+1))) (q0 (vi (q6.wrap (x1+1))) (wpL_nil (th_n ?_)))))))
   exact ⟨((q6.wrap (x1+1)),w2),⟨rfl,hm,h.1⟩,h.2⟩
 ·have h:=h.2 hc1
  refine wpE_exit (th_x (th_x (bl_eq (res0 (.inr rfl) Tryz.results130 ?_))))
  exact ⟨rfl,h⟩
end Go.Proofs
end
section
open Go Go.SE
namespace Go.SE
theorem Rws.kept {w w':World} {X:NP} {e:TypeId} {sz:Nat} {s:Sl} {rs:List (List Value)} (h:Rws w e sz s rs) (hk:Kept X w w') (hX:∀b,s.blk b→X b):Rws w' e sz s rs:=by
 refine ⟨h.each,h.len,?_⟩
 rcases h.own with h' | ⟨g,cur,ha,hg,r⟩
 ·exact .inl h'
 ·exact .inr ⟨g,cur,ha,by rw [hk.keep g (heap_lt hg) (hX g ⟨_,ha,rfl⟩)];exact hg,r⟩
end Go.SE
namespace Go.Sp
theorem overS_kids {L:Pool} (hW:Wf L) {t:Int} (ht:inP L t=true) (n:Nat) (st:(Int→Bool)×List Int):(kidsOf (nodeOf L t)).foldl (fun st k=>overS L n k st) st=overS L n (nodeOf L t).b (overS L n (nodeOf L t).a st):=by
 have z:∀st,overS L n 0 st=st:=fun st=>by
  cases n with
  | zero=>rfl
  | succ n=>rw [overS,if_neg (by simp [inP])]
 have h1:=(hW.node ht).2.1
 have h2:=(hW.node ht).2.2.1
 unfold kidsOf
 rcases kids_le (nodeOf L t).kind with e | e | e
 ·rw [e,h1 (by omega),h2 (by omega),z,z];rfl
 ·rw [e,h2 (by omega),z];rfl
 ·rw [e];rfl
end Go.Sp
namespace Go.Proofs
attribute [local irreducible] Calls
def umap (M:List Int):List (Int×Unit):=M.map fun t=>(t,())
theorem umap_fst (M:List Int):(umap M).map Prod.fst=M:=by simp [umap,Function.comp_def]
def one1 (_:Unit):Value:=.int .i64 1
structure WkAt (w:World) (p c1 c2 c3 c4:Addr) (m:Nat) (so:Sl) (L:Sp.Pool) (FP:NP) (st:(Int→Bool)×List Int):Prop where
 b1:Box w c1 [.map (some m)] 152
 b2:Box w c2 [.pointer (some p)] 26
 b3:Box w c3 [.func (.func 152) #[] #[.pointer (some c1),.pointer (some c2),.pointer (some c3),.pointer (some c4)]] 145
 b4:Box w c4 [so.v] 52
 mp:∃M,IMap one1 w m (umap M)∧∀x,st.1 x=decide (x∈M)
 out:Rws w 30 1 so (tmr st.2)
 pool:PoolAt w p L FP
 n4:c4.block≠c1.block∧c4.block≠c2.block∧c4.block≠c3.block∧c4.block≠m
 nm:m≠c1.block∧m≠c2.block∧m≠c3.block
 ns:∀b,so.blk b→b≠c1.block∧b≠c2.block∧b≠c3.block∧b≠c4.block∧b≠m
 nf:∀b,FP b→b≠c4.block∧b≠m∧¬ so.blk b
def WkF (c4:Addr) (m:Nat) (so:Sl) (b:Nat):Prop:=b=c4.block∨b=m∨so.blk b
section
variable {w w':World} {p c1 c2 c3 c4:Addr} {m:Nat} {so:Sl} {L:Sp.Pool} {FP:NP} {st:(Int→Bool)×List Int}
theorem WkAt.pure (h:WkAt w p c1 c2 c3 c4 m so L FP st) (E:Pure w w'):WkAt w' p c1 c2 c3 c4 m so L FP st :=
 ⟨h.b1.pure E,h.b2.pure E,h.b3.pure E,h.b4.pure E,let ⟨M,h1,h2⟩:=h.mp;⟨M,h1.pure E,h2⟩,h.out.pure E,h.pool.pure E,h.n4,h.nm,h.ns,h.nf⟩
end
theorem c_walk (p c1 c2 c3 c4 : Addr) (m : Nat) {L : Sp.Pool} {FP : NP} (hW : Sp.Wf L) : ∀ (n : Nat) (t : Int) (w0 : World) (st : (Int → Bool) × List Int) (so : Sl), t.toNat < n → Sp.inP L t = true → WkAt w0 p c1 c2 c3 c4 m so L FP st → Sp.OvOk L st → (∀ y, st.1 y = true → y ≤ t → y ∈ st.2) →
  Calls Tryz.prog 152 #[.int .i64 t,.pointer (some c1),.pointer (some c2),.pointer (some c3),.pointer (some c4)] w0 (fun e w'=>e=.returned (.tuple #[])∧∃so',WkAt w' p c1 c2 c3 c4 m so' L FP (Sp.overS L n t st)∧Ext (WkF c4 m so) w0 w'∧∀b,so'.blk b→so.blk b∨w0.heap.size≤b):=by
 intro n
 induction n with
 | zero=>intro t w0 st so h;omega
 | succ n ih =>
 intro t w0 st so hn hin h hst hm
 have hR:=Sp.over_ok hW (n+1) t st hn hst hm
 suffices key:∀K:WP,(∀so' w',WkAt w' p c1 c2 c3 c4 m so' L FP (Sp.overS L (n+1) t st)→Ext (WkF c4 m so) w0 w'→(∀b,so'.blk b→so.blk b∨w0.heap.size≤b)→K w')→m_K1 t c1 c2 c3 c4 w0 K from
  w_K1 _ _ _ _ _ w0 _ (key _ (fun so' w' a b c=>⟨so',a,b,c⟩))
 intro K hK
 unfold m_K1
 obtain ⟨M,hM,hV⟩:=h.mp
 have hz:∀w,(zeroValue 3).run Tryz.prog w=.ok (.int .i64 0) w:=fun w=>Tryz.zeroValue3 w
 rcases hM.get Tryz.underlying152 Tryz.underlying30 (hz w0) t false with ⟨hno,hl⟩ | ⟨u,hyes,hl⟩
 ·have hnot:t ∉ M:=by have:=look_none.1 hno;rwa [umap_fst] at this
  have hv:st.1 t=false:=by rw [hV];simpa using hnot
  rw [Sp.overS,if_pos ⟨hin,hv⟩] at hK hR
  refine ⟨some m,h.b1.cell0,0,hl,Br.f (by simp) ?_⟩
  obtain ⟨w1,hu,hM1,E1⟩:=hM.put (f:=one1) Tryz.underlying152 Tryz.underlying30 hno ()
  refine ⟨some m,h.b1.cell0,0,hl,w1,by rw [i64 (by omega) (by omega)];exact hu,?_⟩
  have A1:WkAt w1 p c1 c2 c3 c4 m so L FP (Sp.upd st.1 t true,st.2) :=
   ⟨h.b1.ext E1 (fun e=>h.nm.1 e.symm),h.b2.ext E1 (fun e=>h.nm.2.1 e.symm),h.b3.ext E1 (fun e=>h.nm.2.2 e.symm),h.b4.ext E1 h.n4.2.2.2,
   ⟨M ++ [t], by rw [show umap (M ++ [t]) = umap M ++ [(t, ())] by simp [umap]]; exact hM1, fun x => by
     simp only [Sp.upd,List.mem_append,List.mem_singleton]
     by_cases e:x=t
     ·simp [e]
     ·rw [if_neg e,hV];simp [e]⟩,
   h.out.ext E1 (fun b hb=>(h.ns b hb).2.2.2.2),h.pool.ext E1 (fun b hb=>(h.nf b hb).2.1),h.n4,h.nm,h.ns,h.nf⟩
  refine ⟨some p,A1.b2.cell0,?_⟩
  refine (c_kids p t w1 A1.pool hW.ok).mono ?_
  rintro _ w2 ⟨r1,rfl,hks,E2⟩
  refine ⟨_,rfl,?_⟩
  have A2:=A1.pure E2
  have o1:Sp.OvOk L (Sp.upd st.1 t true,st.2):=⟨fun y hy=>by simp only [Sp.upd];split <;> simp [hst.marked y hy],hst.closed,hst.nd,hst.inp⟩
  have hkid:=(hW.node hin).2.2.2.2.1
  have hlen:(Sp.kidsOf (Sp.nodeOf L t)).length≤2:=by rw [Sp.kidsOf];simp;omega
  generalize hks0:Sp.kidsOf (Sp.nodeOf L t)=ks at *
  let sj:Nat→(Int→Bool)×List Int:=fun j=>(ks.take j).foldl (fun st k=>Sp.overS L n k st) (Sp.upd st.1 t true,st.2)
  have good:∀j,j≤ks.length→Sp.OvOk L (sj j)∧∀y,(sj j).1 y=true→y<t→y∈(sj j).2:=by
   intro j
   induction j with
   | zero =>
    intro _
    refine ⟨o1,fun y hy hlt=>?_⟩
    simp only [sj,List.take_zero,List.foldl_nil,Sp.upd] at hy ⊢
    rw [if_neg (by omega)] at hy
    exact hm y hy (by omega)
   | succ j ihj =>
    intro hj
    obtain ⟨g1,g2⟩:=ihj (by omega)
    have hk:=hkid ks[j] (List.getElem_mem _)
    have hk1:=(Sp.inP_iff.1 hk.1).1
    have e:sj (j+1)=Sp.overS L n ks[j] (sj j):=by simp only [sj];rw [List.take_succ_eq_append_getElem (by omega),List.foldl_append];rfl
    have r:=Sp.over_ok hW n ks[j] (sj j) (by omega) g1 (fun y hy hle=>g2 y hy (by omega))
    rw [e]
    refine ⟨r.toOvOk,fun y hy hlt=>?_⟩
    rcases r.back y hy with h1 | h1
    ·obtain ⟨M',e',_⟩:=r.app
     rw [e'];exact List.mem_append_left _ (g2 y h1 hlt)
    ·exact h1
  refine ⟨fun x A=>∃(j:Nat) (so':Sl),x=j∧j≤ks.length∧WkAt A p c1 c2 c3 c4 m so' L FP (sj j)∧Ext (WkF c4 m so) w2 A∧∀b,so'.blk b→so.blk b∨w2.heap.size≤b,fun x _=>((ks.length:Int) - x).toNat,⟨0,so,rfl,Nat.zero_le _,A2,Ext.refl _,fun b hb=>.inl hb⟩,?_⟩
  rintro _ w3 ⟨j,so3,rfl,hj,A3,X3,f3⟩
  unfold m_K1_l1
  have hlen1:r1.len=ks.length:=by rw [hks.len,tmr_len]
  have hks3:Lst (fun b=>w1.heap.size≤b∧b<w2.heap.size) w3 1 r1 (tmr ks):=hks.ext X3 (fun b hb hx=>by
   rcases hx with hx | hx | hx
   ·have:=A1.b4.lt;omega
   ·have:m<w1.heap.size:=hM1.lt;omega
   ·have:=A1.out.lt hx;omega)
  obtain ⟨g1,g2⟩:=good j hj
  refine ⟨fun hc=>?_,fun hc=>?_⟩
  ·have hc:j<ks.length:=by have:=of_decide_eq_true hc;omega
   obtain ⟨a,hat,_,hv⟩:=tm_nth hks3 hc
   refine ⟨a,hat,_,hv,_,A3.b3.cell0,_,_,_,rfl,Tryz.call152,?_⟩
   have hk:=hkid ks[j] (List.getElem_mem _)
   have hk1:=(Sp.inP_iff.1 hk.1).1
   refine (ih ks[j] w3 (sj j) so3 (by omega) hk.1 A3 g1 (fun y hy hle=>g2 y hy (by omega))).mono ?_
   rintro _ w4 ⟨rfl,so4,A4,X4,f4⟩
   refine ⟨rfl,⟨j+1,so4,wrap_succ hc (by omega),hc,?_,X3.trans' X4 (fun i hi hb=>?_),fun b hb=>?_⟩,?_⟩
   ·have e:sj (j+1)=Sp.overS L n ks[j] (sj j):=by simp only [sj];rw [List.take_succ_eq_append_getElem (by omega),List.foldl_append];rfl
    rw [e];exact A4
   ·rcases hb with hb | hb | hb
    ·exact .inl hb
    ·exact .inr (.inl hb)
    ·exact .inr (.inr ((f3 i hb).elim id (fun h=>by omega)))
   ·rcases f4 b hb with h1 | h1
    ·exact f3 b h1
    ·have:=X3.size;right;omega
   ·rw [wrap_succ hc (by omega)]
    show ((ks.length:Int) - ((j+1:Nat):Int)).toNat<((ks.length:Int) - (j:Int)).toNat
    omega
  ·have hc:j=ks.length:=by have:=of_decide_eq_false hc;omega
   subst hc
   have es:sj ks.length=Sp.overS L n (Sp.nodeOf L t).b (Sp.overS L n (Sp.nodeOf L t).a (Sp.upd st.1 t true,st.2)):=by
    rw [← Sp.overS_kids hW hin,hks0];simp only [sj,List.take_length]
   simp only at hK hR
   rw [← es] at hK hR
   generalize sj ks.length=s3 at *
   refine ⟨so3,A3.b4.cell0,?_⟩
   intro p1 w4 h4
   have E4:Pure w3 w4:=Ext.new h4
   have hfew:s3.2.length≤65536:=by have:=Sp.pool_few g1.nd g1.inp;have:=hW.ok.few;omega
   obtain ⟨s1',w5,hr5,R5,X5,f5⟩:=(A3.out.pure E4).append (P:=Tryz.prog) (ty:=52) (c:=1) slT_tm (r:=[.int .i64 t]) (Box.of_new h4).row rfl rfl (by rw [tmr_len];omega) (by rw [tmr_len];simp [maxLen];omega)
   have b5:=(A3.b4.pure E4).ext X5 (fun hb=>(A3.ns _ hb).2.2.2.1 rfl)
   refine ⟨s1',w5,hr5,b5.canW0 (by simp),?_⟩
   intro w6 h6
   have E6:Ext (·=c4.block) w5 w6:=by rw [h6];exact Ext.setCell c4 _
   have b6:Box w6 c4 [s1'.v] 52:=by rw [h6];exact b5.set0
   have z1:=E1.size
   have z2:=E2.size
   have z3:=X3.size
   have z4:=E4.size
   have f5':∀b,s1'.blk b→so3.blk b∨w3.heap.size≤b:=fun b hb=>(f5 b hb).imp_right (fun h=>by omega)
   have ns':∀b,s1'.blk b→b≠c1.block∧b≠c2.block∧b≠c3.block∧b≠c4.block∧b≠m:=fun b hb=>(f5' b hb).elim (A3.ns b) (fun hh=>by
    have q1:=A3.b1.lt;have q2:=A3.b2.lt;have q3:=A3.b3.lt;have q4:=A3.b4.lt
    have q5:m<w3.heap.size:=by obtain ⟨M',hM',_⟩:=A3.mp;exact hM'.lt
    exact ⟨by omega,by omega,by omega,by omega,by omega⟩)
   have up:∀{T:TypeId} {c:Addr} {vs:List Value},Box w3 c vs T→¬ so3.blk c.block→c.block≠c4.block→Box w6 c vs T:=fun h h1 h2=>((h.pure E4).ext X5 h1).ext E6 h2
   refine hK s1' w6 ⟨up A3.b1 (fun hb=>(A3.ns _ hb).1 rfl) A3.n4.1.symm,up A3.b2 (fun hb=>(A3.ns _ hb).2.1 rfl) A3.n4.2.1.symm,up A3.b3 (fun hb=>(A3.ns _ hb).2.2.1 rfl) A3.n4.2.2.1.symm,b6,?_,?_,((A3.pool.pure E4).ext X5 (fun b hb=>(A3.nf b hb).2.2)).ext E6 (fun b hb e=>(A3.nf b hb).1 e),A3.n4,A3.nm,ns',fun b hb=>⟨(A3.nf b hb).1,(A3.nf b hb).2.1,fun hh=>(f5' b hh).elim (A3.nf b hb).2.2 (fun hh=>by have:=A3.pool.lt hb;omega)⟩⟩ ?_ ?_
   ·obtain ⟨M',hM',hV'⟩:=A3.mp
    exact ⟨M',((hM'.pure E4).ext X5 (fun hb=>(A3.ns _ hb).2.2.2.2 rfl)).ext E6 A3.n4.2.2.2.symm,hV'⟩
   ·show Rws _ _ _ _ (tmr (s3.2++[t]))
    rw [show tmr (s3.2++[t])=tmr s3.2++[[.int .i64 t]] by simp [tmr]]
    exact R5.ext E6 (fun b hb e=>(ns' b hb).2.2.2.1 e)
   ·have f33:∀b,so3.blk b→b<w0.heap.size→so.blk b:=fun b hb hlt=>(f3 b hb).elim id (fun h2=>by omega)
    refine (((E1.mono (fun b _ hb=>.inr (.inl hb))).thenPure E2).trans X3).trans' ((E4.pure (F:=WkF c4 m so3)).trans ((X5.mono (fun b _ hb=>.inr (.inr hb))).trans (E6.mono (fun b _ e=>.inl e)))) (fun i hi hb=>?_)
    rcases hb with hb | hb | hb
    ·exact .inl hb
    ·exact .inr (.inl hb)
    ·exact .inr (.inr (f33 i hb hi))
   ·intro b hb
    rcases f5' b hb with h1 | h1
    ·exact (f3 b h1).imp_right (fun h=>by omega)
    ·right;omega
 ·have hyes':t∈M:=by have:=look_mem hyes;simp [umap] at this;exact this
  have hv:st.1 t=true:=by rw [hV];simpa using hyes'
  rw [Sp.overS,if_neg (by simp [hv])] at hK
  refine ⟨some m,h.b1.cell0,1,hl,Br.t (by simp) ?_⟩
  exact hK so w0 h (Ext.refl _) (fun b hb=>.inl hb)
theorem c_subs (p : Addr) (t : Int) (w0 : World) {L : Sp.Pool} {FP : NP} (hW : Sp.Wf L) (hP : PoolAt w0 p L FP) :
  Calls Tryz.prog 131 #[.pointer (some p),.int .i64 t] w0 (fun e w'=>∃r:Sl,e=.returned r.v∧RetO w0 30 1 (tmr (Sp.subs L t)) r w'):=by
 refine w_W3 _ _ w0 (fun r w'=>RetO w0 30 1 (tmr (Sp.subs L t)) r w') ?_
 unfold m_W3
 intro p2 w1 h1 p3 w2 h2 p4 w3 h3 p5 w4 h4
 have B2:=Box.of_new h1
 have B3:=Box.of_new h2
 have M4:=IMap.of_new (f:=one1) h3
 have B5:=Box.of_new h4
 have E1:Pure w0 w1:=Ext.new h1
 have E2:Pure w1 w2:=Ext.new h2
 have E3:Pure w2 w3:=Ext.new h3
 have E4:Pure w3 w4:=Ext.new h4
 have s1:=h1.at_size;have s2:=h2.at_size;have s3:=h3.at_size;have s4:=h4.at_size
 have z1:=E1.size;have z2:=E2.size;have z3:=E3.size;have z4:=E4.size
 have l1:=B2.lt;have l2:=B3.lt;have l3:=M4.lt;have l4:=B5.lt
 refine ⟨B5.canW0 (by simp),fun w5 h5=>?_⟩
 have E5:Ext (·=p5.block) w4 w5:=by rw [h5];exact Ext.setCell p5 _
 have B5':Box w5 p5 [.map (some p4.block)] 152:=by rw [h5];exact B5.set0
 intro p6 w6 h6
 have B6:=Box.of_new h6
 have E6:Pure w5 w6:=Ext.new h6
 have s6:=h6.at_size;have z5:=E5.size;have z6:=E6.size;have l6:=B6.lt
 refine ⟨B6.canW0 (by simp),fun w7 h7=>?_⟩
 have E7:Ext (·=p6.block) w6 w7:=by rw [h7];exact Ext.setCell p6 _
 have B6':Box w7 p6 [.func (.func 152) #[] #[.pointer (some p5),.pointer (some p2),.pointer (some p6),.pointer (some p3)]] 145:=by rw [h7];exact B6.set0
 have z7:=E7.size
 have EE:Pure w0 w7:=((((((E1.trans E2).trans E3).trans E4).own (by omega) E5).trans E6).own (by omega) E7)
 have up:∀{T:TypeId} {c:Addr} {vs:List Value},Box w4 c vs T→c.block≠p5.block→c.block≠p6.block→Box w7 c vs T:=fun h h1 h2=>((h.ext E5 h1).pure E6).ext E7 h2
 have hnil:∀b,¬ Sl.nil.blk b:=fun b hb=>by obtain ⟨a,h,_⟩:=hb;cases h
 have A:WkAt w7 p p5 p2 p6 p3 p4.block Sl.nil L FP (fun _=>false,[]) :=
  ⟨(B5'.pure E6).ext E7 (by omega),up (((B2.pure E2).pure E3).pure E4) (by omega) (by omega),B6',up ((B3.pure E3).pure E4) (by omega) (by omega),
  ⟨[],(((M4.pure E4).ext E5 (by omega)).pure E6).ext E7 (by omega),fun x=>by simp⟩,Rws.nil _ _ _,hP.pure EE,⟨by omega,by omega,by omega,by omega⟩,⟨by omega,by omega,by omega⟩,fun b hb=>(hnil b hb).elim,fun b hb=>by
   have:=hP.lt hb
   exact ⟨by omega,by omega,hnil b⟩⟩
 refine ⟨some p,A.b2.cell0,?_⟩
 refine (c_in p t w7 A.pool).mono ?_
 rintro _ _ ⟨r1,rfl,rfl,rfl⟩
 refine ⟨_,rfl,fun hc=>?_,fun hc=>?_⟩
 ·refine ⟨_,A.b3.cell0,_,_,_,rfl,Tryz.call152,?_⟩
  refine (c_walk p p5 p2 p6 p3 p4.block hW (t.toNat+1) t w7 _ Sl.nil (by omega) hc A ⟨by simp,by simp,by simp,by simp⟩ (by simp)).mono ?_
  rintro _ w8 ⟨rfl,so,A8,X8,f8⟩
  refine ⟨rfl,so,A8.b4.cell0,A8.out,fun b hb=>?_,EE.trans' X8 (fun i hi hb=>?_)⟩
  ·rcases f8 b hb with h | h
   ·exact (hnil b h).elim
   ·omega
  ·rcases hb with hb | hb | hb
   ·omega
   ·omega
   ·exact hnil _ hb
 ·have : Sp.subs L t = [] := by
   unfold Sp.subs
   rw [Sp.overS,if_neg (by simp [hc])]
  rw [this]
  exact ⟨Sl.nil,A.b4.cell0,Rws.nil _ _ _,fun b hb=>(hnil b hb).elim,EE⟩
theorem c_Subs (p:Addr) (t:Int) (w0:World):Calls Tryz.prog 79 #[.pointer (some p),.int .i64 t] w0 (fun e w'=>∃r:Value,e=.returned r∧∃p2 p3:Addr,r=.func (.func 130) #[] #[.pointer (some p2),.pointer (some p3)]∧Box w' p2 [.pointer (some p)] 26∧Box w' p3 [.int .i64 t] 30∧Pure w0 w'):=by
 refine w_S3 _ _ w0 (fun r w'=>∃p2 p3:Addr,r=.func (.func 130) #[] #[.pointer (some p2),.pointer (some p3)]∧Box w' p2 [.pointer (some p)] 26∧Box w' p3 [.int .i64 t] 30∧Pure w0 w') ?_
 unfold m_S3
 intro p2 w1 h1 p3 w2 h2
 exact ⟨p2,p3,rfl,(Box.of_new h1).pure (Ext.new h2),Box.of_new h2,(show Pure w0 w1 from Ext.new h1).trans (Ext.new h2)⟩
theorem it_Subs {p p2 p3 : Addr} {t : Int} {w0 : World} {L : Sp.Pool} {FP : NP} (hW : Sp.Wf L) (hP : PoolAt w0 p L FP) (B2 : Box w0 p2 [.pointer (some p)] 26) (B3 : Box w0 p3 [.int .i64 t] 30) :
  IterC Tryz.prog 130 #[.pointer (some p2),.pointer (some p3)] (fun z:Int=>#[.int .i64 z]) (Sp.subs L t) (fun _=>True) w0:=by
 intro l J Jx W E _ hJ hJx hyield h0
 refine (w_Q1 (.func (.yield l) #[] #[]) p2 p3 W (fun A=>∃X,Hst W X A X A∧(J (Sp.subs L t) X A∨∃pre,Jx pre X A)) ?_).mono (fun e A h=>⟨⟨_,h.1⟩,h.2⟩)
 unfold m_Q1
 refine ⟨some p,(B2.pure E).cell0,t,(B3.pure E).cell0,?_⟩
 refine (c_subs p t W hW (hP.pure E)).mono ?_
 rintro _ w1 ⟨r,rfl,hr⟩
 refine ⟨_,rfl,?_⟩
 generalize hxs:Sp.subs L t=xs at *
 have hfew:xs.length≤65536:=by rw [← hxs];have:=Sp.subs_few hW t;have:=hW.ok.few;omega
 have hs1:Hst W None W (fun b=>W.heap.size≤b∧b<w1.heap.size) w1:=⟨hr.pure.pure,fun _ h=>h.elim,fun b h=>.inr h.1,fun b h=>h.1,fun b h=>h.2,hr.pure.size⟩
 have hX:∀b,r.blk b→W.heap.size≤b∧b<w1.heap.size:=fun b hb=>⟨hr.own b hb,hr.rows.lt hb⟩
 refine ⟨fun x A=>∃j:Nat,x=j∧j≤xs.length∧Hst W (fun b=>W.heap.size≤b∧b<w1.heap.size) A (fun b=>W.heap.size≤b∧b<w1.heap.size) A∧J (xs.take j) (fun b=>W.heap.size≤b∧b<w1.heap.size) A∧Rws A 30 1 r (tmr xs),fun x _=>((xs.length:Int) - x).toNat,⟨0,rfl,Nat.zero_le _,hs1.here,hJ _ _ _ _ _ h0 hs1,hr.rows⟩,?_⟩
 rintro _ A ⟨j,rfl,hj,hA,hJA,hRA⟩
 unfold m_Q1_l1
 have hlen:r.len=xs.length:=by rw [hr.rows.len,tmr_len]
 refine ⟨fun hc=>?_,fun hc=>?_⟩
 ·have hc:j<xs.length:=by have:=of_decide_eq_true hc;omega
  obtain ⟨a,hat,_,hv⟩:=tm_nth hRA.lst hc
  refine ⟨a,hat,_,hv,l,rfl,?_⟩
  refine (hyield (xs.take j) xs[j] _ A hJA hA ⟨xs.drop (j+1),by rw [← List.drop_eq_getElem_cons hc,List.take_append_drop]⟩).mono ?_
  rintro e A' (⟨rfl,hk,hJ'⟩ | ⟨rfl,hk,hJ'⟩)
  ·refine ⟨_,rfl,Br.f rfl ⟨⟨j+1,wrap_succ hc (by omega),hc,hA.again hk,by rw [List.take_succ_eq_append_getElem hc];exact hJ',hRA.kept hk hX⟩,?_⟩⟩
   rw [wrap_succ hc (by omega)]
   show ((xs.length:Int) - ((j+1:Nat):Int)).toNat<((xs.length:Int) - (j:Int)).toNat
   omega
  ·exact ⟨_,rfl,Br.t rfl ⟨_,hA.again hk,.inr ⟨_,hJ'⟩⟩⟩
 ·have hc:j=xs.length:=by have:=of_decide_eq_false hc;omega
  subst hc
  rw [List.take_length] at hJA
  exact ⟨_,hA,.inl hJA⟩
end Go.Proofs
end
section
open Go Go.SE
namespace Go.Proofs
attribute [local irreducible] Calls CallsD
def RdOut (w0 w':World) (bs:List UInt8) (x:Option Addr):Prop :=
 (∀q,(rdText bs).1=some q→∃p F,x=some p∧PoolAt w' p q F∧∀b,F b→w0.heap.size≤b)∧((rdText bs).1=none→x=none)
structure ReAt (w0 w:World) (q a:Addr) (s:Sl) (bs:List UInt8) (L:Sp.Pool) (r:Rd) (m:Nat) (S FP F:NP) (ps:List Nat) (pl:Sl):Prop where
 st:StAt w q a s bs L r m S FP F
 pure:Pure w0 w
 oP:∀b,FP b→w0.heap.size≤b
 oa:w0.heap.size≤a.block
 rows:Rws w 3 1 pl (tmr (ps.map Int.ofNat))
 own:∀b,pl.blk b→w0.heap.size≤b∧¬ FP b∧b≠a.block∧¬ S b∧¬ F b∧b≠m
theorem inRow_snoc:∀(l:List Int) (i:Nat) (z:Int),inRow i l=i+l.length→inRow i (l++[z])=if z=((i+l.length:Nat):Int)+1 then i+l.length+1 else i+l.length:=by
 intro l
 induction l with
 | nil=>intro i z _;simp only [List.nil_append,inRow,List.length_nil,Nat.add_zero]
 | cons s l ih =>
  intro i z h
  rw [inRow] at h
  rw [List.cons_append,inRow]
  split
  ·rename_i hs
   rw [if_pos hs,List.length_cons] at h
   rw [ih (i+1) z (by omega),List.length_cons]
   rw [show i+1+l.length=i+(l.length+1) by omega]
  ·rename_i hs
   rw [if_neg hs,List.length_cons] at h;omega
theorem inRow_stop:∀(l:List Int) (i:Nat) (z:Int) (post:List Int),inRow i l=i+l.length→z≠((i+l.length:Nat):Int)+1→inRow i (l++z :: post)=i+l.length:=by
 intro l
 induction l with
 | nil=>intro i z post _ hz;simp only [List.nil_append,inRow,List.length_nil,Nat.add_zero] at *;rw [if_neg hz]
 | cons s l ih =>
  intro i z post h hz
  rw [inRow] at h
  rw [List.cons_append,inRow]
  split
  ·rename_i hs
   rw [if_pos hs,List.length_cons] at h
   rw [List.length_cons] at hz
   rw [ih (i+1) z post (by omega) (by rw [show i+1+l.length=i+(l.length+1) by omega];exact hz),List.length_cons];omega
  ·rename_i hs
   rw [if_neg hs,List.length_cons] at h;omega
theorem c_read {S0 : NP} (sb : Sl) (bs : List UInt8) (w0 : World) (hs : Lst S0 w0 1 sb (byr bs)) (hz : sb.a = none → sb = Sl.nil) :
  Calls Tryz.prog 35 #[sb.v] w0 (fun e w'=>∃x:Option Addr,∃y z:Int,e=.returned (.tuple #[.pointer x,.int .i64 y,.int .i64 z])∧(y=(rdText bs).2.1∧z=((rdText bs).2.2:Int)∧RdOut w0 w' bs x∧Pure w0 w')):=by
 refine w_M1 sb w0 (fun x y z w'=>y=(rdText bs).2.1∧z=((rdText bs).2.2:Int)∧RdOut w0 w' bs x∧Pure w0 w') ?_
 unfold m_M1
 have hl:sb.len=bs.length:=by rw [hs.len,byr_len]
 have bad:∀(e:Int) (n:Nat) (w':World),rdText bs=(none,e,n)→Pure w0 w'→e=(rdText bs).2.1∧(n:Int)=((rdText bs).2.2:Int)∧RdOut w0 w' bs none∧Pure w0 w':=fun e n w' h E=>by
  rw [h];exact ⟨rfl,rfl,⟨fun q hq=>(by rw [h] at hq;cases hq),fun _=>rfl⟩,E⟩
 refine ⟨fun hc=>?_,fun hc=>?_⟩
 ·have hc:4096<bs.length:=by have:=of_decide_eq_true hc;omega
  exact bad 1 0 w0 (by unfold rdText;rw [if_pos hc]) (Ext.refl _)
 have hc:bs.length≤4096:=by have:=of_decide_eq_false hc;omega
 refine ⟨fun hc2=>?_,fun hc2=>?_⟩
 ·have hc2:bs.length=0:=by have:=beq_iff_eq.1 hc2;omega
  exact bad 3 0 w0 (by unfold rdText;rw [if_neg (by omega),if_pos hc2]) (Ext.refl _)
 have hc2:bs.length≠0:=by have:=beq_eq_false_iff_ne.1 hc2;omega
 have htxt:rdText bs=rdGo bs bs.length [] ⟨0,0,0⟩ []:=by unfold rdText;rw [if_neg (by omega),if_neg hc2]
 refine (c_New w0).mono ?_
 rintro _ w1 ⟨_,rfl,q,rfl,E1,FP0,hP,hFP⟩
 refine ⟨_,rfl,E1.keptP,?_⟩
 refine (c_cNew sb bs w1 (hs.pure E1) hz (by omega)).mono ?_
 rintro _ w2 ⟨_,rfl,a,s,rfl,hR,E2,ha,hsb⟩
 refine ⟨_,rfl,E2.keptP,?_⟩
 refine (c_kinds w2).mono ?_
 rintro _ w3 ⟨_,rfl,m,F,rfl,hK,E3,hm,hF⟩
 refine ⟨_,rfl,E3.keptP,?_⟩
 have z1:=E1.size;have z2:=E2.size;have z3:=E3.size
 have la:a.block<w2.heap.size:=hR.box.lt
 have hnil:∀b,¬ Sl.nil.blk b:=fun b hb=>by obtain ⟨a,h,_⟩:=hb;cases h
 have R3:ReAt w0 w3 q a s bs [] ⟨0,0,0⟩ m s.blk FP0 F [] Sl.nil :=
  ⟨⟨(hP.pure E2).pure E3,hR.pure E3,hK,fun b hb=>by have:=hsb b hb;omega,by omega,fun b hb=>by have h1:=hP.lt hb;exact ⟨by omega,fun hh=>by have:=hsb b hh;omega,fun hh=>by have:=hF b hh;omega,by omega⟩,fun b hb=>by have:=hF b hb;exact ⟨by omega,fun hh=>by have:=hsb b hh;omega⟩,by omega,fun hh=>by have:=hsb _ hh;omega⟩,(E1.trans E2).trans E3,hFP,by omega,Rws.nil _ _ _,fun b hb=>(hnil b hb).elim⟩
 refine ⟨fun pl Hl w=>∃(L:Sp.Pool) (r:Rd) (ps:List Nat) (FP:NP) (n:Nat),Hl=None∧ReAt w0 w q a s bs L r m s.blk FP F ps pl∧Sp.Wf L∧ps.length=L.length∧ps.length≤r.at_∧r.at_≤bs.length∧r.err=0∧bs.length - r.at_≤n∧rdGo bs n L r ps=rdText bs,fun pl _=>bs.length+1 - pl.len,⟨[],⟨0,0,0⟩,[],FP0,bs.length,rfl,R3,Sp.Wf.nil,rfl,Nat.zero_le _,Nat.zero_le _,rfl,Nat.le_refl _,htxt.symm⟩,?_⟩
 rintro pl _ wl _ ⟨L,r,ps,FP,n,rfl,hRe,hW,hps,hpr,hra,hre,hn,hgo⟩
 unfold m_M1_l1
 have hpl:pl.len=ps.length:=by rw [hRe.rows.len,tmr_len,List.length_map]
 refine (c_Left a s bs r wl hRe.st.rd hra).mono ?_
 rintro _ w4 ⟨_,rfl,rfl,E4⟩
 refine ⟨_,rfl,E4.keptP,fun hc3=>?_,fun hc3=>?_⟩
 ·have hlt:r.at_<bs.length:=by have:=of_decide_eq_true hc3;omega
  obtain ⟨n,rfl⟩:∃k,n=k+1:=⟨n - 1,by omega⟩
  rw [rdGo,if_pos hlt] at hgo
  have S4:=hRe.st.pure E4
  refine (c_At a s bs r w4 S4.rd).mono ?_
  rintro _ _ ⟨_,rfl,rfl,rfl⟩
  refine ⟨_,rfl,Kept.refl _,?_⟩
  refine (c_subterm q a s bs r m S4 hW.ok hlt hre).mono ?_
  rintro _ w6 ⟨_,rfl,rfl,F',hP6,hR6,E6,hF6⟩
  have z4:=E4.size;have z6:=E6.size
  have E06:Pure w0 w6:=(hRe.pure.trans E4).trans' E6 (fun i hi hh=>hh.elim (fun hh=>by have:=hRe.oP i hh;omega) (fun hh=>by have:=hRe.oa;omega))
  refine ⟨_,rfl,E6.kept (fun b hb=>hb.elim),fun hc4=>?_,fun hc4=>?_⟩
  ·have h0:(rdStep bs L r).2.1≠0:=bne_iff_ne.1 hc4
   rw [if_pos h0] at hgo
   exact bad _ _ _ hgo.symm E06
  ·have h0:(rdStep bs L r).2.1=0:=by simpa using hc4
   rw [if_neg (by simpa using h0)] at hgo
   obtain ⟨a1,a2,a3⟩:=rdStep_at bs L r hlt hre h0
   have hw6:Sp.Wf (rdStep bs L r).1∧(rdStep bs L r).1.length=L.length+1:=by
    rw [rdStep_eq bs L r hlt hre] at h0 ⊢
    split at h0
    ·rename_i hk
     rw [if_pos hk]
     obtain ⟨_,_,e3,e4,e5⟩:=rdIn_zero h0
     rw [e5]
     simp only
     refine ⟨Sp.make_wf hW _,?_⟩
     have hc:=(Sp.make_node e4).2.2
     unfold Sp.make at e4 ⊢
     simp only [e3] at e4 ⊢
     rw [if_neg (by rw [hc];simp)] at e4 ⊢
     split at e4
     ·simp at e4
     ·rename_i hf;rw [if_neg hf];simp
    ·simp at h0
   intro p1 w7 n7
   have E7:Pure w6 w7:=Ext.new n7
   have z7:=E7.size
   have R7:Rws w7 3 1 pl (tmr (ps.map Int.ofNat)):=((hRe.rows.pure E4).ext E6 (fun b hb hh=>hh.elim (hRe.own b hb).2.1 (hRe.own b hb).2.2.1)).pure E7
   obtain ⟨s1,w8,hr8,hR8,hE8,hb8⟩:=R7.append (P:=Tryz.prog) (ty:=43) (c:=1) slT_int (Box.of_newA n7).row rfl rfl (by rw [tmr_len,List.length_map];omega) (by rw [tmr_len,List.length_map];simp only [maxLen];omega)
   have hpw:∀b,pl.blk b→b<wl.heap.size:=fun b hb=>hRe.rows.lt hb
   have z8:=hE8.size
   have E08:Pure w0 w8:=(E06.trans E7).trans' hE8 (fun i hi hh=>by have:=(hRe.own i hh).1;omega)
   have hnew:∀b,F' b→¬ pl.blk b:=fun b hb hh=>(hF6 b hb).elim (fun h=>(hRe.own b hh).2.1 h) (fun h=>by have:=hpw b hh;omega)
   have S0:=S4
   have S8:StAt w8 q a s bs (rdStep bs L r).1 (rdStep bs L r).2.2 m s.blk F' F:=by
    refine ⟨(hP6.pure E7).ext hE8 hnew,(hR6.pure E7).ext hE8 (fun b hb hh=>(hRe.own b hh).2.2.2.1 hb) (fun hh=>(hRe.own _ hh).2.2.1 rfl),((S0.kinds.ext E6 (fun b hb hh=>?_)).pure E7).ext hE8 (fun b hb hh=>?_),fun b hb=>by have:=S0.lS b hb;omega,by have:=S0.la;omega,fun b hb=>?_,S0.dF,S0.dm⟩
    ·rcases hb with hb | rfl
     ·exact hh.elim (fun hh=>(S0.dP b hh).2.2.1 hb) (fun hh=>(S0.dF b hb).1 hh)
     ·exact hh.elim (fun hh=>(S0.dP _ hh).2.2.2 rfl) (fun hh=>S0.dm.1 hh)
    ·rcases hb with hb | rfl
     ·exact (hRe.own b hh).2.2.2.2.1 hb
     ·exact (hRe.own _ hh).2.2.2.2.2 rfl
    ·rcases hF6 b hb with h | h
     ·exact S0.dP b h
     ·exact ⟨by have:=S0.la;omega,fun hh=>by have:=S0.lS b hh;omega,fun hh=>by have:=S0.kinds.lt b hh;omega,by have:=S0.kinds.mlt;omega⟩
   refine ⟨s1,w8,hr8,hE8.kept (fun b hb=>hb.elim),⟨(rdStep bs L r).1,(rdStep bs L r).2.2,ps++[r.at_],F',n,rfl,⟨S8,E08,fun b hb=>(hF6 b hb).elim (hRe.oP b) (fun h=>by have:=hRe.pure.size;omega),hRe.oa,?_,fun b hb=>?_⟩,hw6.1,by rw [List.length_append,List.length_singleton,hw6.2];omega,by rw [List.length_append,List.length_singleton];omega,a2,a3,by omega,hgo⟩,?_⟩
   ·have:tmr ((ps++[r.at_]).map Int.ofNat)=tmr (ps.map Int.ofNat)++[[.int .i64 (r.at_:Int)]]:=by simp [tmr]
    rw [this];exact hR8
   ·rcases hb8 b hb with h | h
    ·have:=hRe.own b h
     exact ⟨this.1,fun hh=>hnew b hh h,this.2.2⟩
    ·have h1:=hRe.pure.size
     exact ⟨by omega,fun hh=>by have:=hP6.lt hh;omega,by have:=S0.la;omega,fun hh=>by have:=S0.lS b hh;omega,fun hh=>by have:=S0.kinds.lt b hh;omega,by have:=S0.kinds.mlt;omega⟩
   ·have h1:s1.len=ps.length+1:=by rw [hR8.len,List.length_append,tmr_len,List.length_map];rfl
    show bs.length+1 - s1.len<bs.length+1 - pl.len
    omega
 ·have hge:¬ r.at_<bs.length:=by have:=of_decide_eq_false hc3;omega
  rw [rdGo_end hge] at hgo
  intro p2 w9 n9
  have E9:Pure w4 w9:=Ext.new n9
  have B9:=Box.of_newA n9
  have b9:=n9.at_size
  refine ⟨B9.canW0 (by simp),id,?_⟩
  rintro w10 e10
  have X10:Ext (·=p2.block) w9 w10:=by rw [e10];exact Ext.setCell _ _
  have B10:Box w10 p2 [.int .i64 0] 3:=by rw [e10];exact B9.set0
  have z4:=E4.size;have z9:=E9.size;have z10:=X10.size
  have E4':Pure wl w10:=(E4.trans E9).own (by omega) X10
  have zw:=hRe.pure.size
  have P10:=hRe.st.pool.pure E4'
  have R10:=hRe.rows.pure E4'
  refine (c_term_Len q w10 P10).mono ?_
  rintro _ w10 ⟨_,rfl,rfl,rfl⟩
  refine ⟨_,rfl,Kept.refl _,?_⟩
  refine (c_Subs q L.length w10).mono ?_
  rintro _ w12 ⟨_,rfl,q2,q3,rfl,Bq2,Bq3,E12⟩
  have z12:=E12.size
  refine ⟨_,rfl,E12.keptP,_,_,rfl,Tryz.call130,_,_,it_Subs hW (P10.pure E12) Bq2 Bq3,?_⟩
  have hfew:=Sp.subs_few hW L.length
  have hlf:=hW.ok.few
  unfold rdEnd at hgo
  simp only at hgo
  generalize hxs:Sp.subs L L.length=xs at *
  have E012:Pure w0 w12:=(hRe.pure.trans E4').trans E12
  have vb:∀b,(b=p2.block∨FP b∨pl.blk b)→w0.heap.size≤b:=fun b hb=>hb.elim (fun h=>by omega) (fun hb=>hb.elim (hRe.oP b) (fun h=>(hRe.own b h).1))
  have dP2:¬ FP p2.block∧¬ pl.blk p2.block:=⟨fun hh=>by have:=hRe.st.pool.lt hh;omega,fun hh=>by have:=hRe.rows.lt hh;omega⟩
  refine ⟨fun pre Y A=>Box A p2 [.int .i64 (pre.length:Int)] 3∧inRow 0 pre=pre.length∧PoolAt A q L FP∧Rws A 3 1 pl (tmr (ps.map Int.ofNat))∧(∀b,(b=p2.block∨FP b∨pl.blk b)→¬ Y b)∧Pure w0 A,
   fun pre Y A=>Box A p2 [.int .i64 (inRow 0 xs:Int)] 3∧PoolAt A q L FP∧Rws A 3 1 pl (tmr (ps.map Int.ofNat))∧(∀b,(b=p2.block∨FP b∨pl.blk b)→¬ Y b)∧Pure w0 A,⟨fun _ _ _ _=>trivial,?_,?_,fun _ _ _ _ _ h=>h.elim⟩,?_,?_,?_⟩
  ·rintro pre Y A Y' A' ⟨g1,g2,g3,g4,g5,g6⟩ hst
   have hv:∀b,(b=p2.block∨FP b∨pl.blk b)→¬ Y' b:=hst.disj (fun b hb=>⟨hb.elim (fun e=>e▸g1.lt) (fun hb=>hb.elim (fun h=>g3.lt h) (fun h=>g4.lt h)),g5 b hb⟩)
   exact ⟨g1.ext hst.ext (hv _ (.inl rfl)),g2,g3.ext hst.ext (fun b hb=>hv b (.inr (.inl hb))),g4.ext hst.ext (fun b hb=>hv b (.inr (.inr hb))),hv,g6.hst hst⟩
  ·rintro pre Y A Y' A' ⟨g1,g3,g4,g5,g6⟩ hst
   have hv:∀b,(b=p2.block∨FP b∨pl.blk b)→¬ Y' b:=hst.disj (fun b hb=>⟨hb.elim (fun e=>e▸g1.lt) (fun hb=>hb.elim (fun h=>g3.lt h) (fun h=>g4.lt h)),g5 b hb⟩)
   exact ⟨g1.ext hst.ext (hv _ (.inl rfl)),g3.ext hst.ext (fun b hb=>hv b (.inr (.inl hb))),g4.ext hst.ext (fun b hb=>hv b (.inr (.inr hb))),hv,g6.hst hst⟩
  ·exact ⟨B10.pure E12,rfl,P10.pure E12,R10.pure E12,fun _ _ h=>h,E012⟩
  ·rintro pre z Y A ⟨g1,g2,g3,g4,g5,g6⟩ hsA ⟨post,hpost⟩
   have hpl2:pre.length<65536:=by have:=congrArg List.length hpost;simp only [List.length_append,List.length_cons] at this;omega
   have hw:IntKind.i64.wrap ((pre.length:Int)+1)=((pre.length+1:Nat):Int):=wrap_succ (n:=pre.length+1) (by omega) (by omega)
   refine ⟨_,g1.cell0,fun hc=>?_,fun hc=>?_⟩
   ·have hc:z≠((pre.length+1:Nat):Int):=by rw [hw] at hc;exact bne_iff_ne.1 hc
    have hst:=inRow_stop pre 0 z post (by omega) (by omega)
    rw [← hpost,Nat.zero_add] at hst
    exact ⟨Kept.refl _,by rw [hst];exact g1,g3,g4,g5,g6⟩
   ·have hc:z=((pre.length+1:Nat):Int):=by rw [hw] at hc;simpa using hc
    have hsn:=inRow_snoc pre 0 z (by omega)
    rw [if_pos (by omega)] at hsn
    refine ⟨_,g1.cell0,g1.canW0 (by simp),id,?_⟩
    rintro w13 e13
    have X13:Ext (·=p2.block) A w13:=by rw [e13];exact Ext.setCell _ _
    have B13:Box w13 p2 [.int .i64 ((pre++[z]).length:Int)] 3:=by
     rw [e13,List.length_append,List.length_singleton,← hw];exact g1.set0
    exact ⟨X13.kept (fun b hb e=>g5 b (.inl e) hb),B13,by rw [hsn,List.length_append,List.length_singleton];omega,g3.ext X13 (fun b hb e=>dP2.1 (e▸hb)),g4.ext X13 (fun b hb e=>dP2.2 (e▸hb)),g5,g6.trans' X13 (fun i hi e=>by omega)⟩
  ·rintro H1 w14 hs14 _ _ hI
   have hI:Box w14 p2 [.int .i64 (inRow 0 xs:Int)] 3∧PoolAt w14 q L FP∧Rws w14 3 1 pl (tmr (ps.map Int.ofNat))∧(∀b,(b=p2.block∨FP b∨pl.blk b)→¬ H1 b)∧Pure w0 w14:=by
    rcases hI with ⟨g1,g2,g3,g4,g5,g6⟩ | ⟨_,g1,g3,g4,g5,g6⟩
    ·exact ⟨by rw [g2];exact g1,g3,g4,g5,g6⟩
    ·exact ⟨g1,g3,g4,g5,g6⟩
   obtain ⟨g1,g3,g4,g5,g6⟩:=hI
   refine ⟨_,g1.cell0,fun hc=>?_,fun hc=>?_⟩
   ·have hc:=lt_of_dec hpl hc
    rw [dif_pos hc] at hgo
    intro w15 hs15
    have hv15:∀b,(b=p2.block∨FP b∨pl.blk b)→¬ H1 b:=g5
    have g1':=g1.ext hs15.ext (hv15 _ (.inl rfl))
    have g4':=g4.ext hs15.ext (fun b hb=>hv15 b (.inr (.inr hb)))
    obtain ⟨a1,hat,_,hv5⟩:=tm_nth g4'.lst (j:=inRow 0 xs) (by simpa using hc)
    refine ⟨_,g1'.cell0,a1,hat,_,hv5,fun w16 hs16=>?_⟩
    have:=bad _ _ w16 hgo.symm ((g6.hst hs15).hst hs16)
    rw [List.getElem_map]
    exact this
   ·have hc:¬ inRow 0 xs<ps.length:=by have:=of_decide_eq_false hc;omega
    rw [dif_neg hc] at hgo
    intro w17 hs17
    have hF17:PoolAt w17 q L FP:=g3.ext hs17.ext (fun b hb=>g5 b (.inr (.inl hb)))
    rw [← hgo]
    exact ⟨rfl,rfl,⟨fun q' hq'=>by rw [← hgo] at hq';cases hq';exact ⟨q,FP,rfl,hF17,hRe.oP⟩,fun hn=>by rw [← hgo] at hn;cases hn⟩,g6.hst hs17⟩
theorem RdOut.pool {w0 w':World} {bs:List UInt8} {x:Option Addr} (h:RdOut w0 w' bs x) {q:Sp.Pool} (hq:(rdText bs).1=some q):∃p F,x=some p∧PoolAt w' p q F∧∀b,F b→w0.heap.size≤b:=h.1 q hq
theorem c_Check {S0 : NP} (sb : Sl) (bs : List UInt8) (w0 : World) (hs : Lst S0 w0 1 sb (byr bs)) (hz : sb.a = none → sb = Sl.nil) :
  Calls Tryz.prog 10 #[sb.v] w0 (fun e w'=>∃y z:Int,e=.returned (.tuple #[.int .i64 y,.int .i64 z])∧(y=(rdText bs).2.1∧z=((rdText bs).2.2:Int)∧Pure w0 w')):=by
 refine w_O2 sb w0 (fun y z w'=>y=(rdText bs).2.1∧z=((rdText bs).2.2:Int)∧Pure w0 w') ?_
 unfold m_O2
 refine (c_read sb bs w0 hs hz).mono ?_
 rintro _ w1 ⟨x,y,z,rfl,hy,hz,_,E⟩
 exact ⟨_,_,_,rfl,hy,hz,E⟩
end Go.Proofs
end
section
open Go Go.SE
namespace Go.Sp
open Go.Proofs
theorem copyGo_app (Lq:Pool):∀(l1 l2:List Int) (L:Pool) (own:Int→Int),copyGo Lq (l1++l2) L own=if (copyGo Lq l1 L own).2.1≠0 then copyGo Lq l1 L own else copyGo Lq l2 (copyGo Lq l1 L own).1 (copyGo Lq l1 L own).2.2:=by
 intro l1
 induction l1 with
 | nil=>intro l2 L own;rw [List.nil_append];exact (if_neg (fun h=>h rfl)).symm
 | cons z l1 ih =>
  intro l2 L own
  obtain ⟨x,e,L',hm⟩:∃x e L',make L { nodeOf Lq z with a:=own (nodeOf Lq z).a,b:=own (nodeOf Lq z).b }=(x,e,L'):=⟨_,_,_,rfl⟩
  rw [List.cons_append,copyGo_cons Lq z (l1++l2) L own rfl hm,copyGo_cons Lq z l1 L own rfl hm]
  by_cases he:e≠0
  ·rw [if_pos he,if_pos he,if_pos he]
  ·rw [if_neg he,if_neg he,ih]
theorem copyGo_grows (Lq:Pool):∀(l:List Int) (L:Pool) (own:Int→Int),∃M,(copyGo Lq l L own).1=L++M:=by
 intro l
 induction l with
 | nil=>intro L own;exact ⟨[],(List.append_nil L).symm⟩
 | cons z l ih =>
  intro L own
  obtain ⟨x,e,L',hm⟩:∃x e L',make L { nodeOf Lq z with a:=own (nodeOf Lq z).a,b:=own (nodeOf Lq z).b }=(x,e,L'):=⟨_,_,_,rfl⟩
  rw [copyGo_cons Lq z l L own rfl hm]
  split
  ·exact ⟨[],by simp⟩
  ·obtain ⟨M1,e1⟩:=make_app L { nodeOf Lq z with a:=own (nodeOf Lq z).a,b:=own (nodeOf Lq z).b }
   rw [hm] at e1
   obtain ⟨M2,e2⟩:=ih L' (fun y=>if y=z then x else own y)
   simp only at e1
   exact ⟨M1++M2,by rw [e2,e1,List.append_assoc]⟩
theorem copyGo_wf {Lq:Pool}:∀(l:List Int) (L:Pool) (own:Int→Int),Wf L→Wf (copyGo Lq l L own).1:=by
 intro l
 induction l with
 | nil=>intro L own h;exact h
 | cons z l ih =>
  intro L own h
  obtain ⟨x,e,L',hm⟩:∃x e L',make L { nodeOf Lq z with a:=own (nodeOf Lq z).a,b:=own (nodeOf Lq z).b }=(x,e,L'):=⟨_,_,_,rfl⟩
  have hw:=make_wf h { nodeOf Lq z with a:=own (nodeOf Lq z).a,b:=own (nodeOf Lq z).b }
  rw [copyGo_cons Lq z l L own rfl hm]
  rw [hm] at hw
  split
  ·exact h
  ·exact ih _ _ hw
theorem copyGo_fail {Lq : Pool} {l post : List Int} {z : Int} {L : Pool} {own : Int → Int} (h0 : (copyGo Lq l L own).2.1 = 0) {n : Node} (hn : { nodeOf Lq z with a := (copyGo Lq l L own).2.2 (nodeOf Lq z).a, b := (copyGo Lq l L own).2.2 (nodeOf Lq z).b } = n) (he : (make (copyGo Lq l L own).1 n).2.1 ≠ 0) :
  (copyGo Lq (l++z :: post) L own).2.1=(make (copyGo Lq l L own).1 n).2.1:=by
 obtain ⟨x,e,L',hm⟩:∃x e L',make (copyGo Lq l L own).1 n=(x,e,L'):=⟨_,_,_,rfl⟩
 rw [hm] at he ⊢
 rw [copyGo_app,if_neg (by rw [h0];exact fun h=>h rfl),copyGo_cons Lq z post _ _ hn hm,if_pos he]
theorem copyGo_next {Lq : Pool} {l : List Int} {z : Int} {L : Pool} {own : Int → Int} (h0 : (copyGo Lq l L own).2.1 = 0) {n : Node} (hn : { nodeOf Lq z with a := (copyGo Lq l L own).2.2 (nodeOf Lq z).a, b := (copyGo Lq l L own).2.2 (nodeOf Lq z).b } = n) (he : (make (copyGo Lq l L own).1 n).2.1 = 0) :
  copyGo Lq (l++[z]) L own=((make (copyGo Lq l L own).1 n).2.2,0,fun x=>if x=z then (make (copyGo Lq l L own).1 n).1 else (copyGo Lq l L own).2.2 x):=by
 obtain ⟨x,e,L',hm⟩:∃x e L',make (copyGo Lq l L own).1 n=(x,e,L'):=⟨_,_,_,rfl⟩
 rw [hm] at he ⊢
 rw [copyGo_app,if_neg (by rw [h0];exact fun h=>h rfl),copyGo_cons Lq z [] _ _ hn hm,if_neg (fun h=>h he)]
 rfl
end Go.Sp
namespace Go.Proofs
attribute [local irreducible] Calls CallsD
theorem ext_setc {w:World} {a:Addr} {k:Nat} {v:Value}:Ext (·=a.block) w (w.setCell (a.add k) v):=(Ext.setCell _ _).mono (fun i _ e=>by rw [add_block] at e;exact e)
def ownM (M:List (Int×Int)) (x:Int):Int:=(SE.look M x).getD 0
def CoV (p2 p3 p4 p5 p6 p8:Addr) (mb:Nat) (F' FQ:NP) (b:Nat):Prop:=b=p2.block∨b=p3.block∨b=p4.block∨b=p5.block∨b=p6.block∨b=p8.block∨b=mb∨F' b∨FQ b
structure CoB (A:World) (p q p2 p3 p4 p5 p6 p8:Addr) (mb n:Nat):Prop where
 b2:Box A p2 [.pointer (some p)] 26
 b3:Box A p3 [.pointer (some q)] 26
 b4:Box A p4 [.int .i64 0] 30
 b5:Box A p5 [.int .i64 0] 31
 b6:Box A p6 [.int .i64 (n:Int)] 3
 b8:Box A p8 [.map (some mb)] 133
theorem CoB.ext {A A':World} {p q p2 p3 p4 p5 p6 p8:Addr} {mb n:Nat} {F' FQ G:NP} (h:CoB A p q p2 p3 p4 p5 p6 p8 mb n) (E:Ext G A A') (hG:∀b,(b=p2.block∨b=p3.block∨b=p4.block∨b=p5.block∨b=p6.block∨b=p8.block)→¬ G b):CoB A' p q p2 p3 p4 p5 p6 p8 mb n :=
 ⟨h.b2.ext E (hG _ (.inl rfl)),h.b3.ext E (hG _ (.inr (.inl rfl))),h.b4.ext E (hG _ (.inr (.inr (.inl rfl)))),h.b5.ext E (hG _ (.inr (.inr (.inr (.inl rfl))))),h.b6.ext E (hG _ (.inr (.inr (.inr (.inr (.inl rfl)))))),h.b8.ext E (hG _ (.inr (.inr (.inr (.inr (.inr rfl))))))⟩
theorem CoB.pure {A A':World} {p q p2 p3 p4 p5 p6 p8:Addr} {mb n:Nat} (h:CoB A p q p2 p3 p4 p5 p6 p8 mb n) (E:Pure A A'):CoB A' p q p2 p3 p4 p5 p6 p8 mb n:=h.ext (F':=None) (FQ:=None) E (fun _ _ h=>h)
theorem CoB.lt {A:World} {p q p2 p3 p4 p5 p6 p8:Addr} {mb n b:Nat} (h:CoB A p q p2 p3 p4 p5 p6 p8 mb n) (hb:b=p2.block∨b=p3.block∨b=p4.block∨b=p5.block∨b=p6.block∨b=p8.block):b<A.heap.size:=by
 rcases hb with rfl | rfl | rfl | rfl | rfl | rfl
 ·exact h.b2.lt
 ·exact h.b3.lt
 ·exact h.b4.lt
 ·exact h.b5.lt
 ·exact h.b6.lt
 ·exact h.b8.lt
theorem c_Copy (p q : Addr) (t : Int) (w0 : World) {L Lq : Sp.Pool} {FP FQ : NP} (hW : Sp.Wf L) (hQ : Sp.Wf Lq) (hP : PoolAt w0 p L FP) (hPQ : PoolAt w0 q Lq FQ) (hd : ∀ b, FP b → ¬ FQ b) :
  Calls Tryz.prog 36 #[.pointer (some p),.pointer (some q),.int .i64 t] w0 (fun e w'=>∃r1 r2:Int,e=.returned (.tuple #[.int .i64 r1,.int .i64 r2])∧(r1=(copyS L Lq t).1∧r2=(copyS L Lq t).2.1∧∃F',PoolAt w' p (copyS L Lq t).2.2 F'∧Ext FP w0 w'∧∀b,F' b→FP b∨w0.heap.size≤b)):=by
 refine w_B4 _ _ _ w0 (fun r1 r2 w'=>r1=(copyS L Lq t).1∧r2=(copyS L Lq t).2.1∧∃F',PoolAt w' p (copyS L Lq t).2.2 F'∧Ext FP w0 w'∧∀b,F' b→FP b∨w0.heap.size≤b) ?_
 unfold m_B4
 intro p2 w1 n2 p3 w2 n3 p4 w3 n4 p5 w4 n5
 have E1:Pure w0 w1:=Ext.new n2
 have E2:Pure w1 w2:=Ext.new n3
 have E3:Pure w2 w3:=Ext.new n4
 have E4:Pure w3 w4:=Ext.new n5
 have B2:=(((Box.of_newA n2).pure E2).pure E3).pure E4
 have B3:=((Box.of_newA n3).pure E3).pure E4
 have B4:=(Box.of_newA n4).pure E4
 have B5:=Box.of_newA n5
 have b2:=n2.at_size;have b3:=n3.at_size;have b4:=n4.at_size;have b5:=n5.at_size
 have z1:=E1.size;have z2:=E2.size;have z3:=E3.size;have z4:=E4.size
 have l1:=(Box.of_newA n2).lt;have l2:=(Box.of_newA n3).lt;have l3:=(Box.of_newA n4).lt;have l4:=B5.lt
 have E04:Pure w0 w4:=((E1.trans E2).trans E3).trans E4
 refine ⟨some p,B2.cell0,fun hc=>(by cases hc),fun _=>⟨some q,B3.cell0,?_⟩⟩
 refine (c_in q t w4 (hPQ.pure E04)).mono ?_
 rintro _ _ ⟨_,rfl,rfl,rfl⟩
 refine ⟨_,rfl,Kept.refl _,fun hc=>?_,fun hc=>?_⟩
 ·have hin:Sp.inP Lq t=false:=by simpa using hc
  have e:copyS L Lq t=(0,51,L):=by unfold copyS;rw [if_neg (by rw [hin];simp)]
  rw [e]
  refine ⟨B4.canW0 (by simp),id,?_⟩
  rintro w8 e8
  have X8:Ext (·=p4.block) w4 w8:=by rw [e8];exact Ext.setCell _ _
  have B48:Box w8 p4 [.int .i64 0] 30:=by rw [e8];exact B4.set0
  have B58:=B5.ext X8 (by omega)
  refine ⟨B58.canW0 (by simp),id,?_⟩
  rintro w9 e9
  have X9:Ext (·=p5.block) w8 w9:=by rw [e9];exact Ext.setCell _ _
  have B59:Box w9 p5 [.int .i64 51] 31:=by rw [e9];exact B58.set0
  have B49:=B48.ext X9 (by omega)
  refine ⟨_,B49.cell0,_,B59.cell0,rfl,rfl,FP,((hP.pure E04).ext X8 (fun b hb e=>by have:=hP.lt hb;omega)).ext X9 (fun b hb e=>by have:=hP.lt hb;omega),Ext.pure ((E04.own (by omega) X8).own (by omega) X9),fun b hb=>.inl hb⟩
 have hin:Sp.inP Lq t=true:=by simpa using hc
 obtain ⟨sl,hsl,hsll⟩:∃v4:Sl,w4.cell? p=some v4.v∧v4.len=L.length:=by
  obtain ⟨s,m,h,_⟩:=hP.pure E04
  exact ⟨s,h.box.cell0,by rw [h.rows.len,List.length_map]⟩
 refine ⟨some p,B2.cell0,p,rfl,sl,hsl,?_⟩
 rw [hsll]
 intro p6 w10 n6
 have E10:Pure w4 w10:=Ext.new n6
 have B6:=Box.of_newA n6
 have b6:=n6.at_size
 refine ⟨B6.canW0 (by simp),id,?_⟩
 rintro w11 e11
 have X11:Ext (·=p6.block) w10 w11:=by rw [e11];exact Ext.setCell _ _
 have B6':Box w11 p6 [.int .i64 (L.length:Int)] 3:=by rw [e11];exact B6.set0
 intro p7 w12 n7
 have E12:Pure w11 w12:=Ext.new n7
 have M7:=IMap.of_new (f:=fun i:Int=>.int .i64 i) n7
 have b7:=n7.at_size
 intro p8 w13 n8
 have E13:Pure w12 w13:=Ext.new n8
 have B8:=Box.of_newA n8
 have b8:=n8.at_size
 refine ⟨B8.canW0 (by simp),id,?_⟩
 rintro w14 e14
 have X14:Ext (·=p8.block) w13 w14:=by rw [e14];exact Ext.setCell _ _
 have B8':Box w14 p8 [.map (some p7.block)] 133:=by rw [e14];exact B8.set0
 have z10:=E10.size;have z11:=X11.size;have z12:=E12.size;have z13:=E13.size;have z14:=X14.size
 have l6:=B6'.lt;have l7:=M7.lt;have l8:=B8.lt
 have E07:Pure w0 w14:=((((E04.trans E10).own (by omega) X11).trans E12).trans E13).own (by omega) X14
 have up:∀{T:TypeId} {c:Addr} {vs:List Value},Box w4 c vs T→c.block≠p6.block→c.block≠p8.block→Box w14 c vs T:=fun h h1 h2=>((((h.pure E10).ext X11 h1).pure E12).pure E13).ext X14 h2
 have C14:CoB w14 p q p2 p3 p4 p5 p6 p8 p7.block L.length:=⟨up B2 (by omega) (by omega),up B3 (by omega) (by omega),up B4 (by omega) (by omega),up B5 (by omega) (by omega),((B6'.pure E12).pure E13).ext X14 (by omega),B8'⟩
 have M14:=(M7.pure E13).ext X14 (by omega)
 refine ⟨some q,C14.b3.cell0,?_⟩
 refine (c_Subs q t w14).mono ?_
 rintro _ w15 ⟨_,rfl,q2,q3,rfl,Bq2,Bq3,E15⟩
 have E015:=E07.trans E15
 have z15:=E15.size
 refine ⟨_,rfl,E15.keptP,_,_,rfl,Tryz.call130,_,_,it_Subs hQ (hPQ.pure E015) Bq2 Bq3,?_⟩
 have hfew:=Sp.subs_few hQ t
 have hlq:=hQ.ok.few
 have hsub:∀u∈Sp.subs Lq t,Sp.inP Lq u=true:=fun u hu=>subs_in hQ hu
 have hnd:=Sp.subs_nodup hQ t
 generalize hcs:copyS L Lq t=cs at *
 have hcs':cs=if (copyGo Lq (Sp.subs Lq t) L (fun _=>0)).2.1≠0 then (0,(copyGo Lq (Sp.subs Lq t) L (fun _=>0)).2.1,L) else ((copyGo Lq (Sp.subs Lq t) L (fun _=>0)).2.2 t,0,(copyGo Lq (Sp.subs Lq t) L (fun _=>0)).1):=by rw [← hcs];unfold copyS;rw [if_pos hin]
 have htin:t∈Sp.subs Lq t:=self_sub hQ hin
 generalize Sp.subs Lq t=xs at *
 have C15:=C14.pure E15
 have M15:=M14.pure E15
 have o2:w0.heap.size≤p2.block:=by omega
 have o3:w0.heap.size≤p3.block:=by omega
 have o4:w0.heap.size≤p4.block:=by omega
 have o5:w0.heap.size≤p5.block:=by omega
 have o6:w0.heap.size≤p6.block:=by omega
 have o8:w0.heap.size≤p8.block:=by omega
 have om:w0.heap.size≤p7.block:=by omega
 have d45:p4.block≠p5.block:=by omega
 have dm:∀b,(b=p2.block∨b=p3.block∨b=p4.block∨b=p5.block∨b=p6.block∨b=p8.block)→b≠p7.block:=fun b hb=>by rcases hb with rfl | rfl | rfl | rfl | rfl | rfl <;> omega
 have ob:∀b,(b=p2.block∨b=p3.block∨b=p4.block∨b=p5.block∨b=p6.block∨b=p8.block∨b=p7.block)→w0.heap.size≤b∧b<w15.heap.size:=fun b hb=>by rcases hb with rfl | rfl | rfl | rfl | rfl | rfl | rfl <;> omega
 generalize p7.block=mb at *
 clear up B2 B3 B4 B5 B6 B6' B8 B8' M7 M14 C14 n2 n3 n4 n5 n6 n7 n8 X11 X14 E10 E12 E13 e11 e14 Bq2 Bq3 hsl
 have hPq:∀b,FQ b→b<w0.heap.size:=fun b hb=>hPQ.lt hb
 refine ⟨fun pre Y A=>∃(F':NP) (M:List (Int×Int)),(copyGo Lq pre L (fun _=>0)).2.1=0∧PoolAt A p (copyGo Lq pre L (fun _=>0)).1 F'∧IMap (fun i:Int=>.int .i64 i) A mb M∧M.map Prod.fst=pre∧(∀x,(copyGo Lq pre L (fun _=>0)).2.2 x=ownM M x)∧CoB A p q p2 p3 p4 p5 p6 p8 mb L.length∧PoolAt A q Lq FQ∧(∀b,F' b→FP b∨(w0.heap.size≤b∧¬ (b=p2.block∨b=p3.block∨b=p4.block∨b=p5.block∨b=p6.block∨b=p8.block∨b=mb)))∧(∀b,CoV p2 p3 p4 p5 p6 p8 mb F' FQ b→¬ Y b)∧Ext FP w0 A∧w15.heap.size≤A.heap.size,
  fun pre Y A=>∃(F':NP) (e:Int),cs=(0,e,L)∧PoolAt A p L F'∧Box A p4 [.int .i64 0] 30∧Box A p5 [.int .i64 e] 31∧(∀b,F' b→FP b∨w0.heap.size≤b)∧(∀b,(b=p4.block∨b=p5.block∨F' b)→¬ Y b)∧Ext FP w0 A,⟨fun _ _ _ _=>trivial,?_,fun _ _ _ _ _ h=>h.elim,?_⟩,?_,?_,?_,?_⟩
 ·rintro pre Y A Y' A' ⟨F',M,g1,g2,g3,g4,g5,g6,g7,g8,g9,g10,g11⟩ hst
  have hv:∀b,CoV p2 p3 p4 p5 p6 p8 mb F' FQ b→¬ Y' b:=hst.disj (fun b hb=>⟨by
   rcases hb with hb | hb | hb | hb | hb | hb | hb | hb | hb
   ·exact g6.lt (.inl hb)
   ·exact g6.lt (.inr (.inl hb))
   ·exact g6.lt (.inr (.inr (.inl hb)))
   ·exact g6.lt (.inr (.inr (.inr (.inl hb))))
   ·exact g6.lt (.inr (.inr (.inr (.inr (.inl hb)))))
   ·exact g6.lt (.inr (.inr (.inr (.inr (.inr hb)))))
   ·exact hb▸g3.lt
   ·exact g2.lt hb
   ·exact g7.lt hb,g9 b hb⟩)
  exact ⟨F',M,g1,g2.ext hst.ext (fun b hb=>hv b (.inr (.inr (.inr (.inr (.inr (.inr (.inr (.inl hb))))))))),g3.ext hst.ext (hv _ (.inr (.inr (.inr (.inr (.inr (.inr (.inl rfl)))))))),g4,g5,g6.ext (F':=F') (FQ:=FQ) hst.ext (fun b hb=>hv b (by rcases hb with h | h | h | h | h | h <;> simp only [CoV,h,true_or,or_true])),g7.ext hst.ext (fun b hb=>hv b (.inr (.inr (.inr (.inr (.inr (.inr (.inr (.inr hb))))))))),g8,hv,g10.hst hst,Nat.le_trans g11 hst.ext.size⟩
 ·rintro pre Y A Y' A' ⟨F',e,g1,g2,g3,g4,g5,g6,g7⟩ hst
  have hv:∀b,(b=p4.block∨b=p5.block∨F' b)→¬ Y' b:=hst.disj (fun b hb=>⟨by
   rcases hb with hb | hb | hb
   ·exact hb▸g3.lt
   ·exact hb▸g4.lt
   ·exact g2.lt hb,g6 b hb⟩)
  exact ⟨F',e,g1,g2.ext hst.ext (fun b hb=>hv b (.inr (.inr hb))),g3.ext hst.ext (hv _ (.inl rfl)),g4.ext hst.ext (hv _ (.inr (.inl rfl))),g5,hv,g7.hst hst⟩
 ·exact ⟨FP,[],rfl,hP.pure E015,M15,rfl,fun _=>rfl,C15,hPQ.pure E015,fun b hb=>.inl hb,fun _ _ h=>h,Ext.pure E015,Nat.le_refl _⟩
 ·rintro pre z Y A ⟨F',M,g1,g2,g3,g4,g5,g6,g7,g8,g9,g10,g11⟩ hsA ⟨post,hpost⟩
  have hzin:Sp.inP Lq z=true:=hsub z (by rw [hpost];simp)
  have hzn:z ∉ pre:=by
   rw [hpost] at hnd
   have:=(List.nodup_append.1 hnd).2.2
   exact fun h=>this z h z (by simp) rfl
  generalize hcg:copyGo Lq pre L (fun _=>0)=cg at *
  have hok:Sp.Ok cg.1:=by rw [← hcg];exact (Sp.copyGo_wf pre L _ hW).ok
  have hA0:=hsA.lt
  refine ⟨some q,g6.b3.cell0,?_⟩
  refine (c_Node q z A g7 hQ.ok).mono ?_
  rintro _ w16 ⟨k,f,t',u,x,a,b,r3,rfl,⟨hn,_⟩,E16⟩
  have z16:=E16.size
  refine ⟨_,_,_,_,_,_,_,_,rfl,E16.kept (fun b hb=>hb.elim),?_⟩
  intro p9 w17 n9
  have E17:Pure w16 w17:=Ext.new n9
  have B9:=Box.of_newA n9
  have b9:=n9.at_size
  have z17:=E17.size
  refine ⟨B9.canWs (by simp),id,?_⟩
  rintro w18 e18
  have X18:Ext (·=p9.block) w17 w18:=by rw [e18];exact Ext.storeRow _ _ _
  have B18:Box w18 p9 (nrow ⟨k,f,t',u,x,a,b⟩) 86:=by rw [e18];exact B9.store rfl
  have z18:=X18.size
  have l9:=B18.lt
  have keep:∀{G:NP} {w':World},Ext G A w'→(∀b,b<A.heap.size→¬ G b)→IMap (fun i:Int=>.int .i64 i) w' mb M∧CoB w' p q p2 p3 p4 p5 p6 p8 mb L.length∧PoolAt w' q Lq FQ∧PoolAt w' p cg.1 F':=fun {G w'} E hG =>
   ⟨g3.ext E (hG _ g3.lt),g6.ext (F':=F') (FQ:=FQ) E (fun b hb=>hG b (g6.lt hb)),g7.ext E (fun b hb=>hG b (g7.lt hb)),g2.ext E (fun b hb=>hG b (g2.lt hb))⟩
  have E18:Ext (·=p9.block) A w18:=(Ext.pure (E16.trans E17)).trans X18
  have hg9:∀b,b<A.heap.size→¬ (b=p9.block):=fun b hb e=>by omega
  have look:∀{w':World},IMap (fun i:Int=>.int .i64 i) w' mb M→∀y,(Instr.lookup 133 (.map (some mb)) (.int .i64 y) false).run Tryz.prog w'=.ok (.int .i64 (cg.2.2 y)) w':=fun {w'} h y=>by
   rw [g5 y]
   rcases h.get (P:=Tryz.prog) (T:=133) Tryz.underlying133 Tryz.underlying30 (Tryz.zeroValue30 _) y false with ⟨hn,hr⟩ | ⟨v,hv,hr⟩
   ·unfold ownM;rw [hn];exact hr
   ·unfold ownM;rw [hv];exact hr
  refine ⟨fun w'=>w'.cell? p8=some (.map (some mb))∧IMap (fun i:Int=>.int .i64 i) w' mb M,?_,?_⟩
  ·obtain ⟨k1,k2,_,_⟩:=keep (E18.thenPure (Ext.drew w18)) hg9
   exact ⟨k2.b8.cell0,k1⟩
  rintro w19 e19
  have E19:Ext (·=p9.block) A w19:=by rw [e19];exact E18.thenPure (Ext.drew w18)
  have B19:Box w19 p9 (nrow ⟨k,f,t',u,x,a,b⟩) 86:=by rw [e19];exact B18.pure (Ext.drew w18)
  obtain ⟨k1,k2,k3,k4⟩:=keep E19 hg9
  refine ⟨some mb,k2.b8.cell0,a,B19.cell (i:=5) rfl,_,look k1 a,some mb,fun w' h=>h.1,b,B19.cell (i:=6) rfl,_,fun w' h=>look h.2 b,B19.canW (i:=5) (by simp [nrow]),id,?_⟩
  rintro w20 e20
  have X20:Ext (·=p9.block) w19 w20:=by rw [e20];exact ext_setc
  have B20:Box w20 p9 (nrow ⟨k,f,t',u,x,cg.2.2 a,b⟩) 86:=by rw [e20];exact B19.set 5 _
  have E20:=E19.trans X20
  obtain ⟨k1',k2',_,_⟩:=keep E20 hg9
  refine ⟨⟨k2'.b8.cell0,k1'⟩,B20.canW (i:=6) (by simp [nrow]),id,?_⟩
  rintro w21 e21
  have X21:Ext (·=p9.block) w20 w21:=by rw [e21];exact ext_setc
  have B21:Box w21 p9 (nrow ⟨k,f,t',u,x,cg.2.2 a,cg.2.2 b⟩) 86:=by rw [e21];exact B20.set 6 _
  have E21:=E20.trans X21
  obtain ⟨m1,m2,m3,m4⟩:=keep E21 hg9
  have z21:=E21.size
  refine ⟨some p,m2.b2.cell0,k,f,t',u,x,cg.2.2 a,cg.2.2 b,B21.row,?_⟩
  have hnn:({ Sp.nodeOf Lq z with a:=cg.2.2 (Sp.nodeOf Lq z).a,b:=cg.2.2 (Sp.nodeOf Lq z).b }:Sp.Node)=⟨k,f,t',u,x,cg.2.2 a,cg.2.2 b⟩:=by rw [← hn]
  refine (c_Make p k f t' u x (cg.2.2 a) (cg.2.2 b) w21 m4 hok).mono ?_
  rintro _ w22 ⟨r4,r5,rfl,he,F2,hP2,E22,hF2⟩
  have he1:=congrArg Prod.fst he
  have he2:=congrArg Prod.snd he
  simp only at he1 he2
  have z22:=E22.size
  have hF'o:∀b,F' b→¬ (b=p2.block∨b=p3.block∨b=p4.block∨b=p5.block∨b=p6.block∨b=p8.block∨b=mb):=fun b hb hh=>(g8 b hb).elim (fun h=>by have:=hP.lt h;have:=(ob b hh).1;omega) (fun h=>h.2 hh)
  have n22:CoB w22 p q p2 p3 p4 p5 p6 p8 mb L.length:=m2.ext (F':=F') (FQ:=FQ) E22 (fun b hb hh=>hF'o b hh (by rcases hb with h | h | h | h | h | h <;> simp only [h,true_or,or_true]))
  have M22:=m1.ext E22 (fun hh=>hF'o _ hh (by simp))
  have Q22:=m3.ext E22 (fun b hb hh=>(g8 b hh).elim (fun h=>hd b h hb) (fun h=>by have:=hPq b hb;omega))
  have kY:Kept Y A w22:=(E21.kept (fun b hb e=>by have:=hA0 b hb;omega)).trans (E22.kept (fun b hb hh=>g9 b (.inr (.inr (.inr (.inr (.inr (.inr (.inr (.inl hh)))))))) hb))
  have E022:Ext FP w0 w22:=(g10.trans' E21 (fun i hi e=>by have:=g10.size;omega)).trans' E22 (fun i hi hh=>(g8 i hh).elim id (fun h=>by omega))
  have hF2o:∀b,F2 b→FP b∨(w0.heap.size≤b∧¬ (b=p2.block∨b=p3.block∨b=p4.block∨b=p5.block∨b=p6.block∨b=p8.block∨b=mb)):=fun b hb=>(hF2 b hb).elim (g8 b) (fun h=>.inr ⟨by have:=g10.size;omega,fun hh=>by have:=(ob b hh).2;omega⟩)
  have hF2Y:∀b,F2 b→¬ Y b:=fun b hb hY=>(hF2 b hb).elim (fun h=>g9 b (.inr (.inr (.inr (.inr (.inr (.inr (.inr (.inl h)))))))) hY) (fun h=>by have:=hA0 b hY;omega)
  refine ⟨r4,r5,rfl,E22.kept (fun b hb=>hb.elim),fun hc=>?_,fun hc=>?_⟩
  ·have h5:(Sp.make cg.1 ⟨k,f,t',u,x,cg.2.2 a,cg.2.2 b⟩).2.1≠0:=by rw [← he2];exact bne_iff_ne.1 hc
   have hfail:=@Sp.copyGo_fail Lq pre post z L (fun _=>0) (by rw [hcg];exact g1) ⟨k,f,t',u,x,cg.2.2 a,cg.2.2 b⟩ (by rw [hcg];exact hnn) (by rw [hcg];exact h5)
   rw [← hpost,hcg,← he2] at hfail
   have hcs2:cs=(0,r5,L):=by rw [hcs',hfail,if_pos (by rw [he2];exact h5)]
   refine ⟨some p,n22.b2.cell0,_,n22.b6.cell0,?_⟩
   obtain ⟨Mg,hMg⟩:=Sp.copyGo_grows Lq pre L (fun _=>0)
   rw [hcg] at hMg
   have hmk:∃M2,(Sp.make cg.1 ⟨k,f,t',u,x,cg.2.2 a,cg.2.2 b⟩).2.2=cg.1++M2:=Sp.make_app _ _
   obtain ⟨M2,hM2⟩:=hmk
   rw [hM2,hMg,List.append_assoc] at hP2
   have hok2:Sp.Ok (L++(Mg++M2)):=by rw [← List.append_assoc,← hMg,← hM2];exact Sp.make_ok hok _
   refine (c_cut p L.length w22 hP2 hok2 (by rw [List.length_append];omega)).mono ?_
   rintro _ w23 ⟨rfl,hP3,E23⟩
   rw [List.take_left] at hP3
   have n23:CoB w23 p q p2 p3 p4 p5 p6 p8 mb L.length:=n22.ext (F':=F') (FQ:=FQ) E23 (fun b hb hh=>(hF2o b hh).elim (fun h=>by have:=hP.lt h;have:=(ob b (by rcases hb with h | h | h | h | h | h <;> simp only [h,true_or,or_true])).1;omega) (fun h=>h.2 (by rcases hb with h | h | h | h | h | h <;> simp only [h,true_or,or_true])))
   refine ⟨rfl,E23.kept (fun b hb=>hb.elim),n23.b4.canW0 (by simp),id,?_⟩
   rintro w24 e24
   have X24:Ext (·=p4.block) w23 w24:=by rw [e24];exact Ext.setCell _ _
   have B24:Box w24 p4 [.int .i64 0] 30:=by rw [e24];exact n23.b4.set0
   have B25:=n23.b5.ext X24 (fun e=>d45 e.symm)
   refine ⟨B25.canW0 (by simp),id,?_⟩
   rintro w25 e25
   have X25:Ext (·=p5.block) w24 w25:=by rw [e25];exact Ext.setCell _ _
   have B25':Box w25 p5 [.int .i64 r5] 31:=by rw [e25];exact B25.set0
   have nF:∀b,F2 b→b≠p4.block∧b≠p5.block:=fun b hb=>(hF2o b hb).elim (fun h=>by have:=hP.lt h;omega) (fun h=>⟨fun e=>h.2 (.inr (.inr (.inl e))),fun e=>h.2 (.inr (.inr (.inr (.inl e))))⟩)
   have nY4:¬ Y p4.block:=g9 _ (.inr (.inr (.inl rfl)))
   have nY5:¬ Y p5.block:=g9 _ (.inr (.inr (.inr (.inl rfl))))
   refine ⟨((kY.trans (E23.kept (fun b hb hh=>hF2Y b hh hb))).trans (X24.kept (fun b hb e=>nY4 (e▸hb)))).trans (X25.kept (fun b hb e=>nY5 (e▸hb))),F2,r5,hcs2,(hP3.ext X24 (fun b hb e=>(nF b hb).1 e)).ext X25 (fun b hb e=>(nF b hb).2 e),B24.ext X25 d45,B25',fun b hb=>(hF2o b hb).imp id (fun h=>h.1),?_,((E022.trans' E23 (fun i hi hh=>(hF2o i hh).elim id (fun h=>by omega))).trans' X24 (fun i hi e=>by omega)).trans' X25 (fun i hi e=>by omega)⟩
   rintro b (rfl | rfl | hb)
   ·exact nY4
   ·exact nY5
   ·exact hF2Y b hb
  ·have h5:(Sp.make cg.1 ⟨k,f,t',u,x,cg.2.2 a,cg.2.2 b⟩).2.1=0:=by rw [← he2];simpa using hc
   have hnext:=@Sp.copyGo_next Lq pre z L (fun _=>0) (by rw [hcg];exact g1) ⟨k,f,t',u,x,cg.2.2 a,cg.2.2 b⟩ (by rw [hcg];exact hnn) (by rw [hcg];exact h5)
   rw [hcg,← he1] at hnext
   have hlk:SE.look M z=none:=look_none.2 (by rw [g4];exact hzn)
   obtain ⟨w26,hr26,hM26,X26⟩:=M22.put (P:=Tryz.prog) (T:=133) Tryz.underlying133 Tryz.underlying30 hlk r4
   have nm:∀b,F2 b→b≠mb:=fun b hb=>(hF2o b hb).elim (fun h=>by have:=hP.lt h;have:=(ob mb (by simp)).1;omega) (fun h e=>h.2 (by simp [e]))
   have nYm:¬ Y mb:=g9 _ (.inr (.inr (.inr (.inr (.inr (.inr (.inl rfl)))))))
   have hmbo:=(ob mb (by simp)).1
   refine ⟨some mb,n22.b8.cell0,w26,hr26,X26.kept (fun b hb=>hb.elim),kY.trans (X26.kept (fun b hb e=>nYm (e▸hb))),F2,M++[(z,r4)],by rw [hnext],by rw [hnext];exact hP2.ext X26 (fun b hb e=>nm b hb e),hM26,by simp [g4],?_,n22.ext (F':=F') (FQ:=FQ) X26 (fun b hb e=>dm b hb e),Q22.ext X26 (fun b hb e=>by have:=hPq b hb;omega),hF2o,?_,E022.trans' X26 (fun i hi e=>by omega),by have:=X26.size;omega⟩
   ·intro y
    rw [hnext]
    simp only
    unfold ownM
    rw [look_snoc (by rw [g4];exact hzn)]
    by_cases e:y=z
    ·rw [if_pos e,if_pos e.symm];rfl
    ·rw [if_neg e,if_neg (fun h=>e h.symm)];exact g5 y
   ·rintro b (hb | hb | hb | hb | hb | hb | hb | hb | hb)
    ·exact g9 b (.inl hb)
    ·exact g9 b (.inr (.inl hb))
    ·exact g9 b (.inr (.inr (.inl hb)))
    ·exact g9 b (.inr (.inr (.inr (.inl hb))))
    ·exact g9 b (.inr (.inr (.inr (.inr (.inl hb)))))
    ·exact g9 b (.inr (.inr (.inr (.inr (.inr (.inl hb))))))
    ·exact g9 b (.inr (.inr (.inr (.inr (.inr (.inr (.inl hb)))))))
    ·exact hF2Y b hb
    ·exact g9 b (.inr (.inr (.inr (.inr (.inr (.inr (.inr (.inr hb))))))))
 ·rintro H1 w27 hs27 _ _ ⟨F',M,g1,g2,g3,g4,g5,g6,g7,g8,g9,g10,g11⟩
  have hcs2:cs=((copyGo Lq xs L (fun _=>0)).2.2 t,0,(copyGo Lq xs L (fun _=>0)).1):=by rw [hcs',if_neg (by simpa using g1)]
  have hlk:(Instr.lookup 133 (.map (some mb)) (.int .i64 t) false).run Tryz.prog w27=.ok (.int .i64 ((copyGo Lq xs L (fun _=>0)).2.2 t)) w27:=by
   rw [g5 t]
   rcases g3.get (P:=Tryz.prog) (T:=133) Tryz.underlying133 Tryz.underlying30 (Tryz.zeroValue30 _) t false with ⟨hn,hr⟩ | ⟨v,hv,hr⟩
   ·unfold ownM;rw [hn];exact hr
   ·unfold ownM;rw [hv];exact hr
  generalize hcg:copyGo Lq xs L (fun _=>0)=cg at *
  have nY4:¬ H1 p4.block:=g9 _ (.inr (.inr (.inl rfl)))
  have nY5:¬ H1 p5.block:=g9 _ (.inr (.inr (.inr (.inl rfl))))
  refine ⟨some mb,g6.b8.cell0,_,hlk,g6.b4.canW0 (by simp),nY4,?_⟩
  rintro w28 e28
  have X28:Ext (·=p4.block) w27 w28:=by rw [e28];exact Ext.setCell _ _
  have B28:Box w28 p4 [.int .i64 (cg.2.2 t)] 30:=by rw [e28];exact g6.b4.set0
  have B28':=g6.b5.ext X28 (fun e=>d45 e.symm)
  refine ⟨B28'.canW0 (by simp),nY5,?_⟩
  rintro w29 e29
  have X29:Ext (·=p5.block) w28 w29:=by rw [e29];exact Ext.setCell _ _
  have B29:Box w29 p5 [.int .i64 0] 31:=by rw [e29];exact B28'.set0
  have B29':=B28.ext X29 d45
  intro w30 hs30
  have nF:∀b,F' b→b≠p4.block∧b≠p5.block:=fun b hb=>(g8 b hb).elim (fun h=>by have:=hP.lt h;omega) (fun h=>⟨fun e=>h.2 (.inr (.inr (.inl e))),fun e=>h.2 (.inr (.inr (.inr (.inl e))))⟩)
  refine ⟨_,(B29'.ext hs30.ext nY4).cell0,_,(B29.ext hs30.ext nY5).cell0,?_⟩
  rw [hcs2]
  refine ⟨rfl,rfl,F',((g2.ext X28 (fun b hb e=>(nF b hb).1 e)).ext X29 (fun b hb e=>(nF b hb).2 e)).ext hs30.ext (fun b hb=>g9 b (.inr (.inr (.inr (.inr (.inr (.inr (.inr (.inl hb))))))))),((g10.trans' X28 (fun i hi e=>by omega)).trans' X29 (fun i hi e=>by omega)).hst hs30,fun b hb=>(g8 b hb).imp id (fun h=>h.1)⟩
 ·rintro pre H2 w32 hs32 ⟨F',e,g1,g2,g3,g4,g5,g6,g7⟩
  refine ⟨_,g3.cell0,_,g4.cell0,?_⟩
  rw [g1]
  exact ⟨rfl,rfl,F',g2,g7,g5⟩
end Go.Proofs
end
section
open Go Go.SE
namespace Go.Proofs
attribute [local irreducible] Calls CallsD
theorem c_Decode {S0 : NP} (p : Addr) (sb : Sl) (bs : List UInt8) (w0 : World) {L : Sp.Pool} {FP : NP} (hW : Sp.Wf L) (hP : PoolAt w0 p L FP) (hs : Lst S0 w0 1 sb (byr bs)) (hz : sb.a = none → sb = Sl.nil) :
  Calls Tryz.prog 8 #[.pointer (some p),sb.v] w0 (fun e w'=>∃t x y:Int,e=.returned (.tuple #[.int .i64 t,.int .i64 x,.int .i64 y])∧(t=(decS L bs).1∧x=(decS L bs).2.1∧y=((decS L bs).2.2.1:Int)∧∃F',PoolAt w' p (decS L bs).2.2.2 F'∧Ext FP w0 w'∧∀b,F' b→FP b∨w0.heap.size≤b)):=by
 refine w_N2 _ _ w0 (fun t x y w'=>t=(decS L bs).1∧x=(decS L bs).2.1∧y=((decS L bs).2.2.1:Int)∧∃F',PoolAt w' p (decS L bs).2.2.2 F'∧Ext FP w0 w'∧∀b,F' b→FP b∨w0.heap.size≤b) ?_
 unfold m_N2
 refine ⟨fun hc=>(by cases hc),fun _=>?_⟩
 refine (c_read sb bs w0 hs hz).mono ?_
 rintro _ w1 ⟨x,y,z,rfl,hy,hz',hout,E1⟩
 refine ⟨_,_,_,rfl,?_⟩
 cases hq:(rdText bs).1 with
 | none =>
  have hd:decS L bs=(0,(rdText bs).2.1,(rdText bs).2.2,L):=by unfold decS;rw [hq]
  have he:y≠0:=by rw [hy];exact Sp.rdText_err hq
  refine ⟨fun _=>?_,fun hc=>absurd (by simpa using hc) he⟩
  rw [hd]
  exact ⟨rfl,hy,hz',FP,hP.pure E1,Ext.pure E1,fun b hb=>.inl hb⟩
 | some q =>
  obtain ⟨a,F,rfl,hPq,hF⟩:=hout.pool hq
  obtain ⟨g1,_,g3,_⟩:=Sp.rdText_get hq
  have h0:=Sp.rdText_ok hq
  have hd:decS L bs=((copyS L q q.length).1,(copyS L q q.length).2.1,0,(copyS L q q.length).2.2):=by unfold decS;rw [hq]
  rw [h0] at hy
  refine ⟨fun hc=>absurd hy (by simpa using hc),fun _=>?_⟩
  refine (c_term_Len a w1 hPq).mono ?_
  rintro _ w2 ⟨_,rfl,rfl,rfl⟩
  refine ⟨_,rfl,?_⟩
  refine (c_Copy p a q.length w2 hW g1 (hP.pure E1) hPq (fun b hb hh=>by have:=hP.lt hb;have:=hF b hh;omega)).mono ?_
  rintro _ w3 ⟨r1,r2,rfl,h1,h2,F',hP',E3,hF'⟩
  refine ⟨_,_,rfl,?_⟩
  rw [hd]
  exact ⟨h1,h2,rfl,F',hP',(Ext.pure E1).trans E3,fun b hb=>(hF' b hb).imp id (fun h=>by have:=E1.size;omega)⟩
end Go.Proofs
end
section
open Go Go.SE
namespace Go.Proofs
attribute [local irreducible] Calls CallsD
theorem rws_hz {w:World} {e:TypeId} {sz:Nat} {s:Sl} {rs:List (List Value)} (h:Rws w e sz s rs):s.a=none→s=Sl.nil:=by
 intro ha
 rcases h.own with ⟨h,_⟩ | ⟨g,cur,h,_⟩
 ·exact h
 ·rw [ha] at h;cases h
theorem call_put (f:Fld):∀args w,(callFunc f.put args).run Tryz.prog w=.ok (.enter f.put args) w:=by
 cases f
 ·exact Tryz.call109
 ·exact Tryz.call113
 ·exact Tryz.call115
 ·exact Tryz.call117
 ·exact Tryz.call121
 ·exact Tryz.call123
theorem cmap_size {P:Program} {T K E Q:TypeId} {w:World} {m:Nat} {es:List (Value×Value)} (h:CMap w m es) (hT:P.underlying T=some (.map K E)):(Builtin.len_ #[T] Q #[.map (some m)]).run P w=.ok (.int .i64 (es.length:Int)) w:=by
 obtain ⟨arr,clock,hm,rfl,_,_⟩:=h.ex
 have hg:(getObj m).run P w=.ok (.map arr clock) w:=by simp [getObj,Sem.run,hm]
 simp [Builtin.len_,run_underlying hT,hg,goInt]
theorem flds_fst {n:Sp.Node} (h:Fld.fst∈flds n.kind):n.a∈Sp.kidsOf n:=by
 unfold flds at h
 unfold Sp.kidsOf Sp.shapeOf
 repeat' split at h
 all_goals first | (exfalso;revert h;decide) | skip
 all_goals (rename_i h1;rw [h1];simp)
theorem flds_snd {n:Sp.Node} (h:Fld.snd∈flds n.kind):n.b∈Sp.kidsOf n:=by
 unfold flds at h
 unfold Sp.kidsOf Sp.shapeOf
 repeat' split at h
 all_goals first | (exfalso;revert h;decide) | skip
 all_goals (rename_i h1;rw [h1];simp)
structure LaySep (p2 p3 p4 p6:Addr) (m mb:Nat) (FP F:NP) (B:Nat):Prop where
 lt:p2.block<B∧p3.block<B∧p4.block<B∧p6.block<B∧m<B∧mb<B
 lF:∀b,F b→b<B
 lP:∀b,FP b→b<B
 d3:p2.block≠p3.block∧p4.block≠p3.block∧p6.block≠p3.block∧mb≠p3.block∧m≠p3.block∧¬ F p3.block∧¬ FP p3.block
 db:p2.block≠mb∧p4.block≠mb∧p6.block≠mb∧m≠mb∧¬ F mb∧¬ FP mb
def LayV (p2 p3 p4 p6:Addr) (m mb:Nat) (FP F:NP) (s:Sl) (b:Nat):Prop :=
 b=p2.block∨b=p3.block∨b=p4.block∨b=p6.block∨b=m∨b=mb∨F b∨FP b∨s.blk b
structure LayAt (A:World) (p p2 p3 p4 p6:Addr) (m mb:Nat) (L:Sp.Pool) (FP F:NP) (s:Sl) (bs:List UInt8) (M:List (Int×Int)):Prop where
 b2:Box A p2 [.pointer (some p)] 26
 b3:Box A p3 [s.v] 23
 b4:Box A p4 [.map (some m)] 127
 b6:Box A p6 [.map (some mb)] 152
 rows:Rws A 5 1 s (byr bs)
 nums:IMap (fun i:Int=>.int .i64 i) A mb M
 kinds:Kinds A m F
 pool:PoolAt A p L FP
section
variable {A A':World} {p p2 p3 p4 p6:Addr} {m mb B:Nat} {L:Sp.Pool} {FP F G:NP} {s s':Sl} {bs bs':List UInt8} {M:List (Int×Int)}
theorem LayAt.ext (h:LayAt A p p2 p3 p4 p6 m mb L FP F s bs M) (E:Ext G A A') (hG:∀b,LayV p2 p3 p4 p6 m mb FP F s b→¬ G b):LayAt A' p p2 p3 p4 p6 m mb L FP F s bs M :=
 ⟨h.b2.ext E (hG _ (.inl rfl)),h.b3.ext E (hG _ (.inr (.inl rfl))),h.b4.ext E (hG _ (.inr (.inr (.inl rfl)))),h.b6.ext E (hG _ (.inr (.inr (.inr (.inl rfl))))),
 h.rows.ext E (fun b hb=>hG b (.inr (.inr (.inr (.inr (.inr (.inr (.inr (.inr hb))))))))),h.nums.ext E (hG _ (.inr (.inr (.inr (.inr (.inr (.inl rfl))))))),
 h.kinds.ext E (fun b hb=>hb.elim (fun hb=>hG b (.inr (.inr (.inr (.inr (.inr (.inr (.inl hb)))))))) (fun e=>hG b (.inr (.inr (.inr (.inr (.inl e))))))),
 h.pool.ext E (fun b hb=>hG b (.inr (.inr (.inr (.inr (.inr (.inr (.inr (.inl hb)))))))))⟩
theorem LayAt.pure (h:LayAt A p p2 p3 p4 p6 m mb L FP F s bs M) (E:Pure A A'):LayAt A' p p2 p3 p4 p6 m mb L FP F s bs M:=h.ext E (fun _ _ h=>h)
theorem LayAt.lt (h:LayAt A p p2 p3 p4 p6 m mb L FP F s bs M) {b:Nat} (hb:LayV p2 p3 p4 p6 m mb FP F s b):b<A.heap.size:=by
 rcases hb with rfl | rfl | rfl | rfl | rfl | rfl | hb | hb | hb
 ·exact h.b2.lt
 ·exact h.b3.lt
 ·exact h.b4.lt
 ·exact h.b6.lt
 ·exact h.kinds.mlt
 ·exact h.nums.lt
 ·exact h.kinds.lt _ hb
 ·exact h.pool.lt hb
 ·exact h.rows.lt hb
theorem LayAt.put (h : LayAt A p p2 p3 p4 p6 m mb L FP F s bs M) (S : LaySep p2 p3 p4 p6 m mb FP F B) (hs : ∀ b, s.blk b → B ≤ b) (hs' : ∀ b, s'.blk b → B ≤ b) (E : Ext s.blk A A') (hR : Rws A' 5 1 s' (byr bs')) :
  LayAt (A'.setCell p3 s'.v) p p2 p3 p4 p6 m mb L FP F s' bs' M∧Ext (fun b=>s.blk b∨b=p3.block) A (A'.setCell p3 s'.v):=by
 have E2:Ext (·=p3.block) A' (A'.setCell p3 s'.v):=Ext.setCell p3 _
 have EE:Ext (fun b=>s.blk b∨b=p3.block) A (A'.setCell p3 s'.v):=(E.mono (fun b _ h=>.inl h)).trans (E2.mono (fun b _ h=>.inr h))
 obtain ⟨l2,l3,l4,l6,lm,lb⟩:=S.lt
 obtain ⟨d2,d4,d6,d7,d8,d9,d10⟩:=S.d3
 have ns:∀b,b<B→¬ s.blk b:=fun b hb hh=>by have:=hs b hh;omega
 have b3:=(h.b3.ext E (ns _ l3)).set0 (v:=s'.v)
 refine ⟨⟨h.b2.ext EE ?_,b3,h.b4.ext EE ?_,h.b6.ext EE ?_,hR.ext E2 (fun b hb e=>by have:=hs' b hb;omega),h.nums.ext EE ?_,h.kinds.ext EE ?_,h.pool.ext EE ?_⟩,EE⟩
 ·rintro (hh | hh)
  ·exact ns _ l2 hh
  ·exact d2 hh
 ·rintro (hh | hh)
  ·exact ns _ l4 hh
  ·exact d4 hh
 ·rintro (hh | hh)
  ·exact ns _ l6 hh
  ·exact d6 hh
 ·rintro (hh | hh)
  ·exact ns _ lb hh
  ·exact d7 hh
 ·rintro b (hb | rfl) (hh | hh)
  ·exact ns _ (S.lF b hb) hh
  ·subst hh;exact d9 hb
  ·exact ns _ lm hh
  ·exact d8 hh
 ·rintro b hb (hh | hh)
  ·exact ns _ (S.lP b hb) hh
  ·subst hh;exact d10 hb
end
theorem c_lay (p : Addr) (t : Int) (w0 : World) {L : Sp.Pool} {FP : NP} (hW : Sp.Wf L) (hN : Sp.Nums L) (hP : PoolAt w0 p L FP) :
  Calls Tryz.prog 67 #[.pointer (some p),.int .i64 t] w0 (fun e w'=>∃r:Sl,e=.returned r.v∧RetO w0 5 1 (byr (textOf L t)) r w'):=by
 refine w_L1 _ _ w0 (fun r w'=>RetO w0 5 1 (byr (textOf L t)) r w') ?_
 unfold m_L1
 intro p2 w1 h1 p3 w2 h2
 have E1:Pure w0 w1:=Ext.new h1
 have E2:Pure w1 w2:=Ext.new h2
 have B2:=(Box.of_new h1).pure E2
 have B3:=Box.of_new h2
 have s1:=h1.at_size;have s2:=h2.at_size;have l2:=(Box.of_new h1).lt;have l3:=B3.lt;have z1:=E1.size;have z2:=E2.size
 refine (c_kinds w2).mono ?_
 rintro _ w3 ⟨_,rfl,m,F,rfl,hK,E3,hm,hF⟩
 have z3:=E3.size
 have lm:=hK.mlt
 refine ⟨_,rfl,E3.keptP,?_⟩
 intro p4 w4 h4
 have E4:Pure w3 w4:=Ext.new h4
 have B4:=Box.of_new h4
 have s4:=h4.at_size;have l4:=B4.lt;have z4:=E4.size
 refine ⟨B4.canW0 (by simp),fun h=>h,?_⟩
 rintro w5 h5
 have X5:Ext (·=p4.block) w4 w5:=by rw [h5];exact Ext.setCell p4 _
 have B4':Box w5 p4 [.map (some m)] 127:=by rw [h5];exact B4.set0
 have z5:=X5.size
 intro p5 w6 h6
 have E6:Pure w5 w6:=Ext.new h6
 have M5:=IMap.of_new (f:=fun i:Int=>.int .i64 i) h6
 have s6:=h6.at_size;have l5:=M5.lt;have z6:=E6.size
 intro p6 w7 h7
 have E7:Pure w6 w7:=Ext.new h7
 have B6:=Box.of_new h7
 have s7:=h7.at_size;have l6:=B6.lt;have z7:=E7.size
 refine ⟨B6.canW0 (by simp),fun h=>h,?_⟩
 rintro w8 h8
 have X8:Ext (·=p6.block) w7 w8:=by rw [h8];exact Ext.setCell p6 _
 have B6':Box w8 p6 [.map (some p5.block)] 152:=by rw [h8];exact B6.set0
 have z8:=X8.size
 have E08:Pure w0 w8:=((((((E1.trans E2).trans E3).trans E4).own (by omega) X5).trans E6).trans E7).own (by omega) X8
 have P8:=hP.pure E08
 have up:∀{T:TypeId} {c:Addr} {vs:List Value},Box w5 c vs T→c.block≠p6.block→Box w8 c vs T:=fun h h2=>((h.pure E6).pure E7).ext X8 h2
 have up3:∀{T:TypeId} {c:Addr} {vs:List Value},Box w2 c vs T→c.block≠p4.block→c.block≠p6.block→Box w8 c vs T:=fun h h1 h2=>up (((h.pure E3).pure E4).ext X5 h1) h2
 have B28:=up3 B2 (by omega) (by omega)
 have B38:=up3 B3 (by omega) (by omega)
 have B48:=up B4' (by omega)
 have M58:=(M5.pure E7).ext X8 (by omega)
 have hFlt:=hK.lt
 have K8:Kinds w8 m F:=(((((hK.pure E4).ext X5 (fun b hb e=>hb.elim (fun hb=>by have:=hFlt b hb;omega) (fun hb=>by omega))).pure E6).pure E7).ext X8 (fun b hb e=>hb.elim (fun hb=>by have:=hFlt b hb;omega) (fun hb=>by omega)))
 refine ⟨some p,B28.cell0,?_⟩
 refine (c_Subs p t w8).mono ?_
 rintro _ w9 ⟨_,rfl,q2,q3,rfl,Bq2,Bq3,E9⟩
 have z9:=E9.size
 have E09:=E08.trans E9
 refine ⟨_,rfl,E9.keptP,_,_,rfl,Tryz.call130,_,_,it_Subs hW (P8.pure E9) Bq2 Bq3,?_⟩
 have hPlt:∀b,FP b→b<w0.heap.size:=fun b hb=>hP.lt hb
 have S:LaySep p2 p3 p4 p6 m p5.block FP F w9.heap.size:=⟨⟨by omega,by omega,by omega,by omega,by omega,by omega⟩,fun b hb=>by have:=hFlt b hb;omega,fun b hb=>by have:=hPlt b hb;omega,
  ⟨by omega,by omega,by omega,by omega,by omega,fun hb=>by have:=hF _ hb;omega,fun hb=>by have:=hPlt _ hb;omega⟩,⟨by omega,by omega,by omega,by omega,fun hb=>by have:=hFlt _ hb;omega,fun hb=>by have:=hPlt _ hb;omega⟩⟩
 have A9:LayAt w9 p p2 p3 p4 p6 m p5.block L FP F Sl.nil [] []:=⟨B28.pure E9,B38.pure E9,B48.pure E9,B6'.pure E9,Rws.nil _ _ _,M58.pure E9,K8.pure E9,P8.pure E9⟩
 have hnil:∀b,¬ Sl.nil.blk b:=fun b hb=>by obtain ⟨a,h,_⟩:=hb;cases h
 have hfew:=Sp.subs_few hW t
 have hsub:∀u∈Sp.subs L t,Sp.inP L u=true:=fun u hu=>have h:=(Sp.subs_mem hW).1 hu;(Sp.Sub.le hW h.1 h.2).1
 have hord:=Sp.subs_ord hW t
 have hnd:=Sp.subs_nodup hW t
 have htx:textOf L t=textFrom L [] (Sp.subs L t):=rfl
 rw [htx]
 generalize hxs:Sp.subs L t=xs at *
 have hL:=hW.ok.few
 generalize hB:w9.heap.size=B at *
 have hw3:w0.heap.size≤p3.block:=by omega
 have hw5:w0.heap.size≤p5.block:=by omega
 have hwB:w0.heap.size≤B:=by omega
 generalize p5.block=mb at *
 clear up up3 B28 B38 B48 M58 K8 P8 B2 B3 B4 B4' M5 B6 B6' X5 X8 E1 E2 E3 E4 E6 E7 h1 h2 h4 h5 h6 h7 h8 hK hF hFlt Bq2 Bq3
 refine ⟨fun pre Y A=>∃s:Sl,LayAt A p p2 p3 p4 p6 m mb L FP F s (textFrom L [] pre) (numFrom 0 pre)∧(∀b,s.blk b→B≤b)∧(∀b,LayV p2 p3 p4 p6 m mb FP F s b→¬ Y b)∧B≤A.heap.size∧Pure w0 A,⟨fun _ _ _ _=>trivial,?_,fun _ _ _ _ _ h=>h.elim,fun _ _ _ _ _ h=>h.elim⟩,?_,?_,?_⟩
 ·rintro pre Y A Y' A' ⟨s,hA,hs,hv,hz,hE⟩ hst
  have hv':∀b,LayV p2 p3 p4 p6 m mb FP F s b→¬ Y' b:=hst.disj (fun b hb=>⟨hA.lt hb,hv b hb⟩)
  exact ⟨s,hA.ext hst.ext hv',hs,hv',Nat.le_trans hz hst.ext.size,hE.hst hst⟩
 ·exact ⟨Sl.nil,A9,fun b hb=>(hnil b hb).elim,fun b _ h=>h,by omega,E09⟩
 ·rintro pre z Y A ⟨s,hA,hs,hv,hz,hE⟩ hsA ⟨post,hpost⟩
  have hzin:Sp.inP L z=true:=hsub z (by rw [hpost];simp)
  have hprein:∀u∈pre,Sp.inP L u=true:=fun u hu=>hsub u (by rw [hpost];simp [hu])
  have hplen:pre.length<65536:=by have:=congrArg List.length hpost;simp only [List.length_append,List.length_cons] at this;omega
  have hzn:z ∉ pre:=by
   rw [hpost] at hnd
   have:=(List.nodup_append.1 hnd).2.2
   exact fun h=>this z h z (by simp) rfl
  have hbs:=textFrom_len hW hN pre [] hprein (by simp only [List.length_nil];omega)
  refine ⟨some p,hA.b2.cell0,?_⟩
  refine (c_Node p z A hA.pool hW.ok).mono ?_
  rintro _ w10 ⟨k,r,t',u,x,a,b,r3,rfl,⟨hn,_⟩,E10⟩
  refine ⟨_,_,_,_,_,_,_,_,rfl,E10.keptP,fun H1 w12 hs12=>?_⟩
  obtain ⟨k1,k9,f0,f1,t0,t1,x1⟩:=Sp.node_fit hW hzin
  have hnum:=hN.node z
  have hko:=hord pre z post hpost
  have hnt:nodeText L pre z=UInt8.ofNat k.toNat :: (flds k).flatMap (Fld.bytes ⟨k,r,t',u,x,a,b⟩ (posOf pre a) (posOf pre b)):=by rw [nodeText,← hn]
  rw [← hn] at k1 k9 f0 f1 t0 t1 x1 hnum hko
  simp only at k1 k9 f0 f1 t0 t1 x1 hnum
  have hold:∀b,H1 b→A.heap.size≤b:=hs12.old
  have A12:=(hA.pure E10).ext hs12.ext (fun b hb hh=>by have:=hold b hh;have:=hA.lt hb;omega)
  have E012:Pure w0 w12:=(hE.trans E10).trans' hs12.ext (fun i hi hh=>by have:=hold i hh;have:=hE.size;omega)
  have k12:Kept Y A w12:=(E10.keptP).trans (hs12.ext.kept (fun b hb hh=>by have:=hold b hh;have:=hsA.lt b hb;omega))
  have z10:=E10.size
  have z12:=hs12.ext.size
  refine ⟨s,A12.b3.cell0,fun p8 w13 h8=>?_⟩
  have E13:Pure w12 w13:=Ext.new h8
  have A13:=A12.pure E13
  have z13:=E13.size
  obtain ⟨kn,rfl⟩:∃kn:Nat,k=kn:=⟨k.toNat,by omega⟩
  simp only [Int.toNat_natCast] at hnt
  rw [wrap_u8] at h8
  obtain ⟨s1,w14,hr,hR,hEx,hb⟩:=A13.rows.append (P:=Tryz.prog) (ty:=23) (c:=1) slT_by (Box.of_newA h8).row rfl rfl (by rw [byr_len];omega) (by rw [byr_len];simp only [maxLen];omega)
  have hs1:∀b,s1.blk b→B≤b:=fun b hh=>(hb b hh).elim (hs b) (fun h=>by omega)
  have hy1:∀b,s1.blk b→¬ Y b:=fun b hh hY=>(hb b hh).elim (fun h=>hv b (.inr (.inr (.inr (.inr (.inr (.inr (.inr (.inr h)))))))) hY) (fun h=>by have:=hsA.lt b hY;omega)
  have h3A:p3.block<A.heap.size:=hA.b3.lt
  have hH3:¬ H1 p3.block:=fun h=>by have:=hold _ h;omega
  have hHs:∀b,H1 b→¬ s.blk b:=fun b hh hb=>by have:=hold b hh;have:=hA.rows.lt hb;omega
  have hY3:¬ Y p3.block:=hv _ (.inr (.inl rfl))
  have hYs:∀b,Y b→¬ s.blk b:=fun b hY hb=>hv b (.inr (.inr (.inr (.inr (.inr (.inr (.inr (.inr hb)))))))) hY
  refine ⟨s1,w14,hr,hEx.kept hHs,((A13.b3.ext hEx (fun hb=>by have:=hs _ hb;have:=S.lt;omega)).canW0 (by simp)),hH3,?_⟩
  rintro w15 h15
  have hR':Rws w14 5 1 s1 (byr (textFrom L [] pre++[UInt8.ofNat kn])):=by rw [byr_app];exact hR
  obtain ⟨A15,X15⟩:=A13.put S hs hs1 hEx hR'
  rw [← h15] at A15 X15
  have E015:Pure w0 w15:=(E012.trans E13).trans' X15 (fun i hi hh=>hh.elim (fun hh=>by have:=hs _ hh;omega) (fun hh=>by omega))
  have k15:Kept Y A w15:=(k12.trans E13.keptP).trans (X15.kept (fun b hY hh=>hh.elim (hYs b hY) (fun e=>by subst e;exact hY3 hY)))
  have z15:=X15.size
  obtain ⟨fs,hlk,hLf⟩:=A15.kinds.get kn k1 k9 false
  refine ⟨some m,A15.b4.cell0,fs,hlk,?_⟩
  have hfl3:=flds_len kn
  refine ⟨fun y H w=>∃(j:Nat) (s:Sl),y=j∧j≤(flds kn).length∧H=H1∧LayAt w p p2 p3 p4 p6 m mb L FP F s (textFrom L [] pre++UInt8.ofNat kn :: ((flds kn).take j).flatMap (Fld.bytes ⟨kn,r,t',u,x,a,b⟩ (posOf pre a) (posOf pre b))) (numFrom 0 pre)∧Lst F w 2 fs ((flds kn).map Fld.row)∧(∀b,s.blk b→B≤b)∧(∀b,s.blk b→¬ Y b)∧Kept Y A w∧Pure w0 w∧A.heap.size≤w.heap.size,fun y _=>(((flds kn).length:Int) - y).toNat,⟨0,s1,rfl,Nat.zero_le _,rfl,by simpa using A15,hLf,hs1,hy1,k15,E015,by omega⟩,?_⟩
  rintro _ _ wl hst ⟨j,s2,rfl,hj,rfl,A2,hL2,hs2,hy2,k2,E2,z2⟩
  unfold m_L1_l1
  have hlen:fs.len=(flds kn).length:=by rw [hL2.len,List.length_map]
  refine ⟨fun hc=>?_,fun hc=>?_⟩
  ·have hc:=lt_of_dec hlen hc
   obtain ⟨a1,hat,hF1,hrow⟩:=hL2.at_ j (by simpa using hc)
   rw [List.getElem_map] at hrow
   refine ⟨a1,hat,.func (.func (flds kn)[j].put) #[] #[],.func (.func (flds kn)[j].get) #[] #[],hrow,fun p9 w16 h9=>?_⟩
   have E16:Pure wl w16:=Ext.new h9
   have B9:=Box.of_newA h9
   have s9:=h9.at_size
   have z16:=E16.size
   refine ⟨⟨rfl,B9.canWs (by simp)⟩,fun hh=>by have:=hst.lt _ hh;omega,?_⟩
   rintro w17 h17
   have X17:Ext (·=p9.block) w16 w17:=by rw [h17];exact Ext.storeRow _ _ _
   have B9':Box w17 p9 [.func (.func (flds kn)[j].put) #[] #[],.func (.func (flds kn)[j].get) #[] #[]] 174:=by rw [h17];exact B9.store rfl
   have A17:=(A2.pure E16).ext X17 (fun b hb e=>by have:=A2.lt hb;omega)
   have L17:=(hL2.pure E16).ext X17 (fun b hb e=>by have:=A2.kinds.lt b hb;omega)
   have z17:=X17.size
   have E017:Pure w0 w17:=(E2.trans E16).own (by have:=E2.size;omega) X17
   have k17:Kept Y A w17:=(k2.trans E16.keptP).trans (X17.kept (fun b hY e=>by have:=hsA.lt b hY;omega))
   refine ⟨_,B9'.cell0,s2,A17.b3.cell0,some mb,A17.b6.cell0,_,#[],#[],rfl,call_put _,?_⟩
   simp only [Array.empty_append,Array.append_empty]
   have hbl:=flat_lenN (Fld.bytes ⟨kn,r,t',u,x,a,b⟩ (posOf pre a) (posOf pre b)) 74 ((flds kn).take j) (fun f _=>fld_len _ _ _ f f1 t1 hnum x1 (by have:=posOf_le pre a;omega) (by have:=posOf_le pre b;omega))
   have hbl2:((flds kn).take j).length≤3:=by rw [List.length_take];omega
   have hbn:(textFrom L [] pre++UInt8.ofNat kn :: ((flds kn).take j).flatMap (Fld.bytes ⟨kn,r,t',u,x,a,b⟩ (posOf pre a) (posOf pre b))).length≤10000000000:=by
    rw [List.length_append,List.length_cons];omega
   refine (c_put (flds kn)[j] s2 _ ⟨kn,r,t',u,x,a,b⟩ (posOf pre a) (posOf pre b) mb (numFrom 0 pre) w17 A17.rows.lst (rws_hz A17.rows) hbn ⟨f0,by simp only;omega⟩ ⟨t0,by simp only;omega⟩ hnum (by simp only;omega) A17.nums (fun e=>?_) (fun e=>?_)).mono ?_
   ·have hmem:a∈pre:=hko _ (flds_fst (n:=⟨kn,r,t',u,x,a,b⟩) (by rw [← e];exact List.getElem_mem _))
    exact ⟨by rw [numFrom_look pre a hmem 0];simp,by have:=posOf_le pre a;omega⟩
   ·have hmem:b∈pre:=hko _ (flds_snd (n:=⟨kn,r,t',u,x,a,b⟩) (by rw [← e];exact List.getElem_mem _))
    exact ⟨by rw [numFrom_look pre b hmem 0];simp,by have:=posOf_le pre b;omega⟩
   rintro _ w18 ⟨r4,rfl,hR4⟩
   have E18:=hR4.pure
   have z18:=E18.size
   refine ⟨r4,rfl,hR4.kept,(A17.b3.pure E18).canW0 (by simp),hH3,?_⟩
   rintro w19 h19
   have hs4:∀b,r4.blk b→B≤b:=fun b hb=>by have:=hR4.own b hb;omega
   have hR5:Rws w18 5 1 r4 (byr (textFrom L [] pre++UInt8.ofNat kn :: ((flds kn).take (j+1)).flatMap (Fld.bytes ⟨kn,r,t',u,x,a,b⟩ (posOf pre a) (posOf pre b)))):=by
    have e:textFrom L [] pre++UInt8.ofNat kn :: ((flds kn).take (j+1)).flatMap (Fld.bytes ⟨kn,r,t',u,x,a,b⟩ (posOf pre a) (posOf pre b))=(textFrom L [] pre++UInt8.ofNat kn :: ((flds kn).take j).flatMap (Fld.bytes ⟨kn,r,t',u,x,a,b⟩ (posOf pre a) (posOf pre b)))++(flds kn)[j].bytes ⟨kn,r,t',u,x,a,b⟩ (posOf pre a) (posOf pre b):=by
     rw [List.take_succ_eq_append_getElem hc,List.flatMap_append];simp
    rw [e];exact hR4.rows
   obtain ⟨A19,X19⟩:=A17.put S hs2 hs4 E18.pure hR5
   rw [← h19] at A19 X19
   have z19:=X19.size
   refine ⟨⟨j+1,r4,wrap_succ hc (by omega),hc,trivial,A19,L17.ext X19 (fun b hb hh=>?_),hs4,fun b hb hY=>by have:=hR4.own b hb;have:=hsA.lt b hY;omega,k17.trans (X19.kept (fun b hY hh=>hh.elim (fun h=>hy2 b h hY) (fun e=>by subst e;exact hY3 hY))),E017.trans' X19 (fun i hi hh=>hh.elim (fun hh=>by have:=hs2 _ hh;omega) (fun hh=>by omega)),by omega⟩,?_⟩
   ·rcases hh with hh | hh
    ·have:=hs2 b hh;have:=S.lF b hb;omega
    ·subst hh;exact S.d3.2.2.2.2.2.1 hb
   ·rw [wrap_succ hc (by omega)];exact lt_dec hc
  ·have hc:=eq_of_dec hlen hj hc
   subst hc
   rw [List.take_length] at A2
   have e:textFrom L [] (pre++[z])=textFrom L [] pre++UInt8.ofNat kn :: (flds kn).flatMap (Fld.bytes ⟨kn,r,t',u,x,a,b⟩ (posOf pre a) (posOf pre b)):=by rw [textFrom_snoc,List.nil_append,hnt]
   have hlk0:SE.look (numFrom 0 pre) z=none:=look_none.2 (by rw [numFrom_keys];exact hzn)
   obtain ⟨w20,hr20,hM20,X20⟩:=A2.nums.put (P:=Tryz.prog) (T:=152) Tryz.underlying152 Tryz.underlying30 hlk0 ((pre.length:Nat):Int)
   have hz3:(Builtin.len_ #[152] 3 #[.map (some mb)]).run Tryz.prog wl=.ok (.int .i64 ((pre.length:Nat):Int)) wl:=by
    have:=cmap_size A2.nums.map (P:=Tryz.prog) (T:=152) (Q:=3) Tryz.underlying152
    rw [List.length_map,numFrom_len] at this
    exact this
   have hYb:¬ Y mb:=hv _ (.inr (.inr (.inr (.inr (.inr (.inl rfl))))))
   have kk:∀{H:NP},¬ H mb→Kept H wl w20:=fun h=>X20.kept (fun b hb e=>by subst e;exact h hb)
   have hmbA:mb<A.heap.size:=hA.nums.lt
   refine ⟨some mb,A2.b6.cell0,some mb,A2.b6.cell0,_,hz3,w20,hr20,kk (fun h=>by have:=hold _ h;omega),k2.trans (kk hYb),s2,?_,hs2,fun b hb hY=>?_,by have:=X20.size;have:=E2.size;omega,E2.trans' X20 (fun i hi e=>by omega)⟩
   ·rw [e,numFrom_snoc,Nat.zero_add]
    obtain ⟨g1,g2,g3,g4,g5,g6⟩:=S.db
    exact ⟨A2.b2.ext X20 g1,A2.b3.ext X20 (fun e=>S.d3.2.2.2.1 e.symm),A2.b4.ext X20 g2,A2.b6.ext X20 g3,A2.rows.ext X20 (fun b hb e=>by have:=hs2 b hb;have:=S.lt;omega),hM20,A2.kinds.ext X20 (fun b hb e=>hb.elim (fun hb=>by subst e;exact g5 hb) (fun hb=>g4 (hb▸e))),A2.pool.ext X20 (fun b hb e=>by subst e;exact g6 hb)⟩
   ·rcases hb with hb | hb | hb | hb | hb | hb | hb | hb | hb
    ·exact hv b (.inl hb) hY
    ·exact hv b (.inr (.inl hb)) hY
    ·exact hv b (.inr (.inr (.inl hb))) hY
    ·exact hv b (.inr (.inr (.inr (.inl hb)))) hY
    ·exact hv b (.inr (.inr (.inr (.inr (.inl hb))))) hY
    ·exact hv b (.inr (.inr (.inr (.inr (.inr (.inl hb)))))) hY
    ·exact hv b (.inr (.inr (.inr (.inr (.inr (.inr (.inl hb))))))) hY
    ·exact hv b (.inr (.inr (.inr (.inr (.inr (.inr (.inr (.inl hb)))))))) hY
    ·exact hy2 b hb hY
 ·rintro H2 w21 hs21 _ _ ⟨s,hA,hs,hv,hz,hE⟩
  refine ⟨s,hA.b3.cell0,fun w22 hs22=>⟨hA.rows.ext hs22.ext (fun b hb=>hv b (.inr (.inr (.inr (.inr (.inr (.inr (.inr (.inr hb))))))))),fun b hb=>by have:=hs b hb;omega,hE.hst hs22⟩⟩
theorem c_Encode (p : Addr) (t : Int) (w0 : World) {L : Sp.Pool} {FP : NP} (hW : Sp.Wf L) (hN : Sp.Nums L) (hP : PoolAt w0 p L FP) :
  Calls Tryz.prog 30 #[.pointer (some p),.int .i64 t] w0 (fun e w'=>∃r:Sl,∃n:Int,e=.returned (.tuple #[r.v,.int .i64 n])∧(n=(encS L t).2∧RetO w0 5 1 (byr (encS L t).1) r w')):=by
 refine w_H2 _ _ w0 (fun r n w'=>n=(encS L t).2∧RetO w0 5 1 (byr (encS L t).1) r w') ?_
 unfold m_H2
 have hnil:∀b,¬ Sl.nil.blk b:=fun b hb=>by obtain ⟨a,h,_⟩:=hb;cases h
 refine (c_Node p t w0 hP hW.ok).mono ?_
 rintro _ w1 ⟨k,r,t',u,x,a,b,r3,rfl,⟨hn,rfl⟩,E1⟩
 refine ⟨_,_,_,_,_,_,_,_,rfl,E1.keptP,fun hc H1 w3 hs3=>?_,fun hc H1 w3 hs3=>?_⟩
 ·have hin:Sp.inP L t=false:=by simpa using hc
  have e:encS L t=([],51):=by unfold encS;rw [hin];rfl
  rw [e]
  exact ⟨rfl,Rws.nil _ _ _,fun b hb=>(hnil b hb).elim,E1.hst hs3⟩
 ·have hin:Sp.inP L t=true:=by simpa using hc
  have E3:Pure w0 w3:=E1.hst hs3
  refine (c_lay p t w3 hW hN (hP.pure E3)).mono ?_
  rintro _ w4 ⟨r2,rfl,h⟩
  have hl:r2.len=(textOf L t).length:=by rw [h.rows.len,byr_len]
  refine ⟨r2,rfl,h.kept,fun hc=>?_,fun hc=>?_⟩
  ·have hc:=of_decide_eq_true hc
   have e:encS L t=([],1):=by unfold encS;rw [hin,if_pos rfl,if_pos (by omega)]
   rw [e]
   exact ⟨rfl,Rws.nil _ _ _,fun b hb=>(hnil b hb).elim,E3.trans h.pure⟩
  ·have hc:=of_decide_eq_false hc
   have e:encS L t=(textOf L t,0):=by unfold encS;rw [hin,if_pos rfl,if_neg (by omega)]
   rw [e]
   exact ⟨rfl,h.rows,fun b hb=>by have:=h.own b hb;have:=E3.size;omega,E3.trans h.pure⟩
end Go.Proofs
end
section
open Go Go.SE
namespace Go.Sp
open Go.Proofs
def wn1:Node:=⟨1,0,0,0,⟨#[]⟩,0,0⟩
def wn2:Node:=⟨4,0,0,0,⟨#[]⟩,1,1⟩
def wL1:Pool:=[⟨wn1,1,1⟩]
def wL2:Pool:=[⟨wn1,1,1⟩,⟨wn2,3,2⟩]
theorem wm1:make [] wn1=(1,0,wL1):=by kernel_rfl
theorem wm2:make wL1 wn2=(2,0,wL2):=by kernel_rfl
theorem ww1:Wf wL1:=by have:=make_wf Wf.nil wn1;rwa [wm1] at this
theorem ww2:Wf wL2:=by have:=make_wf ww1 wn2;rwa [wm2] at this
theorem wN2:Nums wL2:=by intro e he;simp [wL2,wn1,wn2] at he;rcases he with rfl | rfl <;> exact ⟨by decide,by decide⟩
theorem wdec:decS wL2 [1,0,4,0,0]=(2,0,0,wL2):=by kernel_rfl
theorem wtw:(rdText [1,0,1,0]).2=(72,2):=by kernel_rfl
theorem wtext:textOf wL2 2=[1,0,4,0,0]:=by
 have:=enc_dec ww2 (bs:=[1,0,4,0,0]) (by rw [wdec])
 rw [wdec] at this
 exact this.2.2.1
theorem wenc:encS wL2 2=([1,0,4,0,0],0):=by
 unfold encS
 rw [if_pos (by kernel_rfl),wtext];rfl
end Go.Sp
namespace Go.Proofs
attribute [local irreducible] Calls CallsD
theorem str_of {w:World} {s:Sl} {bs:List UInt8} {S:NP} (h:Lst S w 1 s (byr bs)):(convert 23 9 s.v).run Tryz.prog w=.ok (.string ⟨bs.toArray⟩) w :=
 run_str Tryz.underlying23 Tryz.underlying5 Tryz.underlying9 h
theorem hst_pure {w0 w w':World} {H H':NP} (hs:Hst w0 None w H w'):Pure w w':=⟨hs.ext.os,hs.ext.tape,hs.ext.output,hs.ext.size,fun b hb _=>hs.ext.keep b hb (fun h=>(hs.new b h).elim (fun h=>h) (fun h=>by omega))⟩
theorem lst_cells {w:World} {p:Addr} {bs:List UInt8} {T:TypeId} (h:Box w p (bs.map fun b=>Value.int .u8 (b.toNat:Int)) T):Lst (·=p.block) w 1 ⟨some p,bs.length,bs.length⟩ (byr bs) :=
 ⟨by simp [byr],fun i hi=>by
  have hi':i<bs.length:=by simpa [byr] using hi
  refine ⟨p.add (i*1),⟨by omega,by simpa using hi',p,rfl,by simp⟩,by rw [add_block],?_⟩
  intro j hj
  have:j=0:=by simp [byr] at hj;exact hj
  subst this
  have:=h.row i (by simpa using hi')
  simp only [byr,List.getElem_map,Nat.mul_one,List.getElem?_map] at *
  rw [add_add,Nat.add_zero,this,List.getElem?_eq_getElem hi']
  rfl⟩
theorem c_live7 (w0:World):Calls Tryz.prog 6 #[] w0 (fun e w'=>∃r:Bool,e=.returned (.bool r)∧(r=true∧Pure w0 w')):=by
 refine w_X w0 (fun r w'=>r=true∧Pure w0 w') ?_
 unfold m_X
 refine (c_New w0).mono ?_
 rintro _ w1 ⟨_,rfl,p,rfl,E1,F0,hP,hF⟩
 refine ⟨_,rfl,E1.keptP,fun hc=>(by cases hc),fun _=>?_⟩
 refine (c_Name p w1 hP Sp.Ok.nil 0).mono ?_
 rintro _ w2 ⟨r2,r3,rfl,he,F1,hP1,E2,hF1⟩
 have hm:Sp.make [] ⟨1,0,0,0,⟨#[]⟩,0,0⟩=(1,0,Sp.wL1):=Sp.wm1
 rw [hm] at he hP1
 cases he
 refine ⟨_,_,rfl,E2.kept (fun b hb=>hb.elim),?_⟩
 refine (c_Pair p w2 hP1 Sp.ww1.ok 1 1).mono ?_
 rintro _ w3 ⟨r4,r5,rfl,he,F2,hP2,E3,hF2⟩
 have hm:Sp.make Sp.wL1 ⟨4,0,0,0,⟨#[]⟩,1,1⟩=(2,0,Sp.wL2):=Sp.wm2
 rw [hm] at he hP2
 cases he
 refine ⟨_,_,rfl,E3.kept (fun b hb=>hb.elim),?_⟩
 have z1:=E1.size;have z2:=E2.size;have z3:=E3.size
 have E03:Pure w0 w3:=(E1.trans' E2 (fun i hi hb=>by have:=hF i hb;omega)).trans' E3 (fun i hi hb=>(hF1 i hb).elim (fun h=>by have:=hF i h;omega) (fun h=>by omega))
 have o2:∀b,F2 b→w0.heap.size≤b:=fun b hb=>(hF2 b hb).elim (fun h=>(hF1 b h).elim (fun h=>by have:=hF b h;omega) (fun h=>by omega)) (fun h=>by omega)
 refine (c_Encode p 2 w3 Sp.ww2 Sp.wN2 hP2).mono ?_
 rintro _ w4 ⟨r6,r7,rfl,rfl,hR⟩
 rw [Sp.wenc] at hR ⊢
 simp only at hR ⊢
 have E4:=hR.pure
 have z4:=E4.size
 refine ⟨_,_,rfl,E4.keptP,?_⟩
 refine (c_Decode p r6 [1,0,4,0,0] w4 Sp.ww2 (hP2.pure E4) hR.rows.lst (rws_hz hR.rows)).mono ?_
 rintro _ w5 ⟨r8,r9,r10,rfl,h8,h9,_,F3,hP3,E5,hF3⟩
 rw [Sp.wdec] at h8 h9
 simp only at h8 h9
 subst h8 h9
 have z5:=E5.size
 refine ⟨_,_,_,rfl,E5.kept (fun b hb=>hb.elim),?_⟩
 have E05:Pure w0 w5:=(E03.trans E4).trans' E5 (fun i hi hb=>by have:=o2 i hb;omega)
 intro p1 w6 n6
 have E6:Pure w5 w6:=Ext.new n6
 have B6:Box w6 p1 (([1,0,1,0]:List UInt8).map fun b=>Value.int .u8 (b.toNat:Int)) 5:=Box.of_newA n6
 refine (c_Check ⟨some p1,4,4⟩ [1,0,1,0] w6 (lst_cells B6) (fun h=>by cases h)).mono ?_
 rintro _ w7 ⟨r11,r12,rfl,rfl,rfl,E7⟩
 rw [Sp.wtw]
 refine ⟨_,_,rfl,E7.keptP,fun _=>?_,fun hc=>(by cases hc)⟩
 intro H1 w10 hs10
 have E10:Pure w7 w10:=hst_pure (H':=None) hs10
 have hR10:Rws w10 5 1 r6 (byr [1,0,4,0,0]):=(((hR.rows.ext E5 (fun b hb h=>by have:=hR.own b hb;have:=hP2.lt h;omega)).pure E6).pure E7).pure E10
 refine ⟨_,str_of hR10.lst,?_⟩
 unfold m_X_j1
 rintro y1 rfl H6 w20 hs20
 refine ⟨by kernel_rfl,(((E05.trans E6).trans E7).trans E10).hst hs20⟩
theorem c_law07_large {S : NP} (ts : List Sp.Tree) (s : Sl) (w0 : World) (hT : TreeAt S w0 s (.mk 0 0 0 0 ⟨#[]⟩ ts)) (hS : ∀ b, S b → b < w0.heap.size) :
  Calls Tryz.prog 5 #[s.v] w0 (fun e w'=>∃r:Bool,e=.returned (.bool r)∧((r=false→ts.length≤50∧Sp.cntAll ts≤6000)∧Pure w0 w')):=by
 refine w_F2 _ w0 (fun r w'=>(r=false→ts.length≤50∧Sp.cntAll ts≤6000)∧Pure w0 w') ?_
 unfold m_F2
 have hlen:s.len=ts.length:=by cases hT with
  | mk _ _ _ _ _ _ _ rs len fit row kid=>exact len
 refine ⟨fun _=>⟨fun h=>(by cases h),Ext.refl _⟩,fun hc=>?_⟩
 have hc:=of_decide_eq_false hc
 refine (c_ref05_Parts (.mk 0 0 0 0 ⟨#[]⟩ ts) s 6000 w0 (by omega) (by omega) hT hS).mono ?_
 rintro _ w1 ⟨r,rfl,rfl,E1⟩
 obtain ⟨p1,p2,p3⟩:=Sp.parts_facts (.mk 0 0 0 0 ⟨#[]⟩ ts) 6000 (by omega)
 refine ⟨_,rfl,fun h=>⟨by omega,?_⟩,E1⟩
 have h:=of_decide_eq_false h
 have:=p3 (by omega)
 simp only [Sp.cnt] at this
 omega
end Go.Proofs
end
section
open Go Go.SE
namespace Go.Proofs
attribute [local irreducible] Calls CallsD
structure RfS (S:NP) (w:World) (a:Addr) (s:Sl) (bs:List UInt8) (r:Rd):Prop where
 box:Box w a [s.v,.int .i64 (r.at_:Int),.int .i64 (r.err:Int),.int .i64 (r.spot:Int)] 84
 lst:Lst S w 1 s (byr bs)
 apart:∀b,S b→b≠a.block
 small:bs.length≤100000000
 room:s.len≤s.cap
section
variable {S:NP} {w w':World} {a:Addr} {s:Sl} {bs:List UInt8} {r:Rd}
theorem RfS.ext {F:NP} (h:RfS S w a s bs r) (E:Ext F w w') (hF:∀b,(b=a.block∨S b)→¬ F b):RfS S w' a s bs r :=
 ⟨h.box.ext E (hF _ (.inl rfl)),h.lst.ext E (fun b hb=>hF b (.inr hb)),h.apart,h.small,h.room⟩
theorem RfS.pure (h:RfS S w a s bs r) (E:Pure w w'):RfS S w' a s bs r:=h.ext E (fun _ _ h=>h)
theorem RfS.atC (h:RfS S w a s bs r):w.cell? (a.add 1)=some (.int .i64 (r.at_:Int)):=h.box.cell (i:=1) rfl
theorem RfS.errC (h:RfS S w a s bs r):w.cell? (a.add 2)=some (.int .i64 (r.err:Int)):=h.box.cell (i:=2) rfl
theorem RfS.len (h:RfS S w a s bs r):s.len=bs.length:=by rw [h.lst.len,byr_len]
theorem RfS.setAt (h:RfS S w a s bs r) (k:Nat):RfS S (w.setCell (a.add 1) (.int .i64 (k:Int))) a s bs ⟨k,r.err,r.spot⟩ :=
 ⟨h.box.set 1 _,h.lst.ext (Ext.setCell _ _) (fun b hb e=>h.apart b hb (by rw [add_block] at e;exact e)),h.apart,h.small,h.room⟩
theorem RfS.setErr (h:RfS S w a s bs r) (k:Nat):RfS S (w.setCell (a.add 2) (.int .i64 (k:Int))) a s bs ⟨r.at_,k,r.spot⟩ :=
 ⟨h.box.set 2 _,h.lst.ext (Ext.setCell _ _) (fun b hb e=>h.apart b hb (by rw [add_block] at e;exact e)),h.apart,h.small,h.room⟩
theorem RfS.setSpot (h:RfS S w a s bs r) (k:Nat):RfS S (w.setCell (a.add 3) (.int .i64 (k:Int))) a s bs ⟨r.at_,r.err,k⟩ :=
 ⟨h.box.set 3 _,h.lst.ext (Ext.setCell _ _) (fun b hb e=>h.apart b hb (by rw [add_block] at e;exact e)),h.apart,h.small,h.room⟩
end
section
variable {S:NP} (a:Addr) (s:Sl) (bs:List UInt8) (r:Rd) (w0:World)
theorem c_rFail (h : RfS S w0 a s bs r) (he : r.err = 0) (e x : Nat) :
  Calls Tryz.prog 132 #[.pointer (some a),.int .i64 e,.int .i64 x] w0 (fun en w'=>en=.returned (.tuple #[])∧(RfS S w' a s bs ⟨r.at_,e,x⟩∧Ext (·=a.block) w0 w')):=by
 refine w_R2 (some a) _ _ w0 (fun w'=>RfS S w' a s bs ⟨r.at_,e,x⟩∧Ext (·=a.block) w0 w') ?_
 unfold m_R2
 refine ⟨a,rfl,_,h.errC,fun _=>⟨a,rfl,h.box.canW (i:=2) (by simp),?_⟩,fun hc=>absurd (by rw [he];rfl) (beq_eq_false_iff_ne.1 hc)⟩
 rintro w1 rfl
 have h1:=h.setErr e
 refine ⟨a,rfl,h1.box.canW (i:=3) (by simp),?_⟩
 rintro w2 rfl
 exact ⟨h1.setSpot x,ext_set.trans ext_set⟩
theorem c_rLeft (h : RfS S w0 a s bs r) (hat : r.at_ ≤ bs.length) :
  Calls Tryz.prog 39 #[.pointer (some a)] w0 (fun e w'=>∃x:Int,e=.returned (.int .i64 x)∧(x=((bs.length - r.at_:Nat):Int)∧Pure w0 w')):=by
 refine w_Q2 (some a) w0 (fun x w'=>x=((bs.length - r.at_:Nat):Int)∧Pure w0 w') ?_
 unfold m_Q2
 refine ⟨a,rfl,fun w1 hs=>?_⟩
 have E1:Pure w0 w1:=hs.first
 have h1:=h.pure E1
 refine ⟨s,h1.box.cell0,a,rfl,_,h1.atC,?_,E1⟩
 rw [h.len,IntWalk.i64_in _ (by have:=h.small;omega)];omega
theorem c_rByte (h : RfS S w0 a s bs r) (hat : r.at_ < bs.length) (he : r.err = 0) :
  Calls Tryz.prog 81 #[.pointer (some a)] w0 (fun e w'=>∃x:Int,e=.returned (.int .u8 x)∧(x=(bs[r.at_].toNat:Int)∧RfS S w' a s bs ⟨r.at_+1,0,r.spot⟩∧Ext (·=a.block) w0 w')):=by
 refine w_S2 (some a) w0 (fun x w'=>x=(bs[r.at_].toNat:Int)∧RfS S w' a s bs ⟨r.at_+1,0,r.spot⟩∧Ext (·=a.block) w0 w') ?_
 unfold m_S2
 have hsm:=h.small
 refine ⟨a,rfl,_,h.errC,fun hc=>absurd (by rw [he];rfl) (bne_iff_ne.1 hc),fun _=>⟨a,rfl,fun w1 hs1=>?_⟩⟩
 have E1:Pure w0 w1:=hs1.first
 have h1:=h.pure E1
 refine ⟨_,h1.atC,a,rfl,s,h1.box.cell0,fun hc=>?_,fun _=>⟨a,rfl,_,h1.atC,a,rfl,h1.box.canW (i:=1) (by simp),id,?_⟩⟩
 ·have:=beq_iff_eq.1 hc;rw [h.len] at this;omega
 rintro w3 e3
 have hw:IntKind.i64.wrap ((r.at_:Int)+1)=((r.at_+1:Nat):Int):=wrap_succ hat (by omega)
 rw [hw] at e3
 have h3:=h1.setAt (r.at_+1)
 rw [← e3] at h3
 have X3:Ext (·=a.block) w1 w3:=by rw [e3];exact ext_set
 refine ⟨a,rfl,fun w4 hs4=>?_⟩
 have E4:Pure w3 w4:=hs4.ext
 have h4:=h3.pure E4
 have hw2:IntKind.i64.wrap (((r.at_+1:Nat):Int) - 1)=(r.at_:Int):=by rw [IntWalk.i64_in _ (by omega)];omega
 obtain ⟨c,hc1,_,hc3⟩:=by_nth h4.lst hat
 refine ⟨s,h4.box.cell0,a,rfl,_,h4.atC,c,by simp only;rw [hw2];exact hc1,_,hc3,rfl,?_,((Ext.pure E1).trans X3).thenPure E4⟩
 rw [he] at h4;exact h4
theorem run_shlU {P:Program} {t:TypeId} {w:World} (x k:Nat) (hk:k<64) (h:x*2 ^ k<18446744073709551616):(Go.binOp .shl t (.int .u64 (x:Int)) (.int .u64 (k:Int))).run P w=.ok (.int .u64 ((x*2 ^ k:Nat):Int)) w:=by
 have hr:IntKind.u64.wrap ((x:Int)*2 ^ min (k:Int).toNat IntKind.u64.bits)=((x*2 ^ k:Nat):Int):=by
  have:min (k:Int).toNat IntKind.u64.bits=k:=by simp [IntKind.bits];omega
  rw [this,← wrap_u64 h];simp
 have h0:¬ ((k:Int)<0):=by omega
 show (Op.shift .shl .u64 (x:Int) .u64 (k:Int)).run P w=_
 unfold Op.shift
 rw [if_neg h0]
 show ((pure (Value.int .u64 (IntKind.u64.wrap ((x:Int)*2 ^ min (k:Int).toNat IntKind.u64.bits))):Sem Value)).run P w=_
 rw [hr];rfl
theorem run_rem8 {P:Program} {t:TypeId} {w:World} (c:Nat) (h:c<256):(Go.binOp .rem t (.int .u8 (c:Int)) (.int .u8 128)).run P w=.ok (.int .u8 ((c % 128:Nat):Int)) w:=by
 have e1:((c:Int).tmod 128)=((c % 128:Nat):Int):=by rw [Int.tmod_eq_emod_of_nonneg (by omega)];omega
 simp [Go.binOp,Op.intDiv,e1]
theorem c_rNum (h : RfS S w0 a s bs r) (hat : r.at_ ≤ bs.length) (hS : ∀ b, (b = a.block ∨ S b) → b < w0.heap.size) :
  Calls Tryz.prog 84 #[.pointer (some a)] w0 (fun e w'=>∃x:Int,e=.returned (.int .u64 x)∧(x=((rNum bs r).1:Int)∧RfS S w' a s bs (rNum bs r).2∧Ext (·=a.block) w0 w')):=by
 refine w_O1 (some a) w0 (fun x w'=>x=((rNum bs r).1:Int)∧RfS S w' a s bs (rNum bs r).2∧Ext (·=a.block) w0 w') ?_
 unfold m_O1
 have hsm:=h.small
 refine ⟨a,rfl,_,h.errC,fun hc=>?_,fun hc=>?_⟩
 ·have he:r.err≠0:=by have:=bne_iff_ne.1 hc;omega
  have hr:rNum bs r=(0,r):=by unfold rNum;rw [if_neg he]
  rw [hr];exact ⟨rfl,h,Ext.refl _⟩
 have he:r.err=0:=by
  have:((r.err:Int) != 0)=false:=hc
  simpa using this
 have bad : ∀ (x : Nat) (H : NP) (w : World), (∀ b, (b = a.block ∨ S b) → ¬ H b) → RfS S w a s bs r → Ext (· = a.block) w0 w → rdNum 0 0 (bs.drop r.at_) = .error x →
   Calls Tryz.prog 132 #[.pointer (some a),.int .i64 x,.int .i64 (r.at_:Int)] w (fun e w'=>e=.returned (.tuple #[])∧Kept H w w'∧((0:Int)=((rNum bs r).1:Int)∧RfS S w' a s bs (rNum bs r).2∧Ext (·=a.block) w0 w')):=by
  intro x H w hv hR hE hrd
  have hr:rNum bs r=(0,⟨r.at_,x,r.at_⟩):=by unfold rNum;rw [if_pos he,hrd]
  refine (c_rFail a s bs r w hR he x r.at_).mono ?_
  rintro _ w' ⟨rfl,hR',X⟩
  rw [hr]
  exact ⟨rfl,X.kept (fun b hb e=>hv _ (.inl rfl) (e▸hb)),rfl,hR',hE.trans X⟩
 refine ⟨fun n i Hl w=>∃acc k:Nat,n=(acc:Int)∧i=(k:Int)∧k≤9∧acc<2 ^ (7*k)∧r.at_+k≤bs.length∧rdNum k acc (bs.drop (r.at_+k))=rdNum 0 0 (bs.drop r.at_)∧RfS S w a s bs r∧(∀b,(b=a.block∨S b)→¬ Hl b)∧Pure w0 w,fun _ i _=>(10 - i).toNat,⟨0,0,rfl,rfl,by omega,by simp,by simpa using hat,rfl,h,fun _ _ h=>h,Ext.refl _⟩,?_⟩
 rintro _ _ Hl wl hl ⟨acc,k,rfl,rfl,hk,hacc,hle,hrd,hR,hv,hE⟩
 unfold m_O1_l1
 have hSl:∀{w:World},Pure w0 w→∀b,(b=a.block∨S b)→b<w.heap.size:=fun E b hb=>by have:=hS b hb;have:=E.size;omega
 refine ⟨a,rfl,fun w1 hs1=>?_⟩
 have R1:=hR.ext hs1.ext (hs1.disj (fun b hb=>⟨hSl hE b hb,hv b hb⟩))
 have E1:=hE.hst hs1
 have hwk:IntKind.i64.wrap ((r.at_:Int)+(k:Int))=((r.at_+k:Nat):Int):=by rw [IntWalk.i64_in _ (by omega)];omega
 refine ⟨_,R1.atC,a,rfl,s,R1.box.cell0,fun hc=>?_,fun hc=>?_⟩
 ·have hge:r.at_+k=bs.length:=by rw [hwk] at hc;have:=of_decide_eq_true hc;have:=R1.len;omega
  refine ⟨a,rfl,_,R1.atC,?_⟩
  exact bad 3 Hl w1 hv R1 (Ext.pure E1) (by rw [← hrd,hge,List.drop_length];rfl)
 ·have hlt:r.at_+k<bs.length:=by rw [hwk] at hc;have:=of_decide_eq_false hc;have:=R1.len;omega
  refine ⟨a,rfl,fun w3 hs3=>?_⟩
  have R3:=R1.ext hs3.ext (hs3.disj (fun b hb=>⟨hSl E1 b hb,hv b hb⟩))
  have E3:=E1.hst hs3
  obtain ⟨a7,hat7,_,hv7⟩:=by_nth R3.lst hlt
  have hdrop:bs.drop (r.at_+k)=bs[r.at_+k] :: bs.drop (r.at_+k+1):=List.drop_eq_getElem_cons hlt
  refine ⟨s,R3.box.cell0,a,rfl,_,R3.atC,a7,by rw [hwk];exact hat7,_,hv7,?_⟩
  generalize bs[r.at_+k]=c at *
  have hc256:=c.toNat_lt
  rw [hdrop,rdNum_cons] at hrd
  have visH:∀{H H':NP} {w w':World},Pure w0 w→(∀b,(b=a.block∨S b)→¬ H b)→Hst w0 H w H' w'→∀b,(b=a.block∨S b)→¬ H' b:=fun E hv hs=>hs.disj (fun b hb=>⟨hSl E b hb,hv b hb⟩)
  refine ⟨fun hb=>⟨a,rfl,fun H1 w4 hs4=>?_⟩,fun hb H1 w4 hs4=>?_⟩
  ·have hv4:=visH E3 hv hs4
   have R4:=R3.ext hs4.ext hv4
   have hb':k=9∧1<c.toNat:=by simp at hb;omega
   rw [if_pos hb'] at hrd
   exact ⟨_,R4.atC,bad 11 H1 w4 hv4 R4 (Ext.pure (E3.hst hs4)) hrd.symm⟩
  ·have hv4:=visH E3 hv hs4
   have R4:=R3.ext hs4.ext hv4
   have E4:=E3.hst hs4
   have hb':¬ (k=9∧1<c.toNat):=by intro hh;simp at hb;omega
   rw [if_neg hb'] at hrd
   have hpw:c.toNat % 128*2 ^ (7*k)<18446744073709551616:=by
    by_cases h9:k=9
    ·subst h9;omega
    ·have h8:2 ^ (7*k)≤2 ^ 56:=Nat.pow_le_pow_right (by omega) (by omega)
     have h127:c.toNat % 128≤127:=by omega
     calc c.toNat % 128*2 ^ (7*k)≤127*2 ^ 56:=Nat.mul_le_mul h127 h8
      _<18446744073709551616:=by decide
   have hac:acc<18446744073709551616:=Nat.lt_of_lt_of_le hacc (by
    calc 2 ^ (7*k)≤2 ^ 63:=Nat.pow_le_pow_right (by omega) (by omega)
     _≤18446744073709551616:=by decide)
   have h7:IntKind.u64.wrap (IntKind.i64.wrap (7*(k:Int)))=((7*k:Nat):Int):=by
    rw [IntWalk.i64_in _ (by omega),show (7*(k:Int))=((7*k:Nat):Int) by omega,wrap_u64 (by omega)]
   have h128:128 ^ k=2 ^ (7*k):=by rw [Nat.pow_mul]
   have hsum:acc ||| (c.toNat % 128*2 ^ (7*k))=acc+c.toNat % 128*2 ^ (7*k):=or_add hacc
   have hsl:acc+c.toNat % 128*2 ^ (7*k)<18446744073709551616:=by rw [← hsum];exact Nat.or_lt_two_pow (n:=64) hac hpw
   have hwn:IntKind.u64.wrap ((acc:Int)+((c.toNat % 128*2 ^ (7*k):Nat):Int))=((acc+c.toNat % 128*2 ^ (7*k):Nat):Int):=by
    rw [show ((acc:Int)+((c.toNat % 128*2 ^ (7*k):Nat):Int))=((acc+c.toNat % 128*2 ^ (7*k):Nat):Int) by omega,wrap_u64 hsl]
   refine ⟨_,run_rem8 c.toNat hc256,((c.toNat % 128*2 ^ (7*k):Nat):Int),by rw [h7,wrap_u64 (by omega)];exact run_shlU _ _ (by omega) hpw,?_⟩
   rw [hwn]
   refine ⟨fun hs=>?_,fun hs=>⟨fun hz=>⟨a,rfl,fun H2 w6 hs6=>?_⟩,fun hz=>⟨a,rfl,fun H2 w6 hs6=>?_⟩⟩⟩
   ·have hs':¬ c.toNat<128:=by have:=of_decide_eq_true hs;omega
    rw [if_neg hs',h128] at hrd
    have hk9:k≠9:=by omega
    rw [wrap_succ (n:=10) (by omega) (by omega)]
    refine ⟨⟨_,k+1,rfl,rfl,by omega,?_,by omega,hrd,R4,hv4,E4⟩,by show (10 - ((k+1:Nat):Int)).toNat<(10 - (k:Int)).toNat;omega⟩
    have:2 ^ (7*(k+1))=128*2 ^ (7*k):=by rw [Nat.mul_add,Nat.pow_add];omega
    rw [this]
    have h127:c.toNat % 128*2 ^ (7*k)≤127*2 ^ (7*k):=Nat.mul_le_mul_right _ (by omega)
    omega
   ·have hs':c.toNat<128:=by have:=of_decide_eq_false hs;omega
    rw [if_pos hs'] at hrd
    have hv6:=visH E4 hv4 hs6
    have R6:=R4.ext hs6.ext hv6
    have hz':c.toNat=0∧0<k:=by simp at hz;omega
    rw [if_pos hz'] at hrd
    exact ⟨_,R6.atC,bad 10 H2 w6 hv6 R6 (Ext.pure (E4.hst hs6)) hrd.symm⟩
   ·have hs':c.toNat<128:=by have:=of_decide_eq_false hs;omega
    rw [if_pos hs'] at hrd
    have hv6:=visH E4 hv4 hs6
    have R6:=R4.ext hs6.ext hv6
    have hz':¬ (c.toNat=0∧0<k):=by intro hh;simp at hz;omega
    rw [if_neg hz',h128] at hrd
    have hr:rNum bs r=(acc+c.toNat*2 ^ (7*k),⟨r.at_+(k+1),0,r.spot⟩):=by unfold rNum;rw [if_pos he,← hrd]
    rw [hr]
    have hwa:IntKind.i64.wrap (IntKind.i64.wrap ((r.at_:Int)+(k:Int))+1)=((r.at_+(k+1):Nat):Int):=by
     rw [hwk,IntWalk.i64_in _ (by omega)];omega
    refine ⟨_,R6.atC,a,rfl,R6.box.canW (i:=1) (by simp),by rw [add_block];exact hv6 _ (.inl rfl),?_⟩
    rintro w8 e8
    rw [hwa] at e8
    have R8:=R6.setAt (r.at_+(k+1))
    rw [← e8,he] at R8
    refine ⟨by rw [Nat.mod_eq_of_lt hs'],R8,?_⟩
    rw [e8]
    exact (Ext.pure (E4.hst hs6)).trans ext_set
theorem c_rText (most : Nat) (hm : most < 1000000) (h : RfS S w0 a s bs r) (hat : r.at_ ≤ bs.length) (hS : ∀ b, (b = a.block ∨ S b) → b < w0.heap.size) :
  Calls Tryz.prog 85 #[.pointer (some a),.int .i64 most] w0 (fun e w'=>∃x:ByteArray,e=.returned (.string x)∧(x=⟨(rText bs most r).1.toArray⟩∧RfS S w' a s bs (rText bs most r).2∧Ext (·=a.block) w0 w')):=by
 refine w_T2 (some a) _ w0 (fun x w'=>x=⟨(rText bs most r).1.toArray⟩∧RfS S w' a s bs (rText bs most r).2∧Ext (·=a.block) w0 w') ?_
 unfold m_T2
 have hsm:=h.small
 refine ⟨a,rfl,_,h.atC,?_⟩
 refine (c_rNum a s bs r w0 h hat hS).mono ?_
 rintro _ w1 ⟨_,rfl,rfl,hR1,X1⟩
 refine ⟨_,rfl,X1.kept (fun b hb=>hb.elim),a,rfl,_,hR1.errC,fun hc=>?_,fun hc=>?_⟩
 ·have he:(rNum bs r).2.err≠0:=by have:=bne_iff_ne.1 hc;omega
  have hr:rText bs most r=([],(rNum bs r).2):=by
   unfold rText rNum at *
   by_cases h0:r.err=0
   ·rw [if_pos h0] at he ⊢
    rw [if_pos h0]
    cases hrd:rdNum 0 0 (bs.drop r.at_) with
    | error x=>rfl
    | ok p=>rw [hrd] at he;exact absurd rfl he
   ·rw [if_neg h0,if_neg h0]
  rw [hr];exact ⟨rfl,hR1,X1⟩
 have he1:(rNum bs r).2.err=0:=by
  have:(((rNum bs r).2.err:Int) != 0)=false:=hc
  simpa using this
 obtain ⟨he0,hdr,hn64⟩:=Sp.rNum_get he1
 have hat1:=(rNum_at bs r hat)
 have hrt:rText bs most r=(if most<(rNum bs r).1 then ([],⟨r.at_,1,r.at_⟩) else if bs.length<(rNum bs r).2.at_+(rNum bs r).1 then ([],⟨r.at_,3,r.at_⟩) else ((bs.drop (rNum bs r).2.at_).take (rNum bs r).1,⟨(rNum bs r).2.at_+(rNum bs r).1,0,r.spot⟩)):=by
  unfold rText rNum at *
  rw [if_pos he0] at he1 ⊢
  rw [if_pos he0]
  cases hrd:rdNum 0 0 (bs.drop r.at_) with
  | error x=>rw [hrd] at he1;simp only at he1;exfalso;exact Sp.rdNum_err hrd he1
  | ok p=>rfl
 have hsp:(rNum bs r).2.spot=r.spot:=by
  unfold rNum at he1 ⊢
  rw [if_pos he0] at he1 ⊢
  cases hrd:rdNum 0 0 (bs.drop r.at_) with
  | error x=>rw [hrd] at he1;simp only at he1;exfalso;exact Sp.rdNum_err hrd he1
  | ok p=>rfl
 rw [hrt]
 generalize rNum bs r=q at *
 obtain ⟨n,r1⟩:=q
 simp only at *
 have hS1:∀b,(b=a.block∨S b)→b<w1.heap.size:=fun b hb=>by have:=hS b hb;have:=X1.size;omega
 have bad : ∀ (e : Nat) (H : NP) (w w' : World), (∀ b, (b = a.block ∨ S b) → ¬ H b) → RfS S w a s bs r1 → Ext (· = a.block) w0 w → w' = w.setCell (a.add 1) (.int .i64 (r.at_ : Int)) →
   Calls Tryz.prog 132 #[.pointer (some a),.int .i64 e,.int .i64 (r.at_:Int)] w' (fun en w2=>en=.returned (.tuple #[])∧Kept H w' w2∧(RfS S w2 a s bs ⟨r.at_,e,r.at_⟩∧Ext (·=a.block) w0 w2)):=by
  intro e H w w' hv hR hE e'
  have hR':=hR.setAt r.at_
  rw [← e'] at hR'
  refine (c_rFail a s bs _ w' hR' he1 e r.at_).mono ?_
  rintro _ w2 ⟨rfl,hR2,X⟩
  refine ⟨rfl,X.kept (fun b hb e=>hv _ (.inl rfl) (e▸hb)),hR2,(hE.trans ?_).trans X⟩
  rw [e'];exact ext_set
 have hwm:IntKind.u64.wrap (most:Int)=(most:Int):=wrap_u64 (by omega)
 refine ⟨fun hc=>⟨a,rfl,fun H1 w2 hs2=>?_⟩,fun hc=>⟨a,rfl,fun H1 w5 hs5=>?_⟩⟩
 ·have hc:most<n:=by rw [hwm] at hc;simp at hc;omega
  rw [if_pos hc]
  have hv:∀b,(b=a.block∨S b)→¬ H1 b:=hs2.disj (fun b hb=>⟨hS1 b hb,id⟩)
  have R2:=hR1.ext hs2.ext hv
  refine ⟨R2.box.canW (i:=1) (by simp),by rw [add_block];exact hv _ (.inl rfl),?_⟩
  rintro w3 e3
  refine (bad 1 H1 w2 w3 hv R2 (X1.hst hs2) e3).mono ?_
  rintro _ w4 ⟨rfl,hk,hR4,X4⟩
  exact ⟨rfl,hk,rfl,hR4,X4⟩
 ·have hc:¬ most<n:=by rw [hwm] at hc;simp at hc;omega
  rw [if_neg hc]
  have hv:∀b,(b=a.block∨S b)→¬ H1 b:=hs5.disj (fun b hb=>⟨hS1 b hb,id⟩)
  have R5:=hR1.ext hs5.ext hv
  have X5:=X1.hst hs5
  have hwl:IntKind.u64.wrap (IntKind.i64.wrap ((s.len:Int) - (r1.at_:Int)))=((bs.length - r1.at_:Nat):Int):=by
   rw [hR1.len,IntWalk.i64_in _ (by omega),show ((bs.length:Int) - (r1.at_:Int))=((bs.length - r1.at_:Nat):Int) by omega,wrap_u64 (by omega)]
  refine ⟨s,R5.box.cell0,a,rfl,_,R5.atC,fun hc2=>⟨a,rfl,R5.box.canW (i:=1) (by simp),by rw [add_block];exact hv _ (.inl rfl),?_⟩,fun hc2=>⟨a,rfl,fun w8 hs8=>?_⟩⟩
  ·have hc2:bs.length<r1.at_+n:=by rw [hwl] at hc2;have:=of_decide_eq_true hc2;omega
   rw [if_pos hc2]
   rintro w6 e6
   refine (bad 3 H1 w5 w6 hv R5 X5 e6).mono ?_
   rintro _ w7 ⟨rfl,hk,hR7,X7⟩
   exact ⟨rfl,hk,rfl,hR7,X7⟩
  ·have hc2:¬ bs.length<r1.at_+n:=by rw [hwl] at hc2;have:=of_decide_eq_false hc2;omega
   rw [if_neg hc2]
   have hv8:∀b,(b=a.block∨S b)→¬ H1 b:=hv
   have R8:=R5.ext hs8.ext hv8
   have hwn:IntKind.i64.wrap (n:Int)=(n:Int):=IntWalk.i64_in _ (by omega)
   have hwa:IntKind.i64.wrap ((r1.at_:Int)+(n:Int))=((r1.at_+n:Nat):Int):=by rw [IntWalk.i64_in _ (by omega)];omega
   rw [hwn]
   obtain ⟨s1,hsl,hL1⟩:=R8.lst.sub (P:=Tryz.prog) slT_by R8.room (k:=.i64) (lo:=r1.at_) (n:=n) (by rw [byr_len];omega)
   have hbt:((byr bs).drop r1.at_).take n=byr ((bs.drop r1.at_).take n):=by simp [byr,List.map_take,List.map_drop]
   rw [hbt] at hL1
   refine ⟨s,R8.box.cell0,a,rfl,_,R8.atC,a,rfl,_,R8.atC,s1,by rw [hwa];exact hsl,_,str_of hL1,a,rfl,_,R8.atC,a,rfl,R8.box.canW (i:=1) (by simp),by rw [add_block];exact hv _ (.inl rfl),?_⟩
   rintro w9 e9
   rw [hwa] at e9
   have R9:=R8.setAt (r1.at_+n)
   rw [← e9,he1,hsp] at R9
   refine ⟨rfl,R9,?_⟩
   rw [e9]
   exact (X5.hst hs8).trans ext_set
theorem c_rNew {S0 : NP} (sb : Sl) (bs : List UInt8) (w0 : World) (hs : Lst S0 w0 1 sb (byr bs)) (hn : bs.length ≤ 100000000) :
  Calls Tryz.prog 38 #[sb.v] w0 (fun e w'=>∃x:Option Addr,e=.returned (.pointer x)∧∃a s',x=some a∧RfS s'.blk w' a s' bs ⟨0,0,0⟩∧Pure w0 w'∧w0.heap.size≤a.block∧(∀b,s'.blk b→w0.heap.size≤b∧b<w'.heap.size)):=by
 refine w_P2 _ w0 (fun x w'=>∃a s',x=some a∧RfS s'.blk w' a s' bs ⟨0,0,0⟩∧Pure w0 w'∧w0.heap.size≤a.block∧(∀b,s'.blk b→w0.heap.size≤b∧b<w'.heap.size)) ?_
 unfold m_P2
 intro p2 w1 n2
 have E1:Pure w0 w1:=Ext.new n2
 have R0:Rws w1 5 1 ⟨some p2,0,0⟩ []:=Rws.empty n2
 have bp2:=n2.at_size
 have z1:=E1.size
 obtain ⟨s1,w2,hr,hR,X2,hs1⟩:=R0.appendL (P:=Tryz.prog) (ty:=23) slT_by (hs.pure E1) (byr_sz bs) (byr_one bs) (by rw [byr_len];simp;omega) (by rw [byr_len];simp only [maxLen,List.length_nil];omega)
 rw [List.nil_append] at hR
 have o2:∀b,(Sl.mk (some p2) 0 0).blk b→b=p2.block:=fun b hb=>by obtain ⟨a,ha,rfl⟩:=hb;cases ha;rfl
 have os1:∀b,s1.blk b→w0.heap.size≤b:=fun b hb=>(hs1 b hb).elim (fun h=>by have:=o2 b h;omega) (fun h=>by omega)
 have E2:Pure w0 w2:=E1.trans' X2 (fun i hi hb=>by have:=o2 i hb;omega)
 refine ⟨s1,w2,hr,?_⟩
 intro p3 w3 n3
 have E3:Pure w2 w3:=Ext.new n3
 have bp3:=n3.at_size
 have z2:=E2.size;have z3:=E3.size
 have hroom:s1.len≤s1.cap:=by
  rcases hR.own with ⟨rfl,_⟩ | ⟨g,cur,_,_,hc,_⟩
  ·exact Nat.le_refl _
  ·rw [hR.len];exact hc
 exact ⟨p3,s1,rfl,⟨Box.of_newA n3,hR.lst.pure E3,fun b hb e=>by have:=hR.lt hb;omega,hn,hroom⟩,E2.trans E3,by omega,fun b hb=>⟨os1 b hb,by have:=hR.lt hb;omega⟩⟩
end
end Go.Proofs
end
section
open Go Go.SE
namespace Go.Proofs
attribute [local irreducible] Calls
theorem slT_bool:SlType Tryz.prog 117 4 1 1:=by
 refine ⟨Tryz.underlying117,⟨Tryz.t4,_,by kernel_rfl,(by kernel_rfl:Tryz.t4.zero=some (.bool false)),by kernel_rfl,by kernel_rfl,rfl⟩,by omega⟩
theorem zero_bool:∀i z,Tryz.prog.info? 4=some i→i.zero=some z→z.cells=#[Value.bool false]:=by
 intro i z hi hz
 have h1:Tryz.prog.info? 4=some Tryz.t4:=by kernel_rfl
 rw [h1] at hi;cases hi
 have h2:Tryz.t4.zero=some (.bool false):=by kernel_rfl
 rw [h2] at hz;cases hz;rfl
def brw (n:Nat) (V:Int→Bool):List (List Value):=(List.range n).map fun i:Nat=>[Value.bool (V (i:Int))]
theorem brw_len (n:Nat) (V:Int→Bool):(brw n V).length=n:=by simp [brw]
theorem brw_false (n:Nat):List.replicate n [Value.bool false]=brw n (fun _=>false):=by
 unfold brw;rw [List.map_const',List.length_range]
theorem brw_set (n:Nat) (V:Int→Bool) (t:Nat) (b:Bool):(brw n V).set t [.bool b]=brw n (Sp.upd V (t:Int) b):=by
 apply List.ext_getElem?
 intro i
 rw [List.getElem?_set]
 by_cases h:t=i
 ·subst h
  rw [if_pos rfl]
  by_cases hl:t<n
  ·simp [brw,hl,Sp.upd]
  ·simp [brw,hl]
 ·rw [if_neg h]
  by_cases hl:i<n
  ·simp [brw,hl,Sp.upd,show ¬ (i:Int)=t by omega]
  ·simp [brw,hl]
section
variable {w w':World} {e:TypeId} {s:Sl} {n:Nat} {V:Int→Bool}
theorem brw_get (h:Rws w e 1 s (brw n V)) {t:Int} (h0:0≤t) (ht:t<n):∃a,At s t 1 a∧s.blk a.block∧w.cell? a=some (.bool (V t)):=by
 obtain ⟨a,h1,h2,h3⟩:=h.at h0 (by rw [brw_len];omega)
 refine ⟨a,h1,h3,?_⟩
 have:(brw n V)[t.toNat]'(by rw [brw_len];omega)=[Value.bool (V t)]:=by
  simp only [brw,List.getElem_map,List.getElem_range]
  rw [show ((t.toNat:Nat):Int)=t by omega]
 rw [this] at h2
 exact row_cell h2
theorem brw_put (h:Rws w e 1 s (brw n V)) {t:Int} (h0:0≤t) (ht:t<n):∃a,At s t 1 a∧s.blk a.block∧CanW w a∧∀b,Rws (w.setCell a (.bool b)) e 1 s (brw n (Sp.upd V t b))∧Ext s.blk w (w.setCell a (.bool b)):=by
 have hset:∀b:Bool,∃a,At s t 1 a∧(∀j,j<1→CanW w (a.add j))∧∀w',w'=storeRow w a [Value.bool b]→Rws w' e 1 s ((brw n V).set t.toNat [.bool b])∧Ext s.blk w w':=fun b=>h.set (i:=t.toNat) (by rw [brw_len];omega) rfl (by omega)
 obtain ⟨a,hat,hw,_⟩:=hset true
 obtain ⟨a',h1,_,hblk⟩:=h.at h0 (by rw [brw_len];omega)
 have same:∀{x:Addr},At s t 1 x→x=a:=fun hx=>by
  obtain ⟨_,_,b1,hb1,rfl⟩:=hx
  obtain ⟨_,_,b2,hb2,rfl⟩:=hat
  rw [hb1] at hb2;cases hb2;rfl
 have h00:a.add 0=a:=by simp [Addr.add]
 refine ⟨a,hat,?_,by have:=hw 0 (by omega);rwa [h00] at this,fun b=>?_⟩
 ·have:=same h1;subst this;exact hblk
 ·obtain ⟨x,hx,_,hx2⟩:=hset b
  have:=same hx;subst this
  have hst:storeRow w x [Value.bool b]=w.setCell x (.bool b):=by show w.setCell (x.add 0) (.bool b)=_;rw [h00]
  obtain ⟨r1,r2⟩:=hx2 _ rfl
  rw [hst] at r1 r2
  rw [brw_set,show ((t.toNat:Nat):Int)=t by omega] at r1
  exact ⟨r1,r2⟩
end
structure WalkAt (w:World) (x q:Addr) (L:Sp.Pool) (st:(Int→Bool)×List Int) (FR:NP) (sv so:Sl):Prop where
 box:Box w x [.pointer (some q),sv.v,so.v] 144
 seen:Rws w 4 1 sv (brw (L.length+1) st.1)
 out:Rws w 30 1 so (tmr st.2)
 pool:PoolR w q L FR
 n1:¬ sv.blk x.block
 n2:¬ so.blk x.block
 n3:∀b,sv.blk b→¬ so.blk b
 n4:∀b,FR b→b≠x.block∧¬ sv.blk b∧¬ so.blk b
def WF (x:Addr) (sv so:Sl) (b:Nat):Prop:=b=x.block∨sv.blk b∨so.blk b
theorem PoolR.at7 {w:World} {q:Addr} {L:Sp.Pool} {FR:NP} (h:PoolR w q L FR) {t:Int} (ht:Sp.inP L t=true) (hok:Sp.Ok L):∃v,w.cell? q=some (Sl.v v)∧∃a,At v (IntKind.i64.wrap (t - 1)) 7 a∧w.cell? (a.add 5)=some (.int .i64 (Sp.nodeOf L t).a)∧w.cell? (a.add 6)=some (.int .i64 (Sp.nodeOf L t).b):=by
 obtain ⟨s1,s2,s3,h,_⟩:=h
 obtain ⟨i,hi,rfl⟩:=Sp.inP_at ht
 have:=hok.few
 obtain ⟨a,h1,h2⟩:=h.r1.nth hi
 rw [IntWalk.i64_in _ (by omega),show (i:Int)+1 - 1=i by omega]
 have hn:=Sp.nodeOf_lt hi
 have e0:rnode L[i]=nrow (Sp.nodeOf L ((i:Int)+1)):=by rw [hn];rfl
 rw [e0] at h2
 exact ⟨s1,h.box.cell0,a,h1,h2 5 (by simp [nrow]),h2 6 (by simp [nrow])⟩
theorem c_ref05_over (x q : Addr) {L : Sp.Pool} (hW : Sp.Wf L) : ∀ (n : Nat) (t : Int) (w0 : World) (st : (Int → Bool) × List Int) (FR : NP) (sv so : Sl), t.toNat < n → WalkAt w0 x q L st FR sv so → Sp.OvOk L st → (∀ y, st.1 y = true → y ≤ t → y ∈ st.2) →
  Calls Tryz.prog 90 #[.pointer (some x),.int .i64 t] w0 (fun e w'=>e=.returned (.tuple #[])∧∃so',WalkAt w' x q L (Sp.overS L n t st) FR sv so'∧Ext (WF x sv so) w0 w'∧∀b,so'.blk b→so.blk b∨w0.heap.size≤b):=by
 intro n
 induction n with
 | zero=>intro t w0 st FR sv so h;omega
 | succ n ih =>
 intro t w0 st FR sv so hn h hst hm
 have hR:=Sp.over_ok hW (n+1) t st hn hst hm
 suffices key:∀K:WP,(∀so' w',WalkAt w' x q L (Sp.overS L (n+1) t st) FR sv so'→Ext (WF x sv so) w0 w'→(∀b,so'.blk b→so.blk b∨w0.heap.size≤b)→K w')→m_S (some x) t w0 K from
  w_S _ _ w0 _ (key _ (fun so' w' a b c=>⟨so',a,b,c⟩))
 intro K hK
 unfold m_S
 refine ⟨x,rfl,_,h.box.cell0,?_⟩
 refine (c_ref05_In q t w0 h.pool).mono ?_
 rintro _ w0 ⟨r1,rfl,rfl,rfl⟩
 refine ⟨_,rfl,fun hc=>?_,fun hc=>?_⟩
 ·have hin:Sp.inP L t=false:=by simpa using hc
  unfold m_S_j1
  refine Br.t rfl ?_
  rw [Sp.overS,if_neg (by simp [hin])] at hK
  exact hK so w0 h (Ext.refl _) (fun b hb=>.inl hb)
 have hin:Sp.inP L t=true:=by simpa using hc
 obtain ⟨t1,tL⟩:=Sp.inP_iff.1 hin
 obtain ⟨a13,at13,_,c13⟩:=brw_get h.seen (t:=t) (by omega) (by omega)
 refine ⟨x,rfl,sv,h.box.cell rfl,a13,at13,_,c13,?_⟩
 unfold m_S_j1
 refine ⟨fun hv=>?_,fun hv=>?_⟩
 ·rw [Sp.overS,if_neg (by simp [hv])] at hK
  exact hK so w0 h (Ext.refl _) (fun b hb=>.inl hb)
 rw [Sp.overS,if_pos ⟨hin,hv⟩] at hK hR
 obtain ⟨a2,at2,hb2,cw2,hput⟩:=brw_put h.seen (t:=t) (by omega) (by omega)
 refine ⟨x,rfl,sv,h.box.cell rfl,a2,at2,cw2,?_⟩
 rintro _ rfl
 obtain ⟨R2,E2⟩:=hput true
 have A2:WalkAt (w0.setCell a2 (.bool true)) x q L (Sp.upd st.1 t true,st.2) FR sv so :=
  ⟨h.box.ext E2 h.n1,R2,h.out.ext E2 (fun b hb hb2=>h.n3 b hb2 hb),h.pool.ext E2 (fun b hb hb2=>(h.n4 b hb).2.1 hb2),h.n1,h.n2,h.n3,h.n4⟩
 generalize w0.setCell a2 (.bool true)=w2 at *
 obtain ⟨v3,c3,a5,at5,ca,cb⟩:=A2.pool.at7 hin hW.ok
 refine ⟨x,rfl,_,A2.box.cell0,q,rfl,v3,c3,a5,at5,_,ca,?_⟩
 have low:∀k,k=(Sp.nodeOf L t).a∨k=(Sp.nodeOf L t).b→k<t:=by
  intro k hk
  have hkid:=(hW.node hin).2.2.2.2.1
  cases hp:Sp.inP L k with
  | true=>exact (hkid k (Sp.kid_of hW hin hk hp)).2
  | false =>
   have h1:=(hW.node hin).2.1
   have h2:=(hW.node hin).2.2.1
   rcases Sp.kids_le (Sp.nodeOf L t).kind with e | e | e
   ·have:=h1 (by omega);have:=h2 (by omega);rcases hk with hk | hk <;> omega
   ·have b0:=h2 (by omega)
    rcases hk with hk | hk
    ·have:=(hkid k (by unfold Sp.kidsOf;rw [e,hk];simp)).2;exact this
    ·omega
   ·exact (hkid k (by unfold Sp.kidsOf;rw [e];rcases hk with hk | hk <;> simp [hk])).2
 have la:=low _ (.inl rfl)
 have lb:=low _ (.inr rfl)
 have o1:Sp.OvOk L (Sp.upd st.1 t true,st.2):=⟨fun y hy=>by simp only [Sp.upd];split <;> simp [hst.marked y hy],hst.closed,hst.nd,hst.inp⟩
 have m1:∀y,(Sp.upd st.1 t true,st.2).1 y=true→y≤(Sp.nodeOf L t).a→y∈(Sp.upd st.1 t true,st.2).2:=fun y hy hle=>by
  simp only [Sp.upd] at hy
  rw [if_neg (by omega)] at hy
  exact hm y hy (by omega)
 have r1:=Sp.over_ok hW n (Sp.nodeOf L t).a _ (by omega) o1 m1
 refine (ih (Sp.nodeOf L t).a w2 _ FR sv so (by omega) A2 o1 m1).mono ?_
 rintro _ w3 ⟨rfl,so3,A3,X3,f3⟩
 generalize hs1:Sp.overS L n (Sp.nodeOf L t).a (Sp.upd st.1 t true,st.2)=s1 at *
 obtain ⟨v6,c6,a8,at8,_,cb3⟩:=A3.pool.at7 hin hW.ok
 refine ⟨rfl,x,rfl,_,A3.box.cell0,q,rfl,v6,c6,a8,at8,_,cb3,?_⟩
 have m2:∀y,s1.1 y=true→y≤(Sp.nodeOf L t).b→y∈s1.2:=fun y hy hle=>by
  rcases r1.back y hy with h' | h'
  ·simp only [Sp.upd] at h'
   rw [if_neg (by omega)] at h'
   have:=hm y h' (by omega)
   obtain ⟨M,e,_⟩:=r1.app
   simp only at e
   rw [e];exact List.mem_append_left _ this
  ·exact h'
 have r2:=Sp.over_ok hW n (Sp.nodeOf L t).b s1 (by omega) r1.toOvOk m2
 refine (ih (Sp.nodeOf L t).b w3 s1 FR sv so3 (by omega) A3 r1.toOvOk m2).mono ?_
 rintro _ w4 ⟨rfl,so4,A4,X4,f4⟩
 generalize hs2:Sp.overS L n (Sp.nodeOf L t).b s1=s2 at *
 refine ⟨rfl,x,rfl,so4,A4.box.cell rfl,?_⟩
 intro p1 w5 h5
 have E5:Pure w4 w5:=Ext.new h5
 have hfew:s2.2.length≤65536:=by have:=Sp.pool_few r2.nd r2.inp;have:=hW.ok.few;omega
 obtain ⟨s1',w6,hr6,R6,X6,f6⟩:=(A4.out.pure E5).append (P:=Tryz.prog) (ty:=52) (c:=1) slT_tm (r:=[.int .i64 t]) (Box.of_new h5).row rfl rfl (by rw [tmr_len];omega) (by rw [tmr_len];simp [maxLen];omega)
 have b6:=(A4.box.pure E5).ext X6 A4.n2
 refine ⟨s1',w6,hr6,x,rfl,b6.canW (by simp),?_⟩
 rintro _ rfl
 have E7:=Ext.setCell (w:=w6) (x.add 2) s1'.v
 rw [add_block] at E7
 have z2:w0.heap.size≤w2.heap.size:=E2.size
 have z3:=X3.size
 have z4:=X4.size
 have z5:=E5.size
 have f6':∀b,s1'.blk b→so4.blk b∨w4.heap.size≤b:=fun b hb=>(f6 b hb).imp_right (fun h=>by omega)
 have nx:¬ s1'.blk x.block:=fun hh=>(f6' _ hh).elim A4.n2 (fun hh=>by have:=A4.box.lt;omega)
 have nv:∀b,sv.blk b→¬ s1'.blk b:=fun b hb hh=>(f6' b hh).elim (A4.n3 b hb) (fun hh=>by have:=A4.seen.lt hb;omega)
 have hfin:=hK s1' (w6.setCell (x.add 2) s1'.v)
 refine hfin ⟨b6.set 2 s1'.v,((A4.seen.pure E5).ext X6 A4.n3).ext E7 (fun b hb e=>A4.n1 (e▸hb)),?_,((A4.pool.pure E5).ext X6 (fun b hb=>(A4.n4 b hb).2.2)).ext E7 (fun b hb e=>(A4.n4 b hb).1 e),A4.n1,nx,nv,fun b hb=>⟨(A4.n4 b hb).1,(A4.n4 b hb).2.1,fun hh=>(f6' b hh).elim (A4.n4 b hb).2.2 (fun hh=>by have:=A4.pool.lt hb;omega)⟩⟩ ?_ ?_
 ·show Rws _ _ _ _ (tmr (s2.2++[t]))
  rw [show tmr (s2.2++[t])=tmr s2.2++[[.int .i64 t]] by simp [tmr]]
  exact R6.ext E7 (fun b hb e=>nx (e▸hb))
 ·have f34 : ∀ b, so4.blk b → b < w0.heap.size → so.blk b := fun b hb hlt => by
   rcases f4 b hb with h1 | h1
   ·exact (f3 b h1).elim id (fun h2=>by omega)
   ·omega
  have f33:∀b,so3.blk b→b<w0.heap.size→so.blk b:=fun b hb hlt=>(f3 b hb).elim id (fun h2=>by omega)
  refine ((((E2.mono (fun b _ hb=>.inr (.inl hb))).trans X3).trans' X4 (fun i hi hb=>?_)).trans' (E5.pure (F:=WF x sv so4)) (fun i hi hb=>?_)).trans' ((X6.mono (fun b _ hb=>.inr (.inr hb))).trans (E7.mono (fun b _ e=>.inl e))) (fun i hi (hb:WF x sv so4 i)=>?_)
  ·rcases hb with hb | hb | hb
   ·exact .inl hb
   ·exact .inr (.inl hb)
   ·exact .inr (.inr (f33 i hb hi))
  ·rcases hb with hb | hb | hb
   ·exact .inl hb
   ·exact .inr (.inl hb)
   ·exact .inr (.inr (f34 i hb hi))
  ·rcases hb with hb | hb | hb
   ·exact .inl hb
   ·exact .inr (.inl hb)
   ·exact .inr (.inr (f34 i hb hi))
 ·intro b hb
  rcases f6' b hb with h1 | h1
  ·rcases f4 b h1 with h2 | h2
   ·exact (f3 b h2).imp_right (fun h=>by omega)
   ·right;omega
  ·right;omega
theorem c_ref05_Subs (q : Addr) (t : Int) (w0 : World) {L : Sp.Pool} {FR : NP} (hW : Sp.Wf L) (hP : PoolR w0 q L FR) :
  Calls Tryz.prog 42 #[.pointer (some q),.int .i64 t] w0 (fun e w'=>∃r:Sl,e=.returned r.v∧RetO w0 30 1 (tmr (Sp.subs L t)) r w'):=by
 refine w_E2 _ _ w0 (fun r w'=>RetO w0 30 1 (tmr (Sp.subs L t)) r w') ?_
 unfold m_E2
 obtain ⟨v1,hv1,hv1l⟩:∃v1:Sl,w0.cell? q=some v1.v∧v1.len=L.length:=by
  obtain ⟨s1,s2,s3,h,_⟩:=hP
  exact ⟨s1,h.box.cell0,by rw [h.r1.len];simp⟩
 have hL:=hW.ok.few
 refine ⟨q,rfl,v1,hv1,?_⟩
 rw [hv1l,IntWalk.i64_in _ (by omega),show ((L.length:Int)+1)=((L.length+1:Nat):Int) by omega]
 obtain ⟨w1,hr1,R1,E1⟩:=Rws.make (P:=Tryz.prog) slT_bool zero_bool (k:=.i64) (k':=.i64) (n:=L.length+1) (by omega) (by simp [maxLen];omega) w0
 rw [brw_false] at R1
 refine ⟨_,w1,hr1,?_⟩
 intro p2 w2 h2
 have E2:Pure w1 w2:=Ext.new h2
 have hp2:=h2.at_size
 have hnil:∀b,¬ Sl.nil.blk b:=fun b hb=>by obtain ⟨a,h,_⟩:=hb;cases h
 have hsv:∀b,(Sl.mk (some ⟨w0.heap.size,0,none⟩) (L.length+1) (L.length+1)).blk b→b=w0.heap.size:=by rintro b ⟨a,ha,rfl⟩;cases ha;rfl
 have z1:=E1.size
 have l1:w0.heap.size<w1.heap.size:=R1.lt ⟨_,rfl,rfl⟩
 have A2:WalkAt w2 p2 q L (fun _=>false,[]) FR ⟨some ⟨w0.heap.size,0,none⟩,L.length+1,L.length+1⟩ Sl.nil:=by
  refine ⟨Box.of_new h2,R1.pure E2,Rws.nil _ _ _,(hP.pure E1).pure E2,fun hb=>by have:=hsv _ hb;omega,hnil _,fun b _=>hnil b,fun b hb=>⟨fun e=>?_,fun hh=>?_,hnil b⟩⟩
  ·have:=hP.lt hb;omega
  ·have:=hsv _ hh;have:=hP.lt hb;omega
 refine (c_ref05_over p2 q hW (t.toNat+1) t w2 _ FR _ Sl.nil (by omega) A2 ⟨by simp,by simp,by simp,by simp⟩ (by simp)).mono ?_
 rintro _ w3 ⟨rfl,so,A3,X3,f3⟩
 refine ⟨rfl,so,A3.box.cell rfl,A3.out,fun b hb=>?_,(E1.trans E2).trans' X3 (fun i hi hb=>?_)⟩
 ·rcases f3 b hb with h | h
  ·exact (hnil b h).elim
  ·have:=E2.size;omega
 ·rcases hb with hb | hb | hb
  ·omega
  ·have:=hsv _ hb;omega
  ·exact hnil _ hb
end Go.Proofs
end
section
open Go Go.SE
namespace Go.Proofs
attribute [local irreducible] Calls CallsD
theorem at_blk {s:Sl} {i:Int} {sz:Nat} {a:Addr} (h:At s i sz a):s.blk a.block:=by
 obtain ⟨_,_,b,hb,rfl⟩:=h
 exact ⟨b,hb,(add_block _ _).symm⟩
theorem tmr_put {w : World} {e : TypeId} {s : Sl} {A : List Int} (h : Rws w e 1 s (tmr A)) {k : Int} {j : Nat} (hk : k = j) (hj : j < A.length) :
  ∃a,At s k 1 a∧s.blk a.block∧CanW w a∧∀v,Rws (w.setCell a (.int .i64 v)) e 1 s (tmr (A.set j v))∧Ext s.blk w (w.setCell a (.int .i64 v)):=by
 have hset:∀v:Int,∃a,At s k 1 a∧(∀j,j<1→CanW w (a.add j))∧∀w',w'=storeRow w a [Value.int .i64 v]→Rws w' e 1 s ((tmr A).set j [.int .i64 v])∧Ext s.blk w w':=fun v=>h.set (i:=j) (by rw [tmr_len];omega) rfl hk
 obtain ⟨a,hat,hw,_⟩:=hset 0
 have same:∀{x:Addr},At s k 1 x→x=a:=fun hx=>by
  obtain ⟨_,_,b1,hb1,rfl⟩:=hx
  obtain ⟨_,_,b2,hb2,rfl⟩:=hat
  rw [hb1] at hb2;cases hb2;rfl
 have h00:a.add 0=a:=by simp [Addr.add]
 refine ⟨a,hat,at_blk hat,by have:=hw 0 (by omega);rwa [h00] at this,fun v=>?_⟩
 obtain ⟨x,hx,_,hx2⟩:=hset v
 have:=same hx;subst this
 have hst:storeRow w x [Value.int .i64 v]=w.setCell x (.int .i64 v):=by show w.setCell (x.add 0) (.int .i64 v)=_;rw [h00]
 obtain ⟨r1,r2⟩:=hx2 _ rfl
 rw [hst] at r1 r2
 have e0:(tmr A).set j [.int .i64 v]=tmr (A.set j v):=by simp [tmr,List.map_set]
 rw [e0] at r1
 exact ⟨r1,r2⟩
structure TxSep (w0:World) (q:Addr) (FR:NP) (s1 r1:Sl) (B:Nat):Prop where
 lR:∀x,FR x→x<B
 lr:∀x,r1.blk x→x<B
 ls:∀x,s1.blk x→x<B∧w0.heap.size≤x∧¬ FR x∧¬ r1.blk x
 base:w0.heap.size≤B
structure TxAt (w0 w:World) (H:NP) (q:Addr) (L:Sp.Pool) (FR:NP) (s1 r1:Sl) (A xs:List Int) (B:Nat) (b:Sl) (bs:List UInt8):Prop where
 pool:PoolR w q L FR
 at_:Rws w 3 1 s1 (tmr A)
 subs:Rws w 30 1 r1 (tmr xs)
 rows:Rws w 5 1 b (byr bs)
 pure:Pure w0 w
 hB:∀x,H x→B≤x∧x<w.heap.size
 own:∀x,b.blk x→B≤x∧¬ H x
 lt:B≤w.heap.size
section
variable {w0 w w':World} {H H':NP} {q:Addr} {L:Sp.Pool} {FR:NP} {s1 r1:Sl} {A xs:List Int} {B:Nat} {b b':Sl} {bs bs':List UInt8}
theorem TxAt.hst (h:TxAt w0 w H q L FR s1 r1 A xs B b bs) (S:TxSep w0 q FR s1 r1 B) (hs:Hst w0 H w H' w'):TxAt w0 w' H' q L FR s1 r1 A xs B b bs:=by
 have hB':∀x,H' x→B≤x:=fun x hx=>(hs.new x hx).elim (fun h1=>(h.hB x h1).1) (fun h1=>by have:=h.lt;omega)
 have hv:∀x,b.blk x→¬ H' x:=hs.disj (fun x hx=>⟨h.rows.lt hx,(h.own x hx).2⟩)
 exact ⟨h.pool.ext hs.ext (fun x hx hh=>by have:=S.lR x hx;have:=hB' x hh;omega),h.at_.ext hs.ext (fun x hx hh=>by have:=S.ls x hx;have:=hB' x hh;omega),h.subs.ext hs.ext (fun x hx hh=>by have:=S.lr x hx;have:=hB' x hh;omega),h.rows.ext hs.ext hv,h.pure.hst hs,fun x hx=>⟨hB' x hx,hs.lt x hx⟩,fun x hx=>⟨(h.own x hx).1,hv x hx⟩,Nat.le_trans h.lt hs.ext.size⟩
theorem TxAt.call (h:TxAt w0 w H q L FR s1 r1 A xs B b bs) (hr:RetO w 5 1 (byr bs') b' w'):TxAt w0 w' H q L FR s1 r1 A xs B b' bs' :=
 ⟨h.pool.pure hr.pure,h.at_.pure hr.pure,h.subs.pure hr.pure,hr.rows,h.pure.trans hr.pure,fun x hx=>⟨(h.hB x hx).1,Nat.lt_of_lt_of_le (h.hB x hx).2 hr.pure.size⟩,fun x hx=>⟨Nat.le_trans h.lt (hr.own x hx),fun hh=>by have:=hr.own x hx;have:=(h.hB x hh).2;omega⟩,Nat.le_trans h.lt hr.pure.size⟩
end
section
variable (w0:World) (q:Addr) {L:Sp.Pool} (hW:Sp.Wf L) (hN:Sp.Nums L) {FR:NP} {s1 r1:Sl} {A xs:List Int} {B:Nat} (S:TxSep w0 q FR s1 r1 B) (i1:Int) (n:Sp.Node) (na nb:Nat)
include S
end
end Go.Proofs
end
