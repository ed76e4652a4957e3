import Derived.Test.YtkafbiknboamlaaDoorPa2
import Derived.Test.YtkafbiknboamlaaDoorPa1
import Derived.Test.YtkafbiknboamlaaDoorProg
import Derived.WalkKit
import Derived.Shelf.Pu.ErrVarParseUint
import Derived.Ground.MpProg
import Derived.Lib.SmallJoins
import Derived.Laws.DeepStrings4
import Derived.Recover
import Derived.KernelRfl
import Derived.ProofKit
import Derived.Carry
import Derived.OpenShut
import Derived.Stop.Joined
section
open Go Go.SE
namespace Go.Sp
theorem jBI {L:Pool} {n:Node} (hp:jU n=0) (ha:(jI n.kind).kids<1→n.a=0) (hb:(jI n.kind).kids<2→n.b=0) (hf:jM (jI n.kind) n=0) (hk:∀k∈jZ n,inP L k=true) :
  check L n=if 1+((jZ n).map (sizeOf L)).sum>4096∨(jZ n).foldl (fun d t=>max d (depthOf L t)) 0+1>64 then (0,0,52) else (1+((jZ n).map (sizeOf L)).sum,(jZ n).foldl (fun d t=>max d (depthOf L t)) 0+1,0):=by
 unfold check
 simp only
 rw [if_neg (by simp [hp]),if_neg (fun h=>?_),if_neg (by simp [hf]),if_neg (fun h=>?_)]
 ·obtain ⟨k,hk1,hk2⟩:=List.any_eq_true.1 h
  rw [hk k hk1] at hk2;cases hk2
 ·rw [Bool.or_eq_true,Bool.and_eq_true,Bool.and_eq_true] at h
  rcases h with ⟨h1,h2⟩ | ⟨h1,h2⟩
  ·rw [ha (of_decide_eq_true h1)] at h2;simp at h2
  ·rw [hb (of_decide_eq_true h1)] at h2;simp at h2
theorem mk_ok {L:Pool} {n:Node} (hW:Wf L) (hl:L.length<65536) (hp:jU n=0) (ha:(jI n.kind).kids<1→n.a=0) (hb:(jI n.kind).kids<2→n.b=0) (hf:jM (jI n.kind) n=0) (hk:∀k∈jZ n,inP L k=true)
  {sz d:Int} (hs:1+((jZ n).map (sizeOf L)).sum=sz) (hd:(jZ n).foldl (fun d t=>max d (depthOf L t)) 0+1=d) :
  ((sz>4096∨d>64)→(make L n).2.1=52)∧(¬ (sz>4096∨d>64)→∃r M,make L n=(r,0,L++M)∧inP (L++M) r=true∧kW (L++M) r=n∧Wf (L++M)∧sizeOf (L++M) r=sz∧depthOf (L++M) r=d∧(L++M).length≤L.length+1):=by
 have hc:=jBI hp ha hb hf hk
 rw [hs,hd] at hc
 refine ⟨fun h=>?_,fun h=>?_⟩
 ·rw [if_pos h] at hc
  unfold make;simp only [hc];rfl
 ·rw [if_neg h] at hc
  have h0:(make L n).2.1=0:=by
   unfold make;simp only [hc];rw [if_neg (by simp)];split
   ·rfl
   ·rw [if_neg (by omega)]
  obtain ⟨M,e⟩:=jFY L n
  obtain ⟨m1,m2,_⟩:=jDT h0
  have hw:=jHT hW n
  have hfew:=jDU L n
  rw [e] at m1 m2 hw hfew
  refine ⟨(make L n).1,M,by rw [← e,← h0],m1,m2,hw,?_,?_,hfew⟩
  ·rw [(hw.node m1).2.2.2.2.2.1,m2,← hs]
   congr 2
   exact List.map_congr_left (fun k hk'=>uA (hk k hk'))
  ·rw [(hw.node m1).2.2.2.2.2.2,m2,← hd]
   congr 1
   have:∀(l:List Int) (d:Int),(∀k∈l,inP L k=true)→l.foldl (fun d k=>max d (depthOf (L++M) k)) d=l.foldl (fun d k=>max d (depthOf L k)) d:=by
    intro l;induction l with
    | nil=>intro d _;rfl
    | cons a l ih=>intro d hh;simp only [List.foldl_cons];rw [yG (hh a (by simp))];exact ih _ (fun k hk=>hh k (by simp [hk]))
   exact this _ _ hk
structure LP (T:Tree) (sz d:Int):Prop where
 s1:1≤sz
 d1:1≤d
 yes:∀i s,0≤i→0≤s→s+sz≤4096→i+d≤64→looks i s T=(0,s+sz)
 no:∀i s,0≤i→0≤s→(4096<s+sz∨64<i+d)→(looks i s T).1=52
theorem LP0 {k f t u:Int} {x:ByteArray} (h:zR ⟨k,f,t,u,x,0,0⟩ 0=0):LP (.mk k f t u x []) 1 1:=by
 refine ⟨by omega,by omega,fun i s hi hs h1 h2=>?_,fun i s hi hs h1=>?_⟩
 ·rw [looks,if_neg (by omega),if_neg (by omega)];simp [jX,h]
 ·rw [looks];split
  ·rfl
  ·rw [if_pos (by omega)]
theorem LP1 {k f t u:Int} {x:ByteArray} {A:Tree} {sa da:Int} (h:zR ⟨k,f,t,u,x,0,0⟩ 1=0) (hA:LP A sa da):LP (.mk k f t u x [A]) (1+sa) (da+1):=by
 have a1:=hA.s1;have a2:=hA.d1;refine ⟨by omega,by omega,fun i s hi hs h1 h2=>?_,fun i s hi hs h1=>?_⟩
 ·rw [looks,if_neg (by omega),if_neg (by omega)];simp only [List.length_cons,List.length_nil,jX,h,if_pos,hA.yes (i+1) (s+1) (by omega) (by omega) (by omega) (by omega)];simp;omega
 ·rw [looks];split
  ·rfl
  ·split
   ·rfl
   ·simp only [List.length_cons,List.length_nil,jX,h,if_pos];simpa using hA.no (i+1) (s+1) (by omega) (by omega) (by omega)
theorem LP2 {k f t u:Int} {x:ByteArray} {A B:Tree} {sa da sb db:Int} (h:zR ⟨k,f,t,u,x,0,0⟩ 2=0) (hA:LP A sa da) (hB:LP B sb db):LP (.mk k f t u x [A,B]) (1+(sa+sb)) (max da db+1):=by
 have a1:=hA.s1;have a2:=hA.d1;have b1:=hB.s1;have b2:=hB.d1;refine ⟨by omega,by omega,fun i s hi hs h1 h2=>?_,fun i s hi hs h1=>?_⟩
 ·rw [looks,if_neg (by omega),if_neg (by omega)];simp only [List.length_cons,List.length_nil,jX,h,if_pos,hA.yes (i+1) (s+1) (by omega) (by omega) (by omega) (by omega),hB.yes (i+1) (s+1+sa) (by omega) (by omega) (by omega) (by omega)];simp;omega
 ·rw [looks];split
  ·rfl
  ·split
   ·rfl
   ·simp only [List.length_cons,List.length_nil,jX,h,if_pos];by_cases hc:s+1+sa≤4096∧i+1+da≤64
    ·rw [hA.yes (i+1) (s+1) (by omega) (by omega) hc.1 hc.2];simpa using hB.no (i+1) (s+1+sa) (by omega) (by omega) (by omega)
    ·have:=hA.no (i+1) (s+1) (by omega) (by omega) (by omega);rw [this];simp
end Go.Sp
end
section
open Go Go.SE
namespace Go.Sp
open Go.Proofs
theorem qJ {k f t u:Int} {x:ByteArray} {len:Nat} (h:zR ⟨k,f,t,u,x,0,0⟩ len=0):jU ⟨k,f,t,u,x,0,0⟩=0∧(len:Int)=(jI k).kids∧jM (jI k) ⟨k,f,t,u,x,0,0⟩=0:=by
 unfold zR at h;simp only at h;by_cases h1:jU ⟨k,f,t,u,x,0,0⟩=0
 ·rw [if_pos h1] at h;by_cases h2:(len:Int)≠(jI k).kids
  ·rw [if_pos h2] at h;simp at h
  ·rw [if_neg h2] at h;exact ⟨h1,Classical.byContradiction h2,by simpa using h⟩
 ·rw [if_neg h1] at h;rw [if_neg h1] at h;exact absurd h h1
theorem jHS {L:Pool} {n:Node} (hW:Wf L) (hp:jU n=0) (ha:(jI n.kind).kids<1→n.a=0) (hb:(jI n.kind).kids<2→n.b=0) (hf:jM (jI n.kind) n=0) (hk:∀k∈jZ n,inP L k=true)
  {sz d:Int} (hs:1+((jZ n).map (sizeOf L)).sum=sz) (hd:(jZ n).foldl (fun d t=>max d (depthOf L t)) 0+1=d) (h:¬ (sz>4096∨d>64)) :
  (∃r M,make L n=(r,0,L++M)∧inP (L++M) r=true∧kW (L++M) r=n∧Wf (L++M)∧sizeOf (L++M) r=sz∧depthOf (L++M) r=d∧(L++M).length≤L.length+1)∨((make L n).2.1=6∧65536≤L.length):=by
 by_cases hl:L.length<65536
 ·exact .inl ((mk_ok hW hl hp ha hb hf hk hs hd).2 h)
 have hc:=jBI hp ha hb hf hk
 rw [hs,hd,if_neg h] at hc
 cases hfd:find L n with
 | none =>
  right
  unfold make;simp only [hc,hfd]
  rw [if_neg (by simp),if_pos (by omega)]
  exact ⟨rfl,by omega⟩
 | some i =>
  left
  obtain ⟨hi,e⟩:=tK hfd
  have hm:make L n=((i:Int)+1,0,L):=by unfold make;simp only [hc,hfd];rw [if_neg (by simp)]
  have hin:inP L ((i:Int)+1)=true:=vG.2 ⟨by omega,by omega⟩
  have hn:kW L ((i:Int)+1)=n:=by rw [yP hi,e]
  have hw:=hW.node hin
  rw [hn] at hw
  refine ⟨_,[],by rw [hm,List.append_nil],by rw [List.append_nil];exact hin,by rw [List.append_nil];exact hn,by rw [List.append_nil];exact hW,?_,?_,by simp⟩
  ·rw [List.append_nil,← hs,hw.2.2.2.2.2.1]
  ·rw [List.append_nil,← hd,hw.2.2.2.2.2.2]
abbrev Grown (L:Pool) (T:Tree) (sz d:Int) (q:Int×Int×Pool):Prop:=(∃r M,q=(r,0,L++M)∧inP (L++M) r=true∧Wf (L++M)∧sizeOf (L++M) r=sz∧depthOf (L++M) r=d∧((L++M).length:Int)≤L.length+sz)∨(q.2.1=6∧65536<L.length+sz)
structure GP (T:Tree) (sz d:Int):Prop extends LP T sz d where
 grw:∀L,Wf L→sz≤4096→d≤64→Grown L T sz d (grow L T)
theorem GP0 {k f t u:Int} {x:ByteArray} (h:zR ⟨k,f,t,u,x,0,0⟩ 0=0):GP (.mk k f t u x []) 1 1:=by
 refine ⟨LP0 h,fun L hW h1 h2=>?_⟩;obtain ⟨o1,o2,o3⟩:=qJ h;have hk:jZ ⟨k,f,t,u,x,0,0⟩=[]:=by simp [jZ,← o2]
 rw [grow,zH];rcases jHS (n:=⟨k,f,t,u,x,0,0⟩) hW o1 (fun _=>rfl) (fun _=>rfl) o3 (by rw [hk];simp) (sz:=1) (d:=1) (by rw [hk];rfl) (by rw [hk];rfl) (by omega) with ⟨r,M,e,i,_,w,s,dd,l⟩ | ⟨e,l⟩
 ·exact .inl ⟨r,M,e,i,w,s,dd,by omega⟩
 ·exact .inr ⟨e,by omega⟩
theorem GP1 {k f t u:Int} {x:ByteArray} {A:Tree} {sa da:Int} (h:zR ⟨k,f,t,u,x,0,0⟩ 1=0) (hA:GP A sa da):GP (.mk k f t u x [A]) (1+sa) (da+1):=by
 refine ⟨LP1 h hA.toLP,fun L hW h1 h2=>?_⟩;obtain ⟨o1,o2,o3⟩:=qJ h;have s1:=hA.s1;have d1:=hA.d1;rw [grow];rcases hA.grw L hW (by omega) (by omega) with ⟨r,M,e,i,w,s,dd,l⟩ | ⟨e,l⟩
 ·rw [zH,e,if_neg (by simp),if_pos rfl,zH];have hk:jZ ⟨k,f,t,u,x,r,0⟩=[r]:=by simp [jZ,← o2]
  rcases jHS (n:=⟨k,f,t,u,x,r,0⟩) w o1 (fun hh=>by simp only at hh;omega) (fun _=>rfl) o3 (by rw [hk];intro k hk;simp at hk;rw [hk];exact i) (sz:=1+sa) (d:=da+1) (by rw [hk];simp [s]) (by rw [hk];simp [dd];omega) (by omega) with ⟨r',M',e',i',_,w',s',dd',l'⟩ | ⟨e',l'⟩
  ·exact .inl ⟨r',M++M',by rw [← List.append_assoc];exact e',by rw [← List.append_assoc];exact i',by rw [← List.append_assoc];exact w',by rw [← List.append_assoc];exact s',by rw [← List.append_assoc];exact dd',by rw [← List.append_assoc];omega⟩
  ·exact .inr ⟨e',by omega⟩
 ·rw [zH,if_pos (by rw [e];decide)];exact .inr ⟨e,by omega⟩
theorem GP2 {k f t u:Int} {x:ByteArray} {A B:Tree} {sa da sb db:Int} (h:zR ⟨k,f,t,u,x,0,0⟩ 2=0) (hA:GP A sa da) (hB:GP B sb db):GP (.mk k f t u x [A,B]) (1+(sa+sb)) (max da db+1):=by
 refine ⟨LP2 h hA.toLP hB.toLP,fun L hW h1 h2=>?_⟩;obtain ⟨o1,o2,o3⟩:=qJ h;have s1:=hA.s1;have d1:=hA.d1;have s2:=hB.s1;have d2:=hB.d1;rw [grow];rcases hA.grw L hW (by omega) (by omega) with ⟨r,M,e,i,w,s,dd,l⟩ | ⟨e,l⟩
 ·rw [zH,e,if_neg (by simp),if_pos rfl];simp only;rcases hB.grw (L++M) w (by omega) (by omega) with ⟨r2,M2,e2,i2,w2,ss2,dd2,l2⟩ | ⟨e2,l2⟩
  ·rw [zH,e2,if_neg (by simp),if_neg (by omega),zH];have hk:jZ ⟨k,f,t,u,x,r,r2⟩=[r,r2]:=by simp [jZ,← o2]
   rcases jHS (n:=⟨k,f,t,u,x,r,r2⟩) w2 o1 (fun hh=>by simp only at hh;omega) (fun hh=>by simp only at hh;omega) o3 (by rw [hk];intro k hk;simp at hk;rcases hk with rfl | rfl;exact jEG i;exact i2) (sz:=1+(sa+sb)) (d:=max da db+1) (by rw [hk];simp [-List.append_assoc,uA i,s,ss2]) (by rw [hk];simp [-List.append_assoc,yG i,dd,dd2];omega) (by omega) with ⟨r',M',e',i',_,w',s',dd',l'⟩ | ⟨e',l'⟩
   ·exact .inl ⟨r',M++M2++M',by rw [← List.append_assoc,← List.append_assoc];exact e',by rw [← List.append_assoc,← List.append_assoc];exact i',by rw [← List.append_assoc,← List.append_assoc];exact w',by rw [← List.append_assoc,← List.append_assoc];exact s',by rw [← List.append_assoc,← List.append_assoc];exact dd',by rw [← List.append_assoc,← List.append_assoc];omega⟩
   ·exact .inr ⟨e',by omega⟩
  ·rw [zH,if_pos (by rw [e2];decide)];exact .inr ⟨e2,by omega⟩
 ·rw [zH,if_pos (by rw [e];decide)];exact .inr ⟨e,by omega⟩
theorem GP.of {T:Tree} {sz d:Int} (h:GP T sz d) (hs:sz≤4096) (hd:d≤64) {L:Pool} (hW:Wf L):(Sp.of L T).2.1=0∨(Sp.of L T=(0,6,L)∧65536<L.length+sz):=by
 unfold Sp.of;rw [h.yes 0 0 (by omega) (by omega) (by omega) (by omega),if_neg (by simp)];rcases h.grw L hW hs hd with ⟨r,M,e,_⟩ | ⟨e,l⟩
 ·rw [e];simp
 ·rw [if_pos (by rw [e];decide),e];exact .inr ⟨rfl,l⟩
theorem gG (n:Int):IntKind.u64.wrap n=(u64N n:Int)∧u64N n<18446744073709551616:=by
 unfold u64N;rw [IntKind.wrap_u64];omega
theorem lN {k f t u:Int} {x:ByteArray} {len:Nat} (h:zR ⟨k,f,t,u,x,0,0⟩ len=0):x.size≤64∧
  ((k=1∧len=0)∨(k=2∧len=0)∨(k=3∧len=0)∨(k=4∧len=2)∨(k=5∧len=1)∨(k=6∧len=0)∨(k=7∧len=1)∨(k=8∧len=1)∨(k=9∧len=1)):=by
 obtain ⟨h1,h2,h3⟩:=qJ h
 have hx:x.size≤64:=by
  unfold jM at h3;simp only at h3;split at h3
  ·cases h3
  ·split at h3
   ·cases h3
   ·omega
 have hk:1≤k∧k≤9:=by
  unfold jU at h1;simp only at h1;split at h1
  ·cases h1
  ·rename_i hh;have:vK k=true:=by
    cases hi:vK k with
    | true=>rfl
    | false=>rw [hi] at hh;simp at hh
   unfold vK at this;rw [Bool.and_eq_true,decide_eq_true_eq,decide_eq_true_eq] at this;exact this
 refine ⟨hx,?_⟩
 rcases (show k=1∨k=2∨k=3∨k=4∨k=5∨k=6∨k=7∨k=8∨k=9 by omega) with rfl | rfl | rfl | rfl | rfl | rfl | rfl | rfl | rfl <;> simp [jI] at h2 <;> simp <;> omega
theorem tH {k f t u:Int} {x:ByteArray} (hu:u.toNat<18446744073709551616) (hx:x.size≤64) (nd:∀n,n<18446744073709551616→(Lib.decDigits n).length≤20):(vI k f t u x).length≤300:=by
 have h1:=nd (u64N f) (gG f).2;have h2:=nd (u64N t) (gG t).2;have h3:=nd u.toNat hu;have h4:(jCN x.data.toList).length≤258:=by
  unfold jCN;have:=yN x.data.toList;have hl:x.data.toList.length=x.size:=by rw [Array.length_toList];rfl
  simp only [List.length_cons,List.length_append,List.length_nil];omega
 unfold vI
 repeat' split
 all_goals first | omega | (simp only [List.length_cons,List.length_append,List.length_nil];omega)
theorem jHJ (nd:∀n,n<18446744073709551616→(Lib.decDigits n).length≤20) (t:Tree):Good t→NumT t→(shw t).length≤400*cnt t:=by
 induction t using Tree.ind with
 | h k f t u x ks ih =>
  intro hg hn
  obtain ⟨_,_,_,_,_,_,own,kids⟩:=hg
  obtain ⟨_,_,_,_,_,_,hu,hn⟩:=hn
  have hu:0≤u∧u<18446744073709551616:=hu
  obtain ⟨hx,hk⟩:=lN own
  have hh:=tH (k:=k) (f:=f) (t:=t) (u:=u) (x:=x) (by omega) hx nd
  unfold shw cnt
  have key:(yJ ks).length≤100+400*cntAll ks:=by
   match ks,kids,ih,hn with
   | [],_,_,_=>simp [yJ]
   | [a],kids,ih,hn =>
    have:=ih 0 (by simp) (kids 0 (by simp)) (hn 0 (by simp))
    simp only [List.getElem_cons_zero] at this
    simp only [yJ,jAZ,cntAll,List.length_cons,List.length_append,List.length_nil];omega
   | a :: b :: r,kids,ih,hn =>
    have h1:=ih 0 (by simp) (kids 0 (by simp)) (hn 0 (by simp))
    have h2:=ih 1 (by simp) (kids 1 (by simp)) (hn 1 (by simp))
    simp only [List.getElem_cons_zero,List.getElem_cons_succ] at h1 h2
    simp only [yJ,jAZ,cntAll,List.length_cons,List.length_append,List.length_nil];omega
  rw [List.length_append];omega
end Go.Sp
end
section
open Go Go.SE
namespace Go.Proofs
attribute [local irreducible] Calls
end Go.Proofs
end
section
open Go Go.SE
namespace Go.Proofs
open Tryd
attribute [local irreducible] Calls
theorem TreeAt.hst {S:NP} {w0 w w':World} {H H':NP} {s:Sl} {t:Sp.Tree} (h:TreeAt S w s t) (hs:Hst w0 H w H' w') (hd:∀b,S b→b<w.heap.size∧¬ H b):TreeAt S w' s t :=
 h.ext hs.ext (fun b hb hh=>hs.disj (G:=S) hd b hb hh)
theorem lY {S:NP} (t:Sp.Tree):∀(s:Sl) (most:Int) (w0:World),0≤most→most≤1000000000→TreeAt S w0 s t→(∀b,S b→b<w0.heap.size) →
  Calls prog 15 #[.agg (kT t s).toArray,.int .i64 most] w0 (fun e w'=>∃r:Int,e=.returned (.int .i64 r)∧(r=Sp.yC most t∧Pure w0 w')):=by
 induction t using Sp.Tree.ind with
 | h k f t u x ks ih =>
 intro s most w0 hm0 hm hT hSw
 suffices key:∀K:Int→WP,(∀r w',(r=Sp.yC most (.mk k f t u x ks)∧Pure w0 w')→K r w')→m_M k f t u x s most w0 K from
  w_M _ _ _ _ _ _ _ w0 _ (key _ (fun _ _ h=>h))
 intro K hK
 have hlen:s.len=ks.length:=by cases hT;assumption
 have hfit:ks.length≤9223372036854775807:=by cases hT;assumption
 unfold m_M
 intro H1 w1 hs1
 refine ⟨fun n i H w'=>∃j:Nat,i=j∧j≤ks.length∧1≤n∧n≤most+1∧Pure w0 w'∧Sp.kF most 1 ks=Sp.kF most n (ks.drop j),fun _ i _=>((ks.length:Int) - i).toNat,⟨0,rfl,Nat.zero_le _,Int.le_refl _,by omega,hs1.first,rfl⟩,?_⟩
 rintro n _ Hl wl hl ⟨j,rfl,hj,hn1,hn2,El,heq⟩
 unfold m_M_l1
 refine ⟨fun hc=>?_,fun hc=>?_⟩
 ·simp only [Bool.and_eq_true,decide_eq_true_eq] at hc
  have hlt:j<ks.length:=by omega
  rw [List.drop_eq_getElem_cons hlt,Sp.kF,if_pos hc.2] at heq
  have hT1:=hT.pure El
  cases hT1 with
  | mk _ _ _ _ _ _ _ rs len fit row kid =>
  obtain ⟨a,hat,ha,hr⟩:=row j hlt
  refine ⟨a,hat,?_⟩
  intro H2 w2 hs2
  have hd:∀b,S b→¬ H2 b:=fun b hb hh=>by have:=hs2.old _ hh;have:=hSw b hb;omega
  refine ⟨_,_,_,_,_,rs j,hs2.ext.row hr (hd _ ha),?_⟩
  rw [i64 (n:=most - n) (by omega) (by omega)]
  refine (ih j hlt (rs j) (most - n) w2 (by omega) (by omega) ((kid j hlt).ext hs2.ext hd) (fun b hb=>by have:=hSw b hb;have:=(El.hst hs2).size;omega)).mono ?_
  rintro _ w3 ⟨r,rfl,rfl,E3⟩
  have hpf:=Sp.gV ks[j] (most - n) (by omega)
  refine ⟨_,rfl,E3.keptP,?_⟩
  rw [gB hlt (by omega),i64 (n:=n+Sp.yC (most - n) ks[j]) (by omega) (by omega)]
  exact ⟨⟨j+1,rfl,hlt,by omega,by omega,(El.hst hs2).trans E3,heq⟩,jDW hlt⟩
 ·intro H2 w2 hs2
  refine hK _ _ ⟨?_,El.hst hs2⟩
  rw [Sp.yC,heq]
  by_cases hj2:j=ks.length
  ·rw [hj2,List.drop_length];rfl
  ·have hlt:j<ks.length:=by omega
   rw [List.drop_eq_getElem_cons hlt,Sp.kF,if_neg]
   intro h
   have:decide (n≤most)=true:=decide_eq_true h
   have h2:decide ((j:Int)<(s.len:Int))=true:=decide_eq_true (by omega)
   rw [this,h2] at hc;cases hc
theorem oR {xs ys:List Sp.Tree} {j:Nat} (hl:xs.length=ys.length) (hj:j<xs.length):Sp.kC (xs.drop j) (ys.drop j)=(Sp.lL xs[j] (ys[j]'(by omega)) && Sp.kC (xs.drop (j+1)) (ys.drop (j+1))):=by
 rw [List.drop_eq_getElem_cons hj,List.drop_eq_getElem_cons (show j<ys.length by omega),Sp.kC]
theorem gR:∀{xs ys:List Sp.Tree},Sp.kC xs ys=true→xs.length=ys.length
 | [],[],_=>rfl
 | a :: xs,b :: ys,h=>by simp only [Sp.kC,Bool.and_eq_true] at h;simp [gR h.2]
 | [],b :: ys,h=>by simp [Sp.kC] at h
 | a :: xs,[],h=>by simp [Sp.kC] at h
theorem qK {S:NP} (t:Sp.Tree):∀(t':Sp.Tree) (s s':Sl) (w0:World),TreeAt S w0 s t→TreeAt S w0 s' t'→(∀b,S b→b<w0.heap.size) →
  Calls prog 14 #[.agg (kT t s).toArray,.agg (kT t' s').toArray] w0 (fun e w'=>∃r:Bool,e=.returned (.bool r)∧(r=Sp.lL t t'∧Pure w0 w')):=by
 induction t using Sp.Tree.ind with
 | h k f t u x ks ih =>
 intro t' s s' w0 hT hT' hSw
 obtain ⟨k',f',tt',u',x',ks'⟩:=t'
 suffices key:∀K:Bool→WP,(∀r w',(r=Sp.lL (.mk k f t u x ks) (.mk k' f' tt' u' x' ks')∧Pure w0 w')→K r w')→m_L k f t u x s k' f' tt' u' x' s' w0 K from
  w_L _ _ _ _ _ _ _ _ _ _ _ _ w0 _ (key _ (fun _ _ h=>h))
 intro K hK
 have hlen:s.len=ks.length:=by cases hT;assumption
 have hlen':s'.len=ks'.length:=by cases hT';assumption
 have hfit:ks.length≤9223372036854775807:=by cases hT;assumption
 unfold m_L
 rintro y1 rfl
 refine ⟨fun h=>?_,fun h=>?_⟩
 ·intro H7 w7 hs7
  refine hK _ _ ⟨?_,hs7.first⟩
  symm
  apply Bool.eq_false_iff.2
  intro hs
  simp only [Sp.lL,Bool.and_eq_true,decide_eq_true_eq] at hs
  obtain ⟨⟨⟨⟨⟨rfl,rfl⟩,rfl⟩,rfl⟩,rfl⟩,h6⟩:=hs
  have:=gR h6
  simp [hlen,hlen',this] at h
 ·have hne : k = k' ∧ f = f' ∧ t = tt' ∧ u = u' ∧ x = x' ∧ ks.length = ks'.length := by
   simp only [Bool.or_eq_false_iff,bne_eq_false_iff_eq,Bool.not_eq_false',decide_eq_true_eq] at h;obtain ⟨⟨⟨⟨⟨h1,h2⟩,h3⟩,h4⟩,h5⟩,h6⟩:=h;exact ⟨h1,h2,h3,h4,h5,by omega⟩
  obtain ⟨rfl,rfl,rfl,rfl,rfl,hll⟩:=hne
  have hsp:Sp.lL (.mk k f t u x ks) (.mk k f t u x ks')=Sp.kC ks ks':=by simp [Sp.lL]
  rw [hsp] at hK
  intro H7 w7 hs7
  refine ⟨fun i H w'=>∃j:Nat,i=j∧j≤ks.length∧Pure w0 w'∧Sp.kC ks ks'=Sp.kC (ks.drop j) (ks'.drop j),fun i _=>((ks.length:Int) - i).toNat,⟨0,rfl,Nat.zero_le _,hs7.first,rfl⟩,?_⟩
  rintro _ Hl wl hl ⟨j,rfl,hj,El,heq⟩
  unfold m_L_l1
  refine ⟨fun hc=>?_,fun hc=>?_⟩
  ·have hlt:=jDV hlen hc
   have hlt':j<ks'.length:=by omega
   rw [oR hll hlt] at heq
   have g1:∃a r,At s j 6 a∧S a.block∧(∀w',Pure w0 w'→Row w' a (kT ks[j] r))∧TreeAt S w0 r ks[j]:=by
    cases hT with
    | mk _ _ _ _ _ _ _ rs len fit row kid=>obtain ⟨a,h1,h2,h3⟩:=row j hlt;exact ⟨a,rs j,h1,h2,fun w' E=>E.row h3 id,kid j hlt⟩
   have g2:∃a r,At s' j 6 a∧S a.block∧(∀w',Pure w0 w'→Row w' a (kT ks'[j] r))∧TreeAt S w0 r ks'[j]:=by
    cases hT' with
    | mk _ _ _ _ _ _ _ rs len fit row kid=>obtain ⟨a,h1,h2,h3⟩:=row j hlt';exact ⟨a,rs j,h1,h2,fun w' E=>E.row h3 id,kid j hlt'⟩
   obtain ⟨a,r,hat,_,hr,hk⟩:=g1
   obtain ⟨a',r',hat',_,hr',hk'⟩:=g2
   refine ⟨fun w'=>Pure w0 w',El.trans (Ext.drew wl),?_⟩
   rintro _ rfl
   have Ed:=El.trans (Ext.drew wl)
   refine ⟨a,hat,_,_,_,_,_,r,fun w' h=>hr w' h,a',hat',_,_,_,_,_,r',fun w' h=>hr' w' h,?_⟩
   refine (ih j hlt ks'[j] r r' wl.drew (hk.pure Ed) (hk'.pure Ed) (fun b hb=>by have:=hSw b hb;have:=Ed.size;omega)).mono ?_
   rintro _ w13 ⟨q,rfl,rfl,E13⟩
   refine ⟨_,rfl,Ed.trans E13,E13.keptP,fun h=>?_,fun h=>?_⟩
   ·have h:Sp.lL ks[j] ks'[j]=false:=by simpa using h
    exact hK _ _ ⟨by rw [heq,h];rfl,Ed.trans E13⟩
   ·have h:Sp.lL ks[j] ks'[j]=true:=by simpa using h
    rw [h,Bool.true_and] at heq
    rw [gB hlt (by omega)]
    exact ⟨⟨j+1,rfl,hlt,Ed.trans E13,heq⟩,jDW hlt⟩
  ·have hge:=jEK hlen hj hc
   subst hge
   rw [List.drop_length,hll,List.drop_length] at heq
   exact hK _ _ ⟨heq.symm,El⟩
end Go.Proofs
end
section
open Go Go.SE
namespace Go.Proofs
attribute [local irreducible] Calls
end Go.Proofs
end
section
open Go Go.SE
namespace Go.Proofs
open Tryd
attribute [local irreducible] Calls
theorem AppO.appAt {w0 w:World} {H:NP} {b r:Sl} {acc:List UInt8} (h:AppO w0 H w b r acc) (l:List UInt8) (hne:l≠[]) (hl:acc.length+l.length≤200000000) {p:Addr} (hp:Row w p (l.map fun c=>Value.int .u8 (c.toNat:Int))) :
  ∃s w2,(Builtin.append_ #[49,49] 49 #[r.v,(Sl.mk (some p) l.length l.length).v]).run prog w=.ok s.v w2∧Kept H w w2∧AppO w0 H w2 b s (acc++l)∧Ext r.blk w w2∧∀k,s.blk k→r.blk k∨w.heap.size≤k:=by
 obtain ⟨s,w2,hr,R,X,o⟩:=h.rows.appends (P:=prog) (ty:=49) (qs:=byr l) (c:=l.length) gP (by rw [yT];exact hp) (uK l) (jAQ l) (by intro e;exact hne (by simpa [byr] using e)) (by rw [zD,zD];omega) (by rw [zD,zD];simp [maxLen];omega)
 rw [zD] at hr
 obtain ⟨k1,k2⟩:=h.call (r2:=s) (acc2:=acc++l) ⟨by simpa [byr] using R,X,o⟩
 exact ⟨s,w2,hr,k1,k2,X,o⟩
def jHA (fd:FuncId) (t:Sp.Tree):Prop:=∀(S:NP) (sl b:Sl) (acc:List UInt8) (w0:World) (B0:Nat),TreeAt S w0 sl t→(∀k,S k→k<B0)→B0≤w0.heap.size→Rws w0 5 1 b (byr acc)→(∀k,b.blk k→B0≤k)→acc.length+400*Sp.cnt t≤80000000→(∀w,Ext (fun k=>B0≤k) w0 w→Pow w) →
 Calls prog fd #[b.v,.agg (kT t sl).toArray] w0 (fun e w'=>∃r:Sl,e=.returned r.v∧AppR w0 b r (acc++Sp.shw t) w')
abbrev ShownC (t:Sp.Tree):Prop:=jHA 19 t
set_option maxHeartbeats 1000000 in
theorem xJ (fd:FuncId) {S:NP} {w0 w2:World} {H:NP} {b b2 sa:Sl} {acc:List UInt8} {B0:Nat} {A:Sp.Tree} {a1:Addr} (cc:UInt8) (C1:WP) (hA:jHA fd A) (O:AppO w0 H w2 b b2 acc) (hbB:∀k,b.blk k→B0≤k) (hB0:B0≤w0.heap.size) (hS:∀k,S k→k<B0) (hlen:acc.length+400*Sp.cnt A≤79999900)
  (hsl:(Sp.shw A).length≤400*Sp.cnt A) (hP:∀w,Ext (fun k=>B0≤k) w0 w→Pow w) (hC:C1 w2) (hCt:∀w,C1 w→TreeAt S w sa A) (hCe:∀w w',C1 w→Ext (fun k=>B0≤k) w w'→C1 w') (K:Sl→WP) (hK:∀r w',AppR w0 b r (acc++cc :: (Sp.shw A++[41])) w'→K r w') :
  (∀(p2:Addr) (w3:World),New w2 (.cells #[(.int .u8 (cc.toNat:Int))] 5) p2 w3→C1 w3 ∧
 (∃s1:Sl,∃w4:World,(Builtin.append_ #[49,49] 49 #[b2.v,(Sl.mk (some p2) 1 1).v]).run prog w3=.ok s1.v w4∧C1 w4 ∧
 Kept H w3 w4 ∧
 (Calls prog fd #[s1.v,.agg (kT A sa).toArray] w4 (fun e w5=>∃r1:Sl,e=.returned r1.v∧C1 w5∧
  Kept H w4 w5 ∧
  ∀(p3:Addr) (w6:World),New w5 (.cells #[(.int .u8 41)] 5) p3 w6→C1 w6 ∧
  ∃s2:Sl,∃w7:World,(Builtin.append_ #[49,49] 49 #[r1.v,(Sl.mk (some p3) 1 1).v]).run prog w6=.ok s2.v w7∧C1 w7 ∧
  Kept H w6 w7 ∧
  K s2 w7)) ∧
 (∀(p4:Addr) (w8:World),New w4 (.cells #[(.int .u8 41)] 5) p4 w8→C1 w8 ∧
 Calls prog fd #[s1.v,.agg (kT A sa).toArray] w8 (fun e w9=>∃r2:Sl,e=.returned r2.v∧C1 w9∧
  Kept H w8 w9 ∧
  ∃s3:Sl,∃w10:World,(Builtin.append_ #[49,49] 49 #[r2.v,(Sl.mk (some p4) 1 1).v]).run prog w9=.ok s3.v w10∧C1 w10 ∧
  Kept H w9 w10 ∧
  K s3 w10))) ∧
 (∀(p5:Addr) (w11:World),New w3 (.cells #[(.int .u8 41)] 5) p5 w11→C1 w11 ∧
 ∃s4:Sl,∃w12:World,(Builtin.append_ #[49,49] 49 #[b2.v,(Sl.mk (some p2) 1 1).v]).run prog w11=.ok s4.v w12∧C1 w12 ∧
 Kept H w11 w12 ∧
 Calls prog fd #[s4.v,.agg (kT A sa).toArray] w12 (fun e w13=>∃r3:Sl,e=.returned r3.v∧C1 w13∧
  Kept H w12 w13 ∧
  ∃s5:Sl,∃w14:World,(Builtin.append_ #[49,49] 49 #[r3.v,(Sl.mk (some p5) 1 1).v]).run prog w13=.ok s5.v w14∧C1 w14 ∧
  Kept H w13 w14 ∧
  K s5 w14))) ∧
 (∀(p6:Addr) (w15:World),New w2 (.cells #[(.int .u8 41)] 5) p6 w15→C1 w15 ∧
 ∀(p7:Addr) (w16:World),New w15 (.cells #[(.int .u8 (cc.toNat:Int))] 5) p7 w16→C1 w16 ∧
 ∃s6:Sl,∃w17:World,(Builtin.append_ #[49,49] 49 #[b2.v,(Sl.mk (some p7) 1 1).v]).run prog w16=.ok s6.v w17∧C1 w17 ∧
 Kept H w16 w17 ∧
 Calls prog fd #[s6.v,.agg (kT A sa).toArray] w17 (fun e w18=>∃r4:Sl,e=.returned r4.v∧C1 w18∧
  Kept H w17 w18 ∧
  ∃s7:Sl,∃w19:World,(Builtin.append_ #[49,49] 49 #[r4.v,(Sl.mk (some p6) 1 1).v]).run prog w18=.ok s7.v w19∧C1 w19 ∧
  Kept H w18 w19 ∧
  K s7 w19)):=by
 have bB:∀{w:World} {r:Sl} {acc:List UInt8},AppO w0 H w b r acc→∀k,r.blk k→B0≤k:=fun O k hk=>(O.new k hk).elim (hbB k) (fun h=>by omega)
 have cP:∀{w w':World},C1 w→Pure w w'→C1 w':=fun h E=>hCe _ _ h E.pure
 have cX:∀{w w':World} {r:Sl} {acc:List UInt8},C1 w→AppO w0 H w b r acc→Ext r.blk w w'→C1 w':=fun h O X=>hCe _ _ h (X.mono (fun k _ hk=>bB O k hk))
 have lay:∀{w:World} {r:Sl} {acc2:List UInt8} {c:UInt8} {p:Addr},acc2.length≤80000000→AppO w0 H w b r acc2→C1 w→Row w p [.int .u8 (c.toNat:Int)]→∃s w',(Builtin.append_ #[49,49] 49 #[r.v,(Sl.mk (some p) 1 1).v]).run prog w=.ok s.v w'∧C1 w'∧Kept H w w'∧AppO w0 H w' b s (acc2++[c])∧Ext r.blk w w'∧∀k,s.blk k→r.blk k∨w.heap.size≤k:=fun {w r acc2 c p} hl O' hC' hp=>by
  obtain ⟨s,w',h1,h2,h3,h4,h5⟩:=O'.appAt [c] (by simp) (by simp;omega) (p:=p) hp;exact ⟨s,w',h1,cX hC' O' h4,h2,h3,h4,h5⟩
 have tree:∀{w:World} {r:Sl},AppO w0 H w b r (acc++[cc])→C1 w→Calls prog fd #[r.v,.agg (kT A sa).toArray] w (fun e w'=>∃r2:Sl,e=.returned r2.v∧C1 w'∧Kept H w w'∧AppO w0 H w' b r2 (acc++[cc]++Sp.shw A)∧Ext r.blk w w'):=fun {w r} O' hC'=>by
  have hE:Ext (fun k=>B0≤k) w0 w:=O'.ext.mono (fun k _ hk=>hbB k hk);refine (hA S sa r (acc++[cc]) w B0 (hCt w hC') hS (by have:=O'.ext.size;omega) O'.rows (bB O') (by simp;omega) (fun w' E=>hP w' (hE.trans E))).mono ?_;rintro _ w' ⟨r2,rfl,hR⟩;obtain ⟨k1,k2⟩:=O'.call hR;exact ⟨r2,rfl,cX hC' O' hR.ext,k1,k2,hR.ext⟩
 have l2:(acc++[cc]++Sp.shw A).length≤80000000:=by simp only [List.length_append,List.length_cons,List.length_nil];omega
 have fin:∀{w:World} {s:Sl},AppO w0 H w b s (acc++[cc]++Sp.shw A++[41])→K s w:=fun O'=>hK _ _ (by have:=O'.done;simpa using this)
 refine ⟨fun p2 w3 n2=>?_,fun p6 w15 n6=>?_⟩
 ·have E3:Pure w2 w3:=Ext.new n2
  have O3:=O.pure E3
  have c3:=cP hC E3
  have R2:=(Box.of_new n2).row
  have y2:=n2.at_size
  refine ⟨c3,?_,fun p5 w11 n5=>?_⟩
  ·obtain ⟨s1,w4,h1,c4,k4,O4,X4,o4⟩:=lay (c:=cc) (by omega) O3 c3 R2
   refine ⟨s1,w4,h1,c4,k4,?_,fun p4 w8 n4=>?_⟩
   ·refine (tree O4 c4).mono ?_
    rintro _ w5 ⟨r1,rfl,c5,k5,O5,X5⟩
    refine ⟨r1,rfl,c5,k5,fun p3 w6 n3=>?_⟩
    have E6:Pure w5 w6:=Ext.new n3
    obtain ⟨s2,w7,h2,c7,k7,O7,_⟩:=lay (c:=41) l2 (O5.pure E6) (cP c5 E6) (Box.of_new n3).row
    exact ⟨cP c5 E6,s2,w7,h2,c7,k7,fin O7⟩
   ·have E8:Pure w4 w8:=Ext.new n4
    have c8:=cP c4 E8
    refine ⟨c8,?_⟩
    have O8:=O4.pure E8
    refine (tree O8 c8).mono ?_
    rintro _ w9 ⟨r2,rfl,c9,k9,O9,X9⟩
    have y4:=n4.at_size
    have R9:=X9.row (Box.of_new n4).row (fun hh=>by have:=O4.rows.lt hh;omega)
    obtain ⟨s3,w10,h3,c10,k10,O10,_⟩:=lay (c:=41) l2 O9 c9 R9
    exact ⟨r2,rfl,c9,k9,s3,w10,h3,c10,k10,fin O10⟩
  ·have E11:Pure w3 w11:=Ext.new n5
   have O11:=O3.pure E11
   have c11:=cP c3 E11
   have y5:=n5.at_size
   refine ⟨c11,?_⟩
   obtain ⟨s4,w12,h4,c12,k12,O12,X12,o12⟩:=lay (c:=cc) (by omega) O11 c11 (((Box.of_new n2).pure E11).row)
   refine ⟨s4,w12,h4,c12,k12,?_⟩
   refine (tree O12 c12).mono ?_
   rintro _ w13 ⟨r3,rfl,c13,k13,O13,X13⟩
   have z11:=(Box.of_new n5).lt
   have nb:¬ b2.blk p5.block:=fun hh=>by have:=O3.rows.lt hh;omega
   have R13:=X13.row (X12.row (Box.of_new n5).row nb) (fun hh=>(o12 _ hh).elim nb (fun h=>by omega))
   obtain ⟨s5,w14,h5,c14,k14,O14,_⟩:=lay (c:=41) l2 O13 c13 R13
   exact ⟨r3,rfl,c13,k13,s5,w14,h5,c14,k14,fin O14⟩
 ·have E15:Pure w2 w15:=Ext.new n6
  have O15:=O.pure E15
  have c15:=cP hC E15
  have y6:=n6.at_size
  refine ⟨c15,fun p7 w16 n7=>?_⟩
  have E16:Pure w15 w16:=Ext.new n7
  have O16:=O15.pure E16
  have c16:=cP c15 E16
  refine ⟨c16,?_⟩
  obtain ⟨s6,w17,h6,c17,k17,O17,X17,o17⟩:=lay (c:=cc) (by omega) O16 c16 (Box.of_new n7).row
  refine ⟨s6,w17,h6,c17,k17,?_⟩
  refine (tree O17 c17).mono ?_
  rintro _ w18 ⟨r4,rfl,c18,k18,O18,X18⟩
  have z15:=(Box.of_new n6).lt
  have z16:=E16.size
  have nb:¬ b2.blk p6.block:=fun hh=>by have:=O.rows.lt hh;omega
  have R18:=X18.row (X17.row ((Box.of_new n6).pure E16).row nb) (fun hh=>(o17 _ hh).elim nb (fun h=>by omega))
  obtain ⟨s7,w19,h7,c19,k19,O19,_⟩:=lay (c:=41) l2 O18 c18 R18
  exact ⟨r4,rfl,c18,k18,s7,w19,h7,c19,k19,fin O19⟩
end Go.Proofs
namespace Go.Proofs
open Tryd
attribute [local irreducible] Calls
theorem jFH {S:NP} {w0 w:World} {H:NP} {b b2 xs:Sl} {acc:List UInt8} {B0:Nat} {A:Sp.Tree} {k f t u:Int} {y:ByteArray} (hA:ShownC A) (O:AppO w0 H w b b2 acc) (hbB:∀k,b.blk k→B0≤k) (hB0:B0≤w0.heap.size) (hS:∀k,S k→k<B0) (hlen:acc.length+400*Sp.cnt A≤79999900)
  (hsl:(Sp.shw A).length≤400*Sp.cnt A) (hP:∀w,Ext (fun k=>B0≤k) w0 w→Pow w) (hT:TreeAt S w xs (.mk k f t u y [A])) :
  m_H_j1 xs b2 H w (fun r w'=>AppR w0 b r (acc++Sp.yJ [A]) w'):=by
 unfold m_H_j1
 cases hT with
 | mk _ _ _ _ _ _ _ rs len fit row kid =>
 obtain ⟨a1,h1,h2,h3⟩:=row 0 (by simp)
 have k0:=kid 0 (by simp)
 simp only [List.getElem_cons_zero] at h3 k0
 generalize rs 0=sa at *
 obtain ⟨kk,ff,tt,uu,yy,ks⟩:=A
 refine ⟨fun w'=>Row w' a1 (kT (.mk kk ff tt uu yy ks) sa)∧TreeAt S w' sa (.mk kk ff tt uu yy ks),⟨(Ext.drew (F:=None) w).row h3 id,k0.pure (Ext.drew w)⟩,?_⟩
 rintro _ rfl
 refine ⟨a1,h1,kk,ff,tt,uu,yy,sa,fun _ h=>h.1,?_⟩
 exact xJ _ (S:=S) (B0:=B0) (A:=.mk kk ff tt uu yy ks) (a1:=a1) 40 (fun w'=>Row w' a1 (kT (.mk kk ff tt uu yy ks) sa)∧TreeAt S w' sa (.mk kk ff tt uu yy ks)) hA (O.pure (Ext.drew w)) hbB hB0 hS hlen hsl hP ⟨(Ext.drew (F:=None) w).row h3 id,k0.pure (Ext.drew w)⟩ (fun _ h=>h.2)
  (fun _ _ h E=>⟨E.row h.1 (fun hh=>by have:=hS _ h2;omega),h.2.ext E (fun b hb hh=>by have:=hS b hb;omega)⟩) (fun r w'=>AppR w0 b r (acc++Sp.yJ [.mk kk ff tt uu yy ks]) w') (fun r w' h=>by simpa [Sp.yJ,Sp.jAZ] using h)
set_option maxHeartbeats 1000000 in
theorem jIC (t:Sp.Tree):Sp.Good t→Sp.NumT t→ShownC t:=by
 induction t using Sp.Tree.ind with
 | h k f t u y ks ih =>
  intro hg hn S sl b acc w0 B0 hT hS hB0 hR hbB hlen hP
  obtain ⟨_,_,_,_,_,_,own,kids⟩:=hg
  obtain ⟨_,_,_,_,_,_,hu,hnk⟩:=hn
  have hu:0≤u∧u<18446744073709551616:=hu
  obtain ⟨hy,hk⟩:=Sp.lN own
  have nd:∀n,n<18446744073709551616→(Lib.decDigits n).length≤20:=fun n h=>nd20 h
  have hh:=Sp.tH (k:=k) (f:=f) (t:=t) (u:=u) (x:=y) (by omega) hy nd
  have hlens:∀i (hi:i<ks.length),(Sp.shw ks[i]).length≤400*Sp.cnt ks[i]:=fun i hi=>Sp.jHJ nd ks[i] (kids i hi) (hnk i hi)
  refine w_H b k f t u y sl w0 (fun r w'=>AppR w0 b r (acc++Sp.shw (.mk k f t u y ks)) w') ?_
  unfold m_H
  have O:=AppO.start hR
  have eB:∀{H:NP} {w:World} {r:Sl} {acc:List UInt8},AppO w0 H w b r acc→Ext (fun k=>B0≤k) w0 w:=fun O=>O.ext.mono (fun k _ hk=>hbB k hk)
  have hacc:acc.length≤79999600:=by have:=Sp.jEN (.mk k f t u y ks);omega
  unfold Sp.cnt at hlen
  unfold Sp.shw Sp.vI
  have num:∀(c:UInt8) (n:Nat) (hn:n<18446744073709551616) {H:NP} {w:World} {r:Sl} {acc2:List UInt8},acc2.length≤80000000→AppO w0 H w b r acc2→Calls prog 30 #[r.v,.int .u8 (c.toNat:Int),.int .u64 (n:Int)] w (fun e w'=>∃r2:Sl,e=.returned r2.v∧Kept H w w'∧AppO w0 H w' b r2 (acc2++c :: Lib.decDigits n)):=fun c n hn {H w r acc2} hl O'=>by
   have bB:∀k,r.blk k→B0≤k:=fun k hk=>(O'.new k hk).elim (hbB k) (fun h=>by omega);refine (jCM r acc2 c n hn w O'.rows (by omega) (fun w' E=>hP w' ((eB O').trans (E.mono (fun k _ hk=>bB k hk))))).mono ?_;rintro _ w' ⟨r2,rfl,hA⟩;obtain ⟨k1,k2⟩:=O'.call hA;exact ⟨r2,rfl,k1,k2⟩
  have up:∀{H:NP} {w:World} {r:Sl} {acc2:List UInt8},AppO w0 H w b r acc2→TreeAt S w sl (.mk k f t u y ks):=fun O'=>hT.ext (eB O') (fun b hb hh=>by have:=hS b hb;omega)
  have tail:∀{H:NP} {w:World} {r:Sl} {acc2:List UInt8} {A:Sp.Tree},ks=[A]→acc2.length≤acc.length+300→AppO w0 H w b r acc2→m_H_j1 sl r H w (fun r w'=>AppR w0 b r (acc2++Sp.yJ ks) w'):=fun {H w r acc2 A} e hl O'=>by
   subst e;have:=Sp.xX [A];simp only [Sp.cntAll] at hlen;have h0:=hlens 0 (by simp);simp only [List.getElem_cons_zero] at h0;exact jFH (by have:=ih 0 (by simp) (kids 0 (by simp)) (hnk 0 (by simp));simpa using this) O' hbB hB0 hS (by omega) h0 hP (up O')
  have one:ks.length=1→∃A,ks=[A]:=fun h=>List.length_eq_one_iff.1 h
  have nil0:ks.length=0→ks=[]:=fun h=>List.length_eq_zero_iff.1 h
  obtain ⟨ef,lf⟩:=Sp.gG f
  obtain ⟨et,lt⟩:=Sp.gG t
  rw [ef,et]
  rcases hk with ⟨rfl,hl⟩ | ⟨rfl,hl⟩ | ⟨rfl,hl⟩ | ⟨rfl,hl⟩ | ⟨rfl,hl⟩ | ⟨rfl,hl⟩ | ⟨rfl,hl⟩ | ⟨rfl,hl⟩ | ⟨rfl,hl⟩
  ·refine Br.t (by decide) (fun H1 w1 hs1=>?_)
   refine (num 110 _ lf (by omega) (O.hst hs1)).mono ?_
   rintro _ w2 ⟨r,rfl,k2,O2⟩
   exact ⟨r,rfl,k2,by have:=O2.done;rw [nil0 hl];simpa [Sp.yJ] using this⟩
  ·refine Br.f (by decide) (Br.t (by decide) (fun H1 w1 hs1=>?_))
   obtain ⟨n,rfl⟩:∃n:Nat,u=n:=⟨u.toNat,by omega⟩
   refine (num 35 n (by omega) (by omega) (O.hst hs1)).mono ?_
   rintro _ w2 ⟨r,rfl,k2,O2⟩
   exact ⟨r,rfl,k2,by have:=O2.done;rw [nil0 hl];simpa [Sp.yJ] using this⟩
  ·refine Br.f (by decide) (Br.f (by decide) (Br.f (by decide) (Br.t (by decide) (fun H1 w1 hs1=>?_))))
   have O1:=O.hst hs1
   refine (jCL b acc y w1 O1.rows (by omega) (by omega)).mono ?_
   rintro _ w2 ⟨r,rfl,hA⟩
   obtain ⟨k1,k2⟩:=O1.call hA
   exact ⟨r,rfl,k1,by have:=k2.done;rw [nil0 hl];simpa [Sp.yJ] using this⟩
  ·-- a pair
   obtain ⟨A,B,rfl⟩:∃A B,ks=[A,B]:=by
    match ks,hl with
    | [A,B],_=>exact ⟨A,B,rfl⟩
   refine Br.f (by decide) (Br.f (by decide) (Br.f (by decide) (Br.f (by decide) (Br.t (by decide) (fun H1 w1 hs1=>?_)))))
   have O1:=O.hst hs1
   simp only [Sp.cntAll] at hlen
   have T1:=up O1
   have iA:=ih 0 (by simp) (kids 0 (by simp)) (hnk 0 (by simp))
   have iB:=ih 1 (by simp) (kids 1 (by simp)) (hnk 1 (by simp))
   have lA:=hlens 0 (by simp)
   have lB:=hlens 1 (by simp)
   simp only [List.getElem_cons_zero,List.getElem_cons_succ] at iA iB lA lB
   cases T1 with
   | mk _ _ _ _ _ _ _ rs len fit row kid =>
   obtain ⟨a1,p1,p2,p3⟩:=row 0 (by simp)
   obtain ⟨a2,q1,q2,q3⟩:=row 1 (by simp)
   have k0:=kid 0 (by simp)
   have k1:=kid 1 (by simp)
   simp only [List.getElem_cons_zero,List.getElem_cons_succ] at p3 q3 k0 k1
   generalize rs 0=sa at *
   generalize rs 1=sb at *
   obtain ⟨ka,fa,ta,ua,ya,ksa⟩:=A
   obtain ⟨kb,fb,tb,ub,yb,ksb⟩:=B
   have CE:∀w w',(Row w a1 (kT (.mk ka fa ta ua ya ksa) sa)∧TreeAt S w sa (.mk ka fa ta ua ya ksa)∧Row w a2 (kT (.mk kb fb tb ub yb ksb) sb)∧TreeAt S w sb (.mk kb fb tb ub yb ksb))→Ext (fun k=>B0≤k) w w'→(Row w' a1 (kT (.mk ka fa ta ua ya ksa) sa)∧TreeAt S w' sa (.mk ka fa ta ua ya ksa)∧Row w' a2 (kT (.mk kb fb tb ub yb ksb) sb)∧TreeAt S w' sb (.mk kb fb tb ub yb ksb)):=fun w w' h E =>
    ⟨E.row h.1 (fun hh=>by have:=hS _ p2;omega),h.2.1.ext E (fun b hb hh=>by have:=hS b hb;omega),E.row h.2.2.1 (fun hh=>by have:=hS _ q2;omega),h.2.2.2.ext E (fun b hb hh=>by have:=hS b hb;omega)⟩
   have c1:=CE _ _ ⟨p3,k0,q3,k1⟩ (Ext.drew (F:=fun k=>B0≤k) w1)
   refine ⟨fun w=>Row w a1 (kT (.mk ka fa ta ua ya ksa) sa)∧TreeAt S w sa (.mk ka fa ta ua ya ksa)∧Row w a2 (kT (.mk kb fb tb ub yb ksb) sb)∧TreeAt S w sb (.mk kb fb tb ub yb ksb),c1,?_⟩
   rintro _ rfl
   refine ⟨a1,p1,ka,fa,ta,ua,ya,sa,fun _ h=>h.1,?_⟩
   have Od:=O1.pure (Ext.drew w1)
   intro p8 w25 n8
   have E25:Pure w1.drew w25:=Ext.new n8
   refine ⟨CE _ _ c1 E25.pure,?_⟩
   have c25:=CE _ _ c1 E25.pure
   have bB:∀{H:NP} {w:World} {r:Sl} {acc:List UInt8},AppO w0 H w b r acc→∀k,r.blk k→B0≤k:=fun O' k hk=>(O'.new k hk).elim (hbB k) (fun h=>by omega)
   have O25:=Od.pure E25
   obtain ⟨s8,w26,r8,k26,O26,X26,_⟩:=O25.appAt [40] (by simp) (by simp;omega) (Box.of_new n8).row
   have c26:=CE _ _ c25 (X26.mono (fun k _ hk=>bB O25 k hk))
   refine ⟨s8,w26,r8,c26,k26,?_⟩
   refine (iA S sa s8 (acc++[40]) w26 B0 c26.2.1 hS (by have:=O26.ext.size;omega) O26.rows (bB O26) (by simp;omega) (fun w' E=>hP w' ((eB O26).trans E))).mono ?_
   rintro _ w27 ⟨r9,rfl,hA9⟩
   obtain ⟨k27,O27⟩:=O26.call hA9
   have c27:=CE _ _ c26 (hA9.ext.mono (fun k _ hk=>bB O26 k hk))
   refine ⟨r9,rfl,c27,k27,?_⟩
   have c28:=CE _ _ c27 (Ext.drew (F:=fun k=>B0≤k) w27)
   refine ⟨fun w=>Row w a1 (kT (.mk ka fa ta ua ya ksa) sa)∧TreeAt S w sa (.mk ka fa ta ua ya ksa)∧Row w a2 (kT (.mk kb fb tb ub yb ksb) sb)∧TreeAt S w sb (.mk kb fb tb ub yb ksb),c28,?_⟩
   rintro _ rfl
   refine ⟨a2,q1,kb,fb,tb,ub,yb,sb,fun _ h=>h.2.2.1,?_⟩
   exact xJ _ (S:=S) (B0:=B0) (A:=.mk kb fb tb ub yb ksb) (a1:=a2) 32 (fun w=>Row w a1 (kT (.mk ka fa ta ua ya ksa) sa)∧TreeAt S w sa (.mk ka fa ta ua ya ksa)∧Row w a2 (kT (.mk kb fb tb ub yb ksb) sb)∧TreeAt S w sb (.mk kb fb tb ub yb ksb)) iB (O27.pure (Ext.drew w27)) hbB hB0 hS (by simp;omega) lB hP c28 (fun _ h=>h.2.2.2) CE _ (fun r w' h=>by simpa [Sp.yJ,Sp.jAZ] using h)
  ·obtain ⟨A,rfl⟩:=one hl
   refine Br.f (by decide) (Br.f (by decide) (Br.f (by decide) (Br.f (by decide) (Br.f (by decide) (Br.t (by decide) (fun H1 w1 hs1=>?_))))))
   have O1:=O.hst hs1
   intro p15 w46 n15
   obtain ⟨s16,w47,r16,k47,O47⟩:=O1.app [104] (by simp) (by simp;omega) n15
   refine ⟨s16,w47,r16,k47,?_⟩
   have:=tail rfl (by simp) O47
   simpa using this
  ·refine Br.f (by decide) (Br.f (by decide) (Br.t (by decide) (fun H1 w1 hs1=>?_)))
   refine (num 107 _ lf (by omega) (O.hst hs1)).mono ?_
   rintro _ w2 ⟨r,rfl,k2,O2⟩
   exact ⟨r,rfl,k2,by have:=O2.done;rw [nil0 hl];simpa [Sp.yJ] using this⟩
  ·obtain ⟨A,rfl⟩:=one hl
   refine Br.f (by decide) (Br.f (by decide) (Br.f (by decide) (Br.f (by decide) (Br.f (by decide) (Br.f (by decide) (Br.t (by decide) (fun H1 w1 hs1=>?_)))))))
   refine (num 115 _ lf (by omega) (O.hst hs1)).mono ?_
   rintro _ w2 ⟨r,rfl,k2,O2⟩
   refine ⟨r,rfl,k2,?_⟩
   have d1:=nd _ lf
   have:=tail rfl (by simp;omega) O2
   simpa using this
  ·obtain ⟨A,rfl⟩:=one hl
   refine Br.f (by decide) (Br.f (by decide) (Br.f (by decide) (Br.f (by decide) (Br.f (by decide) (Br.f (by decide) (Br.f (by decide) (Br.t (by decide) (fun H1 w1 hs1=>⟨fun _=>True,trivial,?_⟩))))))))
   rintro _ rfl
   have d1:=nd _ lf
   have d2:=nd _ lt
   refine (num 112 _ lf (by omega) ((O.hst hs1).pure (Ext.drew w1))).mono ?_
   rintro _ w2 ⟨r,rfl,k2,O2⟩
   refine ⟨r,rfl,trivial,k2,?_⟩
   refine (num 62 _ lt (by simp;omega) O2).mono ?_
   rintro _ w3 ⟨r2,rfl,k3,O3⟩
   refine ⟨r2,rfl,trivial,k3,?_⟩
   have:=tail rfl (by simp;omega) O3
   simpa using this
  ·obtain ⟨A,rfl⟩:=one hl
   refine Br.f (by decide) (Br.f (by decide) (Br.f (by decide) (Br.f (by decide) (Br.f (by decide) (Br.f (by decide) (Br.f (by decide) (Br.f (by decide) (Br.t (by decide) (fun H1 w1 hs1=>⟨fun _=>True,trivial,?_⟩)))))))))
   rintro _ rfl
   have d1:=nd _ lf
   have d2:=nd _ lt
   refine (num 102 _ lf (by omega) ((O.hst hs1).pure (Ext.drew w1))).mono ?_
   rintro _ w2 ⟨r,rfl,k2,O2⟩
   refine ⟨r,rfl,trivial,k2,?_⟩
   refine (num 62 _ lt (by simp;omega) O2).mono ?_
   rintro _ w3 ⟨r2,rfl,k3,O3⟩
   refine ⟨r2,rfl,trivial,k3,?_⟩
   have:=tail rfl (by simp;omega) O3
   simpa using this
end Go.Proofs
end
section
open Go Go.SE
namespace Go.Sp
def gQ (t:Tree):List UInt8×Int:=if (of [] t).2.1≠0 then ([],(of [] t).2.1) else (shw t,0)
theorem jHR {L:Pool} {t:Tree} (h:(of L t).2.1=0):Good t:=by
 refine xR t 0 0 ?_;unfold of at h;split at h
 ·rename_i hh;exact absurd h hh
 ·rename_i hh;simpa using hh
end Go.Sp
namespace Go.Proofs
open Tryd
attribute [local irreducible] Calls
theorem jHO {w0 w:World} (h:Pow w0) (E:Ext (fun k=>w0.heap.size≤k) w0 w):Pow w:=vA h (E.mono (fun i hi hh=>by have:w0.heap.size≤i:=hh;omega))
theorem jBD {w0 w w':World} {F:NP} (E:Pure w0 w) (X:Ext F w w') (hF:∀b,F b→w0.heap.size≤b):Pure w0 w':=E.trans' X (fun b hb hf=>by have:=hF b hf;omega)
theorem uV {S:NP} (t:Sp.Tree) (s:Sl) (w0:World) (hT:TreeAt S w0 s t) (hS:∀b,S b→b<w0.heap.size) (hn:Sp.NumT t) (hc:Sp.cnt t≤100000) (ht:Pow w0) :
  Calls prog 9 #[.agg (kT t s).toArray] w0 (fun e w'=>∃r:ByteArray,∃er:Int,e=.returned (.tuple #[.string r,.int .i64 er])∧((r=⟨(Sp.gQ t).1.toArray⟩∧er=(Sp.gQ t).2)∧Pure w0 w')):=by
 obtain ⟨k,f,to,u,x,ks⟩:=t
 refine w_E1 k f to u x s w0 (fun r er w'=>(r=⟨(Sp.gQ (.mk k f to u x ks)).1.toArray⟩∧er=(Sp.gQ (.mk k f to u x ks)).2)∧Pure w0 w') ?_
 unfold m_E1
 intro H1 w1 hs1
 have E1:=hs1.first
 have hH:=hs1.here.lt
 refine ⟨fun _=>True,trivial,?_⟩
 rintro _ rfl
 have Ed:Pure w0 w1.drew:=E1.trans (Ext.drew w1)
 refine (c_New w1.drew).mono ?_
 rintro _ w3 ⟨_,rfl,p,rfl,E3,F,hP,hF⟩
 have E03:=Ed.trans E3
 have z1:w1.drew.heap.size=w1.heap.size:=rfl
 have z0:=Ed.size
 refine ⟨_,rfl,trivial,E3.keptP,?_⟩
 refine (c_Of (S:=S) p (.mk k f to u x ks) s w3 (hT.pure E03) hP Sp.Ok.nil (fun b hb hs=>by have:=hF b hb;have:=hS b hs;omega) (fun b hb=>by have:=hS b hb;have:=E03.size;omega)).mono ?_
 rintro _ w4 ⟨r2,r3,rfl,hr,F',hP',X4,hF'⟩
 have E04:Pure w0 w4:=jBD E03 X4 (fun b hb=>by have:=hF b hb;omega)
 refine ⟨_,_,rfl,trivial,X4.kept (fun b hb hf=>by have:=hF b hf;have:=hH b hb;omega),?_⟩
 simp only [Prod.mk.injEq] at hr
 obtain ⟨_,rfl⟩:=hr
 unfold Sp.gQ
 refine ⟨fun h=>?_,fun h=>?_⟩
 ·rw [if_pos (by simpa using h)]
  exact ⟨⟨rfl,rfl⟩,E04⟩
 ·have h0:(Sp.of [] (.mk k f to u x ks)).2.1=0:=by simpa using h
  rw [if_neg (by simpa using h0)]
  have hnil:∀b,¬ Sl.nil.blk b:=fun b hb=>by obtain ⟨a,h,_⟩:=hb;cases h
  refine (jIC (.mk k f to u x ks) (Sp.jHR h0) hn S s Sl.nil [] w4 w0.heap.size (hT.pure E04) hS E04.size (Rws.nil _ _ _) (fun b hb=>(hnil b hb).elim) (by simp;omega) (fun w E=>?_)).mono ?_
  ·exact jHO ht (E04.pure.trans E)
  rintro _ w5 ⟨r,rfl,hA⟩
  refine ⟨r,rfl,hA.ext.kept (fun b hb hh=>(hnil b hh).elim),?_⟩
  refine ⟨_,jDJ (P:=prog) underlying49 underlying5 underlying9 hA.rows.lst,⟨by simp,rfl⟩,jBD E04 hA.ext (fun b hb=>(hnil b hb).elim)⟩
end Go.Proofs
end
section
namespace Go.Proofs
open Tryd
open Go.Shelf
def tD:Go.Shelf.Ren:=⟨fun | 14=>54 | 16=>69 | 17=>70 | 19=>80 | 20=>81 | 21=>82 | 22=>83 | 23=>84 | 24=>85 | 25=>92 | 27=>94 | 26=>93 | 28=>97 | 29=>98 | 30=>76 | 31=>77 | 32=>78 | 33=>79 | 35=>88 | 34=>87 | 36=>89 | 37=>90 | 38=>91 | 39=>95 | 40=>96 | n=>n,fun | 9=>9 | 3=>3 | 22=>22 | 24=>101 | 25=>102 | 4=>4 | 34=>127 | 5=>5 | 36=>97 | 37=>49 | 0=>0 | 39=>128 | 21=>21 | 44=>139 | 47=>142 | 50=>145 | 48=>143 | 2=>2 | 52=>122 | 55=>125 | 59=>133 | 60=>134 | 20=>20 | 61=>135 | 65=>146 | 66=>147 | 67=>79 | n=>n,fun | 0=>1 | 1=>2 | 2=>0 | 3=>3 | 4=>4 | n=>n⟩
theorem jBE:Go.Proofs.LaysPu.n14 prog tD:={
 mixed:=by kernel_rfl
 f14:=func54.trans (congrArg some (by kernel_rfl))
 f16:=func69.trans (congrArg some (by kernel_rfl))
 f17:=func70.trans (congrArg some (by kernel_rfl))
 f19:=func80.trans (congrArg some (by kernel_rfl))
 f20:=func81.trans (congrArg some (by kernel_rfl))
 f21:=func82.trans (congrArg some (by kernel_rfl))
 f22:=func83.trans (congrArg some (by kernel_rfl))
 f23:=func84.trans (congrArg some (by kernel_rfl))
 f24:=func85.trans (congrArg some (by kernel_rfl))
 f25:=func92.trans (congrArg some (by kernel_rfl))
 f26:=func93.trans (congrArg some (by kernel_rfl))
 f27:=func94.trans (congrArg some (by kernel_rfl))
 f28:=func97.trans (congrArg some (by kernel_rfl))
 f29:=func98.trans (congrArg some (by kernel_rfl))
 f30:=func76.trans (congrArg some (by kernel_rfl))
 f31:=func77.trans (congrArg some (by kernel_rfl))
 f32:=func78.trans (congrArg some (by kernel_rfl))
 f33:=func79.trans (congrArg some (by kernel_rfl))
 f34:=func87.trans (congrArg some (by kernel_rfl))
 f35:=func88.trans (congrArg some (by kernel_rfl))
 f36:=func89.trans (congrArg some (by kernel_rfl))
 f37:=func90.trans (congrArg some (by kernel_rfl))
 f38:=func91.trans (congrArg some (by kernel_rfl))
 f39:=func95.trans (congrArg some (by kernel_rfl))
 f40:=func96.trans (congrArg some (by kernel_rfl))
 t0:=underlying0
 a0:=isAgg0
 z0:=sizeOf0
 v0:=zeroValue0
 i0:=by kernel_rfl
 t2:=underlying2
 a2:=isAgg2
 z2:=sizeOf2
 v2:=zeroValue2
 i2:=by kernel_rfl
 t3:=underlying3
 a3:=isAgg3
 z3:=sizeOf3
 v3:=zeroValue3
 i3:=by kernel_rfl
 t4:=underlying4
 a4:=isAgg4
 z4:=sizeOf4
 v4:=zeroValue4
 i4:=by kernel_rfl
 t5:=underlying5
 a5:=isAgg5
 z5:=sizeOf5
 v5:=zeroValue5
 i5:=by kernel_rfl
 t9:=underlying9
 a9:=isAgg9
 z9:=sizeOf9
 v9:=zeroValue9
 i9:=by kernel_rfl
 t20:=underlying20
 a20:=isAgg20
 z20:=sizeOf20
 v20:=zeroValue20
 i20:=by kernel_rfl
 t21:=underlying21
 a21:=isAgg21
 z21:=sizeOf21
 v21:=zeroValue21
 i21:=by kernel_rfl
 t22:=underlying22
 a22:=isAgg22
 z22:=sizeOf22
 v22:=zeroValue22
 i22:=by kernel_rfl
 t24:=underlying101
 a24:=isAgg101
 z24:=sizeOf101
 v24:=zeroValue101
 i24:=by kernel_rfl
 t25:=underlying102
 a25:=isAgg102
 z25:=sizeOf102
 v25:=zeroValue102
 i25:=by kernel_rfl
 t34:=underlying127
 a34:=isAgg127
 z34:=sizeOf127
 v34:=zeroValue127
 i34:=by kernel_rfl
 c34:=by kernel_rfl
 t36:=underlying97
 a36:=isAgg97
 z36:=sizeOf97
 v36:=zeroValue97
 i36:=by kernel_rfl
 t37:=underlying49
 a37:=isAgg49
 z37:=sizeOf49
 v37:=zeroValue49
 i37:=by kernel_rfl
 t39:=underlying128
 a39:=isAgg128
 z39:=sizeOf128
 v39:=zeroValue128
 i39:=by kernel_rfl
 t44:=underlying139
 a44:=isAgg139
 z44:=sizeOf139
 v44:=zeroValue139
 i44:=by kernel_rfl
 t47:=underlying142
 a47:=isAgg142
 z47:=sizeOf142
 v47:=zeroValue142
 i47:=by kernel_rfl
 t48:=underlying143
 a48:=isAgg143
 z48:=sizeOf143
 v48:=zeroValue143
 i48:=by kernel_rfl
 t50:=underlying145
 a50:=isAgg145
 z50:=sizeOf145
 v50:=zeroValue145
 i50:=by kernel_rfl
 t52:=underlying122
 a52:=isAgg122
 z52:=sizeOf122
 v52:=zeroValue122
 i52:=by kernel_rfl
 t55:=underlying125
 a55:=isAgg125
 z55:=sizeOf125
 v55:=zeroValue125
 i55:=by kernel_rfl
 t59:=underlying133
 a59:=isAgg133
 z59:=sizeOf133
 v59:=zeroValue133
 i59:=by kernel_rfl
 t60:=underlying134
 a60:=isAgg134
 z60:=sizeOf134
 v60:=zeroValue134
 i60:=by kernel_rfl
 t61:=underlying135
 a61:=isAgg135
 z61:=sizeOf135
 t65:=underlying146
 a65:=isAgg146
 z65:=sizeOf146
 v65:=zeroValue146
 i65:=by kernel_rfl
 t66:=underlying147
 a66:=isAgg147
 z66:=sizeOf147
 v66:=zeroValue147
 i66:=by kernel_rfl
 t67:=underlying79
 a67:=isAgg79
 z67:=sizeOf79
 v67:=zeroValue79
 i67:=by kernel_rfl
 g0:=by kernel_rfl
 m0:=by kernel_rfl
 g1:=by kernel_rfl
 m1:=by kernel_rfl
 g2:=by kernel_rfl
 m2:=by kernel_rfl
 g3:=by kernel_rfl
 m3:=by kernel_rfl
 g4:=by kernel_rfl
 m4:=by kernel_rfl }
theorem jEC (s:ByteArray) (hmax:s.size≤9223372036854775806) (u:Nat) (h:Lib.parseUintB 64 s.data.toList=.ok u) (w:World) :
  Calls prog 54 #[.string s,.int .i64 10,.int .i64 64] w (fun e w'=>e=.returned (.tuple #[.int .u64 u,.nilIface])∧(w'=w∨w'=Lib.bytesWorld w 5 s)):=Any.strconv_ParseUint_10_at64_ok jBE s hmax u h w
theorem tF (s : ByteArray) (hlim : s.size ≤ 281474976710656) (h : Lib.parseUintB 64 s.data.toList = .range) (tp : TypeId) (p : Value) (w : World) (hvar : w.var? prog "strconv.ErrRange" = some #[.iface tp p]) :
  Calls prog 54 #[.string s,.int .i64 10,.int .i64 64] w (fun e w'=>∃N,e=.returned (.tuple #[.int .u64 18446744073709551615,.iface 128 (.pointer (some ⟨N,0,none⟩))])∧w.heap.size≤N∧w'.heap[N]?=some (.cells #[.string ⟨#[80,97,114,115,101,85,105,110,116]⟩,.string s,.iface tp p] 139 (0,0))∧RowKit.Below w.heap.size w w'):=Any.strconv_ParseUint_10_at64_range_var jBE s hlim h tp p w hvar
end Go.Proofs
end
section
open Go Go.SE
namespace Go.SE
theorem tN {B:Nat} {w w':World} (h:RowKit.Below B w w'):Ext (fun b=>B≤b) w w':=⟨h.os,h.tape,h.output,(by first | exact Nat.le_refl _),h.size,fun b _ hf=>h.block b (by omega)⟩
end Go.SE
end
section
open Go Go.SE
namespace Go.Proofs
open Tryd
attribute [local irreducible] Calls
abbrev ErrV (w : World) : Prop := ∃ tp p, w.var? prog "strconv.ErrRange" = some #[.iface tp p]
theorem xN (M:Nat) (hM:M=18446744073709551615):∀(l:List UInt8) (acc:Nat),(∀c∈l,Sp.isDig c=true)→acc≤M→Lib.parseUintM M acc l=if l.foldl (fun n c=>10*n+(c.toNat - 48)) acc≤M then .ok (l.foldl (fun n c=>10*n+(c.toNat - 48)) acc) else .range
 | [],acc,_,ha=>by rw [Lib.parseUintM,List.foldl_nil,if_pos ha]
 | c :: r,acc,hd,ha=>by
  have hc:=hd c (by simp);unfold Sp.isDig at hc;rw [Bool.and_eq_true,decide_eq_true_eq,decide_eq_true_eq] at hc;have mono:∀(l:List UInt8) (a:Nat),a≤l.foldl (fun n c=>10*n+(c.toNat - 48)) a:=by
   intro l;induction l with
   | nil=>intro a;exact Nat.le_refl _
   | cons d l ih=>intro a;rw [List.foldl_cons];have:=ih (10*a+(d.toNat - 48));omega
  have hm:=mono r (10*acc+(c.toNat - 48));rw [Lib.parseUintM,if_pos hc,List.foldl_cons];by_cases h1:1844674407370955162≤acc
  ·rw [if_pos h1,if_neg (by omega)]
  ·rw [if_neg h1];by_cases h2:M<acc*10+(c.toNat - 48)
   ·rw [if_pos h2,if_neg (by omega)]
   ·rw [if_neg h2,Nat.mul_comm acc 10,xN M hM r _ (fun d hd'=>hd d (by simp [hd'])) (by omega)]
theorem jDO {l:List UInt8} (hd:∀c∈l,Sp.isDig c=true) (hne:l≠[]):Lib.parseUintB 64 l=if Sp.decV l≤18446744073709551615 then .ok (Sp.decV l) else .range:=by
 unfold Lib.parseUintB;rw [if_neg hne];exact xN _ (by decide) l 0 hd (by decide)
theorem jAP (l:List UInt8) (hd:∀c∈l,Sp.isDig c=true) (hne:l≠[]) (hl:l.length≤10000000) (w:World) (hv:ErrV w) :
  Calls prog 54 #[.string ⟨l.toArray⟩,.int .i64 10,.int .i64 64] w (fun e w'=>Pure w w'∧((Sp.decV l<18446744073709551616∧e=.returned (.tuple #[.int .u64 (Sp.decV l:Int),.nilIface]))∨(18446744073709551616≤Sp.decV l∧∃k T v,e=.returned (.tuple #[.int .u64 k,.iface T v])))):=by
 have hsz:(ByteArray.mk l.toArray).size=l.length:=by simp [ByteArray.size]
 have hB:=jDO hd hne
 by_cases h:Sp.decV l≤18446744073709551615
 ·rw [if_pos h] at hB
  refine (jEC ⟨l.toArray⟩ (by omega) _ (by simpa using hB) w).mono ?_
  rintro e w' ⟨rfl,hw⟩
  refine ⟨?_,.inl ⟨by omega,rfl⟩⟩
  rcases hw with rfl | rfl
  ·exact Ext.refl _
  ·exact (tN (Joins.below_bytesWorld w.heap.size w _ _ (Nat.le_refl _))).mono (fun i hi h=>by have:w.heap.size≤i:=h;omega)
 ·rw [if_neg h] at hB
  obtain ⟨tp,p,hv⟩:=hv
  refine (tF ⟨l.toArray⟩ (by omega) (by simpa using hB) tp p w hv).mono ?_
  rintro e w' ⟨N,rfl,_,_,hb⟩
  exact ⟨(tN hb).mono (fun i hi h=>by have:w.heap.size≤i:=h;omega),.inr ⟨by omega,_,_,_,rfl⟩⟩
def jGO (w0:World) (a:Addr):Prop:=∀w,Ext (·=a.block) w0 w→ErrV w
theorem jGO.ext {w0 w1:World} {a:Addr} (h:jGO w0 a) (E:Ext (·=a.block) w0 w1):jGO w1 a:=fun w E'=>h w (E.trans E')
theorem jDC (x:ByteArray) (i k:Nat) (h:i+k≤(bts x).length) (w:World):(Instr.sliceAt 9 (.string x) (some (.int .i64 (i:Int))) (some (.int .i64 ((i+k:Nat):Int))) none).run prog w=.ok (.string ⟨(((bts x).drop i).take k).toArray⟩) w:=by
 have hl:=yH x;rw [run_sliceAt_string _ _ _ _ _ _ underlying9,run_slice_string_if _ _ _ _ _ _ _ underlying9,if_pos ⟨by omega,by omega⟩,if_pos ⟨by omega,by omega⟩];have:x.extract (i:Int).toNat ((i+k:Nat):Int).toNat=⟨(((bts x).drop i).take k).toArray⟩:=by
  simp only [Int.toNat_natCast];apply ByteArray.ext;rw [ByteArray.data_extract];apply Array.toList_inj.1;rw [Array.toList_extract];simp [bts,List.extract_eq_take_drop]
 rw [this]
theorem jDL (w:World):(Go.binOp .neq 101 (.nilIface:Value) (.nilIface:Value)).run prog w=.ok (.bool false) w:=by kernel_rfl
theorem jHM (T:TypeId) (v:Value) (w:World):(Go.binOp .neq 101 (.iface T v) (.nilIface:Value)).run prog w=.ok (.bool true) w:=by kernel_rfl
section
variable (a:Addr) (x:ByteArray) (i n:Nat) (w0:World) (h:Spk w0 a x i n) (hi:i≤(bts x).length) (hc:(bts x).length≤10000000) (hv:jGO w0 a)
include h hi hc hv
theorem jEP:Calls prog 38 #[.pointer (some a)] w0 (fun e w'=>oF w0 a x n (fun v:Nat=>.int .u64 (v:Int)) e w' (Sp.qB (bts x) i)):=by
 refine (w_E (some a) w0 (fun o r w'=>oF w0 a x n (fun v:Nat=>.int .u64 (v:Int)) (match o with | none=>.returned (.int .u64 r) | some ch=>.panicked ch) w' (Sp.qB (bts x) i)) ?_).mono ?_
 ·unfold m_E;have hl:=yH x;refine ⟨a,rfl,_,zE h,?_⟩;refine (xZ a x i n w0 h hi).mono ?_;unfold Sp.qB;rintro e w1 (⟨d,hd,rfl,E1⟩ | ⟨hd,rfl,E1⟩)
  ·rw [hd];simp only;have hilt:=Sp.oC hd;have hdi:(bts x)[i]=d:=by rw [List.getElem?_eq_getElem hilt] at hd;exact Option.some.inj hd
   have h1:=h.pure E1;refine .inl ⟨_,rfl,E1.keptP,fun hb=>⟨a,rfl,fun H1 w2 hs2=>?_⟩,fun hb=>fun H1 w2 hs2=>?_⟩
   ·have h2:=h1.ext hs2.ext (fun hh=>by have:=hs2.old _ hh;have:=h.lt;omega);refine ⟨_,zE h2,?_⟩;refine (zP (some a) 60 i w2).mono ?_;rintro _ w3 ⟨rfl,rfl⟩;refine .inr ⟨_,rfl,?_⟩;rw [if_pos (by unfold Sp.isDig;simp at hb;simp;omega)];exact ⟨rfl,E1.pure.trans' hs2.ext (fun b hb hh=>by have:=hs2.old _ hh;omega)⟩
   ·have hdig:Sp.isDig d=true:=by unfold Sp.isDig;simp at hb;simp;omega
    rw [if_neg (by rw [hdig];decide)];have nH:∀{H:NP} {w w':World},Hst w0 H w H w'→¬ H a.block:=fun hs hh=>by have:=hs.old _ hh;have:=h.lt;omega
    have h2:=h1.ext hs2.ext (fun hh=>by have:=hs2.old _ hh;have:=h.lt;omega);have E2:Ext (·=a.block) w0 w2:=E1.pure.trans' hs2.ext (fun b hb hh=>by have:=hs2.old _ hh;omega);unfold m_E_j1;have hdl:=Sp.gN hi;have hne:Sp.zC (bts x) i≠[]:=by rw [Sp.gM hilt (by rw [hdi];exact hdig)];simp
    refine ⟨fun H w=>(∀b,H b→w0.heap.size≤b)∧∃j:Nat,i≤j∧j+(Sp.zC (bts x) j).length=i+(Sp.zC (bts x) i).length∧j≤(bts x).length∧Spk w a x j n∧Ext (·=a.block) w0 w,fun w=>match w.cell? (a.add 1) with | some (.int _ k)=>((bts x).length - k.toNat) | _=>0,⟨fun b hb=>hs2.old b hb,i,Nat.le_refl _,rfl,hi,h2,E2⟩,?_⟩;rintro Hl wl hsl ⟨hHl,j,hij,hjl,hj,hR,hE⟩;unfold m_E_l3;refine ⟨a,rfl,fun w7 hs7=>?_⟩;have hna:=nH hsl;have h7:=hR.ext hs7.ext hna;have E7:Ext (·=a.block) w0 w7:=hE.trans' hs7.ext (fun b hb hh=>by have:=hHl _ hh;omega);have done:Sp.zC (bts x) j=[]→m_E_j2 (some a) (i:Int) w0 Hl w7 (fun o r w'=>oF w0 a x n (fun v:Nat=>.int .u64 (v:Int)) (match o with | none=>.returned (.int .u64 r) | some ch=>.panicked ch) w' (if Sp.yW (Sp.zC (bts x) i)=true then .no 61 i else .ok (Sp.decV (Sp.zC (bts x) i)) (i+(Sp.zC (bts x) i).length))):=fun e=>by
     have hjj:j=i+(Sp.zC (bts x) i).length:=by rw [e] at hjl;simpa using hjl
     unfold m_E_j2;refine ⟨a,rfl,fun w3 hs3=>?_⟩;have h3:=h7.ext hs3.ext hna;have E3:Ext (·=a.block) w0 w3:=E7.trans' hs3.ext (fun b hb hh=>by have:=hHl _ hh;omega);refine ⟨x,h3.cell0,a,rfl,_,zE h3,_,by rw [hjj];exact jDC x i _ hdl w3,?_⟩;rw [Sp.jAC];have hall:=Sp.jBT (bts x) i;have hsz:(ByteArray.mk (Sp.zC (bts x) i).toArray).size=(Sp.zC (bts x) i).length:=by simp [ByteArray.size]
     have hix:∀(l:List UInt8) (w:World),1<l.length→∃c,l.head?=some c∧(Instr.index 9 (.string ⟨l.toArray⟩) (.int .i64 0)).run prog w=.ok (.int .u8 (c.toNat:Int)) w:=fun l w hl=>by
      cases l with
      | nil=>simp at hl
      | cons c l=>exact ⟨c,rfl,jCH ⟨(c :: l).toArray⟩ 0 (by simp [bts]) w⟩
     refine (jAP _ hall hne (by omega) w3 (hv w3 E3)).mono ?_;generalize Sp.zC (bts x) i=D at *;rintro _ w4 ⟨E4,⟨hlt,rfl⟩ | ⟨hge,k,T,v,rfl⟩⟩
     ·have h4:=h3.pure E4;have F4:=E3.thenPure E4;refine ⟨_,_,rfl,E4.keptP,_,jDL w4,fun hb=>(by cases hb),fun _=>⟨fun hb=>?_,fun hb=>?_⟩⟩
      ·have hb:1<D.length:=by have:=of_decide_eq_true hb;omega
       obtain ⟨c,hhd,hrun⟩:=hix D w4 hb;refine ⟨_,hrun,fun hz=>?_,fun hz=>?_⟩
       ·refine (zP (some a) 61 i w4).mono ?_;rintro _ w5 ⟨rfl,rfl⟩;refine .inr ⟨_,rfl,?_⟩;rw [if_pos (by
         unfold Sp.yW;have:c=48:=by
          have:=beq_iff_eq.1 hz;apply UInt8.toNat_inj.1;show c.toNat=48;omega
         rw [hhd,this,decide_eq_true hb];simp)]
        exact ⟨rfl,F4⟩
       ·rw [if_neg (by
         unfold Sp.yW;have:c≠48:=fun e=>by subst e;simp at hz
         rw [hhd,decide_eq_false (by omega)];simp [this])]
        rw [hjj] at h4;exact ⟨rfl,h4,F4⟩
      ·rw [if_neg (by
        have:=of_decide_eq_false hb;unfold Sp.yW;rw [decide_eq_false (by omega),decide_eq_false (by omega)];simp)]
       rw [hjj] at h4;exact ⟨rfl,h4,F4⟩
     ·refine ⟨_,_,rfl,E4.keptP,_,jHM T v w4,fun _=>?_,fun hb=>(by cases hb)⟩;refine (zP (some a) 61 i w4).mono ?_;rintro _ w5 ⟨rfl,rfl⟩;refine .inr ⟨_,rfl,?_⟩;rw [if_pos (by unfold Sp.yW;rw [decide_eq_true hge];rfl)];exact ⟨rfl,E3.thenPure E4⟩
    have hdj:∀hlt:j<(bts x).length,¬ (48≤(bts x)[j].toNat∧(bts x)[j].toNat≤57)→Sp.zC (bts x) j=[]:=fun hlt hh=>Sp.jAD hlt (by unfold Sp.isDig;rw [Bool.and_eq_false_iff,decide_eq_false_iff_not,decide_eq_false_iff_not];omega);refine ⟨_,zE h7,a,rfl,x,h7.cell0,fun hc=>?_,fun hc=>done (Sp.jBS (by have:=of_decide_eq_false hc;omega))⟩;have hlt:j<(bts x).length:=by have:=of_decide_eq_true hc;omega
    refine ⟨a,rfl,x,h7.cell0,a,rfl,_,zE h7,_,jCH x j hlt w7,fun hb=>?_,fun hb=>done (hdj hlt (by have:=of_decide_eq_false hb;omega))⟩;refine ⟨a,rfl,x,h7.cell0,a,rfl,_,zE h7,_,jCH x j hlt w7,fun hb2=>?_,fun hb2=>done (hdj hlt (by have:=of_decide_eq_false hb2;omega))⟩;refine ⟨a,rfl,_,zE h7,a,rfl,h7.canW (i:=1) (by simp),hna,?_⟩;rintro w8 rfl;rw [vV (show j≤(bts x).length by omega) (by omega)];have hstep:Sp.zC (bts x) j=(bts x)[j] :: Sp.zC (bts x) (j+1):=Sp.gM hlt (by unfold Sp.isDig;rw [Bool.and_eq_true,decide_eq_true_eq,decide_eq_true_eq];have:=of_decide_eq_true hb;have:=of_decide_eq_true hb2;omega);refine ⟨⟨hHl,j+1,by omega,?_,hlt,kD h7 (j+1),E7.trans yR⟩,?_⟩
    ·rw [hstep] at hjl;simp only [List.length_cons] at hjl;omega
    ·show (match (w7.setCell (a.add 1) (.int .i64 ((j+1:Nat):Int))).cell? (a.add 1) with | some (.int _ k)=>((bts x).length - k.toNat) | _=>0)<(match wl.cell? (a.add 1) with | some (.int _ k)=>((bts x).length - k.toNat) | _=>0);rw [zE (kD h7 (j+1)),zE hR];simp only;omega
  ·rw [hd];exact .inr ⟨_,rfl,rfl,E1.pure⟩
 ·rintro e w' (⟨r,rfl,hh⟩ | ⟨ch,rfl,hh⟩) <;> exact hh
theorem jGH (nt:Int):Calls prog 37 #[.pointer (some a),.int .i64 nt] w0 (fun e w'=>oF w0 a x n (fun v:Nat=>.int .i64 (v:Int)) e w' (Sp.kK (bts x) nt i)):=by
 refine (w_H1 (some a) nt w0 (fun o r w'=>oF w0 a x n (fun v:Nat=>.int .i64 (v:Int)) (match o with | none=>.returned (.int .i64 r) | some ch=>.panicked ch) w' (Sp.kK (bts x) nt i)) ?_).mono ?_
 ·unfold m_H1;refine ⟨a,rfl,_,zE h,?_⟩;refine (jEP a x i n w0 h hi hc hv).mono ?_;intro e w1;unfold Sp.kK;have hok:=Sp.uS (bts x) i;generalize Sp.qB (bts x) i=R at *;cases R with
  | no er at_=>rintro ⟨rfl,E⟩;exact .inr ⟨_,rfl,rfl,E⟩
  | ok v j =>
   rintro ⟨rfl,h1,E⟩
   have big:∀hh:(16≤v∨(v:Int)=nt),Calls prog 24 #[.pointer (some a),.int .i64 50,.int .i64 (i:Int)] w1 (fun e w3=>(e=.returned (.tuple #[])∧oF w0 a x n (fun v:Nat=>.int .i64 (v:Int)) (.returned (.int .i64 (IntKind.i64.wrap (v:Int)))) w3 (if 16≤v∨(v:Int)=nt then .no 50 i else .ok v j))∨∃ch,e=.panicked ch∧oF w0 a x n (fun v:Nat=>.int .i64 (v:Int)) (.panicked ch) w3 (if 16≤v∨(v:Int)=nt then .no 50 i else .ok v j)):=fun hh=>by
    refine (zP (some a) 50 i w1).mono ?_;rintro _ w2 ⟨rfl,rfl⟩;refine .inr ⟨_,rfl,?_⟩;rw [if_pos hh];exact ⟨rfl,E⟩
   refine .inl ⟨_,rfl,fun hb=>?_,fun hb=>?_⟩
   ·rw [Bool.or_eq_true,decide_eq_true_eq,beq_iff_eq] at hb
    by_cases h16:16≤v
    ·exact big (.inl h16)
    ·rw [IntWalk.i64_in _ (by omega)] at hb
     exact big (.inr (by omega))
   ·rw [Bool.or_eq_false_iff,decide_eq_false_iff_not,beq_eq_false_iff_ne] at hb
    have hw:IntKind.i64.wrap (v:Int)=(v:Int):=IntWalk.i64_in _ (by omega)
    rw [hw] at hb ⊢
    show oF _ _ _ _ _ _ _ (if 16≤v∨(v:Int)=nt then _ else _)
    rw [if_neg (by omega)]
    exact ⟨rfl,h1,E⟩
 ·rintro e w' (⟨r,rfl,hh⟩ | ⟨ch,rfl,hh⟩) <;> exact hh
end
theorem jFK {P:Program} {t:TypeId} (h:Nat) (hh:h<16) (w:World):(Go.binOp .shl t (.int .u8 (h:Int)) (.int .u64 4)).run P w=.ok (.int .u8 ((16*h:Nat):Int)) w:=by
 have hr:∀k:Fin 16,IntKind.u8.wrap ((k.val:Int)*2 ^ min (4:Int).toNat IntKind.u8.bits)=((16*k.val:Nat):Int):=by decide +kernel
 have:=hr ⟨h,hh⟩;show (Op.shift .shl .u8 (h:Int) .u64 4).run P w=_;unfold Op.shift;simp only at this;simpa using this
theorem jDK {P:Program} {t:TypeId} (h l:Nat) (hh:h<16) (hl:l<16) (w:World):(Go.binOp .or t (.int .u8 ((16*h:Nat):Int)) (.int .u8 (l:Int))).run P w=.ok (.int .u8 ((UInt8.ofNat (16*h+l)).toNat:Int)) w:=by
 have hr:∀k m:Fin 16,IntKind.u8.wrap ((BitVec.ofInt IntKind.u8.bits ((16*k.val:Nat):Int) ||| BitVec.ofInt IntKind.u8.bits (m.val:Int)).toNat:Int)=((UInt8.ofNat (16*k.val+m.val)).toNat:Int):=by decide +kernel
 have:=hr ⟨h,hh⟩ ⟨l,hl⟩;simp only at this;show ((pure (Value.int .u8 _):Sem Value)).run P w=_;rw [this];rfl
theorem jHY {c v:Nat} (h:Sp.jCP c=some v):v<16:=by
 unfold Sp.jCP at h;split at h
 ·cases h;omega
 ·split at h
  ·cases h;omega
  ·split at h
   ·cases h;omega
   ·cases h
theorem jAX {B:List UInt8} {i v j:Nat} (h:Sp.qH B i=.ok v j):v<16:=by
 unfold Sp.qH at h;split at h
 ·cases h
 ·split at h
  ·cases h
  ·rename_i hv;cases h;exact jHY hv
structure DatS (w0 w:World) (a:Addr) (x:ByteArray) (n j:Nat) (b:Sl) (acc:List UInt8):Prop where
 rd:Spk w a x j n
 rows:Rws w 5 1 b (byr acc)
 own:∀k,b.blk k→w0.heap.size≤k
 ext:Ext (·=a.block) w0 w
 la:a.block<w0.heap.size
section
variable {w0 w w':World} {a:Addr} {x:ByteArray} {n j:Nat} {b:Sl} {acc:List UInt8}
theorem DatS.move {j':Nat} (h:DatS w0 w a x n j b acc) (hr:Spk w' a x j' n) (E:Ext (·=a.block) w w'):DatS w0 w' a x n j' b acc :=
 ⟨hr,h.rows.ext E (fun k hk e=>by have:=h.own k hk;have:=h.la;omega),h.own,h.ext.trans E,h.la⟩
theorem DatS.app (h:DatS w0 w a x n j b acc) (c:UInt8) (hl:acc.length≤10000000) {p:Addr} {w1:World} (hn:New w (.cells #[.int .u8 (c.toNat:Int)] 5) p w1) :
  ∃s w2,(Builtin.append_ #[49,49] 49 #[b.v,(Sl.mk (some p) 1 1).v]).run prog w1=.ok s.v w2∧DatS w0 w2 a x n j s (acc++[c]):=by
 have E1:Pure w w1:=Ext.new hn
 obtain ⟨s,w2,hr,R,X,o⟩:=(h.rows.pure E1).append (P:=prog) (ty:=49) (c:=1) gP (r:=[.int .u8 (c.toNat:Int)]) (Box.of_new hn).row rfl rfl (by rw [zD];omega) (by rw [zD];simp [maxLen];omega)
 have z:=h.ext.size
 have z1:=E1.size
 refine ⟨s,w2,hr,⟨(h.rd.pure E1).ext X (fun hh=>by have:=h.own _ hh;have:=h.la;omega),?_,fun k hk=>?_,(h.ext.thenPure E1).trans' X (fun k hk hh=>by have:=h.own k hh;omega),h.la⟩⟩
 ·rw [show byr (acc++[c])=byr acc++[[.int .u8 (c.toNat:Int)]] by simp [byr]];exact R
 ·rcases o k hk with h1 | h1
  ·exact h.own k h1
  ·omega
end
section
variable (a:Addr) (x:ByteArray) (i n:Nat) (w0:World) (h:Spk w0 a x i n) (hq:∃c,(bts x)[i]?=some c∧c.toNat=34) (hc:(bts x).length≤10000000)
include h hq hc
theorem jGJ:Calls prog 39 #[.pointer (some a)] w0 (fun e w'=>oF w0 a x n (fun l:List UInt8=>.string ⟨l.toArray⟩) e w' (Sp.yK (bts x) i)):=by
 obtain ⟨c34,hc34,hv34⟩:=hq;have hil:=Sp.oC hc34;refine (w_G (some a) w0 (fun o r w'=>oF w0 a x n (fun l:List UInt8=>.string ⟨l.toArray⟩) (match o with | none=>.returned (.string r) | some ch=>.panicked ch) w' (Sp.yK (bts x) i)) ?_).mono ?_
 ·unfold m_G;refine ⟨a,rfl,_,zE h,?_⟩;refine (yS a x i n w0 h (by omega) 34 hc).mono ?_;intro e w1;have ht:Sp.zV (bts x) 34 i=.ok () (i+1):=by unfold Sp.zV;rw [hc34];simp only;rw [if_pos hv34]
  rw [ht];rintro ⟨rfl,h1,E1⟩;have hnil:∀b,¬ Sl.nil.blk b:=fun b hb=>by obtain ⟨a,h,_⟩:=hb;cases h
  refine .inl ⟨rfl,fun b w=>∃(f j:Nat) (acc:List UInt8),j≤(bts x).length∧(bts x).length+1≤f+j∧acc.length≤j∧Sp.zW (bts x) i f j acc=Sp.yK (bts x) i∧DatS w0 w a x n j b acc,fun _ w=>match w.cell? (a.add 1) with | some (.int _ k)=>((bts x).length - k.toNat) | _=>0,⟨(bts x).length+1,i+1,[],hil,by omega,by simp,rfl,⟨h1,Rws.nil _ _ _,fun b hb=>(hnil b hb).elim,E1,h.lt⟩⟩,?_⟩;rintro b wl ⟨f,j,acc,hj,hf,hal,hsp,D⟩;obtain ⟨f,rfl⟩:∃g,f=g+1:=⟨f - 1,by omega⟩;unfold m_G_l1;rw [Sp.zW] at hsp;have again : ∀ {b' : Sl} {w' : World} {j' : Nat} {acc' : List UInt8}, j < j' → j' ≤ (bts x).length → acc'.length ≤ j' → Sp.zW (bts x) i f j' acc' = Sp.yK (bts x) i → DatS w0 w' a x n j' b' acc' →
    (fun (b:Sl) (w:World)=>(∃(f j:Nat) (acc:List UInt8),j≤(bts x).length∧(bts x).length+1≤f+j∧acc.length≤j∧Sp.zW (bts x) i f j acc=Sp.yK (bts x) i∧DatS w0 w a x n j b acc)∧(fun (_:Sl) (w:World)=>match w.cell? (a.add 1) with | some (.int _ k)=>((bts x).length - k.toNat) | _=>0) b w<(fun (_:Sl) (w:World)=>match w.cell? (a.add 1) with | some (.int _ k)=>((bts x).length - k.toNat) | _=>0) b wl) b' w':=fun h1 h2 h3 h4 D'=>by
   refine ⟨⟨f,_,_,h2,by omega,h3,h4,D'⟩,?_⟩
   show (match World.cell? _ (a.add 1) with | some (.int _ k)=>((bts x).length - k.toNat) | _=>0)<(match World.cell? _ (a.add 1) with | some (.int _ k)=>((bts x).length - k.toNat) | _=>0)
   rw [zE D'.rd,zE D.rd]
   simp only
   omega
  have give:∀{e k:Nat} {w:World} {Kc:Sl→WP},Spk w a x k n→Ext (·=a.block) w0 w→(Sp.Rr.no (e:Int) k:Sp.Rr (List UInt8))=Sp.yK (bts x) i→True:=fun _ _ _=>trivial;refine (xZ a x j n wl D.rd hj).mono ?_;rintro e w2 (⟨c,hcc,rfl,E2⟩ | ⟨hcc,rfl,E2⟩)
  ·rw [hcc] at hsp;simp only at hsp;have hjl:=Sp.oC hcc;have hclt:=c.toNat_lt;have D2:=D.move (D.rd.pure E2) E2.pure;refine .inl ⟨_,rfl,fun hb=>⟨a,rfl,_,zE D2.rd,?_⟩,fun hb=>?_⟩
   ·refine (zP (some a) 60 j w2).mono ?_;rintro _ w3 ⟨rfl,rfl⟩;refine .inr ⟨_,rfl,?_⟩;rw [if_pos (by simp at hb;omega)] at hsp;rw [← hsp];exact ⟨rfl,D2.ext⟩
   ·rw [if_neg (by simp at hb;omega)] at hsp;unfold m_G_j2;refine ⟨a,rfl,_,zE D2.rd,a,rfl,D2.rd.canW (i:=1) (by simp),?_⟩;rintro w4 rfl;rw [vV (show j≤(bts x).length by omega) (by omega)];have D4:=D2.move (kD D2.rd (j+1)) yR;generalize w2.setCell (a.add 1) (.int .i64 ((j+1:Nat):Int))=w4 at *;refine ⟨fun h34=>?_,fun h34=>?_⟩
    ·have h34:c.toNat=34:=by have:=beq_iff_eq.1 h34;omega
     rw [if_pos h34] at hsp;have hbl:b.len=acc.length:=by rw [D4.rows.len,zD]
     have conv:=jDJ (P:=prog) underlying49 underlying5 underlying9 D4.rows.lst
     refine ⟨fun h64=>?_,fun h64=>⟨_,conv,?_⟩⟩
     ·refine (zP (some a) 1 i w4).mono ?_;rintro _ w5 ⟨rfl,rfl⟩;refine .inr ⟨_,rfl,?_⟩;rw [if_pos (by have:=of_decide_eq_true h64;omega)] at hsp;rw [← hsp];exact ⟨rfl,D4.ext⟩
     ·rw [if_neg (by have:=of_decide_eq_false h64;omega)] at hsp;rw [← hsp];exact ⟨rfl,D4.rd,D4.ext⟩
    ·have h34:c.toNat≠34:=by have:=beq_eq_false_iff_ne.1 h34;omega
     rw [if_neg h34] at hsp;refine ⟨fun h92=>?_,fun h92=>?_⟩
     ·have h92:c.toNat=92:=by have:=beq_iff_eq.1 h92;omega
      rw [if_pos h92] at hsp;refine (xZ a x (j+1) n w4 D4.rd (by omega)).mono ?_;rintro e w6 (⟨d,hdd,rfl,E6⟩ | ⟨hdd,rfl,E6⟩)
      ·rw [hdd] at hsp;simp only at hsp;have hdl:=Sp.oC hdd;have hdlt:=d.toNat_lt;have D6:=D4.move (D4.rd.pure E6) E6.pure;refine .inl ⟨_,rfl,fun hb=>⟨a,rfl,_,zE D6.rd,?_⟩,fun hb=>?_⟩
       ·refine (zP (some a) 60 ((j+1:Nat):Int) w6).mono ?_;rintro _ w7 ⟨rfl,rfl⟩;refine .inr ⟨_,rfl,?_⟩;rw [if_neg (by simp at hb;omega),if_neg (by simp at hb;omega)] at hsp;rw [← hsp];exact ⟨rfl,D6.ext⟩
       ·unfold m_G_j3;refine ⟨a,rfl,_,zE D6.rd,a,rfl,D6.rd.canW (i:=1) (by simp),?_⟩;rintro w10 rfl;rw [vV (show j+1≤(bts x).length by omega) (by omega)];have D10:=D6.move (kD D6.rd (j+1+1)) yR;generalize w6.setCell (a.add 1) (.int .i64 ((j+1+1:Nat):Int))=w10 at *;refine ⟨fun h120=>?_,fun h120=>?_⟩
        ·have h120:d.toNat=120:=by have:=beq_iff_eq.1 h120;omega
         rw [if_pos h120] at hsp;refine (jEQ a x (j+1+1) n w10 D10.rd (by omega) hc).mono ?_;intro e w11;have hok1:=Sp.qO (bts x) (j+2);have hlt1:=@jAX (bts x) (j+2);rw [show j+1+1=j+2 from rfl] at *;generalize Sp.qH (bts x) (j+2)=R1 at *;cases R1 with
         | no er at_=>rintro ⟨rfl,X⟩;exact .inr ⟨_,rfl,by rw [← hsp];exact ⟨rfl,D10.ext.trans X⟩⟩
         | ok hi j1 =>
          rintro ⟨rfl,hr1,X1⟩
          obtain ⟨q1,q2⟩:=hok1 hi j1 rfl
          have hhi:=hlt1 rfl
          have D11:=D10.move hr1 X1
          refine .inl ⟨_,rfl,_,jFK hi hhi w11,?_⟩
          refine (jEQ a x j1 n w11 D11.rd q2 hc).mono ?_
          intro e w12
          have hok2:=Sp.qO (bts x) j1
          have hlt2:=@jAX (bts x) j1
          simp only [Sp.Rr.bind] at hsp
          generalize Sp.qH (bts x) j1=R2 at *
          cases R2 with
          | no er at_=>rintro ⟨rfl,X⟩;exact .inr ⟨_,rfl,by rw [← hsp];exact ⟨rfl,D11.ext.trans X⟩⟩
          | ok lo j2 =>
           rintro ⟨rfl,hr2,X2⟩
           obtain ⟨q3,q4⟩:=hok2 lo j2 rfl
           have hlo:=hlt2 rfl
           have D12:=D11.move hr2 X2
           refine .inl ⟨_,rfl,_,jDK hi lo hhi hlo w12,?_⟩
           intro p1 w13 n13
           obtain ⟨s1,w14,hr,D14⟩:=D12.app (UInt8.ofNat (16*hi+lo)) (by omega) n13
           exact ⟨s1,w14,hr,again (by omega) q4 (by simp;omega) hsp D14⟩
        ·have h120:d.toNat≠120:=by have:=beq_eq_false_iff_ne.1 h120;omega
         rw [if_neg h120,if_pos (by simp at hb;omega)] at hsp;intro p2 w15 n15;obtain ⟨s2,w16,hr,D16⟩:=D10.app d (by omega) n15;exact ⟨s2,w16,hr,again (by omega) (by omega) (by simp;omega) hsp D16⟩
      ·rw [hdd] at hsp;exact .inr ⟨_,rfl,by rw [← hsp];exact ⟨rfl,D4.ext.thenPure E6⟩⟩
     ·have h92:c.toNat≠92:=by have:=beq_eq_false_iff_ne.1 h92;omega
      rw [if_neg h92] at hsp;intro p3 w18 n18;obtain ⟨s3,w19,hr,D19⟩:=D4.app c (by omega) n18;exact ⟨s3,w19,hr,again (by omega) (by omega) (by simp;omega) hsp D19⟩
  ·rw [hcc] at hsp;exact .inr ⟨_,rfl,by rw [← hsp];exact ⟨rfl,D.ext.thenPure E2⟩⟩
 ·rintro e w' (⟨r,rfl,hh⟩ | ⟨ch,rfl,hh⟩) <;> exact hh
end
abbrev BMap (w:World) (m:Nat) (M:List (Int×Int)):Prop:=CMap w m (M.map fun p=>(.int .u8 p.1,.int .i64 p.2))
theorem bk (M:List (Int×Int)):∀p∈M.map (fun p:Int×Int=>((Value.int .u8 p.1,Value.int .i64 p.2):Value×Value)),∃n,p.1=.int .u8 n:=by
 intro p hp;obtain ⟨q,_,rfl⟩:=List.mem_map.1 hp;exact ⟨_,rfl⟩
theorem kZ {w:World} {m:Nat} {M:List (Int×Int)} (h:BMap w m M) {k v:Int} (hn:∀p∈M,p.1≠k):∃w',(Instr.mapUpdate 76 (.map (some m)) (.int .u8 k) (.int .i64 v)).run prog w=.ok () w'∧BMap w' m (M++[(k,v)])∧Ext (·=m) w w':=by
 obtain ⟨w',h1,h2,h3⟩:=h.insert (P:=prog) underlying76 (KeyOK.of_int underlying5) (bk M) (k:=.int .u8 k) (v:=.int .i64 v) ⟨k,rfl⟩ (fun p hp e=>by
  obtain ⟨q,hq,rfl⟩:=List.mem_map.1 hp;simp only [Value.int.injEq,true_and] at e;exact hn q hq e)
 exact ⟨w',h1,by simpa [BMap] using h2,h3⟩
def jCE:List (Int×Int):=[(110,1),(35,2),(107,6),(34,3),(40,4),(104,5),(115,7),(112,8),(102,9)]
theorem jCD (c:Nat):(∀p∈jCE,p.1≠(c:Int))→Sp.zS c=0:=by
 intro h;simp only [jCE,List.mem_cons,List.not_mem_nil,or_false,forall_eq_or_imp,forall_eq] at h;unfold Sp.zS;rw [if_neg (by omega),if_neg (by omega),if_neg (by omega),if_neg (by omega),if_neg (by omega),if_neg (by omega),if_neg (by omega),if_neg (by omega),if_neg (by omega)]
theorem jED (c:Nat) (v:Int):((c:Int),v)∈jCE→Sp.zS c=v:=by
 intro h;simp only [jCE,List.mem_cons,List.not_mem_nil,or_false,Prod.mk.injEq] at h;rcases h with ⟨h,rfl⟩ | ⟨h,rfl⟩ | ⟨h,rfl⟩ | ⟨h,rfl⟩ | ⟨h,rfl⟩ | ⟨h,rfl⟩ | ⟨h,rfl⟩ | ⟨h,rfl⟩ | ⟨h,rfl⟩
 ·obtain rfl:c=110:=by omega
  rfl
 ·obtain rfl:c=35:=by omega
  rfl
 ·obtain rfl:c=107:=by omega
  rfl
 ·obtain rfl:c=34:=by omega
  rfl
 ·obtain rfl:c=40:=by omega
  rfl
 ·obtain rfl:c=104:=by omega
  rfl
 ·obtain rfl:c=115:=by omega
  rfl
 ·obtain rfl:c=112:=by omega
  rfl
 ·obtain rfl:c=102:=by omega
  rfl
theorem jEW {w:World} {m:Nat} (h:BMap w m jCE) (c:Nat):(Instr.lookup 76 (.map (some m)) (.int .u8 (c:Int)) false).run prog w=.ok (.int .i64 (Sp.zS c)) w:=by
 rcases CMap.lookup (P:=prog) h underlying76 (KeyOK.of_int underlying5) (bk jCE) (k:=.int .u8 (c:Int)) ⟨_,rfl⟩ (zeroValue3 _) false with ⟨h1,h2⟩ | ⟨i,v,h1,h2⟩
 ·rw [jCD c (fun p hp e=>h1 (.int .u8 p.1,.int .i64 p.2) (List.mem_map.2 ⟨p,hp,rfl⟩) (by rw [e]))];exact h2
 ·obtain ⟨p,hp,he⟩:=List.mem_map.1 (List.mem_of_getElem? h1);simp only [Prod.mk.injEq,Value.int.injEq,true_and] at he;obtain ⟨h3,rfl⟩:=he;rw [jED c p.2 (by rw [← h3];exact hp)];exact h2
abbrev TT (w0 w:World) (H:NP) (s:Sl) (t:Sp.Tree):Prop:=TreeAt (fun b=>w0.heap.size≤b∧b<w.heap.size∧¬ H b) w s t
section
variable {w0 w w':World} {H H':NP} {s:Sl} {t:Sp.Tree} {a:Addr}
theorem TT.hst (h:TT w0 w H s t) (hs:Hst w0 H w H' w'):TT w0 w' H' s t:=by
 have hd:=hs.disj (G:=fun b=>w0.heap.size≤b∧b<w.heap.size∧¬ H b) (fun b hb=>⟨hb.2.1,hb.2.2⟩);exact (h.ext hs.ext hd).mono (fun b hb=>⟨hb.1,by have:=hs.ext.size;omega,hd b hb⟩)
theorem TT.ext (h:TT w0 w H s t) (E:Ext (·=a.block) w w') (ha:a.block<w0.heap.size):TT w0 w' H s t :=
 (TreeAt.ext h E (fun b hb e=>by have:=hb.1;omega)).mono (fun b hb=>⟨hb.1,by have:=E.size;omega,hb.2.2⟩)
theorem TT.of {w1:World} (h:TreeAt (fun b=>w1.heap.size≤b∧b<w.heap.size) w s t) (hw:w0.heap.size≤w1.heap.size) (hH:∀b,H b→b<w1.heap.size):TT w0 w H s t :=
 h.mono (fun b hb=>⟨by omega,hb.2,fun hh=>by have:=hH b hh;omega⟩)
end
def SpkT (w0:World) (a:Addr) (x:ByteArray) (e:Ending) (w':World):Sp.Rt→Prop
 | .ok t j=>∃s:Sl,e=.returned (.agg (kT t.1 s).toArray)∧TreeAt (fun b=>w0.heap.size≤b∧b<w'.heap.size) w' s t.1∧Spk w' a x j t.2∧Ext (·=a.block) w0 w'
 | .no er i=>e=.panicked (flt er i)∧Ext (·=a.block) w0 w'
def SpkB (w0:World) (a:Addr) (x:ByteArray) (e:Ending) (w':World):Sp.Rt→Prop
 | .ok t j=>∃s:Sl,e=.returned s.v∧(∀k f to u y,TreeAt (fun b=>w0.heap.size≤b∧b<w'.heap.size) w' s (.mk k f to u y [t.1]))∧Spk w' a x j t.2∧Ext (·=a.block) w0 w'
 | .no er i=>e=.panicked (flt er i)∧Ext (·=a.block) w0 w'
def jGN (a:Addr) (x:ByteArray) (d:Nat):Prop:=∀(i n:Nat) (w0:World),Spk w0 a x i n→i≤(bts x).length→n≤4096→jGO w0 a→Calls prog 23 #[.pointer (some a),.int .i64 (64 - (d:Int))] w0 (fun e w'=>SpkT w0 a x e w' (Sp.jS (bts x) d i n))
theorem jGK (a:Addr) (x:ByteArray) (d:Nat) (hd:d<64) (hT:jGN a x d) (i n:Nat) (w0:World) (h:Spk w0 a x i n) (hi:i≤(bts x).length) (hn:n≤4096) (hv:jGO w0 a) (hc:(bts x).length≤10000000) :
  Calls prog 41 #[.pointer (some a),.int .i64 (64 - ((d+1:Nat):Int))] w0 (fun e w'=>SpkB w0 a x e w' (Sp.kL (bts x) (Sp.jS (bts x) d) n i)):=by
 refine (w_K1 (some a) (64 - ((d+1:Nat):Int)) w0 (fun o r w'=>SpkB w0 a x (match o with | none=>.returned r.v | some ch=>.panicked ch) w' (Sp.kL (bts x) (Sp.jS (bts x) d) n i)) ?_).mono ?_
 ·unfold m_K1
  rw [show IntKind.i64.wrap (64 - ((d+1:Nat):Int)+1)=64 - (d:Int) by rw [IntWalk.i64_in _ (by omega)];omega]
  have ha:=h.lt
  refine (yS a x i n w0 h hi 40 hc).mono ?_
  intro e w1
  have hok:=Sp.vQ (bts x) 40 i
  unfold Sp.kL
  generalize Sp.zV (bts x) 40 i=R at *
  cases R with
  | no er k=>rintro ⟨rfl,X⟩;exact .inr ⟨_,rfl,rfl,X⟩
  | ok u i1 =>
   rintro ⟨rfl,h1,X1⟩
   obtain ⟨g1,g2⟩:=hok _ _ rfl
   refine .inl ⟨rfl,X1.kept (fun b hb=>hb.elim),?_⟩
   refine (hT i1 n w1 h1 g2 hn (hv.ext X1)).mono ?_
   intro e w2
   have hok2:=Sp.qE (bts x) d i1 n g2
   have hnn:=Sp.uR (bts x) d i1 n hn
   simp only [Sp.Rr.bind]
   generalize Sp.jS (bts x) d i1 n=R2 at *
   cases R2 with
   | no er k=>rintro ⟨rfl,X⟩;exact .inr ⟨_,rfl,rfl,X1.trans X⟩
   | ok t i2 =>
    rintro ⟨s,rfl,hTr,h2,X2⟩
    obtain ⟨g3,g4⟩:=hok2 _ _ rfl
    have hk2:Kept None w1 w2:=X2.kept (fun b hb=>hb.elim)
    refine .inl ⟨_,_,_,_,_,_,rfl,hk2,?_⟩
    intro H1 w4 hs4
    have z1:=X1.size
    have z2:=X2.size
    have nH:¬ H1 a.block:=fun hh=>by have:=hs4.here.old _ hh;omega
    have T2:TT w0 w2 None s t.1:=TT.of hTr z1 (fun b hb=>hb.elim)
    have T4:=TT.hst T2 hs4
    have h4:=h2.ext hs4.ext nH
    have X4:Ext (·=a.block) w0 w4:=(X1.trans X2).trans' hs4.ext (fun b hb hh=>by have:=hs4.here.old b hh;omega)
    refine (yS a x i2 t.2 w4 h4 g4 41 hc).mono ?_
    intro e w5
    simp only
    generalize Sp.zV (bts x) 41 i2=R3 at *
    cases R3 with
    | no er k=>rintro ⟨rfl,X⟩;exact .inr ⟨_,rfl,rfl,X4.trans X⟩
    | ok u i3 =>
     rintro ⟨rfl,h5,X5⟩
     refine .inl ⟨rfl,X5.kept (fun b hb e=>nH (e▸hb)),?_⟩
     intro p2 w6 n6
     have E6:Pure w5 w6:=Ext.new n6
     have T5:=TT.ext T4 X5 ha
     have hp:=n6.at_size
     have z5:=X4.size
     have z6:=X5.size
     have z7:=E6.size
     have B6:=Box.of_new n6
     have l6:=B6.lt
     refine ⟨_,rfl,fun k f to u y=>?_,h5.pure E6,(X4.trans X5).thenPure E6⟩
     have T6:=(TreeAt.pure T5 E6).mono (S':=fun b=>w0.heap.size≤b∧b<w6.heap.size) (fun b hb=>⟨hb.1,by omega⟩)
     exact TreeAt.one (A:=t.1) (sa:=s) B6 ⟨by omega,by omega⟩ T6
 ·rintro e w' (⟨r,rfl,hh⟩ | ⟨ch,rfl,hh⟩) <;> exact hh
abbrev KT (w0:World) (a:Addr) (x:ByteArray) (R:Sp.Rt):Option (List PanicEntry)→Int→Int→Int→Int→ByteArray→Sl→WP:=fun o k f t u y s w'=>SpkT w0 a x (match o with | none=>.returned (.agg #[.int .i64 k,.int .i64 f,.int .i64 t,.int .u64 u,.string y,s.v]) | some ch=>.panicked ch) w' R
structure TS (w0 w:World) (H:NP) (a:Addr) (x:ByteArray) (i n:Nat):Prop where
 rd:Spk w a x i n
 le:i≤(bts x).length
 ext:Ext (·=a.block) w0 w
 la:a.block<w0.heap.size
 oH:∀b,H b→w0.heap.size≤b∧b<w.heap.size
 few:(bts x).length≤10000000
section
variable {w0 w w':World} {H H':NP} {a:Addr} {x:ByteArray} {i j n n':Nat}
theorem TS.nH (h:TS w0 w H a x i n):¬ H a.block:=fun hh=>by have:=(h.oH _ hh).1;have:=h.la;omega
theorem TS.hst (h:TS w0 w H a x i n) (hs:Hst w0 H w H' w'):TS w0 w' H' a x i n :=
 ⟨h.rd.ext hs.ext (fun hh=>by have:=hs.here.old _ hh;have:=h.la;omega),h.le,h.ext.trans' hs.ext (fun b hb hh=>by have:=hs.here.old b hh;omega),h.la,fun b hb=>⟨hs.here.old b hb,hs.here.lt b hb⟩,h.few⟩
theorem TS.to (h:TS w0 w H a x i n) (hr:Spk w' a x j n') (hj:j≤(bts x).length) (E:Ext (·=a.block) w w'):Kept H w w'∧TS w0 w' H a x j n' :=
 ⟨E.kept (fun b hb e=>h.nH (e▸hb)),hr,hj,h.ext.trans E,h.la,fun b hb=>⟨(h.oH b hb).1,by have:=(h.oH b hb).2;have:=E.size;omega⟩,h.few⟩
theorem gH (h:TS w0 w H a x i n) {k f to u:Int} {y:ByteArray} {ks:List Sp.Tree} {s:Sl} (hT:TT w0 w H s (.mk k f to u y ks)) :
  ∀w19,Hst w0 H w H w19→Calls prog 35 #[.pointer (some a)] w19 (fun e w20=>e=.returned (.tuple #[])∧Kept H w19 w20∧∀w21,Hst w0 H w20 H w21→KT w0 a x (.ok (.mk k f to u y ks,n) (Sp.jJ (bts x) i)) none k f to u y s w21):=by
 intro w19 hs19
 have h19:=h.hst hs19
 have T19:=TT.hst hT hs19
 refine (xY a x i n w19 h19.rd h19.le h19.few).mono ?_
 rintro _ w20 ⟨rfl,hr,E⟩
 obtain ⟨k20,h20⟩:=h19.to hr (Sp.kO h.le).2 E
 refine ⟨rfl,k20,fun w21 hs21=>?_⟩
 have h21:=h20.hst hs21
 have T21:=TT.hst (TT.ext T19 E h.la) hs21
 exact ⟨s,rfl,T21.mono (fun b hb=>⟨hb.1,hb.2.1⟩),h21.rd,h21.ext⟩
theorem qU (h:TS w0 w H a x i n) {e:Int} {k:Nat} {w1:World} (X:Ext (·=a.block) w w1):KT w0 a x (.no e k) (some (flt e k)) 0 0 0 0 ⟨#[]⟩ Sl.nil w1:=⟨rfl,h.ext.trans X⟩
theorem jCY {k f to u:Int} {y:ByteArray}:TT w0 w H Sl.nil (.mk k f to u y []):=TreeAt.leaf
end
set_option maxHeartbeats 2000000 in
theorem jGT {w0 w:World} {H:NP} {a:Addr} {x:ByteArray} {i j n d:Nat} {c:UInt8} (hd:d<64) (hT:jGN a x d) (hj:j<(bts x).length) (hcj:(bts x)[j]?=some c) (k:Int) (hk:k=Sp.zS c.toNat) (hk0:k≠0)
  (h:TS w0 w H a x i n) (hi:i=if k=3∨k=4 then j else j+1) (hn:n≤4096) (hv:jGO w0 a) :
  m_C_j4 (some a) (64 - ((d+1:Nat):Int)) k w0 H w (KT w0 a x ((Sp.kE (bts x) (Sp.jS (bts x) d) k n j).bind fun t m=>.ok t (Sp.jJ (bts x) m))):=by
 have hdeep:IntKind.i64.wrap (64 - ((d+1:Nat):Int)+1)=64 - (d:Int):=by rw [IntWalk.i64_in _ (by omega)];omega
 have hk9:k=1∨k=2∨k=6∨k=3∨k=4∨k=5∨k=7∨k=8∨k=9:=by
  subst hk;unfold Sp.zS at hk0 ⊢
  repeat' split at hk0
  all_goals simp_all
 have nameC:∀(nt:Int) {w1:World} {H1:NP} {i1:Nat},TS w0 w1 H1 a x i1 n→Calls prog 37 #[.pointer (some a),.int .i64 nt] w1 (fun e w2=>(∃v j2,Sp.kK (bts x) nt i1=.ok v j2∧e=.returned (.int .i64 (v:Int))∧Kept H1 w1 w2∧TS w0 w2 H1 a x j2 n)∨(∃er k,Sp.kK (bts x) nt i1=.no er k∧e=.panicked (flt er k)∧Ext (·=a.block) w1 w2)):=fun nt w1 H1 i1 h1=>by
  refine (jGH a x i1 n w1 h1.rd h1.le h1.few (hv.ext h1.ext) nt).mono ?_;intro e w2;have hok:=Sp.qG (bts x) nt i1;generalize Sp.kK (bts x) nt i1=R at *;cases R with
  | no er k=>rintro ⟨rfl,X⟩;exact .inr ⟨_,_,rfl,rfl,X⟩
  | ok v j2 =>
   rintro ⟨rfl,hr,X⟩
   obtain ⟨k2,h2⟩:=h1.to hr (hok _ _ rfl).2 X
   exact .inl ⟨_,_,rfl,rfl,k2,h2⟩
 have bodyC:∀{w1:World} {H1:NP} {i1:Nat},TS w0 w1 H1 a x i1 n→Calls prog 41 #[.pointer (some a),.int .i64 (64 - ((d+1:Nat):Int))] w1 (fun e w2=>(∃t j2,Sp.kL (bts x) (Sp.jS (bts x) d) n i1=.ok t j2∧∃s:Sl,e=.returned s.v∧Kept H1 w1 w2∧TS w0 w2 H1 a x j2 t.2∧∀k f to u y,TT w0 w2 H1 s (.mk k f to u y [t.1]))∨(∃er k,Sp.kL (bts x) (Sp.jS (bts x) d) n i1=.no er k∧e=.panicked (flt er k)∧Ext (·=a.block) w1 w2)):=fun {w1 H1 i1} h1=>by
  refine (jGK a x d hd hT i1 n w1 h1.rd h1.le hn (hv.ext h1.ext) h1.few).mono ?_;intro e w2;have hok:=Sp.yL (B:=bts x) (T:=Sp.jS (bts x) d) (fun i n=>by
   by_cases h:i≤(bts x).length
   ·exact Sp.qE (bts x) d i n h
   ·intro a j e;exfalso;have hb:Sp.jJ (bts x) i=i:=Sp.vE (by omega);cases d <;> (unfold Sp.jS at e;rw [hb,List.getElem?_eq_none (by omega)] at e;cases e)) n i1
  generalize Sp.kL (bts x) (Sp.jS (bts x) d) n i1=R at *;cases R with
  | no er k=>rintro ⟨rfl,X⟩;exact .inr ⟨_,_,rfl,rfl,X⟩
  | ok t j2 =>
   rintro ⟨s,rfl,hTr,hr,X⟩
   obtain ⟨k2,h2⟩:=h1.to hr (hok _ _ rfl).2 X
   exact .inl ⟨_,_,rfl,s,rfl,k2,h2,fun k f to u y=>TT.of (hTr k f to u y) h1.ext.size (fun b hb=>(h1.oH b hb).2)⟩
 have takeC:∀(ch:Nat) {w1:World} {H1:NP} {i1 n1:Nat},TS w0 w1 H1 a x i1 n1→Calls prog 40 #[.pointer (some a),.int .u8 (ch:Int)] w1 (fun e w2=>(∃j2,Sp.zV (bts x) ch i1=.ok () j2∧e=.returned (.tuple #[])∧Kept H1 w1 w2∧Ext (·=a.block) w1 w2∧TS w0 w2 H1 a x j2 n1)∨(∃er k,Sp.zV (bts x) ch i1=.no er k∧e=.panicked (flt er k)∧Ext (·=a.block) w1 w2)):=fun ch w1 H1 i1 n1 h1=>by
  refine (yS a x i1 n1 w1 h1.rd h1.le ch h1.few).mono ?_;intro e w2;have hok:=Sp.vQ (bts x) ch i1;generalize Sp.zV (bts x) ch i1=R at *;cases R with
  | no er k=>rintro ⟨rfl,X⟩;exact .inr ⟨_,_,rfl,rfl,X⟩
  | ok v j2 =>
   rintro ⟨rfl,hr,X⟩
   obtain ⟨k2,h2⟩:=h1.to hr (hok _ _ rfl).2 X
   exact .inl ⟨_,rfl,rfl,k2,X,h2⟩
 have termC:∀{w1:World} {H1:NP} {i1 n1:Nat},n1≤4096→TS w0 w1 H1 a x i1 n1→Calls prog 23 #[.pointer (some a),.int .i64 (64 - (d:Int))] w1 (fun e w2=>(∃t j2,Sp.jS (bts x) d i1 n1=.ok t j2∧t.2≤4096∧∃s:Sl,e=.returned (.agg (kT t.1 s).toArray)∧Kept H1 w1 w2∧Ext (·=a.block) w1 w2∧TS w0 w2 H1 a x j2 t.2∧TT w0 w2 H1 s t.1)∨(∃er k,Sp.jS (bts x) d i1 n1=.no er k∧e=.panicked (flt er k)∧Ext (·=a.block) w1 w2)):=fun {w1 H1 i1 n1} hn1 h1=>by
  refine (hT i1 n1 w1 h1.rd h1.le hn1 (hv.ext h1.ext)).mono ?_;intro e w2;have hok:=Sp.qE (bts x) d i1 n1 h1.le;have hnn:=Sp.uR (bts x) d i1 n1 hn1;generalize Sp.jS (bts x) d i1 n1=R at *;cases R with
  | no er k=>rintro ⟨rfl,X⟩;exact .inr ⟨_,_,rfl,rfl,X⟩
  | ok t j2 =>
   rintro ⟨s,rfl,hTr,hr,X⟩
   obtain ⟨k2,h2⟩:=h1.to hr (hok _ _ rfl).2 X
   exact .inl ⟨_,_,rfl,hnn _ _ rfl,s,rfl,k2,X,h2,TT.of hTr h1.ext.size (fun b hb=>(h1.oH b hb).2)⟩
 unfold m_C_j4 Sp.kE
 refine ⟨fun hb=>fun H3 w17 hs17=>?_,fun hb1=>⟨fun hb=>fun H3 w17 hs17=>?_,fun hb2=>⟨fun hb=>fun H3 w17 hs17=>?_,fun hb3=>⟨fun hb=>?_,fun hb4=>⟨fun hb=>fun H3 w17 hs17=>?_,fun hb5=>⟨fun hb=>fun H3 w17 hs17=>?_,fun hb7=>fun H3 w17 hs17=>?_⟩⟩⟩⟩⟩⟩
 ·-- a name,a key
  have hk16:k=1∨k=6:=by
   by_cases h1:k=1
   ·exact .inl h1
   ·rw [show ((k:Int) == 1)=false by simpa using h1] at hb;right;simpa using hb
  rw [if_pos hk16]
  rw [if_neg (by omega)] at hi
  subst hi
  have h17:=h.hst hs17
  refine (nameC (-1) h17).mono ?_
  rintro e w18 (⟨v,j2,hR,rfl,k18,h18⟩ | ⟨er,m,hR,rfl,X⟩)
  ·rw [hR]
   exact .inl ⟨_,rfl,k18,gH h18 jCY⟩
  ·rw [hR]
   exact .inr ⟨_,rfl,qU h17 X⟩
 ·have hk2:k=2:=by simpa using hb
  subst hk2
  rw [if_neg (by decide),if_pos rfl]
  rw [if_neg (by decide)] at hi
  subst hi
  have h17:=h.hst hs17
  refine (jEP a x (j+1) n w17 h17.rd h17.le h17.few (hv.ext h17.ext)).mono ?_
  intro e w22
  have hok:=Sp.uS (bts x) (j+1)
  generalize Sp.qB (bts x) (j+1)=R at *
  cases R with
  | no er m=>rintro ⟨rfl,X⟩;exact .inr ⟨_,rfl,qU h17 X⟩
  | ok v j2 =>
   rintro ⟨rfl,hr,X⟩
   obtain ⟨k22,h22⟩:=h17.to hr (hok _ _ rfl).2 X
   exact .inl ⟨_,rfl,k22,gH h22 jCY⟩
 ·have hk3:k=3:=by simpa using hb
  subst hk3
  rw [if_neg (by decide),if_neg (by decide),if_pos rfl]
  rw [if_pos (by decide)] at hi
  subst hi
  have h17:=h.hst hs17
  have hc34:c.toNat=34:=by
   unfold Sp.zS at hk
   repeat' split at hk
   all_goals first | assumption | exact absurd hk (by decide)
  refine (jGJ a x i n w17 h17.rd ⟨c,hcj,hc34⟩ h17.few).mono ?_
  intro e w26
  have hok:Sp.uW (bts x) (i+1) (Sp.yK (bts x) i):=Sp.qI (bts x) i ((bts x).length+1) (i+1) []
  generalize Sp.yK (bts x) i=R at *
  cases R with
  | no er m=>rintro ⟨rfl,X⟩;exact .inr ⟨_,rfl,qU h17 X⟩
  | ok v j2 =>
   rintro ⟨rfl,hr,X⟩
   obtain ⟨k22,h22⟩:=h17.to hr (hok _ _ rfl).2 X
   exact .inl ⟨_,rfl,k22,gH h22 jCY⟩
 ·have hk4:k=4:=by simpa using hb
  subst hk4
  rw [if_neg (by decide),if_neg (by decide),if_neg (by decide),if_pos rfl]
  rw [if_pos (by decide)] at hi
  subst hi
  refine ⟨a,rfl,fun H3 w17 hs17=>?_⟩
  have h17:=h.hst hs17
  refine ⟨_,zE h17.rd,a,rfl,h17.rd.canW (i:=1) (by simp),h17.nH,?_⟩
  rintro w30 rfl
  rw [vV (show i≤(bts x).length by omega) (by have:=h.few;omega),hdeep]
  obtain ⟨_,h30⟩:=h17.to (kD h17.rd (i+1)) hj yR
  refine (termC hn h30).mono ?_
  rintro e w31 (⟨t1,j1,hR,hn1,s1,rfl,k31,X31,h31,T31⟩ | ⟨er,m,hR,rfl,X⟩)
  ·rw [hR]
   refine .inl ⟨_,_,_,_,_,s1,rfl,k31,?_⟩
   intro H4 w33 hs33
   have h33:=h31.hst hs33
   have T33:=TT.hst T31 hs33
   refine (termC hn1 h33).mono ?_
   rintro e w34 (⟨t2,j2,hR2,hn2,s2,rfl,k34,X34,h34,T34⟩ | ⟨er,m,hR2,rfl,X⟩)
   ·simp only [Sp.Rr.bind]
    rw [hR2]
    refine .inl ⟨_,_,_,_,_,s2,rfl,k34,?_⟩
    intro H5 w36 hs36
    have h36:=h34.hst hs36
    have T1:=TT.hst (TT.ext T33 X34 h.la) hs36
    have T2:=TT.hst T34 hs36
    refine (takeC 41 h36).mono ?_
    rintro e w37 (⟨j3,hR3,rfl,k37,X37,h37⟩ | ⟨er,m,hR3,rfl,X⟩)
    ·simp only
     rw [hR3]
     refine .inl ⟨trivial,k37,?_⟩
     intro p5 w38 n38
     have E38:Pure w37 w38:=Ext.new n38
     have B38:=Box.of_new n38
     have hp:=n38.at_size
     have l38:=B38.lt
     have z:=h37.ext.size
     intro w39 hs39
     have hE38:=E38.keptP (H:=H5)
     obtain ⟨_,h38⟩:=h37.to (h37.rd.pure E38) h37.le E38.pure
     have up:∀{s:Sl} {t:Sp.Tree},TT w0 w36 H5 s t→TT w0 w38 H5 s t:=fun T=>(TreeAt.pure (TT.ext T X37 h.la) E38).mono (fun b hb=>⟨hb.1,by omega,hb.2.2⟩)
     refine gH h38 (TreeAt.pair (A:=t1.1) (B:=t2.1) (sa:=s1) (sb:=s2) B38 ⟨by omega,by omega,fun hh=>by have:=(h37.oH _ hh).2;omega⟩ (up T1) (up T2)) w39 hs39
    ·simp only
     rw [hR3]
     exact .inr ⟨_,rfl,qU h36 X⟩
   ·simp only [Sp.Rr.bind]
    rw [hR2]
    exact .inr ⟨_,rfl,qU h33 X⟩
  ·rw [hR]
   exact .inr ⟨_,rfl,qU h30 X⟩
 ·have hk5:k=5:=by simpa using hb
  subst hk5
  rw [if_neg (by decide),if_neg (by decide),if_neg (by decide),if_neg (by decide),if_pos rfl]
  rw [if_neg (by decide)] at hi
  subst hi
  have h17:=h.hst hs17
  refine (bodyC h17).mono ?_
  rintro e w42 (⟨t,j2,hR,s,rfl,k42,h42,T42⟩ | ⟨er,m,hR,rfl,X⟩)
  ·rw [hR];exact .inl ⟨_,rfl,k42,gH h42 (T42 _ _ _ _ _)⟩
  ·rw [hR];exact .inr ⟨_,rfl,qU h17 X⟩
 ·have hk7:k=7:=by simpa using hb
  subst hk7
  rw [if_neg (by decide),if_neg (by decide),if_neg (by decide),if_neg (by decide),if_neg (by decide),if_pos rfl]
  rw [if_neg (by decide)] at hi
  subst hi
  have h17:=h.hst hs17
  refine (nameC (-1) h17).mono ?_
  rintro e w46 (⟨v,j1,hR,rfl,k46,h46⟩ | ⟨er,m,hR,rfl,X⟩)
  ·rw [hR]
   refine .inl ⟨_,rfl,k46,fun w47 hs47=>?_⟩
   have h47:=h46.hst hs47
   refine (bodyC h47).mono ?_
   rintro e w48 (⟨t,j2,hR2,s,rfl,k48,h48,T48⟩ | ⟨er,m,hR2,rfl,X⟩)
   ·simp only [Sp.Rr.bind];rw [hR2];exact .inl ⟨_,rfl,k48,gH h48 (T48 _ _ _ _ _)⟩
   ·simp only [Sp.Rr.bind];rw [hR2];exact .inr ⟨_,rfl,qU h47 X⟩
  ·rw [hR];exact .inr ⟨_,rfl,qU h17 X⟩
 ·have h16 : ¬ (k = 1 ∨ k = 6) := by
   rintro (rfl | rfl)
   ·simp at hb1
   ·simp at hb1
  have h2:k≠2:=by simpa using hb2
  have h3:k≠3:=by simpa using hb3
  have h4:k≠4:=by simpa using hb4
  have h5:k≠5:=by simpa using hb5
  have h7:k≠7:=by simpa using hb7
  rw [if_neg h16,if_neg h2,if_neg h3,if_neg h4,if_neg h5,if_neg h7]
  rw [if_neg (by omega)] at hi
  subst hi
  have h17:=h.hst hs17
  refine (nameC (-1) h17).mono ?_
  rintro e w52 (⟨v,j1,hR,rfl,k52,h52⟩ | ⟨er,m,hR,rfl,X⟩)
  ·rw [hR]
   refine .inl ⟨_,rfl,k52,fun w53 hs53=>?_⟩
   have h53:=h52.hst hs53
   refine (takeC 62 h53).mono ?_
   rintro e w54 (⟨j2,hR2,rfl,k54,X54,h54⟩ | ⟨er,m,hR2,rfl,X⟩)
   ·simp only [Sp.Rr.bind]
    rw [hR2]
    refine .inl ⟨trivial,k54,?_⟩
    refine (nameC (v:Int) h54).mono ?_
    rintro e w55 (⟨v2,j3,hR3,rfl,k55,h55⟩ | ⟨er,m,hR3,rfl,X⟩)
    ·simp only
     rw [hR3]
     refine .inl ⟨_,rfl,k55,fun w56 hs56=>?_⟩
     have h56:=h55.hst hs56
     refine (bodyC h56).mono ?_
     rintro e w57 (⟨t,j4,hR4,s,rfl,k57,h57,T57⟩ | ⟨er,m,hR4,rfl,X⟩)
     ·simp only;rw [hR4];exact .inl ⟨_,rfl,k57,gH h57 (T57 _ _ _ _ _)⟩
     ·simp only;rw [hR4];exact .inr ⟨_,rfl,qU h56 X⟩
    ·simp only
     rw [hR3];exact .inr ⟨_,rfl,qU h54 X⟩
   ·simp only [Sp.Rr.bind]
    rw [hR2];exact .inr ⟨_,rfl,qU h53 X⟩
  ·rw [hR];exact .inr ⟨_,rfl,qU h17 X⟩
end Go.Proofs
end
section
open Go Go.SE
namespace Go.Proofs
attribute [local irreducible] Calls
theorem spk_j3 {w0 w:World} {H:NP} {a:Addr} {x:ByteArray} {j n d:Nat} {c:UInt8} (hd:d<64) (hT:jGN a x d) (hj:j<(bts x).length) (hcj:(bts x)[j]?=some c) (hk0:Sp.zS c.toNat≠0)
  (h:TS w0 w H a x j n) (hn:n<4096) (hv:jGO w0 a) :
  m_C_j3 (some a) (64 - ((d+1:Nat):Int)) (c.toNat:Int) (Sp.zS c.toNat) w0 H w (KT w0 a x ((Sp.kE (bts x) (Sp.jS (bts x) d) (Sp.zS c.toNat) (n+1) j).bind fun t m=>.ok t (Sp.jJ (bts x) m))):=by
 unfold m_C_j3
 refine ⟨a,rfl,_,spk_n h.rd,a,rfl,h.rd.canW (i:=2) (by simp),h.nH,?_⟩
 rintro w15 rfl
 rw [vV (show n≤4096 by omega) (by omega)]
 obtain ⟨_,h15⟩:=h.to (jFD h.rd (n+1)) h.le yR
 have hk34:(Sp.zS c.toNat=3∨Sp.zS c.toNat=4)↔(c.toNat=34∨c.toNat=40):=by
  unfold Sp.zS;constructor
  ·intro h;repeat' split at h
   all_goals simp_all
  ·rintro (h | h) <;> rw [h] <;> decide
 refine ⟨fun hb=>⟨a,rfl,fun H2 w16 hs16=>?_⟩,fun hb=>fun H2 w16 hs16=>?_⟩
 ·have h16:=h15.hst hs16
  refine ⟨_,zE h16.rd,a,rfl,h16.rd.canW (i:=1) (by simp),h16.nH,?_⟩
  rintro w61 rfl
  rw [vV (show j≤(bts x).length by omega) (by have:=h.few;omega)]
  obtain ⟨_,h61⟩:=h16.to (kD h16.rd (j+1)) hj yR
  exact jGT hd hT hj hcj _ rfl hk0 h61 (by rw [if_neg (fun hh=>by have:=hk34.1 hh;simp at hb;omega)]) (by omega) hv
 ·exact jGT hd hT hj hcj _ rfl hk0 (h15.hst hs16) (by rw [if_pos (hk34.2 (by
   by_cases h1:c.toNat=34
   ·exact .inl h1
   ·right;rw [show (((c.toNat:Int)) != 34)=true by simp;omega] at hb;simp at hb;omega))]) (by omega) hv
set_option maxHeartbeats 2000000 in
theorem jAW (a:Addr) (x:ByteArray) (deep:Int) (i n:Nat) (w0:World) (h:Spk w0 a x i n) (hi:i≤(bts x).length) (hc:(bts x).length≤10000000) (R:Sp.Rt)
  (h1:(bts x)[Sp.jJ (bts x) i]?=none→R=.no 3 (Sp.jJ (bts x) i))
  (h2:∀c,(bts x)[Sp.jJ (bts x) i]?=some c→Sp.zS c.toNat=0→R=.no 60 (Sp.jJ (bts x) i))
  (h3:∀c,(bts x)[Sp.jJ (bts x) i]?=some c→Sp.zS c.toNat≠0→(n=4096∨deep=64)→R=.no 52 (Sp.jJ (bts x) i))
  (h4:∀c H w,(bts x)[Sp.jJ (bts x) i]?=some c→Sp.zS c.toNat≠0→¬ (n=4096∨deep=64)→TS w0 w H a x (Sp.jJ (bts x) i) n→m_C_j3 (some a) deep (c.toNat:Int) (Sp.zS c.toNat) w0 H w (KT w0 a x R)) :
  m_C (some a) deep w0 (KT w0 a x R):=by
 unfold m_C
 intro H1 w1 hs1
 have E1:=hs1.first
 have t1:TS w0 w1 H1 a x i n:=⟨h.pure E1,hi,E1.pure,h.lt,fun b hb=>⟨hs1.here.old b hb,hs1.here.lt b hb⟩,hc⟩
 refine (xY a x i n w1 t1.rd hi hc).mono ?_
 rintro _ w2 ⟨rfl,hr2,X2⟩
 have hbl:=Sp.kO hi
 generalize Sp.jJ (bts x) i=j at *
 obtain ⟨k2,t2⟩:=t1.to hr2 hbl.2 X2
 refine ⟨rfl,k2,?_⟩
 refine (xZ a x j n w2 t2.rd hbl.2).mono ?_
 rintro e w3 (⟨c,hcc,rfl,E3⟩ | ⟨hcc,rfl,E3⟩)
 ·have t3:TS w0 w3 H1 a x j n:=(t2.to (t2.rd.pure E3) hbl.2 E3.pure).2
  refine .inl ⟨_,rfl,E3.keptP,?_⟩
  intro p2 w4 n4
  have hp:=n4.at_size
  have E4:Pure w3 w4:=Ext.new n4
  have M4:BMap w4 p2.block []:=CMap.of_new n4
  have hH:∀b,H1 b→b≠p2.block:=fun b hb=>by have:=(t3.oH b hb).2;omega
  have kp:∀{w w':World},Ext (·=p2.block) w w'→Kept H1 w w':=fun X=>X.kept (fun b hb e=>hH b hb e)
  obtain ⟨w5,r5,M5,X5⟩:=kZ M4 (k:=110) (v:=1) (by decide)
  obtain ⟨w6,r6,M6,X6⟩:=kZ M5 (k:=35) (v:=2) (by decide)
  obtain ⟨w7,r7,M7,X7⟩:=kZ M6 (k:=107) (v:=6) (by decide)
  obtain ⟨w8,r8,M8,X8⟩:=kZ M7 (k:=34) (v:=3) (by decide)
  obtain ⟨w9,r9,M9,X9⟩:=kZ M8 (k:=40) (v:=4) (by decide)
  obtain ⟨w10,r10,M10,X10⟩:=kZ M9 (k:=104) (v:=5) (by decide)
  obtain ⟨w11,r11,M11,X11⟩:=kZ M10 (k:=115) (v:=7) (by decide)
  obtain ⟨w12,r12,M12,X12⟩:=kZ M11 (k:=112) (v:=8) (by decide)
  obtain ⟨w13,r13,M13,X13⟩:=kZ M12 (k:=102) (v:=9) (by decide)
  have E13:Pure w3 w13:=E4.trans' (((((((((X5.trans X6).trans X7).trans X8).trans X9).trans X10).trans X11).trans X12).trans X13)) (fun b hb e=>by omega)
  have t13:TS w0 w13 H1 a x j n:=(t3.to (t3.rd.pure E13) hbl.2 E13.pure).2
  refine ⟨w5,r5,kp X5,w6,r6,kp X6,w7,r7,kp X7,w8,r8,kp X8,w9,r9,kp X9,w10,r10,kp X10,w11,r11,kp X11,w12,r12,kp X12,w13,r13,kp X13,_,jEW M13 c.toNat,fun hb=>⟨a,rfl,fun w14 hs14=>?_⟩,fun hb=>fun w14 hs14=>?_⟩
  ·have t14:=t13.hst hs14
   refine ⟨_,zE t14.rd,?_⟩
   refine (zP (some a) 60 j w14).mono ?_
   rintro _ w64 ⟨rfl,rfl⟩
   rw [h2 c hcc (by simpa using hb)]
   exact .inr ⟨_,rfl,qU t14 (Ext.refl _)⟩
  ·have hk0:Sp.zS c.toNat≠0:=by simpa using hb
   have t14:=t13.hst hs14
   unfold m_C_j1
   refine ⟨a,rfl,_,spk_n t14.rd,fun H6 w63 hs63=>?_⟩
   have t63:=t14.hst hs63
   unfold m_C_j2
   refine ⟨fun hb=>?_,fun hb=>h4 c H6 w63 hcc hk0 (by simp at hb;omega) t63⟩
   refine ⟨a,rfl,_,zE t63.rd,?_⟩
   refine (zP (some a) 52 j w63).mono ?_
   rintro _ w64 ⟨rfl,rfl⟩
   rw [h3 c hcc hk0 (by simp at hb;omega)]
   exact .inr ⟨_,rfl,qU t63 (Ext.refl _)⟩
 ·rw [h1 hcc]
  exact .inr ⟨_,rfl,qU t2 E3.pure⟩
theorem jGG (a:Addr) (x:ByteArray) (hc:(bts x).length≤10000000):∀d,d≤64→jGN a x d:=by
 intro d;induction d with
 | zero =>
  intro _ i n w0 h hi hn hv
  refine (w_C (some a) (64 - ((0:Nat):Int)) w0 (KT w0 a x (Sp.jS (bts x) 0 i n)) ?_).mono ?_
  ·refine jAW a x _ i n w0 h hi hc _ (fun e=>?_) (fun c e hk=>?_) (fun c e hk _=>?_) (fun c H w e hk hh _=>absurd (.inr (by simp)) hh)
   ·unfold Sp.jS;rw [e]
   ·unfold Sp.jS;rw [e];simp only;rw [if_pos hk]
   ·unfold Sp.jS;rw [e];simp only;rw [if_neg hk]
  ·rintro e w' (⟨k,f,t,u,y,s,rfl,hh⟩ | ⟨ch,rfl,hh⟩) <;> exact hh
 | succ d ih =>
  intro hd i n w0 h hi hn hv
  refine (w_C (some a) (64 - ((d+1:Nat):Int)) w0 (KT w0 a x (Sp.jS (bts x) (d+1) i n)) ?_).mono ?_
  ·refine jAW a x _ i n w0 h hi hc _ (fun e=>?_) (fun c e hk=>?_) (fun c e hk hh=>?_) (fun c H w e hk hh ht=>?_)
   ·unfold Sp.jS;rw [e]
   ·unfold Sp.jS;rw [e];simp only;rw [if_pos hk]
   ·unfold Sp.jS;rw [e];simp only;rw [if_neg hk,if_pos (by omega)]
   ·have:=spk_j3 (by omega) (ih (by omega)) (Sp.oC e) e hk ht (by omega) hv
    unfold Sp.jS;rw [e];simp only;rw [if_neg hk,if_neg (by omega)]
    exact this
  ·rintro e w' (⟨k,f,t,u,y,s,rfl,hh⟩ | ⟨ch,rfl,hh⟩) <;> exact hh
end Go.Proofs
end
section
namespace Go.SE
section
variable {P:Program} {n:Nat} {ρ:Env} {w:World} {ds:List Deferred} {Q:Exit→Act→World→Prop} {a:Act}
theorem gE {c1 c2:Code} (ha:Rep ds n ρ a)
  (h:wpE (x:=⟨none,ds⟩) P n c1 (fun e ρ' w'=>match e with | .normal=>∀a',Rep ds n ρ' a'→c2.wp P Q a' w' | .panic ch=>∀a',Rep ds n ρ' a'→Q (.panic ch) a' w' | _=>False) ρ w):(Code.seq c1 c2).wp P Q a w:=by
 refine wp_seq (wpIn_wide.1 (wpIn_mono (h a ha) ?_))
 rintro e a' w' ⟨ρ',⟨hr,hq⟩ | ⟨rfl,_,_,D,hr,hD,hq⟩⟩
 ·cases e <;> first | exact hq.elim | exact hq _ hr
 ·exact hq.elim
theorem jFB {c:Code} (ha:Rep ds n ρ a)
  (h:wpE (x:=⟨none,ds⟩) P n c (fun e ρ' w'=>match e with | .normal=>∀a',Rep ds n ρ' a'→Q .normal a' w' | .panic ch=>∀a',Rep ds n ρ' a'→Q (.panic ch) a' w' | _=>False) ρ w):c.wp P Q a w:=by
 refine wpIn_wide.1 (wpIn_mono (h a ha) ?_)
 rintro e a' w' ⟨ρ',⟨hr,hq⟩ | ⟨rfl,_,_,D,hr,hD,hq⟩⟩
 ·cases e <;> first | exact hq.elim | exact hq _ hr
 ·exact hq.elim
theorem jCW {id t:Nat} {f:FuncId} {caps:Array Operand} {ty ty':TypeId} {pos pos':String} {aft aft':Array Edge} {c2:Code} (ha:Rep ds n ρ a) (ht:t<n)
  (h:∀a',Rep (⟨.fn (.func f) (caps.map (evE ρ)),#[]⟩ :: ds) n (put ρ (some t) (.func (.func f) #[] (caps.map (evE ρ)))) a'→c2.wp P Q a' w) :
  (Code.seq (.region id #[⟨some t,.makeFunc (.func f) #[] caps,ty,pos,aft,none⟩,⟨none,.defer ⟨.value (.tmp t),#[],#[]⟩,ty',pos',aft',none⟩] false) c2).wp P Q a w:=by
 have h1:Rep ds n (put ρ (some t) (.func (.func f) #[] (caps.map (evE ρ)))) (a.put (some t) (.func (.func f) #[] (caps.map (evE ρ)))):=ha.put (fun k e=>by cases e;exact ht) _
 have h2:=h ({ (a.put (some t) (.func (.func f) #[] (caps.map (evE ρ)))) with defers:=⟨.fn (.func f) (caps.map (evE ρ)),#[]⟩ :: ds }.put none undef) ⟨rfl,h1.size,h1.get⟩
 refine wp_seq ((wpIn_wide (n:=0)).1 (wpIn_region_lit (l:=[_,_]) ?_))
 unfold wpListIn
 rw [if_pos (by simp [Region.wanted])]
 refine qD (ro:=none) ⟨by simp,?_⟩
 rw [ha.eval]
 simp only [execOp,Instr.makeFunc]
 show wpListIn _ 0 P _ _ _ _ _
 unfold wpListIn
 rw [if_pos (by simp [Region.wanted])]
 refine ⟨fun f _=>trivial,?_⟩
 have hev:(a.put (some t) (.func (.func f) #[] (caps.map (evE ρ)))).eval (.tmp t)=.func (.func f) #[] (caps.map (evE ρ)):=by
  rw [h1.eval];simp [evE,put,upd]
 have hd:=h1.defers
 simp [Oper.semAt,Fence.wide,execOp,resolve,hev,Deferred.ofValue,Oper.uponIn,wpListIn,Exit.then,hd]
 exact h2
theorem tP {f:FuncId} {fn:Func} {c:Code} {args:List Value} {R:Ending→World→Prop} (hf:P.funcs[f]?=some fn) (hb:fn.body=some c) (hn:fn.ntmps=n) (hl:args.length≤n)
  (h:∀a,Rep [] n (oD args) a→c.wp P (bodyPostD P fn R) a w):Calls P f args.toArray w R:=by
 subst hn;exact calls_of_wp_defers hf hb (h _ (uT args hl))
inductive Recov:FrameMode→Value→FrameMode→Prop
 | idle:Recov .returning .nilIface .returning
 | hit (v:Value) (older:List PanicEntry):Recov (.panicking ({ v:=v,recovered:=false } :: older)) v (.panicking ({ v:=v,recovered:=true } :: older))
def bodyEN (P:Program) (fn:Func) (n:Nat) (R:Ending→World→Prop):Exit→Env→World→Prop
 | .normal,ρ,w=>∃v,(∀ds a,Rep ds n ρ a→(results fn a.tmps).run P w=.ok v w)∧R (.returned v) w
 | .panic ch,_,w=>R (.panicked ch) w
 | _,_,_=>False
theorem qY {id t t2:Nat} {f:FuncId} {fn:Func} {c:Code} {args:List Value} {v:Value} {u u':FrameMode} {R:Ending→World→Prop} {ty ty':TypeId} {pos pos':String} {aft aft':Array Edge}
  (hu:Recov u v u') (hf:P.funcs[f]?=some fn)
  (hb:fn.body=some (Code.seq (.region id #[⟨some t,.call ⟨.builtin .recover,#[],#[]⟩,ty,pos,aft,none⟩,⟨some t2,.assign (.tmp t),ty',pos',aft',none⟩] false) c))
  (hn:fn.ntmps=n) (hl:args.length≤n) (ht:t<n) (ht2:t2<n)
  (h:wpE (x:=⟨none,[]⟩) P n c (bodyEN P fn n R) (put (put (oD args) (some t) v) (some t2) v) w) :
  CallsD P f args.toArray u w (fun e u1 w'=>u1=u'∧R e w'):=by
 subst hn
 refine callsD_of_wpS hf hb fun c₀ cs hm=>?_
 apply wpS_seq
 apply wpS_region
 have hr:=uT args hl
 have h1:Rep [] fn.ntmps (put (oD args) (some t) v) _:=hr.put (d:=some t) (fun k e=>by cases e;exact ht) v
 have h2:Rep [] fn.ntmps (put (put (oD args) (some t) v) (some t2) v) _:=h1.put (d:=some t2) (fun k e=>by cases e;exact ht2) v
 have hv:((Act.mk (args.toArray++Array.replicate (fn.ntmps - args.toArray.size) undef) []).put (some t) v).eval (.tmp t)=v:=by
  rw [h1.eval];simp [evE,put,upd]
 have key:∀cs',cs'={ c₀ with mode:=u' } :: cs→c.wpS P (bodyPostS P fn c₀ cs fun e u1 w'=>u1=u'∧R e w') ((((Act.mk (args.toArray++Array.replicate (fn.ntmps - args.toArray.size) undef) []).put (some t) v)).put (some t2) v) cs' w:=by
  rintro cs' rfl;refine wpS_of_wp (jFB h2 (uQ ?_ h));intro e ρ' w' hq;cases e with
  | normal =>
   intro a' ha'
   obtain ⟨x,hx,hR⟩:=hq
   exact ⟨ha'.defers,u',rfl,x,hx _ a' ha',rfl,hR⟩
  | panic ch =>
   intro a' ha'
   exact ⟨ha'.defers,u',rfl,rfl,hq⟩
  | _=>exact hq.elim
 have h0:(execOp (Act.mk (args.toArray++Array.replicate (fn.ntmps - args.toArray.size) undef) []).eval ⟨some t,.call ⟨.builtin .recover,#[],#[]⟩,ty,pos,aft,none⟩).run P w=.ok .recover w:=by
  simp [execOp,resolve,invoke,builtin]
 show wpOpsS P _ _ [0,1] _ _ _
 cases hu with
 | idle =>
  have hrd:recoverD (c₀ :: cs)=none:=by simp [recoverD,hm]
  simp only [wpOpsS,List.getElem?_toArray,List.getElem?_cons_zero,List.getElem?_cons_succ]
  rw [if_pos (by simp [Region.wanted]),h0]
  simp only [hrd]
  rw [if_pos (by simp [Region.wanted])]
  simp only [execOp,hv,Oper.upon]
  exact key _ (by cases c₀;simp_all)
 | hit v older =>
  have hrd:recoverD (c₀ :: cs)=some (v,{ c₀ with mode:=.panicking ({ v:=v,recovered:=true } :: older) } :: cs):=by simp [recoverD,hm]
  simp only [wpOpsS,List.getElem?_toArray,List.getElem?_cons_zero,List.getElem?_cons_succ]
  rw [if_pos (by simp [Region.wanted]),h0]
  simp only [hrd]
  rw [if_pos (by simp [Region.wanted])]
  simp only [execOp,hv,Oper.upon]
  exact key _ rfl
end
section
variable {P:Program} {x:Cx} {n:Nat} {Q:Exit→Env→World→Prop} {ρ:Env} {w:World}
theorem vC {ops:Array Oper} {Q':Env→World→Prop} {X:List PanicEntry→World→Prop} {I:Env→Prop} (hQ:∀ρ a w,Rep x.ds n ρ a→Q' ρ w→jCB x n Q .normal a w) (hX:∀ρ a ch w,Rep x.ds n ρ a→I ρ→X ch w→jCB x n Q (.panic ch) a w) :
  ∀(l:List Oper),(∀o∈l,∀ρ v,I ρ→I (put ρ o.dst v))→∀(ρ:Env) (a:Act) (w:World),kS n l=true→Rep x.ds n ρ a→I ρ→oE P ops Q' X l ρ w→wpListIn (fen x.ro) 0 P ops (jCB x n Q) l a w
 | [],_,ρ,a,w,_,hr,_,h=>hQ _ _ _ hr h
 | o :: l,hI,ρ,a,w,hd,hr,hi,h=>by
  obtain ⟨hk,hd'⟩:=yF hd;have hI':∀o∈l,∀ρ v,I ρ→I (put ρ o.dst v):=fun o ho=>hI o (List.mem_cons_of_mem _ ho);have h0:=hI o (List.mem_cons_self ..);unfold oE at h;unfold wpListIn;rw [hr.yielded];split
  ·rename_i hw;rw [if_pos hw] at h;apply qD;rw [hr.eval];exact uX h (fun v w' hh=>vC hQ hX l hI' _ _ _ hd' (hr.put hk v) (h0 _ _ hi) hh) (fun ch w' hh=>hX ρ a ch w' hr hi hh)
  ·rename_i hw;rw [if_neg hw] at h;exact ⟨fun f _=>xV x.ro f,vC hQ hX l hI' _ _ _ hd' (hr.put hk undef) (h0 _ _ hi) h⟩
theorem uH {id:Nat} {l:List Oper} (I:Env→Prop) (hI:∀o∈l,∀ρ v,I ρ→I (put ρ o.dst v)) (hi:I ρ) (hd:kS n l=true) (h:oE P l.toArray (fun ρ w=>Q .normal ρ w) (fun ch w=>∀ρ,I ρ→Q (.panic ch) ρ w) l ρ w):wpE (x:=x) P n (.region id l.toArray false) Q ρ w:=fun a ha =>
 wpIn_region_lit (vC (I:=I) (fun ρ' _ _ hr hq=>⟨ρ',.inl ⟨hr,hq⟩⟩) (fun ρ' _ _ _ hr hi' hq=>⟨ρ',.inl ⟨hr,hq ρ' hi'⟩⟩) l hI ρ a w hd ha hi h)
theorem jCV {c:Code} {ds:List Deferred} {Q:Exit→Act→World→Prop} {a:Act} (hne:ds≠[]) (ha:Rep ds n ρ a)
  (h:wpE (x:=⟨none,ds⟩) P n c (fun e ρ' w'=>match e with | .normal=>∀a',Rep ds n ρ' a'→Q .normal a' w' | .ret=>∀a',Rep ds n ρ' a'→Q .ret a' w' | .panic ch=>∀a',Rep ds n ρ' a'→Q (.panic ch) a' w' | _=>False) ρ w):c.wp P Q a w:=by
 refine wpIn_wide.1 (wpIn_mono (h a ha) ?_)
 rintro e a' w' ⟨ρ',⟨hr,hq⟩ | ⟨rfl,_,h0,D,hr,hD,hq⟩⟩
 ·cases e <;> first | exact hq.elim | exact hq _ hr
 ·exact absurd h0 hne
end
end Go.SE
end
section
open Go Go.SE
namespace Go.Proofs
open Tryd
attribute [local irreducible] Calls CallsD
theorem jCT {P:Program} {ε:Operand→Value} {w:World} {d:Option Tmp} {ty:TypeId} {pos:String} {aft:Array Edge} {g:Option (Nat×Bool)} {x:Operand} {X T:TypeId} {v:Value} {td:TypeDesc} (hx:ε x=.iface T v) (ht:P.underlying T=some td) (hi:∀m,td≠.interface m) :
  (execOp ε ⟨d,.typeAssert x X T false,ty,pos,aft,g⟩).run P w=.ok (.value v) w:=by
 simp only [execOp,hx]
 have:(Instr.typeAssert (.iface T v) X T false).run P w=.ok v w:=by
  unfold Instr.typeAssert;simp only [Sem.run_bind,run_underlying ht,Result.andThen];cases td <;> first | exact absurd rfl (hi _) | simp
 simp [this]
theorem jEF {P:Program} {w:World} {f:FuncId} {cap args:Array Value} (hc:∀args w,(callFunc f args).run P w=.ok (.enter f args) w) (h:cap=args):(invoke (.fn (.func f) cap) #[]).run P w=.ok (.enter f args) w:=by
 subst h;simp [invoke,hc]
abbrev zeroT:List Value:=[.int .i64 0,.int .i64 0,.int .i64 0,.int .u64 0,.string ⟨#[]⟩,Sl.nil.v]
set_option maxRecDepth 100000 in
theorem jGI (p1 p2 p3:Addr) (w:World):CallsD prog 22 #[.pointer (some p1),.pointer (some p2),.pointer (some p3)] .returning w (fun e u' w'=>u'=.returning∧(e=.returned (.tuple #[])∧w'=w)):=by
 refine qY (args:=[.pointer (some p1),.pointer (some p2),.pointer (some p3)]) (R:=fun e w'=>e=.returned (.tuple #[])∧w'=w) .idle func22 rfl ntmps22 (Nat.le_of_ble_eq_true rfl) (by decide) (by decide) ?_;refine jB ?_;refine rg ?_;refine q0 .nilIface ?_;refine q0 (.bool false) ?_;refine jA ?_;refine jP ?_;refine vX (t:=false) (by kernel_rfl) (fun hc1=>by cases hc1) (fun hc1=>?_);refine jD ?_;exact ⟨.tuple #[],fun ds a ha=>by rw [results_none results22],rfl,rfl⟩
set_option maxRecDepth 100000 in
set_option maxHeartbeats 4000000 in
theorem jIB (cap1 cap2 cap3:Addr) (er at_:Int) (older:List PanicEntry) (w0:World) {c1 c2 c3:List Value} (B1:Box w0 cap1 c1 25) (l1:c1.length=6) (B2:Box w0 cap2 c2 28) (l2:c2.length=1) (B3:Box w0 cap3 c3 3) (l3:c3.length=1) (n12:cap1.block≠cap2.block) (n13:cap1.block≠cap3.block) (n23:cap2.block≠cap3.block) :
  CallsD prog 22 #[.pointer (some cap1),.pointer (some cap2),.pointer (some cap3)] (.panicking ({ v:=.iface 53 (.agg #[.int .i64 er,.int .i64 at_]),recovered:=false } :: older)) w0 (fun e' u' w'=>u'=.panicking ({ v:=.iface 53 (.agg #[.int .i64 er,.int .i64 at_]),recovered:=true } :: older) ∧
   (e'=.returned (.tuple #[])∧(Box w' cap1 zeroT 25∧Box w' cap2 [.int .i64 er] 28∧Box w' cap3 [.int .i64 at_] 3∧Ext (fun b=>b=cap1.block∨b=cap2.block∨b=cap3.block) w0 w'))):=by
 refine qY (args:=[.pointer (some cap1),.pointer (some cap2),.pointer (some cap3)]) (R:=fun e' w'=>e'=.returned (.tuple #[])∧(Box w' cap1 zeroT 25∧Box w' cap2 [.int .i64 er] 28∧Box w' cap3 [.int .i64 at_] 3∧Ext (fun b=>b=cap1.block∨b=cap2.block∨b=cap3.block) w0 w')) (.hit _ older) func22 rfl ntmps22 (Nat.le_of_ble_eq_true rfl) (by decide) (by decide) ?_
 have hs:=Hst.start w0
 have hb:=HB.nil None w0
 refine jB ?_
 refine rg ?_
 refine q0 (.iface 53 (.agg #[.int .i64 er,.int .i64 at_])) ?_
 refine q0 (.bool true) ?_
 refine jA ?_
 refine jP ?_
 refine zY (by kernel_rfl) ?_
 refine jB ?_
 refine rg ?_
 refine q0 (.iface 53 (.agg #[.int .i64 er,.int .i64 at_])) ?_
 refine q2 (.agg #[.int .i64 er,.int .i64 at_]) (jCT (by kernel_rfl) underlying53 (by intro m;simp)) ?_
 refine kJ (O:=(.cells #[(.int .i64 0),(.int .i64 0)] 53)) (fun p=>.pointer (some p)) (jC rfl) (jY (zeroValue53 _) rfl) ?_
 intro p1 w1 hn1
 have hsb:=hs.alloc hb hn1
 clear hs hb hn1
 obtain ⟨H1,hs,hb⟩:=hsb
 refine zN (jC rfl) (vJ (a:=p1) (vs:=[(.int .i64 er),(.int .i64 at_)]) (by kernel_rfl) (by kernel_rfl) rfl (sizeOf53 _) rfl (hb.canWs0 0 2 (gZ) (by kernel_rfl))) ?_
 intro w2 hn2
 have hsb:Hst w0 None w0 H1 w2∧HB H1 w2 [(p1,[(.int .i64 er),(.int .i64 at_)],53)]:=by
  rw [hn2];exact hb.store0 (i:=0) (vs:=[(.int .i64 er),(.int .i64 at_)]) hs (gZ) (by kernel_rfl) (by kernel_rfl)
 clear hs hb hn2
 obtain ⟨hs,hb⟩:=hsb
 have EA:=hs.first
 have hold:=hs.here.old
 refine jA ?_
 refine jP ?_
 replace hs:=hs.here
 refine yZ (fun x=>HB H1 x [(p1,[(.int .i64 er),(.int .i64 at_)],53)]) [5,6,7] [7] (by kernel_rfl) (by kernel_rfl) (by kernel_rfl) (by kernel_rfl) hb.drew ?_
 intro w3 hw3
 replace hb:HB H1 w3 [(p1,[(.int .i64 er),(.int .i64 at_)],53)]:=by rw [hw3];exact hb.drew
 have E3:Pure w0 w3:=by rw [hw3];exact EA.trans (Ext.drew w2)
 clear hs hw3 EA
 have b1:=B1.pure E3
 have b2:=B2.pure E3
 have b3:=B3.pure E3
 have nh:∀b,b<w0.heap.size→¬ H1 b:=fun b hb hh=>by have:=hold b hh;omega
 refine qx 0 (.agg #[(.int .i64 0),(.int .i64 0),(.int .i64 0),(.int .u64 0),(.string (⟨#[]⟩:ByteArray)),Sl.nil.v]) Kp0 ?_
 refine qx 1 (.pointer (some p1)) Kp1 ?_
 refine qz 2 (.int .i64 er) Kp2 (fun w' hw'=>(xG (a:=p1) (by kernel_rfl) (isAgg28 _) (hw'.cell0 0 (gZ) (by kernel_rfl)))) ?_
 refine qx 3 (.pointer (some (p1.add 1))) Kp3 ?_
 refine qz 4 (.int .i64 at_) Kp4 (fun w' hw'=>(xG (a:=(p1.add 1)) (by kernel_rfl) (isAgg3 _) (hw'.cell 0 1 (gZ) (by kernel_rfl)))) ?_
 refine lgo (k:=5) (by kernel_rfl) ?_
 refine jAY Kp5 (jC rfl) (by kernel_rfl) (vJ (a:=cap1) (vs:=zeroT) (by kernel_rfl) (by kernel_rfl) rfl (sizeOf25 _) rfl (b1.canWs (by rw [l1];decide))) ?_
 intro w4 hn3
 have X4:Ext (·=cap1.block) w3 w4:=by rw [hn3];exact Ext.storeRow _ _ _
 have d1:Box w4 cap1 zeroT 25:=by rw [hn3];exact b1.store (by rw [l1];rfl)
 have d2:=b2.ext X4 (fun e=>n12 e.symm)
 have d3:=b3.ext X4 (fun e=>n13 e.symm)
 have hk:Kept H1 w3 w4:=X4.kept (fun b hb e=>nh b (e▸B1.lt) hb)
 refine ⟨.inr (hb.kept hk),?_⟩
 replace hb:=hb.kept hk
 clear hk hn3
 refine lgo (k:=6) (by kernel_rfl) ?_
 refine jAY Kp6 (jC rfl) (by kernel_rfl) (zM (a:=cap2) (v:=(.int .i64 er)) (by kernel_rfl) (by kernel_rfl) rfl (sizeOf28 _) (d2.canW0 (by omega))) ?_
 intro w5 hn4
 have X5:Ext (·=cap2.block) w4 w5:=by rw [hn4];exact Ext.setCell _ _
 obtain ⟨v2,rfl⟩:∃v,c2=[v]:=List.length_eq_one_iff.1 l2
 obtain ⟨v3,rfl⟩:∃v,c3=[v]:=List.length_eq_one_iff.1 l3
 have e2:Box w5 cap2 [.int .i64 er] 28:=by rw [hn4];exact d2.set0
 have e1:=d1.ext X5 n12
 have e3:=d3.ext X5 (fun e=>n23 e.symm)
 have hk:Kept H1 w4 w5:=X5.kept (fun b hb e=>nh b (e▸B2.lt) hb)
 refine ⟨.inr (hb.kept hk),?_⟩
 replace hb:=hb.kept hk
 clear hk hn4
 refine lgo (k:=7) (by kernel_rfl) ?_
 refine jAY Kp7 (jC rfl) (by kernel_rfl) (zM (a:=cap3) (v:=(.int .i64 at_)) (by kernel_rfl) (by kernel_rfl) rfl (sizeOf3 _) (e3.canW0 (by simp))) ?_
 intro w6 hn5
 have X6:Ext (·=cap3.block) w5 w6:=by rw [hn5];exact Ext.setCell _ _
 refine ⟨.inl (by kernel_rfl),?_⟩
 refine jCU (by kernel_rfl) ?_
 refine ⟨.tuple #[],fun ds a ha=>by rw [results_none results22],rfl,e1.ext X6 n13,e2.ext X6 n23,by rw [hn5];exact e3.set0,?_⟩
 exact ((E3.pure.trans (X4.mono (fun _ _ h=>.inl h))).trans (X5.mono (fun _ _ h=>.inr (.inl h)))).trans (X6.mono (fun _ _ h=>.inr (.inr h)))
theorem kR {w w':World} (h:ErrV w) (E:Pure w w'):ErrV w':=by
 obtain ⟨tp,p,h⟩:=h;refine ⟨tp,p,?_⟩;unfold World.var? at *;cases hg : prog.globalNamed "strconv.ErrRange" with
 | none=>simp [hg] at h
 | some g =>
  simp only [hg,Option.bind_some] at h ⊢
  cases hh:w.heap[g]? with
  | none=>simp [hh] at h
  | some o=>rw [E.heap hh id];rw [hh] at h;exact h
def jAS (w0:World) (R:Sp.Tree×Int×Int) (e:Ending) (w':World):Prop:=∃s:Sl,e=.returned (.tuple #[.agg (kT R.1 s).toArray,.int .i64 R.2.1,.int .i64 R.2.2])∧TreeAt (fun b=>w0.heap.size≤b∧b<w'.heap.size) w' s R.1∧Pure w0 w'
theorem jAH {ρ:Env} {w:World} {p1 p2 p3:Addr} {vs:List Value} {a b:Int} (h2:ρ 2=.pointer (some p1)) (h3:ρ 3=.pointer (some p2)) (h4:ρ 4=.pointer (some p3)) (B1:Box w p1 vs 25) (hl:vs.length=6) (B2:Box w p2 [.int .i64 a] 28) (B3:Box w p3 [.int .i64 b] 3) :
  RVs prog ρ w [.cell 2 25,.cell 3 28,.cell 4 3] [.agg vs.toArray,.int .i64 a,.int .i64 b] :=
 ⟨RV.cellA (A:=p1) (vs:=vs) h2 (isAgg25 _) (sizeOf25 _) hl B1.row,RV.cell1 (A:=p2) h3 (isAgg28 _) B2.cell0,RV.cell1 (A:=p3) h4 (isAgg3 _) B3.cell0,trivial⟩
set_option maxRecDepth 100000 in
set_option maxHeartbeats 4000000 in
theorem tQ (x:ByteArray) (w0:World) (h:1048576<x.size):Calls prog 12 #[.string x] w0 (fun e w'=>jAS w0 (Sp.oY,1,0) e w'):=by
 refine uJ (args:=[(.string x)]) func12 rfl ntmps12 (Nat.le_of_ble_eq_true rfl) ?_;refine jB ?_;refine rg ?_;refine kJ (O:=(.cells #[(.int .i64 0),(.int .i64 0),(.int .i64 0),(.int .u64 0),(.string (⟨#[]⟩:ByteArray)),Sl.nil.v] 25)) (fun p=>.pointer (some p)) (jC rfl) (jY (zeroValue25 _) rfl) ?_;intro p1 w1 n1;refine kJ (O:=(.cells #[(.int .i64 0)] 28)) (fun p=>.pointer (some p)) (jC rfl) (jY (zeroValue28 _) rfl) ?_;intro p2 w2 n2;refine kJ (O:=(.cells #[(.int .i64 0)] 3)) (fun p=>.pointer (some p)) (jC rfl) (jY (zeroValue3 _) rfl) ?_;intro p3 w3 n3;have E1:Pure w0 w1:=Ext.new n1;have E2:Pure w1 w2:=Ext.new n2;have E3:Pure w2 w3:=Ext.new n3;have y1:=n1.at_size;have y2:=n2.at_size;have y3:=n3.at_size;have z1:=E1.size;have z2:=E2.size;have l1:=(Box.of_newA n1).lt;have l2:=(Box.of_newA n2).lt;have B1:=((Box.of_newA n1).pure E2).pure E3;have B2:=(Box.of_newA n2).pure E3;have B3:=Box.of_newA n3;refine jA ?_;refine jP ?_;refine jB ?_;refine jB ?_;refine rg ?_;refine q0 (.string x) ?_;refine q0 (.int .i64 (x.size:Int)) ?_;refine q0 (.bool (decide ((x.size:Int)>1048576))) ?_;refine jA ?_;refine jP ?_;refine vX (t:=(decide ((x.size:Int)>1048576))) (by kernel_rfl) (fun hc1=>?_) (fun hc1=>absurd h (by have:=of_decide_eq_false hc1;omega));refine jB ?_;refine rg ?_;refine q2 (.agg #[(.int .i64 0),(.int .i64 0),(.int .i64 0),(.int .u64 0),(.string (⟨#[]⟩:ByteArray)),Sl.nil.v]) (lD (a:=p1) (vs:=zeroT) (by kernel_rfl) (isAgg25 _) (sizeOf25 _) rfl B1.row) ?_;refine zN (jC rfl) (vJ (a:=p1) (vs:=zeroT) (by kernel_rfl) (by kernel_rfl) rfl (sizeOf25 _) rfl (B1.canWs (by decide))) ?_;intro w4 hn4;have X4:Ext (·=p1.block) w3 w4:=by rw [hn4];exact Ext.storeRow _ _ _
 have C1:Box w4 p1 zeroT 25:=by rw [hn4];exact B1.store (by rfl)
 have C2:=B2.ext X4 (fun e=>by omega);have C3:=B3.ext X4 (fun e=>by omega);refine zN (jC rfl) (zM (a:=p2) (v:=(.int .i64 1)) (by kernel_rfl) (by kernel_rfl) rfl (sizeOf28 _) (C2.canW0 (by simp))) ?_;intro w5 hn5;have X5:Ext (·=p2.block) w4 w5:=by rw [hn5];exact Ext.setCell _ _
 have D2:Box w5 p2 [.int .i64 1] 28:=by rw [hn5];exact C2.set0
 have D1:=C1.ext X5 (fun e=>by omega);have D3:=C3.ext X5 (fun e=>by omega);refine zN (jC rfl) (zM (a:=p3) (v:=(.int .i64 0)) (by kernel_rfl) (by kernel_rfl) rfl (sizeOf3 _) (D3.canW0 (by simp))) ?_;intro w6 hn6;have X6:Ext (·=p3.block) w5 w6:=by rw [hn6];exact Ext.setCell _ _
 have F3:Box w6 p3 [.int .i64 0] 3:=by rw [hn6];exact D3.set0
 have F1:=D1.ext X6 (fun e=>by omega);have F2:=D2.ext X6 (fun e=>by omega);refine jA ?_;refine jP ?_;refine tZ ?_;refine kU ?_;refine jDN (v:=.tuple #[.agg zeroT.toArray,.int .i64 1,.int .i64 0]) (.inl rfl) results12 (jAH (by kernel_rfl) (by kernel_rfl) (by kernel_rfl) F1 rfl F2 F3) (by kernel_rfl) ?_;refine ⟨Sl.nil,rfl,TreeAt.leaf,?_⟩;exact ((((E1.trans E2).trans E3).trans' X4 (fun b hb e=>by omega)).trans' X5 (fun b hb e=>by omega)).trans' X6 (fun b hb e=>by omega)
set_option maxRecDepth 100000 in
set_option maxHeartbeats 8000000 in
theorem lX (x:ByteArray) (w0:World) (h:x.size≤1048576) (hv:ErrV w0):Calls prog 12 #[.string x] w0 (fun e w'=>jAS w0 (Sp.gL (bts x)) e w'):=by
 have hx:=yH x;refine tP (args:=[.string x]) func12 rfl ntmps12 (Nat.le_of_ble_eq_true rfl) ?_;intro a ha;refine gE ha ?_;refine rg ?_;refine kJ (O:=(.cells #[(.int .i64 0),(.int .i64 0),(.int .i64 0),(.int .u64 0),(.string (⟨#[]⟩:ByteArray)),Sl.nil.v] 25)) (fun p=>.pointer (some p)) (jC rfl) (jY (zeroValue25 _) rfl) ?_;intro p1 w1 n1;refine kJ (O:=(.cells #[(.int .i64 0)] 28)) (fun p=>.pointer (some p)) (jC rfl) (jY (zeroValue28 _) rfl) ?_;intro p2 w2 n2;refine kJ (O:=(.cells #[(.int .i64 0)] 3)) (fun p=>.pointer (some p)) (jC rfl) (jY (zeroValue3 _) rfl) ?_;intro p3 w3 n3;have E1:Pure w0 w1:=Ext.new n1;have E2:Pure w1 w2:=Ext.new n2;have E3:Pure w2 w3:=Ext.new n3;have y1:=n1.at_size;have y2:=n2.at_size;have y3:=n3.at_size;have z1:=E1.size;have z2:=E2.size;have l1:=(Box.of_newA n1).lt;have l2:=(Box.of_newA n2).lt;have B1:=((Box.of_newA n1).pure E2).pure E3;have B2:=(Box.of_newA n2).pure E3;have B3:=Box.of_newA n3;refine jA ?_;clear ha;intro a ha;refine gE ha ?_;refine jB ?_;refine rg ?_;refine q0 (.string x) ?_;refine q0 (.int .i64 (x.size:Int)) ?_;refine q0 (.bool (decide ((x.size:Int)>1048576))) ?_;refine jA ?_;refine jP ?_;refine vX (t:=(decide ((x.size:Int)>1048576))) (by kernel_rfl) (fun hc1=>absurd h (by have:=of_decide_eq_true hc1;omega)) (fun hc1=>?_);refine jD ?_;clear ha;intro a ha;refine jCW ha (by decide) ?_;clear ha;intro a ha;refine gE ha ?_;refine rg ?_;refine q0 (.string x) ?_;refine q0 (.agg #[(.string x),(.int .i64 0),(.int .i64 0)]) ?_;refine kJ (O:=(.cells #[(.string x),(.int .i64 0),(.int .i64 0)] 56)) (fun p=>.pointer (some p)) (jC rfl) (x_box (cs:=#[(.string x),(.int .i64 0),(.int .i64 0)]) (by kernel_rfl)) ?_;intro p4 w4 n4;refine q0 (.pointer (some p4)) ?_;have E4:Pure w3 w4:=Ext.new n4;have y4:=n4.at_size;have z3:=E3.size;have l3:=B3.lt;have R4:Spk w4 p4 x 0 0:=Box.of_newA n4;have C1:=B1.pure E4;have C2:=B2.pure E4;have C3:=B3.pure E4;have E04:Pure w0 w4:=((E1.trans E2).trans E3).trans E4;have hK:jGO w4 p4:=fun w E=>kR hv (E04.trans' E (fun b hb e=>by omega));refine jA ?_;clear ha;intro a ha;refine jCV (by simp) ha ?_;refine jB ?_;refine uH (fun ρ=>ρ 2=.pointer (some p1)∧ρ 3=.pointer (some p2)∧ρ 4=.pointer (some p3)) ?_ ⟨by kernel_rfl,by kernel_rfl,by kernel_rfl⟩ (by kernel_rfl) ?_
 ·intro o ho ρ v hh;simp only [List.mem_cons,List.not_mem_nil,or_false] at ho;rcases ho with rfl | rfl | rfl <;> exact hh
 refine jF 1 ?_;refine q0 (.pointer (some p4)) ?_;refine jA ?_;have hT:=jGG p4 x (by omega) 64 (Nat.le_refl _) 0 0 w4 R4 (Nat.zero_le _) (by omega) hK;refine jR (jC rfl) (by intro c hc;cases hc) (gA (args:=#[(.pointer (some p4)),(.int .i64 0)]) call23 (by kernel_rfl)) (hT.mono ?_);clear hT;intro e w5;have hok:=Sp.qE (bts x) 64 0 0 (Nat.zero_le _);unfold Sp.gL;generalize Sp.jS (bts x) 64 0 0=R at *;have hit:∀(er:Int) (i:Nat) (w5:World) (c1 c2 c3:List Value),Box w5 p1 c1 25→c1.length=6→Box w5 p2 c2 28→c2.length=1→Box w5 p3 c3 3→c3.length=1→Pure w0 w5→∀(ρ':Env),ρ' 2=.pointer (some p1)→ρ' 3=.pointer (some p2)→ρ' 4=.pointer (some p3)→∀ds,ds=([⟨.fn (.func 22) #[.pointer (some p1),.pointer (some p2),.pointer (some p3)],#[]⟩]:List Deferred)→∀a',Rep ds 30 ρ' a'→bodyPostD prog f12 (fun e w'=>jAS w0 (Sp.oY,er,(i:Int)) e w') (.panic (flt er i)) a' w5:=by
  intro er i w5 c1 c2 c3 D1 k1 D2 k2 D3 k3 E5 ρ' h2 h3 h4 ds hds a' ha';subst hds;show Leaves _ _ _ _ _ _ _;rw [ha'.defers];refine leaves_cons (f:=22) (args:=#[.pointer (some p1),.pointer (some p2),.pointer (some p3)]) (by simp) (jEF call22 rfl) ?_;refine (jIB p1 p2 p3 er (i:Int) [] w5 D1 k1 D2 k2 D3 k3 (by omega) (by omega) (by omega)).mono ?_;rintro e u' w6 ⟨rfl,rfl,F1,F2,F3,X6⟩;refine ⟨_,yA (v:=.tuple #[.agg zeroT.toArray,.int .i64 er,.int .i64 (i:Int)]) results12 (jAH h2 h3 h4 F1 rfl F2 F3) ha' (by kernel_rfl),Sl.nil,rfl,TreeAt.leaf,E5.trans' X6 (fun b hb e=>by omega)⟩
 cases R with
 | no er i =>
  rintro ⟨rfl,X⟩
  refine .inr ⟨_,rfl,fun ρ' hI=>?_⟩
  intro a' ha'
  exact hit er i w5 _ _ _ (C1.ext X (by omega)) rfl (C2.ext X (by omega)) rfl (C3.ext X (by omega)) rfl (E04.trans' X (fun b hb e=>by omega)) ρ' hI.1 hI.2.1 hI.2.2 _ (by kernel_rfl) a' ha'
 | ok t j =>
  rintro ⟨s,rfl,hTr,R5,X5⟩
  refine .inl ⟨_,rfl,?_⟩
  obtain ⟨g1,g2⟩:=hok t j rfl
  have D1:=C1.ext X5 (by omega)
  have D2:=C2.ext X5 (by omega)
  have D3:=C3.ext X5 (by omega)
  have E05:Pure w0 w5:=E04.trans' X5 (fun b hb e=>by omega)
  have z4:=E4.size
  have l4:=R4.lt
  have hS:∀b,(w4.heap.size≤b∧b<w5.heap.size)→b≠p1.block∧b≠p2.block∧b≠p3.block:=fun b hb=>by omega
  obtain ⟨⟨k,f,to,u,y,ks⟩,nn⟩:=t
  refine jV ?_
  refine zN (jC rfl) (vJ (a:=p1) (vs:=[.int .i64 k,.int .i64 f,.int .i64 to,.int .u64 u,.string y,s.v]) (by kernel_rfl) (by kernel_rfl) rfl (sizeOf25 _) rfl (D1.canWs (by simp))) ?_
  intro w6 hn6
  have X6:Ext (·=p1.block) w5 w6:=by rw [hn6];exact Ext.storeRow _ _ _
  have F1:Box w6 p1 [.int .i64 k,.int .i64 f,.int .i64 to,.int .u64 u,.string y,s.v] 25:=by rw [hn6];exact D1.store (by rfl)
  have F2:=D2.ext X6 (fun e=>by omega)
  have F3:=D3.ext X6 (fun e=>by omega)
  have R6:=R5.ext X6 (fun e=>by omega)
  have T6:=hTr.ext X6 (fun b hb=>(hS b hb).1)
  have E06:Pure w0 w6:=E05.trans' X6 (fun b hb e=>by omega)
  clear hn6
  refine jA ?_
  refine jP ?_
  have fin : ∀ (ρ' : Env) (w13 : World), ρ' 2 = .pointer (some p1) → ρ' 3 = .pointer (some p2) → ρ' 4 = .pointer (some p3) → Box w13 p1 [.int .i64 k, .int .i64 f, .int .i64 to, .int .u64 u, .string y, s.v] 25 → Box w13 p2 [.int .i64 0] 28 → Box w13 p3 [.int .i64 0] 3 → TreeAt (fun b => w4.heap.size ≤ b ∧ b < w5.heap.size) w13 s (.mk k f to u y ks) → Pure w0 w13 → w5.heap.size ≤ w13.heap.size → ¬ j < (bts x).length →
    ∀ds,ds=([⟨.fn (.func 22) #[.pointer (some p1),.pointer (some p2),.pointer (some p3)],#[]⟩]:List Deferred)→∀a',Rep ds 30 ρ' a'→bodyPostD prog f12 (fun e w'=>jAS w0 (if j<(bts x).length then (Sp.oY,4,(j:Int)) else (.mk k f to u y ks,0,0)) e w') .ret a' w13:=by
   intro ρ' w13 h2 h3 h4 G1 G2 G3 T13 E13 z13 hj ds hds a' ha'
   subst hds
   show Leaves _ _ _ _ _ _ _
   rw [ha'.defers]
   refine leaves_cons (f:=22) (args:=#[.pointer (some p1),.pointer (some p2),.pointer (some p3)]) (by simp) (jEF call22 rfl) ?_
   refine (jGI p1 p2 p3 w13).mono ?_
   rintro e u' w14 ⟨rfl,rfl,rfl⟩
   refine ⟨_,yA (v:=.tuple #[.agg #[.int .i64 k,.int .i64 f,.int .i64 to,.int .u64 u,.string y,s.v],.int .i64 0,.int .i64 0]) results12 (jAH h2 h3 h4 G1 rfl G2 G3) ha' (by kernel_rfl),?_⟩
   rw [if_neg hj]
   exact ⟨s,rfl,T13.mono (fun b hb=>⟨by omega,by omega⟩),E13⟩
  refine jB ?_
  refine jB ?_
  refine rg ?_
  refine q0 (.pointer (some p4)) ?_
  refine q0 (.pointer (some p4)) ?_
  refine q0 (.pointer (some (p4.add 1))) ?_
  refine q2 (.int .i64 (j:Int)) (xG (a:=(p4.add 1)) (by kernel_rfl) (isAgg3 _) (zE R6)) ?_
  refine q0 (.string x) ?_
  refine q0 (.int .i64 (x.size:Int)) ?_
  refine q0 (.bool (decide ((j:Int)<(x.size:Int)))) ?_
  refine jA ?_
  refine jP ?_
  refine vX (t:=(decide ((j:Int)<(x.size:Int)))) (by kernel_rfl) (fun hc2=>?_) (fun hc2=>?_)
  ·have hj:j<(bts x).length:=by have:=of_decide_eq_true hc2;omega
   refine uH (fun ρ=>ρ 2=.pointer (some p1)∧ρ 3=.pointer (some p2)∧ρ 4=.pointer (some p3)) ?_ ⟨by kernel_rfl,by kernel_rfl,by kernel_rfl⟩ (by kernel_rfl) ?_
   ·intro o ho ρ v hh
    simp only [List.mem_cons,List.not_mem_nil,or_false] at ho
    rcases ho with rfl | rfl | rfl | rfl | rfl | rfl <;> exact hh
   refine jF 5 ?_
   refine q0 (.pointer (some p4)) ?_
   refine q0 (.pointer (some p4)) ?_
   refine q0 (.pointer (some p4)) ?_
   refine q0 (.pointer (some (p4.add 1))) ?_
   refine q2 (.int .i64 (j:Int)) (xG (a:=(p4.add 1)) (by kernel_rfl) (isAgg3 _) (zE R6)) ?_
   refine jA ?_
   refine jR (jC rfl) (by intro c hc;cases hc) (gA (args:=#[(.pointer (some p4)),(.int .i64 4),(.int .i64 (j:Int))]) call24 (by kernel_rfl)) ((zP (some p4) 4 (j:Int) w6).mono ?_)
   rintro e w7 ⟨rfl,rfl⟩
   refine .inr ⟨_,rfl,fun ρ' hI=>?_⟩
   intro a' ha'
   simp only
   rw [if_pos hj]
   exact hit 4 j _ _ _ _ F1 rfl F2 rfl F3 rfl E06 ρ' hI.1 hI.2.1 hI.2.2 _ (by kernel_rfl) a' ha'
  ·have hj:¬ j<(bts x).length:=by have:=of_decide_eq_false hc2;omega
   refine jD ?_
   refine jP ?_
   refine jB ?_
   refine rg ?_
   refine q2 (.agg #[.int .i64 k,.int .i64 f,.int .i64 to,.int .u64 u,.string y,s.v]) (lD (a:=p1) (vs:=[.int .i64 k,.int .i64 f,.int .i64 to,.int .u64 u,.string y,s.v]) (by kernel_rfl) (isAgg25 _) (sizeOf25 _) rfl F1.row) ?_
   refine zN (jC rfl) (vJ (a:=p1) (vs:=[.int .i64 k,.int .i64 f,.int .i64 to,.int .u64 u,.string y,s.v]) (by kernel_rfl) (by kernel_rfl) rfl (sizeOf25 _) rfl (F1.canWs (by simp))) ?_
   intro w8 hn8
   have X8:Ext (·=p1.block) w6 w8:=by rw [hn8];exact Ext.storeRow _ _ _
   have G1:Box w8 p1 [.int .i64 k,.int .i64 f,.int .i64 to,.int .u64 u,.string y,s.v] 25:=by rw [hn8];exact F1.store (by rfl)
   have G2:=F2.ext X8 (fun e=>by omega)
   have G3:=F3.ext X8 (fun e=>by omega)
   refine zN (jC rfl) (zM (a:=p2) (v:=(.int .i64 0)) (by kernel_rfl) (by kernel_rfl) rfl (sizeOf28 _) (G2.canW0 (by simp))) ?_
   intro w9 hn9
   have X9:Ext (·=p2.block) w8 w9:=by rw [hn9];exact Ext.setCell _ _
   have I2:Box w9 p2 [.int .i64 0] 28:=by rw [hn9];exact G2.set0
   have I1:=G1.ext X9 (fun e=>by omega)
   have I3:=G3.ext X9 (fun e=>by omega)
   refine zN (jC rfl) (zM (a:=p3) (v:=(.int .i64 0)) (by kernel_rfl) (by kernel_rfl) rfl (sizeOf3 _) (I3.canW0 (by simp))) ?_
   intro w10 hn10
   have X10:Ext (·=p3.block) w9 w10:=by rw [hn10];exact Ext.setCell _ _
   have J3:Box w10 p3 [.int .i64 0] 3:=by rw [hn10];exact I3.set0
   have J1:=I1.ext X10 (fun e=>by omega)
   have J2:=I2.ext X10 (fun e=>by omega)
   have T10:=((T6.ext X8 (fun b hb=>(hS b hb).1)).ext X9 (fun b hb=>(hS b hb).2.1)).ext X10 (fun b hb=>(hS b hb).2.2)
   have E10:Pure w0 w10:=((E06.trans' X8 (fun b hb e=>by omega)).trans' X9 (fun b hb e=>by omega)).trans' X10 (fun b hb e=>by omega)
   refine jA ?_
   refine jP ?_
   refine tZ ?_
   intro a' ha'
   exact fin _ w10 (by kernel_rfl) (by kernel_rfl) (by kernel_rfl) J1 J2 J3 T10 E10 (by have:=X6.size;have:=X8.size;have:=X9.size;have:=X10.size;omega) hj _ (by kernel_rfl) a' ha'
theorem qT (x:ByteArray) (w0:World) (hv:ErrV w0):Calls prog 12 #[.string x] w0 (fun e w'=>jAS w0 (Sp.qF (bts x)) e w'):=by
 have hx:=yH x;unfold Sp.qF;by_cases h:1048576<(bts x).length
 ·rw [if_pos h];exact tQ x w0 (by omega)
 ·rw [if_neg h];exact lX x w0 (by omega) hv
end Go.Proofs
end
section
open Go Go.SE
open Go.IntKind renaming i64 → q6
namespace Go.Proofs
open Tryd
set_option maxRecDepth 100000
set_option maxHeartbeats 4000000
attribute [local irreducible] wpL wpX opE wpE Calls
def m_L1 (aA aB:Int) (aC aD:Int) (aE:ByteArray) (aF:Sl) (w0:World) (K:Bool→WP):Prop :=∀H1 w1,Hst w0 None w0 H1 w1→Calls prog 15 #[(.agg #[(vi aA),(vi aB),(vi aC),(vu aD),(vs aE),aF.v]),(vi 9000)] w1 (fun e w2=>∃r1,e=.returned (vi r1)∧Kept H1 w1 w2∧K (decide (r1≥9000)) w2)
theorem w_L1 (aA aB aC aD aE aF w0 K) (h:m_L1 aA aB aC aD aE aF w0 K):
  Calls prog 7 #[(.agg #[(vi aA),(vi aB),(vi aC),(vu aD),(vs aE),aF.v])] w0 (fun e w'=>∃r2,e=.returned (vb r2)∧K r2 w'):=by
 refine cw (args:=[(Ab aA aB aC aD aE aF)]) func7 ntmps7 ?_
 obtain ⟨hs,hb⟩:=st0 w0
 refine eg (nw3 (Aa aA aB aC aD aE aF) 25 hs hb xb fun p1 w1 H1 hs hb=>q (ln (eg (q2 (Ab aA aB aC aD aE aF) (xa p1 (Aa aA aB aC aD aE aF) (isAgg25 _) (sizeOf25 _) (hb.r0 0 6 gZ)) ?_))))
 have ⟨h,hs⟩:=hs.hr (h H1 w1)
 refine sc call15 (h.mono fun e w2 ⟨r1,k,hk,h⟩=>have ⟨hs,hb⟩:=hk.hh hs hb;⟨_,k,?_⟩)
 refine qb (ln (er (rs1 results7 ⟨(decide (r1≥9000)),rfl,h⟩)))
def m_M1 (bE bF:Int) (bG bH:Int) (bI:ByteArray) (bJ:Sl) (bK bL:Int) (bM bN:Int) (bO:ByteArray) (bP:Sl) (w0:World) (K:Int→Int→Int→Int→ByteArray→Sl→WP):Prop :=∀H3 w3,Hst w0 None w0 H3 w3→∀p4 w4,New w3 (.cells #[(vi bE),(vi bF),(vi bG),(vu bH),(vs bI),bJ.v,(vi bK),(vi bL),(vi bM),(vu bN),(vs bO),bP.v] 25) p4 w4→∀w5,Hst w0 H3 w4 H3 w5→K 4 0 0 0 ⟨#[]⟩ (Sl.mk (some p4) 2 2) w5
theorem w_M1 (bE bF bG bH bI bJ bK bL bM bN bO bP w0 K) (h:m_M1 bE bF bG bH bI bJ bK bL bM bN bO bP w0 K):
  Calls prog 16 #[(.agg #[(vi bE),(vi bF),(vi bG),(vu bH),(vs bI),bJ.v]),(.agg #[(vi bK),(vi bL),(vi bM),(vu bN),(vs bO),bP.v])] w0 (fun e w'=>∃aM aN aO aP aQ aR,e=.returned (Ab aM aN aO aP aQ aR)∧K aM aN aO aP aQ aR w'):=by
 refine cw (args:=[(Ab bE bF bG bH bI bJ),(Ab bK bL bM bN bO bP)]) func16 ntmps16 ?_
 obtain ⟨hs,hb⟩:=st0 w0
 refine eg (nw3 (Aa bE bF bG bH bI bJ) 25 hs hb xb fun p1 w1 H1 hs hb=>nw3 (Aa bK bL bM bN bO bP) 25 hs hb xb fun p2 w2 H2 hs hb=>nw3 [(vi 0),(vi 0),(vi 0),(vu 0),ve,Sl.nil.v] 25 hs hb (jY (zeroValue25 _) rfl) fun p3 w3 H3 hs hb=>ln (eg (q2 (Ab bE bF bG bH bI bJ) (xa p1 (Aa bE bF bG bH bI bJ) (isAgg25 _) (sizeOf25 _) (hb.r0 2 6 (gS (gS gZ)))) (q2 (Ab bK bL bM bN bO bP) (xa p2 (Aa bK bL bM bN bO bP) (isAgg25 _) (sizeOf25 _) (hb.r0 1 6 (gS gZ))) ?_))))
 have ⟨h,hs⟩:=hs.hr (h H3 w3)
 refine nw5 (fun p=>(Sl.mk (some p) 2 2).v) hs hb h fun p4 w4 hs hb h=>q (zN (jC rfl) (xo p3 [(vi 4),(vi 0),(vi 0),(vu 0),ve,(Sl.mk (some p4) 2 2).v] (sizeOf25 _) (hb.k0 0 6 gZ)) ?_)
 intro w5 hn4
 obtain ⟨hs,hb⟩:=hb.st1 0 hs hn4 gZ
 refine ln (er ?_)
 have ⟨h,hs⟩:=hs.hr (h w5)
 refine jDN (.inl rfl) (vs:=[(.agg #[(vi 4),(vi 0),(vi 0),(vu 0),ve,(Sl.mk (some p4) 2 2).v])]) (v:=(.agg #[(vi 4),(vi 0),(vi 0),(vu 0),ve,(Sl.mk (some p4) 2 2).v])) results16 ⟨(rva (isAgg25 _) (sizeOf25 _) (hb.r0 0 6 gZ)),trivial⟩ (by kernel_rfl) ⟨4,0,0,0,⟨#[]⟩,(Sl.mk (some p4) 2 2),rfl,h⟩
def s_I (e1:Int):Int :=e1
theorem pw_I (e1:Int) (w0:World) :
  Calls prog 11 #[(vi e1)] w0 (fun e w'=>(e=.returned (vi e1))∧Pure w0 w'):=by
 refine cw (args:=[(vi e1)]) func11 ntmps11 (eg (q0 (vi 0) (ln (eg (q0 (vi e1) (q0 (vi e1) (ln ?_)))))))
 refine er (rs1 results11 (v:=(vi e1)) ⟨by kernel_rfl,Ext.refl _⟩)
theorem p_I (e1:Int) (w0:World):Calls prog 11 #[(.int .i64 e1)] w0 (fun e w'=>e=.returned (.int .i64 (s_I e1))∧Pure w0 w'):=pw_I e1 w0
def m_K_j1 (r5 r6:Int) (r7 r8:Int) (x1:Bool) (w0:World) (H:NP) (w:World) (K:Bool→WP):Prop :=∀y2:Bool,y2=((((x1 && (r5 == 50)) && (r6 == 1)) && (r7 == 3)) && (r8 == 6))→∀H10 w27,Hst w0 H w H10 w27→K y2 w27
def m_K  (w0:World) (K:Bool→WP):Prop :=Calls prog 16 #[(.agg #[(vi 3),(vi 0),(vi 0),(vu 0),(vs (⟨#[100,101,97,108]⟩:ByteArray)),Sl.nil.v]),(.agg #[(vi 2),(vi 0),(vi 0),(vu 7),ve,Sl.nil.v])] w0 (fun e w1=>∃aM aN aO aP aQ aR,e=.returned (Ab aM aN aO aP aQ aR)∧Kept None w0 w1∧∀p1 w2,New w1 (.cells #[(vi aM),(vi aN),(vi aO),(vu aP),(vs aQ),aR.v] 25) p1 w2→∀H1 w4,Hst w0 None w2 H1 w4→Calls prog 9 #[(.agg #[(vi 7),(vi 0),(vi 0),(vu 0),ve,(Sl.mk (some p1) 1 1).v])] w4 (fun e w5=>∃r1 r2,e=.returned (.tuple #[(vs r1),(vi r2)])∧Kept H1 w4 w5∧Calls prog 12 #[(vs (⟨#[115,48,40,32,40,34,100,101,97,108,34,35,55,41,32,41]⟩:ByteArray))] w5 (fun e w6=>∃aG aH aI aJ aK aL r3 r4,e=.returned (.tuple #[(Ab aG aH aI aJ aK aL),(vi r3),(vi r4)])∧Kept H1 w5 w6∧∀H2 w8,Hst w0 H1 w6 H2 w8→Calls prog 12 #[(vs (⟨#[110,49,54]⟩:ByteArray))] w8 (fun e w9=>∃aS aT aU aV aW aX r5 r6,e=.returned (.tuple #[(Ab aS aT aU aV aW aX),(vi r5),(vi r6)])∧Kept H2 w8 w9∧∀H3 w11,Hst w0 H2 w9 H3 w11→Calls prog 12 #[(vs (⟨#[40,110,49,32,35,50]⟩:ByteArray))] w11 (fun e w12=>∃aY aZ bA bB bC bD r7 r8,e=.returned (.tuple #[(Ab aY aZ bA bB bC bD),(vi r7),(vi r8)])∧Kept H3 w11 w12∧∀y1:Bool,y1=((r2 == 0) && (decide (r1=(⟨#[115,48,40,40,34,100,101,97,108,34,32,35,55,41,41]⟩:ByteArray))))→Br (y1 && (r3 == 0)) (∀H6 w18,Hst w0 H3 w12 H6 w18→Calls prog 14 #[(.agg #[(vi 7),(vi 0),(vi 0),(vu 0),ve,(Sl.mk (some p1) 1 1).v]),(.agg #[(vi aG),(vi aH),(vi aI),(vu aJ),(vs aK),aL.v])] w18 (fun e w28=>∃r9,e=.returned (vb r9)∧Kept H6 w18 w28∧m_K_j1 r5 r6 r7 r8 r9 w0 H6 w28 K)) (∀H6 w18,Hst w0 H3 w12 H6 w18→m_K_j1 r5 r6 r7 r8 false w0 H6 w18 K))))))
theorem w_K  (w0:World) (K:Bool→WP) (h:m_K  w0 K) :
  Calls prog 8 #[] w0 (fun e w'=>∃r10,e=.returned (vb r10)∧K r10 w'):=by
 refine cw (args:=[]) func8 ntmps8 ?_
 obtain ⟨hs,hb⟩:=st0 w0
 refine eg (q (ln (eg (qb (sc call16 (h.mono fun e w1 ⟨aM,aN,aO,aP,aQ,aR,k,hk,h⟩=>have ⟨hs,hb⟩:=hk.hh hs hb;⟨_,k,?_⟩))))))
 refine nw5 (fun p=>(Sl.mk (some p) 1 1).v) hs hb h fun p1 w2 hs hb h=>q (nw3 [(vi 0),(vi 0),(vi 0),(vu 0),ve,Sl.nil.v] 25 hs hb (jY (zeroValue25 _) rfl) fun p2 w3 H1 hs hb=>sbx 0 [(vi 7),(vi 0),(vi 0),(vu 0),ve,(Sl.mk (some p1) 1 1).v] (sizeOf25 _) hs hb gZ fun w4 hs hb=>ln (eg (q2 (.agg #[(vi 7),(vi 0),(vi 0),(vu 0),ve,(Sl.mk (some p1) 1 1).v]) (xa p2 [(vi 7),(vi 0),(vi 0),(vu 0),ve,(Sl.mk (some p1) 1 1).v] (isAgg25 _) (sizeOf25 _) (hb.r0 0 6 gZ)) ?_)))
 have ⟨h,hs⟩:=hs.hr (h H1 w4)
 refine sc call9 (h.mono fun e w5 ⟨r1,r2,k,hk,h⟩=>have ⟨hs,hb⟩:=hk.hh hs hb;⟨_,k,?_⟩)
 refine q (qd (ln (eg (sc call12 (h.mono fun e w6 ⟨aG,aH,aI,aJ,aK,aL,r3,r4,k,hk,h⟩=>have ⟨hs,hb⟩:=hk.hh hs hb;⟨_,k,?_⟩)))))
 refine qd (nw3 [(vi 0),(vi 0),(vi 0),(vu 0),ve,Sl.nil.v] 25 hs hb (jY (zeroValue25 _) rfl) fun p3 w7 H2 hs hb=>sbx 0 (Aa aG aH aI aJ aK aL) (sizeOf25 _) hs hb gZ fun w8 hs hb=>qb (ln (eg ?_)))
 have ⟨h,hs⟩:=hs.hr (h H2 w8)
 refine sc call12 (h.mono fun e w9 ⟨aS,aT,aU,aV,aW,aX,r5,r6,k,hk,h⟩=>have ⟨hs,hb⟩:=hk.hh hs hb;⟨_,k,?_⟩)
 refine qd (nw3 [(vi 0),(vi 0),(vi 0),(vu 0),ve,Sl.nil.v] 25 hs hb (jY (zeroValue25 _) rfl) fun p4 w10 H3 hs hb=>sbx 0 (Aa aS aT aU aV aW aX) (sizeOf25 _) hs hb gZ fun w11 hs hb=>qb (ln (eg ?_)))
 have ⟨h,hs⟩:=hs.hr (h H3 w11)
 refine sc call12 (h.mono fun e w12 ⟨aY,aZ,bA,bB,bC,bD,r7,r8,k,hk,h⟩=>have ⟨hs,hb⟩:=hk.hh hs hb;⟨_,k,?_⟩)
 refine qd (nw3 [(vi 0),(vi 0),(vi 0),(vu 0),ve,Sl.nil.v] 25 hs hb (jY (zeroValue25 _) rfl) fun p5 w13 H4 hs hb=>sbx 0 (Aa aY aZ bA bB bC bD) (sizeOf25 _) hs hb gZ fun w14 hs hb=>qb (ln (eg (q (sc call11 ((p_I r2 w14).mono ?_))))))
 rintro e w15 ⟨he,hE⟩
 refine ⟨_,he,?_⟩
 obtain ⟨hs,hb⟩:=hs.pp hb hE
 refine qb (jQ 3 (fun ρ wJ=>∃b1'0 y1:Bool,∃HJ:NP,((r2 == 0)=b1'0)∧(y1=(b1'0 && (decide (r1=(⟨#[115,48,40,40,34,100,101,97,108,34,32,35,55,41,41]⟩:ByteArray)))))∧Hst w0 H3 w12 HJ wJ∧HB HJ wJ [(p5,(Aa aY aZ bA bB bC bD),25),(p4,(Aa aS aT aU aV aW aX),25),(p3,(Aa aG aH aI aJ aK aL),25),(p2,[(vi 7),(vi 0),(vi 0),(vu 0),ve,(Sl.mk (some p1) 1 1).v],25)]∧Has ρ [(1,(vp (some p2))),(4,(vp (some p3))),(5,(vi r3)),(8,(vi r5)),(9,(vi r6)),(11,(vi r7)),(12,(vi r8)),(44,(vb y1))]) ?_ ?_)
 rintro ρ w16 ⟨b1'0,y1,H5,he0,hy1,hs,hb,hH⟩
 subst he0
 have h:=h y1 hy1
 refine jW hH (q (jQ 4 (fun ρ wJ=>∃b2'0:Bool,∃HJ:NP,(y1=b2'0)∧Hst w0 H3 w12 HJ wJ∧HB HJ wJ [(p5,(Aa aY aZ bA bB bC bD),25),(p4,(Aa aS aT aU aV aW aX),25),(p3,(Aa aG aH aI aJ aK aL),25),(p2,[(vi 7),(vi 0),(vi 0),(vu 0),ve,(Sl.mk (some p1) 1 1).v],25)]∧Has ρ [(1,(vp (some p2))),(4,(vp (some p3))),(8,(vi r5)),(9,(vi r6)),(11,(vi r7)),(12,(vi r8)),(49,(vb (b2'0 && (r3 == 0))))]) ?_ ?_))
 rintro ρ w18 ⟨b2'0,H6,he0,hs,hb,hH⟩
 subst he0
 refine jW hH (q (jQ 4 (fun ρ w=>∃x1,∃H:NP,Has ρ [(8,(vi r5)),(9,(vi r6)),(11,(vi r7)),(12,(vi r8)),(54,(vb x1))]∧Hst w0 H w H w∧HB H w [(p5,(Aa aY aZ bA bB bC bD),25),(p4,(Aa aS aT aU aV aW aX),25),(p3,(Aa aG aH aI aJ aK aL),25),(p2,[(vi 7),(vi 0),(vi 0),(vu 0),ve,(Sl.mk (some p1) 1 1).v],25)]∧m_K_j1 r5 r6 r7 r8 x1 w0 H w K) ?_ ?_))
 rintro ρ w ⟨x1,H,hH,hs,hb,h⟩
 refine jW hH (q (jQ 4 (fun ρ wJ=>∃b3'0:Bool,∃HJ:NP,(x1=b3'0)∧Hst w0 H w HJ wJ∧HB HJ wJ [(p5,(Aa aY aZ bA bB bC bD),25),(p4,(Aa aS aT aU aV aW aX),25),(p3,(Aa aG aH aI aJ aK aL),25),(p2,[(vi 7),(vi 0),(vi 0),(vu 0),ve,(Sl.mk (some p1) 1 1).v],25)]∧Has ρ [(9,(vi r6)),(11,(vi r7)),(12,(vi r8)),(59,(vb (b3'0 && (r5 == 50))))]) ?_ ?_))
 rintro ρ w21 ⟨b3'0,H7,he0,hs,hb,hH⟩
 subst he0
 refine jW hH (q (jQ 3 (fun ρ wJ=>∃b4'0:Bool,∃HJ:NP,((x1 && (r5 == 50))=b4'0)∧Hst w0 H w HJ wJ∧HB HJ wJ [(p5,(Aa aY aZ bA bB bC bD),25),(p4,(Aa aS aT aU aV aW aX),25),(p3,(Aa aG aH aI aJ aK aL),25),(p2,[(vi 7),(vi 0),(vi 0),(vu 0),ve,(Sl.mk (some p1) 1 1).v],25)]∧Has ρ [(11,(vi r7)),(12,(vi r8)),(63,(vb (b4'0 && (r6 == 1))))]) ?_ ?_))
 rintro ρ w23 ⟨b4'0,H8,he0,hs,hb,hH⟩
 subst he0
 refine jW hH (q (jQ 4 (fun ρ wJ=>∃b5'0:Bool,∃HJ:NP,(((x1 && (r5 == 50)) && (r6 == 1))=b5'0)∧Hst w0 H w HJ wJ∧HB HJ wJ [(p5,(Aa aY aZ bA bB bC bD),25),(p4,(Aa aS aT aU aV aW aX),25),(p3,(Aa aG aH aI aJ aK aL),25),(p2,[(vi 7),(vi 0),(vi 0),(vu 0),ve,(Sl.mk (some p1) 1 1).v],25)]∧Has ρ [(12,(vi r8)),(68,(vb (b5'0 && (r7 == 3))))]) ?_ ?_))
 rintro ρ w25 ⟨b5'0,H9,he0,hs,hb,hH⟩
 subst he0
 refine jW hH (q (jQ 3 (fun ρ wJ=>∃b6'0 y2:Bool,∃HJ:NP,((((x1 && (r5 == 50)) && (r6 == 1)) && (r7 == 3))=b6'0)∧(y2=(b6'0 && (r8 == 6)))∧Hst w0 H w HJ wJ∧HB HJ wJ [(p5,(Aa aY aZ bA bB bC bD),25),(p4,(Aa aS aT aU aV aW aX),25),(p3,(Aa aG aH aI aJ aK aL),25),(p2,[(vi 7),(vi 0),(vi 0),(vu 0),ve,(Sl.mk (some p1) 1 1).v],25)]∧Has ρ [(72,(vb y2))]) ?_ ?_))
 rintro ρ w27 ⟨b6'0,y2,H10,he0,hy2,hs,hb,hH⟩
 subst he0
 have h:=h y2 hy2
 refine jW hH (q (ln (er ?_)))
 have ⟨h,hs⟩:=hs.hr (h H10 w27)
 refine rs1 results8 ⟨y2,rfl,h⟩
 rcases bte (((x1 && (r5 == 50)) && (r6 == 1)) && (r7 == 3)) with hg12 | hg12
 refine qk 69 hg12 (qk 69 hg12 (q2 (vb (r8 == 6)) (xT hg12) (jA ⟨true,_,_,hg12,rfl,hs,hb,hm⟩)))
 refine sj2 69 hg12 (q2 (vb false) (xF hg12) (jA ⟨false,_,_,hg12,rfl,hs,hb,hm⟩))
 rcases bte ((x1 && (r5 == 50)) && (r6 == 1)) with hg10 | hg10
 refine qk 64 hg10 (kV (wy 64 hg10) (xc call11) ((p_I r7 w23).mono ?_))
 rintro e w26 ⟨he,hE⟩
 refine ⟨_,he,?_⟩
 obtain ⟨hs,hb⟩:=hs.pp hb hE
 refine qk 64 hg10 (q2 (vb (r7 == 3)) (xT hg10) (jA ⟨true,_,hg10,hs,hb,hm⟩))
 refine sj3 64 hg10 (q2 (vb false) (xF hg10) (jA ⟨false,_,hg10,hs,hb,hm⟩))
 rcases bte (x1 && (r5 == 50)) with hg8 | hg8
 refine qk 60 hg8 (qk 60 hg8 (q2 (vb (r6 == 1)) (xT hg8) (jA ⟨true,_,hg8,hs,hb,hm⟩)))
 refine sj2 60 hg8 (q2 (vb false) (xF hg8) (jA ⟨false,_,hg8,hs,hb,hm⟩))
 rcases bte x1 with hg6 | hg6
 refine qk 55 hg6 (kV (wy 55 hg6) (xc call11) ((p_I r5 w).mono ?_))
 rintro e w22 ⟨he,hE⟩
 refine ⟨_,he,?_⟩
 obtain ⟨hs,hb⟩:=hs.pp hb hE
 refine qk 55 hg6 (q2 (vb (r5 == 50)) (xT hg6) (jA ⟨true,_,hg6,hs,hb,hm⟩))
 refine sj3 55 hg6 (q2 (vb false) (xF hg6) (jA ⟨false,_,hg6,hs,hb,hm⟩))
 obtain ⟨hg13,h⟩|⟨hg13,h⟩:=h.br
 refine stq (v:=(.agg #[(vi 7),(vi 0),(vi 0),(vu 0),ve,(Sl.mk (some p1) 1 1).v])) (wy 50 hg13) (xa p2 [(vi 7),(vi 0),(vi 0),(vu 0),ve,(Sl.mk (some p1) 1 1).v] (isAgg25 _) (sizeOf25 _) (hb.r0 3 6 (gS (gS (gS gZ))))) (stq (v:=(Ab aG aH aI aJ aK aL)) (wy 50 hg13) (xa p3 (Aa aG aH aI aJ aK aL) (isAgg25 _) (sizeOf25 _) (hb.r0 2 6 (gS (gS gZ)))) ?_)
 have ⟨h,hs⟩:=hs.hr (h H6 w18)
 refine kV (wy 50 hg13) (xc call14) (h.mono ?_)
 rintro e w28 ⟨r9,rfl,hk,h⟩
 refine ⟨_,rfl,?_⟩
 obtain ⟨hs,hb⟩:=hk.hh hs hb
 refine q2 (vb r9) (xT hg13) (jA ⟨r9,H6,hm,hs,hb,h⟩)
 refine sj3 50 hg13 (q2 (vb false) (xF hg13) (jA ?_))
 have ⟨h,hs⟩:=hs.hr (h H6 w18)
 exact ⟨false,H6,hm,hs,hb,h⟩
 rcases bte y1 with hg4 | hg4
 refine qk 45 hg4 (kV (wy 45 hg4) (xc call11) ((p_I r3 w16).mono ?_))
 rintro e w19 ⟨he,hE⟩
 refine ⟨_,he,?_⟩
 obtain ⟨hs,hb⟩:=hs.pp hb hE
 refine qk 45 hg4 (q2 (vb (r3 == 0)) (xT hg4) (jA ⟨true,_,hg4,hs,hb,hm⟩))
 refine sj3 45 hg4 (q2 (vb false) (xF hg4) (jA ⟨false,_,hg4,hs,hb,hm⟩))
 rcases bte (r2 == 0) with hg2 | hg2
 refine qk 41 hg2 (stq (v:=(vb (decide (r1=(⟨#[115,48,40,40,34,100,101,97,108,34,32,35,55,41,41]⟩:ByteArray))))) (wy 41 hg2) (jCR (by kernel_rfl) (by kernel_rfl)) (q2 (vb (decide (r1=(⟨#[115,48,40,40,34,100,101,97,108,34,32,35,55,41,41]⟩:ByteArray)))) (xT hg2) (jA ⟨true,_,_,hg2,rfl,hs,hb,hm⟩)))
 refine sj2 41 hg2 (q2 (vb false) (xF hg2) (jA ⟨false,_,_,hg2,rfl,hs,hb,hm⟩))
def m_F_j3 (r7 r11:ByteArray) (r12:Int) (x2:Bool) (w0:World) (H:NP) (w:World) (K:Bool→WP):Prop :=Br ((x2 && (r12 == 0)) && (decide (r7=r11))) (∀H6 w22,Hst w0 H w H6 w22→Calls prog 8 #[] w22 (fun e w23=>∃r13,e=.returned (vb r13)∧Kept H6 w22 w23∧K r13 w23)) (∀H6 w22,Hst w0 H w H6 w22→K false w22)
def m_F_j2 (text1:ByteArray) (w0:World) (H:NP) (w:World) (K:Bool→WP):Prop :=Calls prog 12 #[(vs text1)] w (fun e w5=>∃aM aN aO aP aQ aR r4 r5,e=.returned (.tuple #[(Ab aM aN aO aP aQ aR),(vi r4),(vi r5)])∧Kept H w w5∧Br (r4 != 0) (∀H2 w8,Hst w0 H w5 H2 w8→Calls prog 8 #[] w8 (fun e w9=>∃r6,e=.returned (vb r6)∧Kept H2 w8 w9∧K r6 w9)) (∀H2 w8,Hst w0 H w5 H2 w8→Calls prog 9 #[(.agg #[(vi aM),(vi aN),(vi aO),(vu aP),(vs aQ),aR.v])] w8 (fun e w10=>∃r7 r8,e=.returned (.tuple #[(vs r7),(vi r8)])∧Kept H2 w8 w10∧Calls prog 12 #[(vs r7)] w10 (fun e w11=>∃aG aH aI aJ aK aL r9 r10,e=.returned (.tuple #[(Ab aG aH aI aJ aK aL),(vi r9),(vi r10)])∧Kept H2 w10 w11∧∀H3 w13,Hst w0 H2 w11 H3 w13→Calls prog 9 #[(.agg #[(vi aG),(vi aH),(vi aI),(vu aJ),(vs aK),aL.v])] w13 (fun e w14=>∃r11 r12,e=.returned (.tuple #[(vs r11),(vi r12)])∧Kept H3 w13 w14∧Br ((r8 == 0) && (r9 == 0)) (∀H4 w17,Hst w0 H3 w14 H4 w17→Calls prog 14 #[(.agg #[(vi aM),(vi aN),(vi aO),(vu aP),(vs aQ),aR.v]),(.agg #[(vi aG),(vi aH),(vi aI),(vu aJ),(vs aK),aL.v])] w17 (fun e w24=>∃r14,e=.returned (vb r14)∧Kept H4 w17 w24∧m_F_j3 r7 r11 r12 r14 w0 H4 w24 K)) (∀H4 w17,Hst w0 H3 w14 H4 w17→m_F_j3 r7 r11 r12 false w0 H4 w17 K))))))
def m_F_j1 (aA aB:Int) (aC aD:Int) (aE:ByteArray) (aF:Sl) (text1:ByteArray) (x1:Bool) (w0:World) (H:NP) (w:World) (K:Bool→WP):Prop :=Br x1 (Calls prog 8 #[] w (fun e w2=>∃r1,e=.returned (vb r1)∧Kept H w w2∧K r1 w2)) (Calls prog 9 #[(.agg #[(vi aA),(vi aB),(vi aC),(vu aD),(vs aE),aF.v])] w (fun e w3=>∃r2 r3,e=.returned (.tuple #[(vs r2),(vi r3)])∧Kept H w w3∧Br (r3 == 0) (∀w4,Hst w0 H w3 H w4→Calls prog 12 #[(vs r2)] w4 (fun e w25=>∃aS aT aU aV aW aX r15 r16,e=.returned (.tuple #[(Ab aS aT aU aV aW aX),(vi r15),(vi r16)])∧Kept H w4 w25∧Br ((r15 != 0) || (r16 != 0)) (∀H8 w29,Hst w0 H w25 H8 w29→K false w29) (∀H8 w29,Hst w0 H w25 H8 w29→Calls prog 14 #[(.agg #[(vi aA),(vi aB),(vi aC),(vu aD),(vs aE),aF.v]),(.agg #[(vi aS),(vi aT),(vi aU),(vu aV),(vs aW),aX.v])] w29 (fun e w30=>∃r17,e=.returned (vb r17)∧Kept H8 w29 w30∧Br (!r17) (K false w30) (m_F_j2 text1 w0 H8 w30 K))))) (∀w4,Hst w0 H w3 H w4→m_F_j2 text1 w0 H w4 K)))
def m_F (aA aB:Int) (aC aD:Int) (aE:ByteArray) (aF:Sl) (text1:ByteArray) (w0:World) (K:Bool→WP):Prop :=∀H1 w1,Hst w0 None w0 H1 w1→Calls prog 7 #[(.agg #[(vi aA),(vi aB),(vi aC),(vu aD),(vs aE),aF.v])] w1 (fun e w31=>∃r18,e=.returned (vb r18)∧Kept H1 w1 w31∧∀H9 w32,Hst w0 H1 w31 H9 w32→m_F_j1 aA aB aC aD aE aF text1 (r18 || (decide ((text1.size:Int)>8000))) w0 H9 w32 K)
theorem w_F (aA aB aC aD aE aF text1 w0 K) (h:m_F aA aB aC aD aE aF text1 w0 K):
  Calls prog 5 #[(.agg #[(vi aA),(vi aB),(vi aC),(vu aD),(vs aE),aF.v]),(vs text1)] w0 (fun e w'=>∃r19,e=.returned (vb r19)∧K r19 w'):=by
 refine cw (args:=[(Ab aA aB aC aD aE aF),(vs text1)]) func5 ntmps5 ?_
 obtain ⟨hs,hb⟩:=st0 w0
 refine eg (nw3 (Aa aA aB aC aD aE aF) 25 hs hb xb fun p1 w1 H1 hs hb=>q (ln (jB (jB (zX (fun ρ w=>∃x1,∃H:NP,Has ρ [(1,(vs text1)),(2,(vp (some p1))),(26,(vb x1))]∧Hst w0 H w H w∧HB H w [(p1,(Aa aA aB aC aD aE aF),25)]∧m_F_j1 aA aB aC aD aE aF text1 x1 w0 H w K) ?_ ?_)))))
 rintro ρ w ⟨x1,H,hH,hs,hb,h⟩
 refine zF hH (cbr h ?_ ?_)<;>intro h
 refine eg (sc call8 (h.mono fun e w2 ⟨r1,k,hk,h⟩=>have ⟨hs,hb⟩:=hk.hh hs hb;⟨_,k,?_⟩))
 refine q (ln (er (kU (rs1 results5 ⟨r1,rfl,h⟩))))
 refine jD (jP (eg (q2 (Ab aA aB aC aD aE aF) (xa p1 (Aa aA aB aC aD aE aF) (isAgg25 _) (sizeOf25 _) (hb.r0 0 6 gZ)) (sc call9 (h.mono fun e w3 ⟨r2,r3,k,hk,h⟩=>have ⟨hs,hb⟩:=hk.hh hs hb;⟨_,k,?_⟩)))))
 refine q (qd (ln (jB (eg (q (sc call11 ((p_I r3 w3).mono ?_)))))))
 rintro e w4 ⟨he,hE⟩
 refine ⟨_,he,?_⟩
 obtain ⟨hs,hb⟩:=hs.pp hb hE
 refine q (ln (zX (fun ρ w=>∃H:NP,Has ρ [(1,(vs text1))]∧Hst w0 H w H w∧HB H w [(p1,(Aa aA aB aC aD aE aF),25)]∧m_F_j2 text1 w0 H w K) ?_ ?_))
 rintro ρ w ⟨H,hH,hs,hb,h⟩
 refine zF hH (eg (q (sc call12 (h.mono fun e w5 ⟨aM,aN,aO,aP,aQ,aR,r4,r5,k,hk,h⟩=>have ⟨hs,hb⟩:=hk.hh hs hb;⟨_,k,?_⟩))))
 refine qd (nw3 [(vi 0),(vi 0),(vi 0),(vu 0),ve,Sl.nil.v] 25 hs hb (jY (zeroValue25 _) rfl) fun p2 w6 H2 hs hb=>sbx 0 (Aa aM aN aO aP aQ aR) (sizeOf25 _) hs hb gZ fun w7 hs hb=>qb (ln (jB (eg (q (sc call11 ((p_I r4 w7).mono ?_)))))))
 rintro e w8 ⟨he,hE⟩
 refine ⟨_,he,?_⟩
 obtain ⟨hs,hb⟩:=hs.pp hb hE
 refine q (ln (cbr h ?_ ?_))<;>intro h
 refine eg ?_
 have ⟨h,hs⟩:=hs.hr (h H2 w8)
 refine sc call8 (h.mono fun e w9 ⟨r6,k,hk,h⟩=>have ⟨hs,hb⟩:=hk.hh hs hb;⟨_,k,?_⟩)
 refine q (ln (er (kU (rs1 results5 ⟨r6,rfl,h⟩))))
 refine jD (jP (eg (q2 (Ab aM aN aO aP aQ aR) (xa p2 (Aa aM aN aO aP aQ aR) (isAgg25 _) (sizeOf25 _) (hb.r0 0 6 gZ)) ?_)))
 have ⟨h,hs⟩:=hs.hr (h H2 w8)
 refine sc call9 (h.mono fun e w10 ⟨r7,r8,k,hk,h⟩=>have ⟨hs,hb⟩:=hk.hh hs hb;⟨_,k,?_⟩)
 refine q (qd (ln (eg (q (sc call12 (h.mono fun e w11 ⟨aG,aH,aI,aJ,aK,aL,r9,r10,k,hk,h⟩=>have ⟨hs,hb⟩:=hk.hh hs hb;⟨_,k,?_⟩))))))
 refine qd (nw3 [(vi 0),(vi 0),(vi 0),(vu 0),ve,Sl.nil.v] 25 hs hb (jY (zeroValue25 _) rfl) fun p3 w12 H3 hs hb=>sbx 0 (Aa aG aH aI aJ aK aL) (sizeOf25 _) hs hb gZ fun w13 hs hb=>qb (ln (eg (q2 (Ab aG aH aI aJ aK aL) (xa p3 (Aa aG aH aI aJ aK aL) (isAgg25 _) (sizeOf25 _) (hb.r0 0 6 gZ)) ?_))))
 have ⟨h,hs⟩:=hs.hr (h H3 w13)
 refine sc call9 (h.mono fun e w14 ⟨r11,r12,k,hk,h⟩=>have ⟨hs,hb⟩:=hk.hh hs hb;⟨_,k,?_⟩)
 refine q (qd (ln (eg (q (sc call11 ((p_I r8 w14).mono ?_))))))
 rintro e w15 ⟨he,hE⟩
 refine ⟨_,he,?_⟩
 obtain ⟨hs,hb⟩:=hs.pp hb hE
 refine qb (jQ 4 (fun ρ wJ=>∃b1'0:Bool,∃HJ:NP,((r8 == 0)=b1'0)∧Hst w0 H3 w14 HJ wJ∧HB HJ wJ [(p3,(Aa aG aH aI aJ aK aL),25),(p2,(Aa aM aN aO aP aQ aR),25),(p1,(Aa aA aB aC aD aE aF),25)]∧Has ρ [(10,(vp (some p2))),(13,(vs r7)),(15,(vp (some p3))),(18,(vs r11)),(19,(vi r12)),(88,(vb (b1'0 && (r9 == 0))))]) ?_ ?_)
 rintro ρ w17 ⟨b1'0,H4,he0,hs,hb,hH⟩
 subst he0
 refine jW hH (q (jQ 4 (fun ρ w=>∃x2,∃H:NP,Has ρ [(13,(vs r7)),(18,(vs r11)),(19,(vi r12)),(93,(vb x2))]∧Hst w0 H w H w∧HB H w [(p3,(Aa aG aH aI aJ aK aL),25),(p2,(Aa aM aN aO aP aQ aR),25),(p1,(Aa aA aB aC aD aE aF),25)]∧m_F_j3 r7 r11 r12 x2 w0 H w K) ?_ ?_))
 rintro ρ w ⟨x2,H,hH,hs,hb,h⟩
 refine jW hH (q (jQ 4 (fun ρ wJ=>∃b2'0:Bool,∃HJ:NP,(x2=b2'0)∧Hst w0 H w HJ wJ∧HB HJ wJ [(p3,(Aa aG aH aI aJ aK aL),25),(p2,(Aa aM aN aO aP aQ aR),25),(p1,(Aa aA aB aC aD aE aF),25)]∧Has ρ [(13,(vs r7)),(18,(vs r11)),(98,(vb (b2'0 && (r12 == 0))))]) ?_ ?_))
 rintro ρ w20 ⟨b2'0,H5,he0,hs,hb,hH⟩
 subst he0
 refine jW hH (q (jQ 4 (fun ρ wJ=>∃b3'0:Bool,∃HJ:NP,((x2 && (r12 == 0))=b3'0)∧Hst w0 H w HJ wJ∧HB HJ wJ [(p3,(Aa aG aH aI aJ aK aL),25),(p2,(Aa aM aN aO aP aQ aR),25),(p1,(Aa aA aB aC aD aE aF),25)]∧Has ρ [(103,(vb (b3'0 && (decide (r7=r11)))))]) ?_ ?_))
 rintro ρ w22 ⟨b3'0,H6,he0,hs,hb,hH⟩
 subst he0
 refine jW hH (q ?_)
 obtain ⟨hg7,h⟩|⟨hg7,h⟩:=h.br
 have ⟨h,hs⟩:=hs.hr (h H6 w22)
 refine kV (wy 104 hg7) (xc call8) (h.mono ?_)
 rintro e w23 ⟨r13,rfl,hk,h⟩
 refine ⟨_,rfl,?_⟩
 obtain ⟨hs,hb⟩:=hk.hh hs hb
 refine q2 (vb r13) (xT hg7) (q (ln (er (rs1 results5 ⟨r13,rfl,h⟩))))
 refine sj 104 hg7 (q2 (vb false) (xF hg7) (q (ln (er ?_))))
 have ⟨h,hs⟩:=hs.hr (h H6 w22)
 refine rs1 results5 ⟨false,rfl,h⟩
 rcases bte (x2 && (r12 == 0)) with hg6 | hg6
 refine qk 99 hg6 (qk 99 hg6 (stq (v:=(vb (decide (r7=r11)))) (wy 99 hg6) (jCR (by kernel_rfl) (by kernel_rfl)) (q2 (vb (decide (r7=r11))) (xT hg6) (jA ⟨true,_,hg6,hs,hb,hm⟩))))
 refine sj3 99 hg6 (q2 (vb false) (xF hg6) (jA ⟨false,_,hg6,hs,hb,hm⟩))
 rcases bte x2 with hg4 | hg4
 refine qk 94 hg4 (kV (wy 94 hg4) (xc call11) ((p_I r12 w).mono ?_))
 rintro e w21 ⟨he,hE⟩
 refine ⟨_,he,?_⟩
 obtain ⟨hs,hb⟩:=hs.pp hb hE
 refine qk 94 hg4 (q2 (vb (r12 == 0)) (xT hg4) (jA ⟨true,_,hg4,hs,hb,hm⟩))
 refine sj3 94 hg4 (q2 (vb false) (xF hg4) (jA ⟨false,_,hg4,hs,hb,hm⟩))
 obtain ⟨hg8,h⟩|⟨hg8,h⟩:=h.br
 refine stq (v:=(Ab aM aN aO aP aQ aR)) (wy 89 hg8) (xa p2 (Aa aM aN aO aP aQ aR) (isAgg25 _) (sizeOf25 _) (hb.r0 1 6 (gS gZ))) (stq (v:=(Ab aG aH aI aJ aK aL)) (wy 89 hg8) (xa p3 (Aa aG aH aI aJ aK aL) (isAgg25 _) (sizeOf25 _) (hb.r0 0 6 gZ)) ?_)
 have ⟨h,hs⟩:=hs.hr (h H4 w17)
 refine kV (wy 89 hg8) (xc call14) (h.mono ?_)
 rintro e w24 ⟨r14,rfl,hk,h⟩
 refine ⟨_,rfl,?_⟩
 obtain ⟨hs,hb⟩:=hk.hh hs hb
 refine q2 (vb r14) (xT hg8) (jA ⟨r14,H4,hm,hs,hb,h⟩)
 refine sj3 89 hg8 (q2 (vb false) (xF hg8) (jA ?_))
 have ⟨h,hs⟩:=hs.hr (h H4 w17)
 exact ⟨false,H4,hm,hs,hb,h⟩
 rcases bte (r8 == 0) with hg2 | hg2
 refine qk 84 hg2 (kV (wy 84 hg2) (xc call11) ((p_I r9 w15).mono ?_))
 rintro e w18 ⟨he,hE⟩
 refine ⟨_,he,?_⟩
 obtain ⟨hs,hb⟩:=hs.pp hb hE
 refine qk 84 hg2 (q2 (vb (r9 == 0)) (xT hg2) (jA ⟨true,_,hg2,hs,hb,hm⟩))
 refine sj3 84 hg2 (q2 (vb false) (xF hg2) (jA ⟨false,_,hg2,hs,hb,hm⟩))
 refine cbr h ?_ ?_<;>intro h
 refine eg (q ?_)
 have ⟨h,hs⟩:=hs.hr (h w4)
 refine sc call12 (h.mono fun e w25 ⟨aS,aT,aU,aV,aW,aX,r15,r16,k,hk,h⟩=>have ⟨hs,hb⟩:=hk.hh hs hb;⟨_,k,?_⟩)
 refine qd (nw3 [(vi 0),(vi 0),(vi 0),(vu 0),ve,Sl.nil.v] 25 hs hb (jY (zeroValue25 _) rfl) fun p4 w26 H7 hs hb=>sbx 0 (Aa aS aT aU aV aW aX) (sizeOf25 _) hs hb gZ fun w27 hs hb=>qb (ln (eg (q (sc call11 ((p_I r15 w27).mono ?_))))))
 rintro e w28 ⟨he,hE⟩
 refine ⟨_,he,?_⟩
 obtain ⟨hs,hb⟩:=hs.pp hb hE
 refine qb (jQ 3 (fun ρ wJ=>∃b4'0:Bool,∃HJ:NP,((r15 != 0)=b4'0)∧Hst w0 H w25 HJ wJ∧HB HJ wJ [(p4,(Aa aS aT aU aV aW aX),25),(p1,(Aa aA aB aC aD aE aF),25)]∧Has ρ [(1,(vs text1)),(2,(vp (some p1))),(7,(vp (some p4))),(48,(vb (b4'0 || (r16 != 0))))]) ?_ ?_)
 rintro ρ w29 ⟨b4'0,H8,he0,hs,hb,hH⟩
 subst he0
 refine jW hH (q ?_)
 obtain ⟨hg11,h⟩|⟨hg11,h⟩:=h.br
 refine sj4 49 hg11 (q2 (vb true) (xT hg11) (ln (zY (by kernel_rfl) (eg (q0 (vb false) (jA (jP (er (kU ?_)))))))))
 have ⟨h,hs⟩:=hs.hr (h H8 w29)
 refine rs1 results5 ⟨false,rfl,h⟩
 refine stq (v:=(Ab aA aB aC aD aE aF)) (wy 49 hg11) (xa p1 (Aa aA aB aC aD aE aF) (isAgg25 _) (sizeOf25 _) (hb.r0 1 6 (gS gZ))) (stq (v:=(Ab aS aT aU aV aW aX)) (wy 49 hg11) (xa p4 (Aa aS aT aU aV aW aX) (isAgg25 _) (sizeOf25 _) (hb.r0 0 6 gZ)) ?_)
 have ⟨h,hs⟩:=hs.hr (h H8 w29)
 refine kV (wy 49 hg11) (xc call14) (h.mono ?_)
 rintro e w30 ⟨r17,rfl,hk,h⟩
 refine ⟨_,rfl,?_⟩
 obtain ⟨hs,hb⟩:=hk.hh hs hb
 refine qk 49 hg11 (q2 (vb (!r17)) (xF hg11) (ln (cbr h ?_ ?_)))<;>intro h
 refine eg (q (ln (er (kU (rs1 results5 ⟨false,rfl,h⟩)))))
 refine jD (jP ⟨H8,hm,hs,hb.drop 1,h⟩)
 rcases bte (r15 != 0) with hg10 | hg10
 refine sj2 45 hg10 (q2 (vb true) (xT hg10) (jA ⟨true,_,hg10,hs,hb,hm⟩))
 refine qk 45 hg10 (qk 45 hg10 (q2 (vb (r16 != 0)) (xF hg10) (jA ⟨false,_,hg10,hs,hb,hm⟩)))
 refine jD ?_
 have ⟨h,hs⟩:=hs.hr (h w4)
 refine jP ⟨H,hm,hs,hb,h⟩
 refine rg (q2 (Ab aA aB aC aD aE aF) (xa p1 (Aa aA aB aC aD aE aF) (isAgg25 _) (sizeOf25 _) (hb.r0 0 6 gZ)) ?_)
 have ⟨h,hs⟩:=hs.hr (h H1 w1)
 refine sc call7 (h.mono fun e w31 ⟨r18,k,hk,h⟩=>have ⟨hs,hb⟩:=hk.hh hs hb;⟨_,k,?_⟩)
 refine q (jQ 4 (fun ρ wJ=>∃b5'0:Bool,∃HJ:NP,(r18=b5'0)∧Hst w0 H1 w31 HJ wJ∧HB HJ wJ [(p1,(Aa aA aB aC aD aE aF),25)]∧Has ρ [(1,(vs text1)),(2,(vp (some p1))),(26,(vb (b5'0 || (decide ((text1.size:Int)>8000)))))]) ?_ ?_)
 rintro ρ w32 ⟨b5'0,H9,he0,hs,hb,hH⟩
 subst he0
 refine jW hH (jA ?_)
 have ⟨h,hs⟩:=hs.hr (h H9 w32)
 refine jP ⟨(r18 || (decide ((text1.size:Int)>8000))),H9,hm,hs,hb,h⟩
 rcases bte r18 with hg13 | hg13
 refine sj3 22 hg13 (q2 (vb true) (xT hg13) (jA ⟨true,_,hg13,hs,hb,hm⟩))
 refine qk 22 hg13 (qk 22 hg13 (qk 22 hg13 (q2 (vb (decide ((text1.size:Int)>8000))) (xF hg13) (jA ⟨false,_,hg13,hs,hb,hm⟩))))
end Go.Proofs
end
section
open Go Go.SE
namespace Go.Proofs
open Tryd
attribute [local irreducible] Calls
theorem tU {S:NP} (A B:Sp.Tree) (sa sb:Sl) (w0:World) (hA:TreeAt S w0 sa A) (hB:TreeAt S w0 sb B) (hS:∀b,S b→b<w0.heap.size) :
  Calls prog 16 #[.agg (kT A sa).toArray,.agg (kT B sb).toArray] w0 (fun e w'=>∃s:Sl,e=.returned (.agg (kT (.mk 4 0 0 0 ⟨#[]⟩ [A,B]) s).toArray)∧TreeAt (fun b=>S b∨(w0.heap.size≤b∧b<w'.heap.size)) w' s (.mk 4 0 0 0 ⟨#[]⟩ [A,B])∧Pure w0 w'):=by
 obtain ⟨k,f,t,u,x,ks⟩:=A
 obtain ⟨k2,f2,t2,u2,x2,ks2⟩:=B
 refine (w_M1 k f t u x sa k2 f2 t2 u2 x2 sb w0 (fun rk rf rt ru rx s w'=>rk=4∧rf=0∧rt=0∧ru=0∧rx=⟨#[]⟩∧TreeAt (fun b=>S b∨(w0.heap.size≤b∧b<w'.heap.size)) w' s (.mk 4 0 0 0 ⟨#[]⟩ [.mk k f t u x ks,.mk k2 f2 t2 u2 x2 ks2])∧Pure w0 w') ?_).mono ?_
 ·unfold m_M1
  intro H3 w3 hs3 p4 w4 n4 w5 hs5
  have E3:=hs3.first
  have E4:Pure w3 w4:=Ext.new n4
  have E04:Pure w0 w4:=E3.trans E4
  have hp:=n4.at_size
  have z3:=E3.size
  have l4:=(Box.of_new n4).lt
  have hH:∀b,H3 b→w0.heap.size≤b∧b<w3.heap.size:=fun b hb=>⟨hs3.here.old b hb,hs3.here.lt b hb⟩
  have B4:=(Box.of_new n4).ext hs5.ext (fun hh=>by have:=(hH _ hh).2;omega)
  have up:∀{s:Sl} {T:Sp.Tree},TreeAt S w0 s T→TreeAt (fun b=>S b∨(w0.heap.size≤b∧b<w5.heap.size)) w5 s T:=fun h=>((h.pure E04).ext hs5.ext (fun b hb hh=>by have:=(hH b hh).1;have:=hS b hb;omega)).mono (fun b hb=>.inl hb)
  have z5:=hs5.ext.size
  exact ⟨rfl,rfl,rfl,rfl,rfl,TreeAt.pair (A:=.mk k f t u x ks) (B:=.mk k2 f2 t2 u2 x2 ks2) (sa:=sa) (sb:=sb) B4 (.inr ⟨by omega,by omega⟩) (up hA) (up hB),E04.trans' hs5.ext (fun b hb hh=>by have:=(hH b hh).1;omega)⟩
 ·rintro e w' ⟨rk,rf,rt,ru,rx,s,rfl,rfl,rfl,rfl,rfl,rfl,h⟩
  exact ⟨s,rfl,h⟩
def xC:Sp.Tree:=.mk 7 0 0 0 ⟨#[]⟩ [.mk 4 0 0 0 ⟨#[]⟩ [.mk 3 0 0 0 ⟨#[100,101,97,108]⟩ [],.mk 2 0 0 7 ⟨#[]⟩ []]]
set_option maxRecDepth 100000 in
theorem jDY:Sp.gQ xC=([115,48,40,40,34,100,101,97,108,34,32,35,55,41,41],0):=by kernel_rfl
set_option maxRecDepth 100000 in
theorem xS:Sp.qF (bts ⟨#[115,48,40,32,40,34,100,101,97,108,34,35,55,41,32,41]⟩)=(xC,0,0):=by kernel_rfl
set_option maxRecDepth 100000 in
theorem jCA:(Sp.qF (bts ⟨#[110,49,54]⟩)).2=(50,1):=by kernel_rfl
set_option maxRecDepth 100000 in
theorem jBZ:(Sp.qF (bts ⟨#[40,110,49,32,35,50]⟩)).2=(3,6):=by kernel_rfl
theorem jAS.un {w0 w':World} {R:Sp.Tree×Int×Int} {e:Ending} (h:jAS w0 R e w'):∃k f t u y ks s,R.1=.mk k f t u y ks∧e=.returned (.tuple #[.agg #[.int .i64 k,.int .i64 f,.int .i64 t,.int .u64 u,.string y,s.v],.int .i64 R.2.1,.int .i64 R.2.2])∧TreeAt (fun b=>w0.heap.size≤b∧b<w'.heap.size) w' s (.mk k f t u y ks)∧Pure w0 w':=by
 obtain ⟨⟨k,f,t,u,y,ks⟩,a,b⟩:=R;obtain ⟨s,rfl,hT,E⟩:=h;exact ⟨k,f,t,u,y,ks,s,rfl,rfl,hT,E⟩
theorem lM {w0 w w':World} {H:NP} {s:Sl} {t:Sp.Tree} (h:TreeAt (fun b=>w.heap.size≤b∧b<w'.heap.size) w' s t) (E:Pure w0 w) (hH:∀b,H b→b<w.heap.size):TT w0 w' H s t:=TT.of h E.size hH
theorem vN {w0 w w':World} {H:NP} {s:Sl} {t:Sp.Tree} (h:TT w0 w H s t) (E:Pure w w'):TT w0 w' H s t:=(TreeAt.pure h E).mono (fun b hb=>⟨hb.1,by have:=E.size;omega,hb.2.2⟩)
theorem jGA:Sp.NumT xC:=by
 have n0:Sp.jCF 0:=⟨by decide,by decide⟩;have n7:Sp.jCF 7:=⟨by decide,by decide⟩;have leaf:∀k f t u x,Sp.jCF u→Sp.NumT (.mk k f t u x []):=fun k f t u x h=>.mk k f t u x [] h (fun i hi=>by simp at hi);refine .mk _ _ _ _ _ _ n0 (fun i hi=>?_);obtain rfl:i=0:=by simp at hi;omega
 refine .mk _ _ _ _ _ _ n0 (fun i hi=>?_);match i,hi with
 | 0,_=>exact leaf _ _ _ _ _ n0
 | 1,_=>exact leaf _ _ _ _ _ n7
set_option maxRecDepth 100000 in
theorem jDZ:Sp.lL xC xC=true:=by kernel_rfl
set_option maxRecDepth 100000 in
set_option maxHeartbeats 2000000 in
theorem jIE (w0:World) (ht:Pow w0) (hv:ErrV w0):Calls prog 8 #[] w0 (fun e w'=>∃r:Bool,e=.returned (.bool r)∧(r=true∧Pure w0 w')):=by
 refine w_K w0 (fun r w'=>r=true∧Pure w0 w') ?_;unfold m_K;refine (tU (S:=fun _=>False) (.mk 3 0 0 0 ⟨#[100,101,97,108]⟩ []) (.mk 2 0 0 7 ⟨#[]⟩ []) Sl.nil Sl.nil w0 TreeAt.leaf TreeAt.leaf (fun b hb=>hb.elim)).mono ?_;rintro _ w1 ⟨s,rfl,hT1,E1⟩;refine ⟨_,_,_,_,_,s,rfl,E1.keptP,?_⟩;intro p1 w2 n2 H1 w4 hs4;have E2:Pure w1 w2:=Ext.new n2;have E02:=E1.trans E2;have y2:=n2.at_size;have z1:=E1.size;have z2:=E2.size;have B2:=Box.of_new n2;have l2:=B2.lt;have T2:TT w0 w2 None (Sl.mk (some p1) 1 1) xC:=by
  refine TreeAt.one (A:=.mk 4 0 0 0 ⟨#[]⟩ [.mk 3 0 0 0 ⟨#[100,101,97,108]⟩ [],.mk 2 0 0 7 ⟨#[]⟩ []]) (sa:=s) B2 ⟨by omega,by omega,id⟩ ?_;exact (TreeAt.pure hT1 E2).mono (fun b hb=>by
   rcases hb with hb | hb
   ·exact hb.elim
   ·exact ⟨hb.1,by omega,id⟩)
 have T4:=TT.hst T2 hs4;have E4:=E02.hst hs4;refine (uV xC (Sl.mk (some p1) 1 1) w4 T4 (fun b hb=>hb.2.1) jGA (by decide) (vA ht E4)).mono ?_;rintro _ w5 ⟨r1,r2,rfl,⟨hr1,hr2⟩,E5⟩;rw [jDY] at hr1 hr2;subst hr1;subst hr2;refine ⟨_,_,rfl,E5.keptP,?_⟩;have T5:=vN T4 E5;have E05:=E4.trans E5;have hH1:=hs4.here.lt;refine (qT _ w5 (kR hv E05)).mono ?_;intro e w6 hR;obtain ⟨k,f,t,u,y,ks,s2,hR1,rfl,hT6,E6⟩:=hR.un;rw [xS] at hR1;rw [xS];simp only at hR1;rw [← hR1] at hT6;refine ⟨_,_,_,_,_,s2,_,_,rfl,E6.keptP,?_⟩;have T6:=vN T5 E6;have T26:TT w0 w6 H1 s2 xC:=lM hT6 E05 (fun b hb=>by have:=hH1 b hb;have:=E5.size;omega);have E06:=E05.trans E6;intro H2 w8 hs8;have T8:=TT.hst T6 hs8;have T28:=TT.hst T26 hs8;have E08:=E06.hst hs8;refine (qT _ w8 (kR hv E08)).mono ?_;intro e w9 hR;obtain ⟨k3,f3,t3,u3,y3,ks3,s3,_,rfl,_,E9⟩:=hR.un;rw [jCA];refine ⟨_,_,_,_,_,s3,_,_,rfl,E9.keptP,?_⟩;intro H3 w11 hs11;have T11:=TT.hst (vN T8 E9) hs11;have T211:=TT.hst (vN T28 E9) hs11;have E11:=(E08.trans E9).hst hs11;refine (qT _ w11 (kR hv E11)).mono ?_;intro e w12 hR;obtain ⟨k4,f4,t4,u4,y4,ks4,s4,_,rfl,_,E12⟩:=hR.un;rw [jBZ];refine ⟨_,_,_,_,_,s4,_,_,rfl,E12.keptP,?_⟩;rintro y1 rfl;refine Br.t (by kernel_rfl) (fun H6 w18 hs18=>?_);have T18:=TT.hst (vN T11 E12) hs18;have T218:=TT.hst (vN T211 E12) hs18;have E18:=(E11.trans E12).hst hs18;have hmk:xC=.mk k f t u y ks:=hR1;rw [hmk] at T218;refine (qK (S:=fun b=>b<w18.heap.size) xC (.mk k f t u y ks) (Sl.mk (some p1) 1 1) s2 w18 (T18.mono (fun b hb=>hb.2.1)) (T218.mono (fun b hb=>hb.2.1)) (fun b hb=>hb)).mono ?_;rintro _ w28 ⟨r9,rfl,hr9,E28⟩;rw [← hmk,jDZ] at hr9;subst hr9;refine ⟨_,rfl,E28.keptP,?_⟩;unfold m_K_j1;rintro y2 rfl H10 w27 hs27;exact ⟨by kernel_rfl,(E18.trans E28).hst hs27⟩
theorem tR {S:NP} (t:Sp.Tree) (s:Sl) (w0:World) (hT:TreeAt S w0 s t) (hS:∀b,S b→b<w0.heap.size) :
  Calls prog 7 #[.agg (kT t s).toArray] w0 (fun e w'=>∃r:Bool,e=.returned (.bool r)∧((r=false→Sp.cnt t≤9000)∧Pure w0 w')):=by
 obtain ⟨k,f,to,u,x,ks⟩:=t
 refine w_L1 k f to u x s w0 (fun r w'=>(r=false→Sp.cnt (.mk k f to u x ks)≤9000)∧Pure w0 w') ?_
 unfold m_L1
 intro H1 w1 hs1
 have E1:=hs1.first
 refine (lY (S:=S) (.mk k f to u x ks) s 9000 w1 (by omega) (by omega) (hT.pure E1) (fun b hb=>by have:=hS b hb;have:=E1.size;omega)).mono ?_
 rintro _ w2 ⟨r,rfl,rfl,E2⟩
 refine ⟨_,rfl,E2.keptP,fun h=>?_,E1.trans E2⟩
 have hp:=Sp.gV (.mk k f to u x ks) 9000 (by omega)
 have:=of_decide_eq_false h
 have:=hp.2.2 (by omega)
 omega
end Go.Proofs
end
section
open Go Go.SE
open Go.IntKind renaming i64 → q6
namespace Go.Proofs
set_option maxRecDepth 100000
set_option maxHeartbeats 4000000
attribute [local irreducible] wpL wpX opE wpE Calls
end Go.Proofs
end
section
open Go Go.SE
namespace Go.Proofs
attribute [local irreducible] Calls
end Go.Proofs
end
section
open Go Go.SE
namespace Go.Sp
open Go.Proofs
end Go.Sp
end
section
open Go Go.SE
namespace Go.Proofs
attribute [local irreducible] Calls
end Go.Proofs
end
section
open Go Go.SE
namespace Go.Sp
open Go.Proofs
abbrev noX:ByteArray:=⟨#[]⟩
inductive TG:Tree→Nat→NP
 | name {k:Int} {v:Nat} (hk:k=1∨k=6) (hv:v<16):TG (.mk k v 0 0 noX []) 1 1
 | num {u:Nat} (hu:u<18446744073709551616):TG (.mk 2 0 0 u noX []) 1 1
 | data {x:ByteArray} (hx:x.size≤64):TG (.mk 3 0 0 0 x []) 1 1
 | pair {a b:Tree} {sa da sb db:Nat} (ha:TG a sa da) (hb:TG b sb db):TG (.mk 4 0 0 0 noX [a,b]) (1+(sa+sb)) (max da db+1)
 | hash {a:Tree} {sa da:Nat} (ha:TG a sa da):TG (.mk 5 0 0 0 noX [a]) (1+sa) (da+1)
 | sign {v:Nat} {a:Tree} {sa da:Nat} (hv:v<16) (ha:TG a sa da):TG (.mk 7 v 0 0 noX [a]) (1+sa) (da+1)
 | prom {k:Int} {v u:Nat} {a:Tree} {sa da:Nat} (hk:k=8∨k=9) (hv:v<16) (hu:u<16) (hn:v≠u) (ha:TG a sa da):TG (.mk k v u 0 noX [a]) (1+sa) (da+1)
theorem yO {k f t u:Int} {x:ByteArray} {len:Nat} (h1:jU ⟨k,f,t,u,x,0,0⟩=0) (h2:(len:Int)=(jI k).kids) (h3:jM (jI k) ⟨k,f,t,u,x,0,0⟩=0):zR ⟨k,f,t,u,x,0,0⟩ len=0:=by
 unfold zR;simp only [h1];simp [h2,h3]
theorem jFU {k:Int} {v:Nat} (hk:k=1∨k=6) (hv:v<16):zR ⟨k,v,0,0,noX,0,0⟩ 0=0:=by
 rcases hk with rfl | rfl <;> exact yO (by simp [jU,jI,vK]) (by simp [jI]) (by simp [jM,jI,vS,ByteArray.size];omega)
theorem jHP (u:Nat):zR ⟨2,0,0,u,noX,0,0⟩ 0=0 :=
 yO (by simp [jU,jI,vK]) (by simp [jI]) (by simp [jM,jI,vS,ByteArray.size])
theorem jFW {x:ByteArray} (hx:x.size≤64):zR ⟨3,0,0,0,x,0,0⟩ 0=0 :=
 yO (by simp [jU,jI,vK]) (by simp [jI]) (by simp [jM,jI,vS];omega)
theorem jFT:zR ⟨4,0,0,0,noX,0,0⟩ 2=0:=by kernel_rfl
theorem jFV:zR ⟨5,0,0,0,noX,0,0⟩ 1=0:=by kernel_rfl
theorem jFR {v:Nat} (hv:v<16):zR ⟨7,v,0,0,noX,0,0⟩ 1=0 :=
 yO (by simp [jU,jI,vK]) (by simp [jI]) (by simp [jM,jI,vS,ByteArray.size];omega)
theorem jFS {k:Int} {v u:Nat} (hk:k=8∨k=9) (hv:v<16) (hu:u<16) (hn:v≠u):zR ⟨k,v,u,0,noX,0,0⟩ 1=0:=by
 have:¬ (u:Int)=v:=by omega
 rcases hk with rfl | rfl <;> exact yO (by simp [jU,jI,vK]) (by simp [jI]) (by simp [jM,jI,vS,this,ByteArray.size];omega)
theorem TG.gp {t:Tree} {s d:Nat} (h:TG t s d):GP t s d:=by
 induction h with
 | name hk hv=>exact GP0 (jFU hk hv)
 | num hu=>exact GP0 (jHP _)
 | data hx=>exact GP0 (jFW hx)
 | @pair a b sa da sb db _ _ h1 h2 =>
  have:=GP2 jFT h1 h2
  rw [show ((1+(sa+sb):Nat):Int)=1+((sa:Int)+(sb:Int)) by omega,show ((max da db+1:Nat):Int)=max (da:Int) (db:Int)+1 by omega]
  exact this
 | hash _ h=>simpa using GP1 jFV h
 | sign hv _ h=>simpa using GP1 (jFR hv) h
 | prom hk hv hu hn _ h=>simpa using GP1 (jFS hk hv hu hn) h
theorem TG.cnt {t:Tree} {s d:Nat} (h:TG t s d):cnt t=s∧1≤d:=by
 induction h with
 | pair _ _ h1 h2=>simp [Sp.cnt,cntAll,h1.1,h2.1]
 | hash _ h=>simp [Sp.cnt,cntAll,h.1]
 | sign _ _ h=>simp [Sp.cnt,cntAll,h.1]
 | prom _ _ _ _ _ h=>simp [Sp.cnt,cntAll,h.1]
 | _=>simp [Sp.cnt,cntAll]
theorem TG.nums {t:Tree} {s d:Nat} (h:TG t s d):NumT t:=by
 have k1:∀{a:Tree},NumT a→∀i (hi:i<[a].length),NumT [a][i]:=fun h i hi=>by
  have:i=0:=by simp at hi;exact hi
  subst this;exact h
 have k2:∀{a b:Tree},NumT a→NumT b→∀i (hi:i<[a,b].length),NumT [a,b][i]:=fun h1 h2 i hi=>by
  rcases (show i=0∨i=1 by simp at hi;omega) with rfl | rfl
  ·exact h1
  ·exact h2
 have k0:∀i (hi:i<([]:List Tree).length),NumT ([]:List Tree)[i]:=fun i hi=>by simp at hi
 have z:jCF 0:=⟨by decide,by decide⟩;induction h with
 | name hk hv=>exact .mk _ _ _ _ _ _ z k0
 | num hu=>exact .mk _ _ _ _ _ _ ⟨by omega,by omega⟩ k0
 | data hx=>exact .mk _ _ _ _ _ _ z k0
 | pair _ _ h1 h2=>exact .mk _ _ _ _ _ _ z (k2 h1 h2)
 | hash _ h=>exact .mk _ _ _ _ _ _ z (k1 h)
 | sign _ _ h=>exact .mk _ _ _ _ _ _ z (k1 h)
 | prom _ _ _ _ _ h=>exact .mk _ _ _ _ _ _ z (k1 h)
theorem jHZ (t:Tree):Good t→NumT t→∃s d,TG t s d:=by
 induction t using Tree.ind with
 | h k f to u x ks ih =>
  intro hg hn
  obtain ⟨_,_,_,_,_,_,own,kids⟩:=hg
  obtain ⟨_,_,_,_,_,_,hu,hnk⟩:=hn
  have hu:0≤u∧u<18446744073709551616:=hu
  obtain ⟨hx,hk⟩:=lN own
  obtain ⟨p1,p2,p3⟩:=qJ own
  have one:ks.length=1→∃A s d,ks=[A]∧TG A s d:=fun h=>by
   obtain ⟨A,rfl⟩:=List.length_eq_one_iff.1 h;obtain ⟨s,d,h⟩:=ih 0 (by simp) (kids 0 (by simp)) (hnk 0 (by simp));exact ⟨A,s,d,rfl,h⟩
  have nil0:ks.length=0→ks=[]:=fun h=>List.length_eq_zero_iff.1 h
  rcases hk with ⟨rfl,hl⟩ | ⟨rfl,hl⟩ | ⟨rfl,hl⟩ | ⟨rfl,hl⟩ | ⟨rfl,hl⟩ | ⟨rfl,hl⟩ | ⟨rfl,hl⟩ | ⟨rfl,hl⟩ | ⟨rfl,hl⟩
  all_goals simp [jU,jI,vK,and_assoc] at p1
  all_goals simp [jM,jI,vS] at p3
  ·obtain ⟨rfl,rfl,rfl⟩:=p1
   have hf:¬ (f<0∨16≤f):=fun hh=>by rw [if_pos hh] at p3;cases p3
   obtain ⟨v,rfl⟩:∃v:Nat,f=v:=⟨f.toNat,by omega⟩
   rw [nil0 hl];exact ⟨1,1,.name (.inl rfl) (by omega)⟩
  ·obtain ⟨rfl,rfl,rfl⟩:=p1
   obtain ⟨v,rfl⟩:∃v:Nat,u=v:=⟨u.toNat,by omega⟩
   rw [nil0 hl];exact ⟨1,1,.num (by omega)⟩
  ·obtain ⟨rfl,rfl,rfl⟩:=p1
   rw [nil0 hl];exact ⟨1,1,.data hx⟩
  ·obtain ⟨rfl,rfl,rfl,rfl⟩:=p1
   match ks,hl,ih,kids,hnk with
   | [A,B],_,ih,kids,hnk =>
    obtain ⟨_,_,h1⟩:=ih 0 (by simp) (kids 0 (by simp)) (hnk 0 (by simp))
    obtain ⟨_,_,h2⟩:=ih 1 (by simp) (kids 1 (by simp)) (hnk 1 (by simp))
    exact ⟨_,_,.pair h1 h2⟩
  ·obtain ⟨rfl,rfl,rfl,rfl⟩:=p1
   obtain ⟨A,s,d,rfl,h⟩:=one hl
   exact ⟨_,_,.hash h⟩
  ·obtain ⟨rfl,rfl,rfl⟩:=p1
   have hf:¬ (f<0∨16≤f):=fun hh=>by rw [if_pos hh] at p3;cases p3
   obtain ⟨v,rfl⟩:∃v:Nat,f=v:=⟨f.toNat,by omega⟩
   rw [nil0 hl];exact ⟨1,1,.name (.inr rfl) (by omega)⟩
  ·obtain ⟨rfl,rfl,rfl⟩:=p1
   have hf:¬ (f<0∨16≤f):=fun hh=>by rw [if_pos hh] at p3;cases p3
   obtain ⟨v,rfl⟩:∃v:Nat,f=v:=⟨f.toNat,by omega⟩
   obtain ⟨A,s,d,rfl,h⟩:=one hl
   exact ⟨_,_,.sign (by omega) h⟩
  ·obtain ⟨rfl,rfl⟩:=p1
   have hf:¬ ((f<0∨16≤f)∨(to<0∨16≤to)∨to=f):=fun hh=>by rw [if_pos (by omega)] at p3;cases p3
   obtain ⟨v,rfl⟩:∃v:Nat,f=v:=⟨f.toNat,by omega⟩
   obtain ⟨w,rfl⟩:∃w:Nat,to=w:=⟨to.toNat,by omega⟩
   obtain ⟨A,s,d,rfl,h⟩:=one hl
   exact ⟨_,_,.prom (.inl rfl) (by omega) (by omega) (by omega) h⟩
  ·obtain ⟨rfl,rfl⟩:=p1
   have hf:¬ ((f<0∨16≤f)∨(to<0∨16≤to)∨to=f):=fun hh=>by rw [if_pos (by omega)] at p3;cases p3
   obtain ⟨v,rfl⟩:∃v:Nat,f=v:=⟨f.toNat,by omega⟩
   obtain ⟨w,rfl⟩:∃w:Nat,to=w:=⟨to.toNat,by omega⟩
   obtain ⟨A,s,d,rfl,h⟩:=one hl
   exact ⟨_,_,.prom (.inr rfl) (by omega) (by omega) (by omega) h⟩
theorem TG.looks {t:Tree} {s d:Nat} (h:TG t s d) (hs:s≤4096) (hd:d≤64):(looks 0 0 t).1=0:=by
 rw [h.gp.yes 0 0 (by omega) (by omega) (by omega) (by omega)]
theorem TG.of {t:Tree} {s d:Nat} (h:TG t s d) (hs:s≤4096) (hd:d≤64):(of [] t).2.1=0:=by
 rcases h.gp.of (L:=[]) (by omega) (by omega) Wf.nil with h | ⟨_,h⟩
 ·exact h
 ·simp at h;omega
theorem of_tg {L:Pool} {t:Tree} (h:(Sp.of L t).2.1=0) (hn:NumT t):∃s d,TG t s d∧s≤4096∧d≤64:=by
 have hl:(Sp.looks 0 0 t).1=0:=by
  unfold Sp.of at h;split at h
  ·rename_i hh;exact absurd h hh
  ·rename_i hh;simpa using hh
 obtain ⟨s,d,hT⟩:=jHZ t (xR t 0 0 hl) hn;have hb:¬ (4096<(0:Int)+s∨64<(0:Int)+d):=fun hh=>by
  have:=hT.gp.no 0 0 (by omega) (by omega) hh;omega
 exact ⟨s,d,hT,by omega,by omega⟩
theorem jBQ {n:Nat} (h:n<18446744073709551616):u64N (n:Int)=n:=by
 unfold u64N;rw [IntKind.wrap_u64];omega
theorem jEL (l:List UInt8) (c:UInt8):decV (l++[c])=10*decV l+(c.toNat - 48):=by unfold decV;rw [List.foldl_append];rfl
theorem digc (d:Nat) (h:d<10):(UInt8.ofNat (48+d)).toNat=48+d:=by rw [UInt8.toNat_ofNat'];omega
theorem jBH (n:Nat):decV (Lib.decDigits n)=n∧(∀c∈Lib.decDigits n,isDig c=true)∧(∃c l,Lib.decDigits n=c :: l∧(c=48→n=0)):=by
 induction n using Nat.strongRecOn with
 | _ n ih =>
  by_cases h:n<10
  ·rw [Lib.decDigits,dif_pos h]
   have hc:=digc n h
   refine ⟨?_,fun c hc'=>?_,_,[],rfl,fun e=>?_⟩
   ·unfold decV;simp only [List.foldl_cons,List.foldl_nil,hc];omega
   ·simp only [List.mem_singleton] at hc'
    subst hc'
    unfold isDig
    rw [hc];simp;omega
   ·have:=congrArg UInt8.toNat e
    rw [hc] at this
    have e48:(48:UInt8).toNat=48:=rfl
    omega
  ·rw [Lib.decDigits,dif_neg h]
   have hc:=digc (n % 10) (by omega)
   obtain ⟨h1,h2,c,l,h3,h4⟩:=ih (n / 10) (by omega)
   refine ⟨?_,fun c hc'=>?_,c,l++[UInt8.ofNat (48+n % 10)],by rw [h3];rfl,fun e=>by have:=h4 e;omega⟩
   ·rw [jEL,h1,hc];omega
   ·rcases List.mem_append.1 hc' with hm | hm
    ·exact h2 c hm
    ·simp only [List.mem_singleton] at hm
     subst hm
     unfold isDig
     rw [hc];simp;omega
theorem jCJ {n:Nat} (h:n<18446744073709551616):yW (Lib.decDigits n)=false:=by
 obtain ⟨h1,h2,c,l,h3,h4⟩:=jBH n;unfold yW;rw [h1];by_cases h10:n<10
 ·rw [Lib.decDigits,dif_pos h10];simp;omega
 ·have:c≠48:=fun e=>by have:=h4 e;omega
  rw [h3];simp [this];omega
section
variable {B:List UInt8}
theorem vH {i:Nat} {l m:List UInt8} (h:B.drop i=l++m):B.drop (i+l.length)=m:=by
 rw [← List.drop_drop,h,List.drop_left]
theorem zI {i:Nat} {c:UInt8} {m:List UInt8} (h:B.drop i=c :: m):B.drop (i+1)=m:=vH (l:=[c]) h
theorem vP {i:Nat} {c:UInt8} {m:List UInt8} (h:B.drop i=c :: m):B[i]?=some c:=by
 have:=List.getElem?_drop (xs:=B) (i:=i) (j:=0);rw [h] at this;simpa using this.symm
abbrev NoDg (l:List UInt8):Prop:=l.takeWhile isDig=[]
theorem oX {i n:Nat} {post:List UInt8} (hn:n<18446744073709551616) (h:B.drop i=Lib.decDigits n++post) (hp:NoDg post):qB B i=.ok n (i+(Lib.decDigits n).length):=by
 obtain ⟨h1,h2,c,l,h3,_⟩:=jBH n;have hd:zC B i=Lib.decDigits n:=by
  unfold zC;rw [h,List.takeWhile_append_of_pos h2,hp,List.append_nil]
 have hc:B[i]?=some c:=vP (m:=l++post) (by rw [h,h3];rfl);unfold qB;rw [hc];simp only;rw [if_neg (by rw [h2 c (by rw [h3];simp)];simp),hd,if_neg (by rw [jCJ hn];simp),h1]
theorem qQ {i v:Nat} {nt:Int} {post:List UInt8} (hv:v<16) (hn:(v:Int)≠nt) (h:B.drop i=Lib.decDigits (u64N v)++post) (hp:NoDg post):kK B nt i=.ok v (i+(Lib.decDigits (u64N v)).length):=by
 rw [jBQ (by omega)] at *;unfold kK;rw [oX (by omega) h hp];show (if 16≤v∨(v:Int)=nt then _ else _)=_;rw [if_neg (by omega)]
theorem qN {i:Nat} {c:Nat} {d:UInt8} {post:List UInt8} (h:B.drop i=d :: post) (hc:d.toNat=c):zV B c i=.ok () (i+1):=by
 unfold zV;rw [vP h];simp only;rw [if_pos hc]
theorem yI {i:Nat} {c:UInt8} {post:List UInt8} (h:B.drop i=c :: post) (hc:c.toNat≠32):jJ B i=i:=by
 unfold jJ;rw [h,List.takeWhile_cons_of_neg (by simpa using hc)];rfl
theorem jEX {i:Nat} {c:UInt8} {post:List UInt8} (h:B.drop i=32 :: c :: post) (hc:c.toNat≠32):jJ B i=i+1:=by
 unfold jJ;rw [h,List.takeWhile_cons_of_pos (by decide),List.takeWhile_cons_of_neg (by simpa using hc)];rfl
theorem hex16:∀v,v<16→jCP (jCO v).toNat=some v:=by decide
theorem tG {i v:Nat} {post:List UInt8} (hv:v<16) (h:B.drop i=jCO v :: post):qH B i=.ok v (i+1):=by
 unfold qH;rw [vP h];simp only;rw [hex16 v hv]
theorem xW (frm:Nat):∀(l:List UInt8) (f i:Nat) (acc post:List UInt8),B.drop i=l.flatMap qEsc++34 :: post→acc.length+l.length≤64→l.length<f→zW B frm f i acc=.ok (acc++l) (i+(l.flatMap qEsc).length+1)
 | [],f+1,i,acc,post,h,hl,hf=>by
  unfold zW;rw [vP (show B.drop i=34 :: post from h)];simp only;rw [if_neg (by decide),if_pos (by decide),if_neg (by simp at hl;omega)];simp
 | c :: l,f+1,i,acc,post,h,hl,hf=>by
  have ih:=fun (i:Nat) (c:UInt8) (h:B.drop i=l.flatMap qEsc++34 :: post)=>xW frm l f i (acc++[c]) post h (by simp at hl ⊢;omega) (by simp at hf;omega);have hc256:=UInt8.toNat_lt c;rw [List.flatMap_cons,List.append_assoc] at h;unfold zW;rw [List.flatMap_cons,List.length_append];generalize l.flatMap qEsc=Q at *;unfold qEsc at h ⊢;by_cases h1:c.toNat=34∨c.toNat=92
  ·rw [if_pos h1] at h ⊢;have h:B.drop i=92 :: c :: (Q++34 :: post):=h;have h':=zI h;rw [vP h,vP h'];simp only;rw [if_neg (by decide),if_neg (by decide),if_pos (by decide),if_neg (by omega),if_pos h1,ih (i+2) c (zI h')];simp;omega
  ·rw [if_neg h1] at h ⊢;by_cases h2:c.toNat<32∨126<c.toNat
   ·rw [if_pos h2] at h ⊢;have h:B.drop i=92 :: 120 :: jCO (c.toNat / 16) :: jCO (c.toNat % 16) :: (Q++34 :: post):=h;have h':=zI h;have h'':=zI h';have h3:=zI h'';rw [vP h,vP h'];simp only;rw [if_neg (by decide),if_neg (by decide),if_pos (by decide),if_pos (by decide),tG (by omega) h''];show (qH B (i+2+1)).bind _=_;rw [tG (by omega) h3];show zW B frm f (i+2+1+1) (acc++[UInt8.ofNat (16*(c.toNat / 16)+c.toNat % 16)])=_;rw [show 16*(c.toNat / 16)+c.toNat % 16=c.toNat by omega,UInt8.ofNat_toNat,ih _ c (zI h3)];simp;omega
   ·rw [if_neg h2] at h ⊢;have h:B.drop i=c :: (Q++34 :: post):=h;rw [vP h];simp only;rw [if_neg h2,if_neg (by omega),if_neg (by omega),ih _ c (zI h)];simp;omega
theorem jBC:∀l:List UInt8,l.length≤(l.flatMap qEsc).length
 | []=>by simp
 | c :: l=>by
  have:=jBC l;have:1≤(qEsc c).length:=by
   unfold qEsc
   repeat' split
   all_goals simp
  rw [List.flatMap_cons,List.length_append,List.length_cons];omega
theorem jEM {j:Nat} {x post:List UInt8} (h:B.drop j=jCN x++post) (hx:x.length≤64):yK B j=.ok x (j+(jCN x).length):=by
 unfold jCN at h ⊢;have h:B.drop j=34 :: (x.flatMap qEsc++34 :: post):=by rw [h];simp
 have h':=zI h;unfold yK;have hl:x.length<B.length+1:=by
  have:=congrArg List.length h';have:=jBC x;simp at *;omega
 rw [xW j x _ _ [] post h' (by simpa using hx) hl];simp;omega
theorem jFG {t:Tree} {s d:Nat} (h:TG t s d):∃(c:UInt8) (l:List UInt8),shw t=c :: l∧c.toNat≠32:=by
 cases h with
 | name hk hv=>rcases hk with rfl | rfl <;> exact ⟨_,_,rfl,by decide⟩
 | num hu=>exact ⟨_,_,rfl,by decide⟩
 | data hx=>exact ⟨34,_,rfl,by decide⟩
 | pair ha hb=>exact ⟨40,_,rfl,by decide⟩
 | hash ha=>exact ⟨104,_,rfl,by decide⟩
 | sign hv ha=>exact ⟨115,_,rfl,by decide⟩
 | prom hk hv hu hn ha=>rcases hk with rfl | rfl <;> exact ⟨_,_,rfl,by decide⟩
theorem vD {i n D:Nat} {c:UInt8} {post:List UInt8} {k:Int} (h:B.drop i=c :: post) (hc:c.toNat≠32) (hk:zS c.toNat=k) (h0:k≠0) (hn:n<4096) :
  jS B (D+1) i n=(kE B (jS B D) k (n+1) i).bind fun t k=>.ok t (jJ B k):=by
 unfold jS
 rw [yI h hc,vP h]
 simp only
 rw [if_neg (by rw [hk];exact h0),if_neg (by omega),hk]
theorem uE {i n D:Nat} {a:Tree} {s:Nat} {post:List UInt8} (h:B.drop i=40 :: (shw a++41 :: post)) (hT:jS B D (i+1) n=.ok (a,n+s) (jJ B (i+1+(shw a).length))) :
  kL B (jS B D) n i=.ok (a,n+s) (i+2+(shw a).length):=by
 have h1:=zI h
 have h2:=vH h1
 unfold kL
 rw [qN (c:=40) h rfl]
 show (jS B D (i+1) n).bind _=_
 rw [hT,yI h2 (by decide)]
 show (zV B 41 (i+1+(shw a).length)).bind _=_
 rw [qN (c:=41) h2 rfl]
 show Rr.ok (a,n+s) _=_
 rw [show i+1+(shw a).length+1=i+2+(shw a).length by omega]
theorem there {t:Tree} {s d:Nat} (h:TG t s d):∀(i n D:Nat) (post:List UInt8),B.drop i=shw t++post→NoDg post→d≤D→n+s≤4096→jS B D i n=.ok (t,n+s) (jJ B (i+(shw t).length)):=by
 induction h with
 | @name k v hk hv =>
  intro i n D post hB hp hD hn
  obtain ⟨D,rfl⟩:∃D',D=D'+1:=⟨D - 1,by omega⟩
  obtain ⟨c,e,hc,hkc⟩:∃c:UInt8,shw (.mk k v 0 0 noX [])=c :: Lib.decDigits (u64N v)∧c.toNat≠32∧zS c.toNat=k:=by
   rcases hk with rfl | rfl
   ·exact ⟨110,by simp [shw,yJ,vI],by decide,by decide⟩
   ·exact ⟨107,by simp [shw,yJ,vI],by decide,by decide⟩
  rw [e] at hB ⊢
  have hB:B.drop i=c :: (Lib.decDigits (u64N v)++post):=hB
  rw [vD hB hc hkc (by omega) (by omega)]
  unfold kE
  rw [if_pos hk,qQ hv (by omega) (zI hB) hp]
  show Rr.ok _ _=_
  rw [List.length_cons,show i+((Lib.decDigits (u64N v)).length+1)=i+1+(Lib.decDigits (u64N v)).length by omega];rfl
 | @num u hu =>
  intro i n D post hB hp hD hn
  obtain ⟨D,rfl⟩:∃D',D=D'+1:=⟨D - 1,by omega⟩
  have e:shw (.mk 2 0 0 u noX [])=35 :: Lib.decDigits u:=by simp [shw,yJ,vI]
  rw [e] at hB ⊢
  have hB:B.drop i=35 :: (Lib.decDigits u++post):=hB
  rw [vD hB (by decide) (k:=2) (by decide) (by omega) (by omega)]
  unfold kE
  rw [if_neg (by decide),if_pos rfl,oX hu (zI hB) hp]
  show Rr.ok _ _=_
  rw [List.length_cons,show i+((Lib.decDigits u).length+1)=i+1+(Lib.decDigits u).length by omega];rfl
 | @data x hx =>
  intro i n D post hB hp hD hn
  obtain ⟨D,rfl⟩:∃D',D=D'+1:=⟨D - 1,by omega⟩
  have e:shw (.mk 3 0 0 0 x [])=jCN x.data.toList:=by simp [shw,yJ,vI]
  rw [e] at hB ⊢
  have hB':B.drop i=34 :: ((x.data.toList.flatMap qEsc++[34])++post):=hB
  rw [vD hB' (by decide) (k:=3) (by decide) (by omega) (by omega)]
  unfold kE
  rw [if_neg (by decide),if_neg (by decide),if_pos rfl,jEM hB (by rw [Array.length_toList];exact hx)]
  rfl
 | @pair a b sa da sb db ha hb ia ib =>
  intro i n D post hB hp hD hn
  obtain ⟨D,rfl⟩:∃D',D=D'+1:=⟨D - 1,by omega⟩
  have e:shw (.mk 4 0 0 0 noX [a,b])=40 :: (shw a++(32 :: (shw b++[41]))):=by simp [shw,yJ,jAZ,vI]
  rw [e] at hB ⊢
  have hB:B.drop i=40 :: (shw a++(32 :: (shw b++41 :: post))):=by rw [hB];simp
  have h1:=zI hB
  have h2:=vH h1
  have h3:=zI h2
  have h4:=vH h3
  obtain ⟨c,l,hcb,hc⟩:=jFG hb
  have hbl:=jEX (B:=B) (i:=i+1+(shw a).length) (c:=c) (post:=l++41 :: post) (by rw [h2,hcb];rfl) hc
  rw [vD hB (by decide) (k:=4) (by decide) (by omega) (by omega)]
  unfold kE
  rw [if_neg (by decide),if_neg (by decide),if_neg (by decide),if_pos rfl,ia (i+1) (n+1) D _ h1 (by unfold NoDg;rw [List.takeWhile_cons_of_neg (by decide)]) (by omega) (by omega),hbl]
  show Rr.bind (Rr.bind (jS B D (i+1+(shw a).length+1) (n+1+sa)) _) _=_
  rw [ib _ (n+1+sa) D _ h3 (by unfold NoDg;rw [List.takeWhile_cons_of_neg (by decide)]) (by omega) (by omega),yI h4 (by decide)]
  show Rr.bind (Rr.bind (zV B 41 _) _) _=_
  rw [qN (c:=41) h4 rfl]
  show Rr.ok _ _=_
  simp only [List.length_cons,List.length_append,List.length_nil]
  rw [show i+((shw a).length+((shw b).length+(0+1)+1)+1)=i+1+(shw a).length+1+(shw b).length+1 by omega,show n+(1+(sa+sb))=n+1+sa+sb by omega];rfl
 | @hash a sa da ha ia =>
  intro i n D post hB hp hD hn
  obtain ⟨D,rfl⟩:∃D',D=D'+1:=⟨D - 1,by omega⟩
  have e:shw (.mk 5 0 0 0 noX [a])=104 :: 40 :: (shw a++[41]):=by simp [shw,yJ,jAZ,vI]
  rw [e] at hB ⊢
  have hB:B.drop i=104 :: 40 :: (shw a++41 :: post):=by rw [hB];simp
  have h1:=zI hB
  rw [vD hB (by decide) (k:=5) (by decide) (by omega) (by omega)]
  unfold kE
  rw [if_neg (by decide),if_neg (by decide),if_neg (by decide),if_neg (by decide),if_pos rfl,uE (s:=sa) h1 (ia _ (n+1) D _ (zI h1) (by unfold NoDg;rw [List.takeWhile_cons_of_neg (by decide)]) (by omega) (by omega))]
  show Rr.ok _ _=_
  simp only [List.length_cons,List.length_append,List.length_nil]
  rw [show i+((shw a).length+(0+1)+1+1)=i+1+2+(shw a).length by omega,show n+(1+sa)=n+1+sa by omega];rfl
 | @sign v a sa da hv ha ia =>
  intro i n D post hB hp hD hn
  obtain ⟨D,rfl⟩:∃D',D=D'+1:=⟨D - 1,by omega⟩
  have e:shw (.mk 7 v 0 0 noX [a])=115 :: (Lib.decDigits (u64N v)++40 :: (shw a++[41])):=by simp [shw,yJ,jAZ,vI]
  rw [e] at hB ⊢
  have hB:B.drop i=115 :: (Lib.decDigits (u64N v)++40 :: (shw a++41 :: post)):=by rw [hB];simp
  have h1:=zI hB
  have h2:=vH h1
  rw [vD hB (by decide) (k:=7) (by decide) (by omega) (by omega)]
  unfold kE
  rw [if_neg (by decide),if_neg (by decide),if_neg (by decide),if_neg (by decide),if_neg (by decide),if_pos rfl,qQ hv (by omega) h1 (by unfold NoDg;rw [List.takeWhile_cons_of_neg (by decide)])]
  show Rr.bind (Rr.bind (kL B (jS B D) (n+1) (i+1+(Lib.decDigits (u64N v)).length)) _) _=_
  rw [uE (s:=sa) h2 (ia _ (n+1) D _ (zI h2) (by unfold NoDg;rw [List.takeWhile_cons_of_neg (by decide)]) (by omega) (by omega))]
  show Rr.ok _ _=_
  simp only [List.length_cons,List.length_append,List.length_nil]
  rw [show i+((Lib.decDigits (u64N v)).length+((shw a).length+(0+1)+1)+1)=i+1+(Lib.decDigits (u64N v)).length+2+(shw a).length by omega,show n+(1+sa)=n+1+sa by omega];rfl
 | @prom k v u a sa da hk hv hu hne ha ia =>
  intro i n D post hB hp hD hn
  obtain ⟨D,rfl⟩:∃D',D=D'+1:=⟨D - 1,by omega⟩
  obtain ⟨c,e,hc,hkc⟩:∃c:UInt8,shw (.mk k v u 0 noX [a])=c :: (Lib.decDigits (u64N v)++62 :: (Lib.decDigits (u64N u)++40 :: (shw a++[41])))∧c.toNat≠32∧zS c.toNat=k:=by
   rcases hk with rfl | rfl
   ·exact ⟨112,by simp [shw,yJ,jAZ,vI],by decide,by decide⟩
   ·exact ⟨102,by simp [shw,yJ,jAZ,vI],by decide,by decide⟩
  rw [e] at hB ⊢
  have hB:B.drop i=c :: (Lib.decDigits (u64N v)++62 :: (Lib.decDigits (u64N u)++40 :: (shw a++41 :: post))):=by rw [hB];simp
  have h1:=zI hB
  have h2:=vH h1
  have h3:=zI h2
  have h4:=vH h3
  rw [vD hB hc hkc (by omega) (by omega)]
  unfold kE
  rw [if_neg (by omega),if_neg (by omega),if_neg (by omega),if_neg (by omega),if_neg (by omega),if_neg (by omega),qQ hv (by omega) h1 (by unfold NoDg;rw [List.takeWhile_cons_of_neg (by decide)])]
  show Rr.bind (Rr.bind (zV B 62 (i+1+(Lib.decDigits (u64N v)).length)) _) _=_
  rw [qN (c:=62) h2 rfl]
  show Rr.bind (Rr.bind (kK B v (i+1+(Lib.decDigits (u64N v)).length+1)) _) _=_
  rw [qQ hu (by omega) h3 (by unfold NoDg;rw [List.takeWhile_cons_of_neg (by decide)])]
  show Rr.bind (Rr.bind (kL B (jS B D) (n+1) (i+1+(Lib.decDigits (u64N v)).length+1+(Lib.decDigits (u64N u)).length)) _) _=_
  rw [uE (s:=sa) h4 (ia _ (n+1) D _ (zI h4) (by unfold NoDg;rw [List.takeWhile_cons_of_neg (by decide)]) (by omega) (by omega))]
  show Rr.ok _ _=_
  simp only [List.length_cons,List.length_append,List.length_nil]
  rw [show i+((Lib.decDigits (u64N v)).length+((Lib.decDigits (u64N u)).length+((shw a).length+(0+1)+1)+1)+1)=i+1+(Lib.decDigits (u64N v)).length+1+(Lib.decDigits (u64N u)).length+2+(shw a).length by omega,show n+(1+sa)=n+1+sa by omega];rfl
end
theorem jDG (nd:∀n,n<18446744073709551616→(Lib.decDigits n).length≤20) {t:Tree} {s d:Nat} (h:TG t s d):(shw t).length≤131*s+128:=by
 have u:=fun n:Int=>nd (u64N n) (gG n).2;induction h with
 | @name k v hk hv =>
  have:=u v
  rcases hk with rfl | rfl <;> (simp [shw,yJ,vI];omega)
 | @num n hu =>
  have:=nd n hu
  simp [shw,yJ,vI];omega
 | @data x hx =>
  have:=yN x.data.toList
  have hl:x.data.toList.length=x.size:=by rw [Array.length_toList];rfl
  have e:shw (.mk 3 0 0 0 x [])=jCN x.data.toList:=by simp [shw,yJ,vI]
  rw [e];unfold jCN
  simp only [List.length_cons,List.length_append,List.length_nil];omega
 | pair _ _ h1 h2 =>
  have e:vI 4 0 0 0 noX=[]:=by simp [vI]
  simp only [shw,yJ,jAZ,List.length_cons,List.length_append,List.length_nil]
  rw [e]
  simp only [List.length_nil]
  omega
 | hash _ h =>
  have e:vI 5 0 0 0 noX=[104]:=by simp [vI]
  simp only [shw,yJ,jAZ,List.length_cons,List.length_append,List.length_nil]
  rw [e]
  simp only [List.length_cons,List.length_nil]
  omega
 | @sign v _ _ _ hv _ h =>
  have:=u v
  simp [shw,yJ,jAZ,vI];omega
 | @prom k v w _ _ _ hk hv hu hn _ h =>
  have:=u v
  have:=u w
  rcases hk with rfl | rfl <;> (simp [shw,yJ,jAZ,vI];omega)
theorem xM (nd:∀n,n<18446744073709551616→(Lib.decDigits n).length≤20) {t:Tree} {s d:Nat} (h:TG t s d) (hs:s≤4096) (hd:d≤64):qF (shw t)=(t,0,0):=by
 have hl:=jDG nd h;have:=there (B:=shw t) h 0 0 64 [] (by simp) rfl hd (by omega);rw [vE (by omega)] at this;unfold qF gL;rw [if_neg (by omega),this];simp only;rw [if_neg (by omega)]
end Go.Sp
end
section
open Go
namespace Go.Sp
def zB (a b:Nat) (B:List UInt8):List UInt8:=List.replicate a 32++B++List.replicate b 32
section
variable {B:List UInt8} {a b:Nat}
theorem jIH:(zB a b B).length=a+B.length+b:=by simp [zB];omega
theorem jEU {i:Nat} (h:i<B.length):(zB a b B)[i+a]?=B[i]?:=by
 unfold zB;rw [List.append_assoc,List.getElem?_append_right (by simp),List.length_replicate,Nat.add_sub_cancel,List.getElem?_append_left h]
theorem jAR {j:Nat} (h:B.length+a≤j):(zB a b B)[j]?=none∨(zB a b B)[j]?=some 32:=by
 unfold zB;rw [List.getElem?_append_right (by simp;omega)];by_cases hj:j - (List.replicate a 32++B).length<b
 ·right;rw [List.getElem?_replicate,if_pos hj]
 ·left;rw [List.getElem?_replicate,if_neg hj]
def Pos (a b:Nat) (B:List UInt8) (j j':Nat):Prop:=(j<B.length∧j'=j+a)∨(j=B.length∧B.length+a≤j'∧j'≤a+B.length+b)
def Sh {α:Type} (a b:Nat) (B:List UInt8):Rr α→Rr α→Prop
 | .ok t j,r'=>∃j',r'=.ok t j'∧Pos a b B j j'
 | .no e i,r'=>(e≠0)∧if e=3 then ∃e' i',r'=.no e' i'∧e'≠0 else r'=.no e (i+a)
theorem Sh.bind {α β:Type} {r r':Rr α} {f f':α→Nat→Rr β} (h:Sh a b B r r') (hf:∀t j j',r=.ok t j→Pos a b B j j'→Sh a b B (f t j) (f' t j')):Sh a b B (r.bind f) (r'.bind f'):=by
 cases r with
 | ok t j=>obtain ⟨j',rfl,hp⟩:=h;exact hf t j j' rfl hp
 | no e i =>
  obtain ⟨h0,h⟩:=h
  refine ⟨h0,?_⟩
  by_cases he:e=3
  ·rw [if_pos he] at h ⊢
   obtain ⟨e',i',rfl,h1⟩:=h
   exact ⟨e',i',rfl,h1⟩
  ·rw [if_neg he] at h ⊢
   subst h;rfl
theorem Sh.short {α:Type} {i:Nat} {r':Rr α} {e':Int} {i':Nat} (h:r'=.no e' i') (h0:e'≠0):Sh a b B (.no 3 i:Rr α) r':=⟨by decide,by rw [if_pos rfl];exact ⟨e',i',h,h0⟩⟩
theorem Sh.no {α:Type} {e:Int} {i:Nat} (h0:e≠0) (h:e≠3):Sh a b B (.no e i:Rr α) (.no e (i+a)):=⟨h0,by rw [if_neg h]⟩
theorem Sh.ok {α:Type} {t:α} {j:Nat} (hj:j≤B.length):Sh a b B (.ok t j:Rr α) (.ok t (j+a)):=⟨_,rfl,by
 by_cases h:j<B.length
 ·exact .inl ⟨h,rfl⟩
 ·exact .inr ⟨by omega,by omega,by omega⟩⟩
theorem Pos.look {j j':Nat} (h:Pos a b B j j'):(j<B.length∧j'=j+a∧(zB a b B)[j']?=B[j]?)∨(B[j]?=none∧((zB a b B)[j']?=none∨(zB a b B)[j']?=some 32)):=by
 rcases h with ⟨h,rfl⟩ | ⟨rfl,h1,h2⟩
 ·exact .inl ⟨h,rfl,jEU h⟩
 ·exact .inr ⟨List.getElem?_eq_none (Nat.le_refl _),jAR h1⟩
theorem lG {c j j':Nat} (hc:c≠32) (h:Pos a b B j j'):Sh a b B (zV B c j) (zV (zB a b B) c j'):=by
 unfold zV;rcases h.look with ⟨hj,rfl,e⟩ | ⟨e,e' | e'⟩
 ·rw [e,List.getElem?_eq_getElem hj];simp only;split
  ·rw [show j+a+1=j+1+a by omega];exact Sh.ok hj
  ·exact Sh.no (by decide) (by decide)
 ·rw [e,e'];exact Sh.short rfl (by decide)
 ·rw [e,e'];simp only;rw [if_neg (by show ¬ (32:UInt8).toNat=c;intro h;exact hc h.symm)];exact Sh.short rfl (by decide)
theorem jGU {j j':Nat} (h:Pos a b B j j'):Sh a b B (qH B j) (qH (zB a b B) j'):=by
 unfold qH;rcases h.look with ⟨hj,rfl,e⟩ | ⟨e,e' | e'⟩
 ·rw [e,List.getElem?_eq_getElem hj];simp only;cases jCP B[j].toNat with
  | none=>exact Sh.no (by decide) (by decide)
  | some v=>simp only;rw [show j+a+1=j+1+a by omega];exact Sh.ok hj
 ·rw [e,e'];exact Sh.short rfl (by decide)
 ·rw [e,e'];exact Sh.short (i':=j') (e':=60) rfl (by decide)
theorem jGR {p:UInt8→Bool}:∀(l:List UInt8) (b:Nat),p 32=false→(l++List.replicate b 32).takeWhile p=l.takeWhile p
 | [],0,_=>rfl
 | [],b+1,h=>by rw [List.nil_append,List.replicate_succ,List.takeWhile_cons_of_neg (by simp [h])];rfl
 | c :: l,b,h=>by
  rw [List.cons_append];cases hc:p c with
  | true=>rw [List.takeWhile_cons_of_pos hc,List.takeWhile_cons_of_pos hc,jGR l b h]
  | false=>rw [List.takeWhile_cons_of_neg (by simp [hc]),List.takeWhile_cons_of_neg (by simp [hc])]
theorem lZ {i:Nat} (h:i≤B.length):(zB a b B).drop (i+a)=B.drop i++List.replicate b 32:=by
 unfold zB;rw [List.append_assoc,List.drop_append,List.length_replicate,List.drop_eq_nil_of_le (by simp),List.nil_append,Nat.add_sub_cancel,List.drop_append_of_le_length h]
theorem jGM {i:Nat} (h:i≤B.length):zC (zB a b B) (i+a)=zC B i:=by
 unfold zC;rw [lZ h,jGR _ _ (by decide)]
theorem jDI {j j':Nat} (h:Pos a b B j j'):Sh a b B (qB B j) (qB (zB a b B) j'):=by
 unfold qB;rcases h.look with ⟨hj,rfl,e⟩ | ⟨e,e' | e'⟩
 ·rw [e,List.getElem?_eq_getElem hj,jGM (by omega)];simp only;split
  ·exact Sh.no (by decide) (by decide)
  ·split
   ·exact Sh.no (by decide) (by decide)
   ·rw [show j+a+(zC B j).length=j+(zC B j).length+a by omega];exact Sh.ok (gN (by omega))
 ·rw [e,e'];exact Sh.short rfl (by decide)
 ·rw [e,e'];exact Sh.short (i':=j') (e':=60) rfl (by decide)
theorem lH {nt:Int} {j j':Nat} (h:Pos a b B j j'):Sh a b B (kK B nt j) (kK (zB a b B) nt j'):=by
 by_cases hj:j<B.length
 ·have hj':j'=j+a:=by rcases h with ⟨_,h⟩ | ⟨h,_⟩ <;> omega
  subst hj';refine (jDI h).bind fun n k k' hk hp=>?_;split
  ·exact Sh.no (by decide) (by decide)
  ·exact ⟨k',rfl,hp⟩
 ·have hl:j=B.length:=by rcases h with ⟨h,_⟩ | ⟨h,_⟩ <;> omega
  have hn:=jDI h;unfold kK;have:qB B j=.no 3 j:=by unfold qB;rw [List.getElem?_eq_none (by omega)]
  rw [this] at hn ⊢;obtain ⟨_,hn⟩:=hn;rw [if_pos rfl] at hn;obtain ⟨e',i',h1,h2⟩:=hn;rw [h1];exact Sh.short rfl h2
theorem lV {frm:Nat}:∀(f:Nat) (j':Nat) (acc:List UInt8),B.length+a≤j'→∃i',zW (zB a b B) frm f j' acc=.no 3 i'
 | 0,j',_,_=>⟨j',rfl⟩
 | f+1,j',acc,h=>by
  rw [zW];rcases jAR (b:=b) h with e | e
  ·rw [e];exact ⟨j',rfl⟩
  ·rw [e];simp only;rw [if_neg (by decide),if_neg (by decide),if_neg (by decide)];exact lV f (j'+1) _ (by omega)
theorem lI {frm:Nat} (hfrm:frm≤B.length):∀(f f' i:Nat) (acc:List UInt8),f≤f'→B.length+1≤f+i→i≤B.length→Sh a b B (zW B frm f i acc) (zW (zB a b B) (frm+a) f' (i+a) acc)
 | 0,_,i,_,_,h,hi=>by omega
 | f+1,0,_,_,h,_,_=>by omega
 | f+1,f'+1,i,acc,hff,hf,hi=>by
  have over:∀(f:Nat) (acc:List UInt8) (j':Nat),B.length+a≤j'→Sh a b B (.no 3 B.length:Rr (List UInt8)) (zW (zB a b B) (frm+a) f j' acc):=fun f acc j' h=>by
   obtain ⟨i',e⟩:=lV (B:=B) (a:=a) (b:=b) (frm:=frm+a) f j' acc h;exact Sh.short (e':=3) e (by decide)
  rw [zW];by_cases hl:i<B.length
  case neg =>
   rw [List.getElem?_eq_none (by omega)]
   obtain ⟨i',e⟩:=lV (B:=B) (a:=a) (b:=b) (frm:=frm+a) (f'+1) (i+a) acc (by omega)
   exact Sh.short (e':=3) e (by decide)
  rw [zW,jEU hl,List.getElem?_eq_getElem hl];simp only;split
  ·exact Sh.no (by decide) (by decide)
  ·split
   ·split
    ·exact Sh.no (by decide) (by decide)
    ·rw [show i+a+1=i+1+a by omega];exact Sh.ok hl
   ·split
    ·by_cases hl2:i+1<B.length
     ·rw [show i+a+1=i+1+a by omega,jEU hl2,List.getElem?_eq_getElem hl2];simp only;split
      ·rw [show i+a+2=i+2+a by omega];have hp2:Pos a b B (i+2) (i+2+a):=by
        by_cases h:i+2<B.length
        ·exact .inl ⟨h,rfl⟩
        ·exact .inr ⟨by omega,by omega,by omega⟩
       refine (jGU hp2).bind fun hi' k k' hk hp=>(jGU hp).bind fun lo m m' hm hp'=>?_;have o1:=qO B (i+2) hi' k hk;have o2:=qO B k lo m hm;by_cases hml:m<B.length
       ·have:m'=m+a:=by rcases hp' with ⟨_,h⟩ | ⟨h,_⟩ <;> omega
        subst this;exact lI hfrm f f' m _ (by omega) (by omega) (by omega)
       ·have hme:m=B.length:=by omega
        subst hme;have hm':B.length+a≤m':=by rcases hp' with ⟨h,_⟩ | ⟨_,h,_⟩ <;> omega
        have:∃g,f=g+1:=⟨f - 1,by omega⟩;obtain ⟨g,rfl⟩:=this;rw [zW,List.getElem?_eq_none (Nat.le_refl _)];exact over f' _ m' hm'
      ·split
       ·rw [show i+a+2=i+2+a by omega];exact lI hfrm f f' (i+2) _ (by omega) (by omega) (by omega)
       ·exact Sh.no (by decide) (by decide)
     ·rw [List.getElem?_eq_none (by omega)];rw [show i+a+1=i+1+a by omega];rcases jAR (B:=B) (a:=a) (b:=b) (j:=i+1+a) (by omega) with e | e
      ·rw [e];exact Sh.short rfl (by decide)
      ·rw [e];simp only;rw [if_neg (by decide),if_neg (by decide)];exact Sh.short (e':=60) rfl (by decide)
    ·rw [show i+a+1=i+1+a by omega];exact lI hfrm f f' (i+1) _ (by omega) (by omega) (by omega)
theorem sh_dat {j:Nat} (hj:j<B.length):Sh a b B (yK B j) (yK (zB a b B) (j+a)):=by
 unfold yK;rw [show j+a+1=j+1+a by omega];exact lI (by omega) _ _ _ _ (by rw [jIH];omega) (by omega) hj
theorem uG:∀b:Nat,((List.replicate b (32:UInt8)).takeWhile (fun c:UInt8=>c.toNat == 32)).length=b
 | 0=>rfl
 | b+1=>by rw [List.replicate_succ,List.takeWhile_cons_of_pos (by decide),List.length_cons,uG b]
theorem tW:∀(l:List UInt8) (b:Nat),((l++List.replicate b 32).takeWhile (fun c:UInt8=>c.toNat == 32)).length=if (l.takeWhile (fun c:UInt8=>c.toNat == 32)).length=l.length then l.length+b else (l.takeWhile (fun c:UInt8=>c.toNat == 32)).length
 | [],b=>by rw [List.nil_append,uG];simp
 | c :: l,b=>by
  rw [List.cons_append];cases hc:(c.toNat == 32) with
  | true =>
   rw [List.takeWhile_cons_of_pos (p:=fun c:UInt8=>c.toNat == 32) hc,List.takeWhile_cons_of_pos (p:=fun c:UInt8=>c.toNat == 32) hc]
   simp only [List.length_cons]
   rw [tW l b]
   by_cases h:(l.takeWhile (fun c:UInt8=>c.toNat == 32)).length=l.length
   ·rw [if_pos h,if_pos (by omega)];omega
   ·rw [if_neg h,if_neg (by omega)]
  | false =>
   rw [List.takeWhile_cons_of_neg (p:=fun c:UInt8=>c.toNat == 32) (by rw [hc];decide),List.takeWhile_cons_of_neg (p:=fun c:UInt8=>c.toNat == 32) (by rw [hc];decide)]
   simp
theorem jEV {i:Nat} (h:i≤B.length):jJ (zB a b B) (i+a)=if jJ B i=B.length then a+B.length+b else jJ B i+a:=by
 unfold jJ;rw [lZ h,tW,List.length_drop];by_cases h1:((B.drop i).takeWhile (fun c:UInt8=>c.toNat == 32)).length=B.length - i
 ·rw [if_pos h1,if_pos (by omega)];omega
 ·rw [if_neg h1,if_neg (by omega)];omega
theorem oA {j':Nat} (h:B.length+a≤j') (h2:j'≤a+B.length+b):jJ (zB a b B) j'=a+B.length+b:=by
 have hd:(zB a b B).drop j'=List.replicate (a+B.length+b - j') 32:=by
  have:=lZ (B:=B) (a:=a) (b:=b) (i:=B.length) (Nat.le_refl _);rw [show j'=(B.length+a)+(j' - (B.length+a)) by omega,← List.drop_drop,this,List.drop_length,List.nil_append,List.drop_replicate];congr 1;omega
 unfold jJ;rw [hd,uG];omega
def ShT (a b:Nat) (B:List UInt8) (r r':Rt):Prop:=Sh a b B r r'∧∀t j j',r=.ok t j→r'=.ok t j'→j=B.length→j'=a+B.length+b
theorem lJ {t:Tree×Nat} {k k':Nat} (h:Pos a b B k k'):ShT a b B (.ok t (jJ B k)) (.ok t (jJ (zB a b B) k')):=by
 rcases h with ⟨h,rfl⟩ | ⟨rfl,h1,h2⟩
 ·have hb:=kO (B:=B) (i:=k) (by omega);rw [jEV (by omega)];by_cases he:jJ B k=B.length
  ·rw [if_pos he];exact ⟨⟨_,rfl,.inr ⟨he,by omega,by omega⟩⟩,fun t j j' e1 e2 _=>by cases e2;rfl⟩
  ·rw [if_neg he];exact ⟨⟨_,rfl,.inl ⟨by omega,rfl⟩⟩,fun t j j' e1 e2 hj=>by cases e1;omega⟩
 ·rw [oA h1 h2,vE (Nat.le_refl _)];exact ⟨⟨_,rfl,.inr ⟨rfl,by omega,by omega⟩⟩,fun t j j' e1 e2 _=>by cases e2;rfl⟩
theorem jAF {T T':Nat→Nat→Rt} (hT:∀i i' n,Pos a b B i i'→Sh a b B (T i n) (T' i' n)) {n j j':Nat} (h:Pos a b B j j'):Sh a b B (kL B T n j) (kL (zB a b B) T' n j') :=
 (lG (by decide) h).bind fun _ i1 i1' _ h1=>(hT i1 i1' n h1).bind fun t i2 i2' _ h2=>(lG (by decide) h2).bind fun _ i3 i3' _ h3=>⟨i3',rfl,h3⟩
theorem jHL {T T':Nat→Nat→Rt} (hT:∀i i' n,Pos a b B i i'→Sh a b B (T i n) (T' i' n)) (k:Int) {n j:Nat} (hj:j<B.length):Sh a b B (kE B T k n j) (kE (zB a b B) T' k n (j+a)):=by
 have h1:Pos a b B (j+1) (j+a+1):=by
  by_cases h:j+1<B.length
  ·exact .inl ⟨h,by omega⟩
  ·exact .inr ⟨by omega,by omega,by omega⟩
 unfold kE;split
 ·exact (lH h1).bind fun v i i' _ hp=>⟨i',rfl,hp⟩
 ·split
  ·exact (jDI h1).bind fun v i i' _ hp=>⟨i',rfl,hp⟩
  ·split
   ·exact (sh_dat hj).bind fun v i i' _ hp=>⟨i',rfl,hp⟩
   ·split
    ·exact (hT _ _ n h1).bind fun x i i' _ hp=>(hT i i' _ hp).bind fun y i2 i2' _ hp2=>(lG (by decide) hp2).bind fun _ i3 i3' _ h3=>⟨i3',rfl,h3⟩
    ·split
     ·exact (jAF hT h1).bind fun x i i' _ hp=>⟨i',rfl,hp⟩
     ·split
      ·exact (lH h1).bind fun v i i' _ hp=>(jAF hT hp).bind fun x i2 i2' _ hp2=>⟨i2',rfl,hp2⟩
      ·exact (lH h1).bind fun v i i' _ hp=>(lG (by decide) hp).bind fun _ i1 i1' _ hp1=>(lH hp1).bind fun u i2 i2' _ hp2=>(jAF hT hp2).bind fun x i3 i3' _ hp3=>⟨i3',rfl,hp3⟩
theorem ShT.bindT {r r':Rt} (h:Sh a b B r r'):ShT a b B (r.bind fun t k=>.ok t (jJ B k)) (r'.bind fun t k=>.ok t (jJ (zB a b B) k)):=by
 cases r with
 | ok t j=>obtain ⟨j',rfl,hp⟩:=h;exact lJ hp
 | no e i=>exact ⟨Sh.bind h (fun t j j' e' _=>by cases e'),fun t j j' e1 _ _=>by cases e1⟩
theorem jHK:∀(d i i' n:Nat),Pos a b B i i'→ShT a b B (jS B d i n) (jS (zB a b B) d i' n):=by
 intro d;induction d with
 | zero =>
  intro i i' n h
  have hs:=(lJ (t:=(oY,0)) h).1
  unfold jS
  obtain ⟨m',e,hp⟩:=hs
  cases e
  refine ⟨?_,fun t j j' e1 _ _=>by
   split at e1
   ·cases e1
   ·split at e1 <;> cases e1⟩
  rcases hp.look with ⟨hj,e1,e2⟩ | ⟨e,e' | e'⟩
  ·rw [e2,List.getElem?_eq_getElem hj,e1]
   simp only
   split
   ·exact Sh.no (by decide) (by decide)
   ·exact Sh.no (by decide) (by decide)
  ·rw [e,e'];exact Sh.short rfl (by decide)
  ·rw [e,e']
   simp only
   rw [if_pos (show zS (32:UInt8).toNat=0 by decide)]
   exact Sh.short rfl (by decide)
 | succ d ih =>
  intro i i' n h
  have hs:=(lJ (t:=(oY,0)) h).1
  unfold jS
  obtain ⟨m',e,hp⟩:=hs
  cases e
  have bad:∀{e e':Int} {i i':Nat},Sh a b B (.no e i:Rt) (.no e' i')→ShT a b B (.no e i) (.no e' i'):=fun h=>⟨h,fun t j j' e1 _ _=>by cases e1⟩
  rcases hp.look with ⟨hj,e1,e2⟩ | ⟨e,e' | e'⟩
  ·rw [e2,List.getElem?_eq_getElem hj,e1]
   simp only
   split
   ·exact bad (Sh.no (by decide) (by decide))
   ·split
    ·exact bad (Sh.no (by decide) (by decide))
    ·exact ShT.bindT (jHL (fun i i' n hp=>(ih i i' n hp).1) _ hj)
  ·rw [e,e'];exact bad (Sh.short rfl (by decide))
  ·rw [e,e']
   simp only
   rw [if_pos (show zS (32:UInt8).toNat=0 by decide)]
   exact bad (Sh.short rfl (by decide))
end
end Go.Sp
namespace Go.Sp
def RrN {α:Type} (B:List UInt8) (r:Rr α):Prop:=∀e i,r=.no e i→i≤B.length
section
variable {B:List UInt8}
theorem RrN.bind {α β:Type} {i:Nat} {r:Rr α} {f:α→Nat→Rr β} (h:RrN B r) (ho:uW B i r) (hf:∀a j,j≤B.length→RrN B (f a j)):RrN B (r.bind f):=by
 intro e k hb;cases r with
 | no e' j=>cases hb;exact h _ _ rfl
 | ok a j=>exact hf a j (ho a j rfl).2 e k hb
theorem RrN.no {α:Type} {e:Int} {i:Nat} (h:i≤B.length):RrN B (.no e i:Rr α):=fun _ _ e=>by cases e;exact h
theorem RrN.ok {α:Type} {a:α} {i:Nat}:RrN B (.ok a i):=fun _ _ e=>by cases e
end
end Go.Sp
end
section
open Go Go.SE
namespace Go.Sp
open Go.Proofs
theorem zQ {α β:Type} {r:Rr α} {f:α→Nat→Rr β} {b:β} {k:Nat} (h:r.bind f=.ok b k):∃a j,r=.ok a j∧f a j=.ok b k:=by
 cases r with
 | ok a j=>exact ⟨a,j,rfl,h⟩
 | no e i=>cases h
section
variable {B:List UInt8}
theorem jDR {i n j:Nat} (h:qB B i=.ok n j):n<18446744073709551616:=by
 unfold qB at h;split at h
 ·cases h
 ·split at h
  ·cases h
  ·split at h
   ·cases h
   ·rename_i hb;cases h;unfold yW at hb;simp only [Bool.or_eq_true,decide_eq_true_eq,not_or] at hb;omega
theorem qR {i n j:Nat} {nt:Int} (h:kK B nt i=.ok n j):n<16∧(n:Int)≠nt:=by
 obtain ⟨a,k,_,h⟩:=zQ h;split at h
 ·cases h
 ·rename_i hb;cases h;omega
theorem qS (frm:Nat):∀(f i:Nat) (acc x:List UInt8) (j:Nat),zW B frm f i acc=.ok x j→x.length≤64
 | 0,_,_,_,_,h=>by cases h
 | f+1,i,acc,x,j,h=>by
  unfold zW at h;split at h
  ·cases h
  ·split at h
   ·cases h
   ·split at h
    ·split at h
     ·cases h
     ·cases h;omega
    ·split at h
     ·split at h
      ·cases h
      ·split at h
       ·obtain ⟨_,_,_,h⟩:=zQ h;obtain ⟨_,_,_,h⟩:=zQ h;exact qS frm _ _ _ _ _ h
       ·split at h
        ·exact qS frm _ _ _ _ _ h
        ·cases h
     ·exact qS frm _ _ _ _ _ h
abbrev ReadsT (D:Nat) (T:Nat→Nat→Rt):Prop:=∀i n a j,T i n=.ok a j→∃s d,TG a.1 s d∧a.2=n+s∧d≤D
theorem uF {D:Nat} {T:Nat→Nat→Rt} (hT:ReadsT D T) {n i:Nat} {a:Tree×Nat} {j:Nat} (h:kL B T n i=.ok a j):∃s d,TG a.1 s d∧a.2=n+s∧d≤D:=by
 obtain ⟨_,_,_,h⟩:=zQ h;obtain ⟨b,_,hb,h⟩:=zQ h;obtain ⟨_,_,_,h⟩:=zQ h;cases h;exact hT _ _ _ _ hb
theorem jBU {D:Nat} {T:Nat→Nat→Rt} (hT:ReadsT D T) {c n j:Nat} {a:Tree×Nat} {i:Nat} (hk:zS c≠0) (h:kE B T (zS c) (n+1) j=.ok a i):∃s d,TG a.1 s d∧a.2=n+s∧d≤D+1:=by
 have hk:zS c=1∨zS c=2∨zS c=3∨zS c=4∨zS c=5∨zS c=6∨zS c=7∨zS c=8∨zS c=9:=by
  unfold zS at hk ⊢
  repeat' split
  all_goals simp_all
 generalize zS c=k at *;unfold kE at h;by_cases h1:k=1∨k=6
 ·rw [if_pos h1] at h;obtain ⟨v,_,hv,h⟩:=zQ h;cases h;exact ⟨1,1,.name h1 (qR hv).1,rfl,by omega⟩
 rw [if_neg h1] at h;by_cases h2:k=2
 ·rw [if_pos h2] at h;obtain ⟨v,_,hv,h⟩:=zQ h;cases h;subst h2;exact ⟨1,1,.num (jDR hv),rfl,by omega⟩
 rw [if_neg h2] at h;by_cases h3:k=3
 ·rw [if_pos h3] at h;obtain ⟨x,_,hx,h⟩:=zQ h;cases h;subst h3;have:=qS _ _ _ _ _ _ hx;exact ⟨1,1,.data (by simpa [ByteArray.size] using this),rfl,by omega⟩
 rw [if_neg h3] at h;by_cases h4:k=4
 ·rw [if_pos h4] at h;obtain ⟨x,_,hx,h⟩:=zQ h;obtain ⟨y,_,hy,h⟩:=zQ h;obtain ⟨_,_,_,h⟩:=zQ h;cases h;subst h4;obtain ⟨s1,d1,t1,e1,l1⟩:=hT _ _ _ _ hx;obtain ⟨s2,d2,t2,e2,l2⟩:=hT _ _ _ _ hy;exact ⟨_,_,.pair t1 t2,by show y.2=_;omega,by omega⟩
 rw [if_neg h4] at h;by_cases h5:k=5
 ·rw [if_pos h5] at h;obtain ⟨x,_,hx,h⟩:=zQ h;cases h;subst h5;obtain ⟨s1,d1,t1,e1,l1⟩:=uF hT hx;exact ⟨_,_,.hash t1,by show x.2=_;omega,by omega⟩
 rw [if_neg h5] at h;by_cases h7:k=7
 ·rw [if_pos h7] at h;obtain ⟨v,_,hv,h⟩:=zQ h;obtain ⟨x,_,hx,h⟩:=zQ h;cases h;subst h7;obtain ⟨s1,d1,t1,e1,l1⟩:=uF hT hx;exact ⟨_,_,.sign (qR hv).1 t1,by show x.2=_;omega,by omega⟩
 rw [if_neg h7] at h;obtain ⟨v,_,hv,h⟩:=zQ h;obtain ⟨_,_,_,h⟩:=zQ h;obtain ⟨u,_,hu,h⟩:=zQ h;obtain ⟨x,_,hx,h⟩:=zQ h;cases h;obtain ⟨s1,d1,t1,e1,l1⟩:=uF hT hx;have hu:=qR hu;exact ⟨_,_,.prom (by omega) (qR hv).1 hu.1 (by omega) t1,by show x.2=_;omega,by omega⟩
theorem xI (B:List UInt8):∀D,ReadsT D (jS B D)
 | 0,i,n,a,j,h=>by
  unfold jS at h;split at h
  ·cases h
  ·split at h <;> cases h
 | D+1,i,n,a,j,h=>by
  unfold jS at h;split at h
  ·cases h
  ·split at h
   ·cases h
   ·rename_i hk;split at h
    ·cases h
    ·obtain ⟨x,_,hx,h⟩:=zQ h;cases h;exact jBU (xI B D) hk hx
end
theorem jHN {B:List UInt8} (h:(qF B).2.1=0):∃s d,TG (qF B).1 s d∧s≤4096∧d≤64:=by
 unfold qF at h ⊢;split at h
 ·cases h
 ·rename_i hl;rw [if_neg hl];unfold gL at h ⊢;have hr:=xI B 64 0 0;have hn:=uR B 64 0 0 (by omega);have hs:=(jHK (a:=0) (b:=0) (B:=B) 64 0 0 0 (by
   by_cases h:0<B.length
   ·exact .inl ⟨h,rfl⟩
   ·exact .inr ⟨by omega,by omega,by omega⟩)).1
  generalize jS B 64 0 0=r at *;cases r with
  | no e i=>exact absurd h hs.1
  | ok t i =>
   obtain ⟨s,d,h1,h2,h3⟩:=hr t i rfl
   have h4:=hn t i rfl
   simp only at h ⊢
   split at h
   ·cases h
   ·rename_i hi
    rw [if_neg hi]
    exact ⟨s,d,h1,by omega,h3⟩
end Go.Sp
end
section
open Go Go.SE
namespace Go.Proofs
attribute [local irreducible] Calls
end Go.Proofs
end
section
open Go Go.SE
namespace Go.Proofs
open Tryd
attribute [local irreducible] Calls
theorem jDH {t:Sp.Tree} {s d:Nat} (h:Sp.TG t s d) (hs:s≤4096) (hd:d≤64):Sp.gQ t=(Sp.shw t,0):=by
 unfold Sp.gQ;rw [if_neg (by simpa using h.of hs hd)]
theorem jFI {t:Sp.Tree} (h:(Sp.gQ t).2=0) (hn:Sp.NumT t):∃s d,Sp.TG t s d∧s≤4096∧d≤64:=by
 unfold Sp.gQ at h;by_cases hh:(Sp.of [] t).2.1=0
 ·exact Sp.of_tg hh hn
 ·rw [if_pos hh] at h;exact absurd h hh
theorem kX {S:NP} (text:ByteArray) {w0 w:World} {H:NP} (hl:text.size≤8000) (E:Pure w0 w) (hH:∀b,H b→b<w.heap.size) (ht:Pow w0) (hv:ErrV w0)
  (live:∀{H:NP} {w:World},Pure w0 w→Calls prog 8 #[] w (fun e w'=>∃r:Bool,e=.returned (.bool r)∧Kept H w w'∧(r=true∧Pure w0 w'))) :
  m_F_j2 text w0 H w (fun r w'=>r=true∧Pure w0 w'):=by
 have nd:∀n,n<18446744073709551616→(Lib.decDigits n).length≤20:=fun n h=>nd20 h
 unfold m_F_j2
 refine (qT text w (kR hv E)).mono ?_
 intro e w5 hR
 have hg:=Sp.jHN (B:=bts text)
 obtain ⟨k1,f1,t1,u1,y1,ks1,s1,hT1,rfl,T1,E5⟩:=hR.un
 have E05:=E.trans E5
 have TT1:TT w0 w5 H s1 (.mk k1 f1 t1 u1 y1 ks1):=lM T1 E hH
 refine ⟨_,_,_,_,_,s1,_,_,rfl,E5.keptP,fun _ H2 w8 hs8=>live (E05.hst hs8),fun h H2 w8 hs8=>?_⟩
 have h0:(Sp.qF (bts text)).2.1=0:=by simpa using h
 obtain ⟨sz,d,hg,hsz,hd⟩:=hg h0
 rw [hT1] at hg
 have E8:=E05.hst hs8
 have T8:=TT.hst TT1 hs8
 have hsh:=jDH hg hsz hd
 have hrd:=Sp.xM nd hg hsz hd
 have hc:=hg.cnt.1
 refine (uV (S:=fun b=>b<w8.heap.size) (.mk k1 f1 t1 u1 y1 ks1) s1 w8 (T8.mono (fun b hb=>hb.2.1)) (fun b hb=>hb) hg.nums (by omega) (vA ht E8)).mono ?_
 rintro _ w10 ⟨r7,r8,rfl,⟨e7,e8⟩,E10⟩
 have E010:=E8.trans E10
 rw [hsh] at e7 e8
 subst e7 e8
 refine ⟨_,_,rfl,E10.keptP,?_⟩
 have hH8:=hs8.here.lt
 refine (qT ⟨(Sp.shw (.mk k1 f1 t1 u1 y1 ks1)).toArray⟩ w10 (kR hv E010)).mono ?_
 rw [show bts ⟨(Sp.shw (.mk k1 f1 t1 u1 y1 ks1)).toArray⟩=Sp.shw (.mk k1 f1 t1 u1 y1 ks1) from by simp [bts],hrd]
 intro e w11 hR2
 obtain ⟨s2,rfl,T2,E11⟩:=hR2
 have E011:=E010.trans E11
 have TT2:TT w0 w11 H2 s2 (.mk k1 f1 t1 u1 y1 ks1):=lM T2 E010 (fun b hb=>by have:=hH8 b hb;have:=E10.size;omega)
 have T11:=vN (vN T8 E10) E11
 refine ⟨k1,f1,t1,u1,y1,s2,0,0,rfl,E11.keptP,fun H3 w13 hs13=>?_⟩
 have E13:=E011.hst hs13
 have A13:=TT.hst T11 hs13
 have B13:=TT.hst TT2 hs13
 refine (uV (S:=fun b=>b<w13.heap.size) (.mk k1 f1 t1 u1 y1 ks1) s2 w13 (B13.mono (fun b hb=>hb.2.1)) (fun b hb=>hb) hg.nums (by omega) (vA ht E13)).mono ?_
 rintro _ w14 ⟨r11,r12,rfl,⟨e11,e12⟩,E14⟩
 have E014:=E13.trans E14
 rw [hsh] at e11 e12
 subst e11 e12
 refine ⟨_,_,rfl,E14.keptP,Br.t (by rfl) (fun H4 w17 hs17=>?_)⟩
 have A17:=TT.hst (vN A13 E14) hs17
 have B17:=TT.hst (vN B13 E14) hs17
 have E17:=E014.hst hs17
 refine (qK (S:=fun b=>b<w17.heap.size) (.mk k1 f1 t1 u1 y1 ks1) (.mk k1 f1 t1 u1 y1 ks1) s1 s2 w17 (A17.mono (fun b hb=>hb.2.1)) (B17.mono (fun b hb=>hb.2.1)) (fun b hb=>hb)).mono ?_
 rintro _ w24 ⟨r14,rfl,hr,E24⟩
 have he:r14=true:=by rw [hr,Sp.jBA]
 subst he
 refine ⟨_,rfl,E24.keptP,?_⟩
 unfold m_F_j3
 exact Br.t (by simp) (fun H6 w22 hs22=>live ((E17.trans E24).hst hs22))
theorem uD {S:NP} (t:Sp.Tree) (s:Sl) (text:ByteArray) (w0:World) (hT:TreeAt S w0 s t) (hS:∀b,S b→b<w0.heap.size) (hn:Sp.NumT t) (ht:Pow w0) (hv:ErrV w0) :
  Calls prog 5 #[.agg (kT t s).toArray,.string text] w0 (fun e w'=>∃r:Bool,e=.returned (.bool r)∧(r=true∧Pure w0 w')):=by
 have live:∀{H:NP} {w:World},Pure w0 w→Calls prog 8 #[] w (fun e w'=>∃r:Bool,e=.returned (.bool r)∧Kept H w w'∧(r=true∧Pure w0 w')):=fun {H w} E=>by
  refine (jIE w (vA ht E) (kR hv E)).mono ?_;rintro _ w' ⟨r,rfl,hr,E'⟩;exact ⟨r,rfl,E'.keptP,hr,E.trans E'⟩
 have nd:∀n,n<18446744073709551616→(Lib.decDigits n).length≤20:=fun n h=>nd20 h
 obtain ⟨k,f,to,u,x,ks⟩:=t
 refine w_F k f to u x s text w0 (fun r w'=>r=true∧Pure w0 w') ?_
 unfold m_F
 intro H1 w1 hs1
 have E1:=hs1.first
 have lt:∀{w},Pure w0 w→∀b,S b→b<w.heap.size:=fun E b hb=>by have:=hS b hb;have:=E.size;omega
 refine (tR (S:=S) (.mk k f to u x ks) s w1 (hT.pure E1) (lt E1)).mono ?_
 rintro _ w2 ⟨r1,rfl,hr1,E2⟩
 refine ⟨_,rfl,E2.keptP,fun H2 w3 hs3=>?_⟩
 have E03:=(E1.trans E2).hst hs3
 have hH3:=hs3.here.lt
 unfold m_F_j1
 refine ⟨fun _=>live E03,fun h=>?_⟩
 simp only [Bool.or_eq_false_iff,decide_eq_false_iff_not] at h
 have hc:=hr1 h.1
 have hl:text.size≤8000:=by have:=h.2;omega
 refine (uV (S:=S) (.mk k f to u x ks) s w3 (hT.pure E03) (lt E03) hn (by omega) (vA ht E03)).mono ?_
 rintro _ w4 ⟨r3,r4,rfl,⟨e3,e4⟩,E4⟩
 have E04:=E03.trans E4
 refine ⟨_,_,rfl,E4.keptP,fun h0 w5 hs5=>?_,fun h0 w5 hs5=>?_⟩
 ·have h0:(Sp.gQ (.mk k f to u x ks)).2=0:=by rw [← e4];simpa using h0
  obtain ⟨sz,d,hg,hsz,hd⟩:=jFI h0 hn
  rw [jDH hg hsz hd] at e3
  subst e3
  have E05:=E04.hst hs5
  have hH5:=hs5.here.lt
  refine (qT ⟨(Sp.shw (.mk k f to u x ks)).toArray⟩ w5 (kR hv E05)).mono ?_
  rw [show bts ⟨(Sp.shw (.mk k f to u x ks)).toArray⟩=Sp.shw (.mk k f to u x ks) from by simp [bts],Sp.xM nd hg hsz hd]
  intro e w6 hR2
  obtain ⟨s2,rfl,T2,E6⟩:=hR2
  have E06:=E05.trans E6
  have TT2:TT w0 w6 H2 s2 (.mk k f to u x ks):=lM T2 E05 hH5
  refine ⟨k,f,to,u,x,s2,0,0,rfl,E6.keptP,Br.f (by rfl) (fun H8 w7 hs7=>?_)⟩
  have E07:=E06.hst hs7
  have B7:=TT.hst TT2 hs7
  have hH8:=hs7.here.lt
  refine (qK (S:=fun b=>b<w7.heap.size) (.mk k f to u x ks) (.mk k f to u x ks) s s2 w7 ((hT.pure E07).mono (fun b hb=>lt E07 b hb)) (B7.mono (fun b hb=>hb.2.1)) (fun b hb=>hb)).mono ?_
  rintro _ w8 ⟨r14,rfl,hr,E8⟩
  have he:r14=true:=by rw [hr,Sp.jBA]
  subst he
  refine ⟨_,rfl,E8.keptP,Br.f (by rfl) ?_⟩
  exact kX (S:=S) text hl (E07.trans E8) (fun b hb=>by have:=hH8 b hb;have:=E8.size;omega) ht hv live
 ·exact kX (S:=S) text hl (E04.hst hs5) hs5.here.lt ht hv live
end Go.Proofs
end
section
namespace Go.SE
open Go.ChangeShapes Go.WideShapes Go.ChangeAt Go.RowKit
section
variable {H:Type} {enc:TypeId×Value→H} {P:Program}
theorem yV (hl:laidOutB P=true) {W W':World} (hb:Below W.heap.size W W'):∀(ts:List TypeId) (vs:List Value) (ds:List (DataW H)) (ps:List MemPlace),(ts.all fun t=>P.readableRec t && decide (t<P.types.size))=true →
  DataW.TrodAll enc P W 0 (fun _=>true) true ts vs ds ps→(∀x∈ps,x.block<W.heap.size)→DataW.TrodAll enc P W' 0 (fun b=>decide (b<W.heap.size)) true ts vs ds ps
 | [],_,_,_,_,h,_=>by
  obtain ⟨rfl,rfl,rfl⟩:=trodAll_nil h;exact h
 | t :: ts,_,_,_,hr,h,hlt=>by
  obtain ⟨v,vs1,d,ds1,a,b,rfl,rfl,rfl,h1,h2⟩:=trodAll_cons h;simp only [List.all_cons,Bool.and_eq_true,decide_eq_true_eq] at hr;exact ⟨a,b,Below.trod hl hr.1.1 hr.1.2 h1 hb (fun x hx=>hlt x (by simp [hx])),yV hl hb ts vs1 ds1 b (by simpa using hr.2) h2 (fun x hx=>hlt x (by simp [hx])),rfl⟩
theorem jGC {f:Func} {s:ChangeSpec} {W W':World} {args:Array Value} {ds gs:List (DataW H)} {before:List MemPlace} {t:TypeId} (hl:laidOutB P=true)
  (hv:s.vars=[]) (hf:∀ds:List (DataW H),ds.length=f.params.size→s.fn H ds={ results:=[.lit (.bool true)],args:=ds }) (hrt:f.resultTypes=#[t]) (ht:P.underlying t=some .bool)
  (hr:(f.params.toList.all fun t=>P.readableRec t && decide (t<P.types.size))=true)
  (hW:DataW.Whole enc P f.params.toList s.vars false W args.toList ds gs before) (E:Pure W W') :
  s.post enc P f false true false false W args (.bool true) W':=by
 have hW':=hW
 obtain ⟨p,q,hA,hV,rfl,hfz,hnd⟩:=hW
 rw [hv] at hV
 obtain ⟨rfl,rfl⟩:=trodVars_none hV
 have hlen:ds.length=f.params.size:=by
  have:∀(ts:List TypeId) (vs:List Value) (ds:List (DataW H)) (ps:List MemPlace),DataW.TrodAll enc P W 0 (fun _=>true) true ts vs ds ps→ds.length=ts.length:=by
   intro ts;induction ts with
   | nil=>intro vs ds ps h;obtain ⟨_,rfl,_⟩:=trodAll_nil h;rfl
   | cons t ts ih =>
    intro vs ds ps h
    obtain ⟨v,vs1,d,ds1,a,b,_,rfl,_,_,h2⟩:=trodAll_cons h
    simp [ih _ _ _ h2]
  simpa using this _ _ _ _ hA
 have hfn:=hf ds hlen
 have hfn':s.fn H (ds++[])={ results:=[.lit (.bool true)],args:=ds }:=by rw [List.append_nil];exact hfn
 have hlt:∀x∈p,x.block<W.heap.size:=fun x hx=>by simpa using hW'.lt x (by simp [hx])
 have bel:=E.below
 refine ⟨ds,[],p++[],[],p,[],hW',?_,?_,?_,bel.frame _,fun h=>by cases h⟩
 ·rw [hfn',hrt];exact trodAll_mk1 (shut_bool ht _)
 ·rw [hfn'];exact yV hl bel _ _ _ _ hr hA hlt
 ·rw [hfn',hv];exact hV
end
end Go.SE
namespace Go.SE
open Go.ChangeShapes Go.WideShapes Go.ChangeAt Go.RowKit
section
variable {P:Program} {W:World} {r:Reach} {b0:Nat} {t:TypeId} {v:Value}
theorem oW {fs:Array Field} {ts:List TypeId} (ht:P.underlying t=some (.struct fs)) (hc:P.cellTypes P.depth t=some ts) (hn:P.cellsOf t=ts.length) (h:Value.okWide P W r b0 t v) :
  ∃cs:Array Value,v=.agg cs∧cs.size=ts.length∧∀(i:Nat) (u:TypeId) (c:Value),ts[i]?=some u→cs[i]?=some c→Cell.okWide P W r b0 u c:=by
 unfold Value.okWide at h
 rw [ht] at h
 obtain ⟨cs,rfl,hs,ts',hts,_,hall⟩:=h
 rw [hc] at hts
 cases hts
 refine ⟨cs,rfl,hs.trans hn,fun i u c hu hcs=>?_⟩
 obtain ⟨u',hu',hok⟩:=hall i c hcs
 have hlt:i<ts.length:=(List.getElem?_eq_some_iff.1 hu).1
 rw [Nat.mod_eq_of_lt hlt,hu] at hu'
 cases hu'
 exact hok
theorem lW (ht:P.underlying t=some .string) (h:Cell.okWide P W r b0 t v):∃x,v=.string x:=by
 have:Value.okWide P W r b0 t v:=by unfold Value.okWide;rw [ht];exact h
 unfold Cell.okWide at h;rw [ht] at h;cases v <;> simp [Cell.ok,ht] at h;exact ⟨_,rfl⟩
end
end Go.SE
end
section
open Go Go.SE
namespace Go.Proofs
open Tryd
theorem uB {α β:Type} {f:α→Option β}:∀{l:List α} {r:List β},l.mapM f=some r→r.length=l.length∧∀(i:Nat) (a:α),l[i]?=some a→∃b,f a=some b∧r[i]?=some b
 | [],r,h=>by
  have:r=[]:=by simpa using h.symm
  subst this;exact ⟨rfl,fun i a h=>by simp at h⟩
 | x :: xs,r,h=>by
  rw [List.mapM_cons] at h;cases hx:f x with
  | none=>simp [hx] at h
  | some y =>
   cases hxs:xs.mapM f with
   | none=>simp [hx,hxs] at h
   | some ys =>
    have:r=y :: ys:=by simpa [hx,hxs] using h.symm
    subst this
    obtain ⟨h1,h2⟩:=uB hxs
    refine ⟨by simp [h1],fun i a ha=>?_⟩
    cases i with
    | zero=>cases ha;exact ⟨y,hx,rfl⟩
    | succ i=>exact h2 i a (by simpa using ha)
theorem jEO {w:World} {base:Nat} {a:Addr} {n:Nat} {cs:List Value} (h:w.cells? base a n=some cs):cs.length=n∧Row w a cs:=by
 obtain ⟨_,h1,h2⟩:=World.cells?_some h;exact ⟨h1,fun j hj=>h2 j (by omega)⟩
section
variable {H:Type} {enc:TypeId×Value→H} {P:Program} {W:World} {base:Nat} {sp:Nat→Bool} {held:Bool}
theorem gI {t:TypeId} {k:IntKind} (ht:P.underlying t=some (.int k)) {n:Nat} {c:Value} {x:DataW H×List MemPlace} (h:DataW.trod enc P W base sp held n t [c]=some x):∃m,c=.int k m:=by
 cases n with
 | zero=>cases h
 | succ n =>
  rw [DataW.trod_step] at h
  unfold DataW.trodStep at h
  rw [ht] at h
  cases c <;> simp at h
  obtain ⟨⟨rfl,_⟩,_⟩:=h
  exact ⟨_,rfl⟩
theorem jFC {t:TypeId} (ht:P.underlying t=some (.int .u64)) {n:Nat} {c:Value} {x:DataW H×List MemPlace} (h:DataW.trod enc P W base sp held n t [c]=some x):∃m,c=.int .u64 m∧Sp.jCF m:=by
 cases n with
 | zero=>cases h
 | succ n =>
  rw [DataW.trod_step] at h
  unfold DataW.trodStep at h
  rw [ht] at h
  cases c with
  | int k z =>
   simp only at h
   split at h
   ·rename_i hw
    obtain ⟨rfl,hw⟩:=hw
    have h1:IntKind.u64.min=0:=by rfl
    have h2:IntKind.u64.max=18446744073709551615:=by rfl
    simp only [Lit.wf,Bool.and_eq_true,decide_eq_true_eq,h1,h2] at hw
    exact ⟨z,rfl,by omega,by omega⟩
   ·cases h
  | _=>simp at h
theorem jDA {t:TypeId} (ht:P.underlying t=some .string) {n:Nat} {c:Value} {x:DataW H×List MemPlace} (h:DataW.trod enc P W base sp held n t [c]=some x):∃m,c=.string m:=by
 cases n with
 | zero=>cases h
 | succ n =>
  rw [DataW.trod_step] at h
  unfold DataW.trodStep at h
  rw [ht] at h
  cases c <;> simp at h
  exact ⟨_,rfl⟩
theorem jAB {t e:TypeId} (ht:P.underlying t=some (.slice e)) {n:Nat} {c:Value} {x:DataW H×List MemPlace} (h:DataW.trod enc P W base sp held (n+1) t [c]=some x) :
  c=.slice none 0 0∨∃a len cap,c=.slice (some a) len cap∧len≤cap∧cap≤maxLen∧∀i,i<len→∃cs y,W.cells? base (a.add (i*P.cellsOf e)) (P.cellsOf e)=some cs∧DataW.trod enc P W base sp held n e cs=some y:=by
 rw [DataW.trod_step] at h
 unfold DataW.trodStep at h
 rw [ht] at h
 cases c with
 | slice a len cap =>
  cases a with
  | none =>
   cases len with
   | zero=>cases cap with
    | zero=>exact .inl rfl
    | succ c=>simp at h
   | succ l=>simp at h
  | some a =>
   right
   simp only at h
   split at h
   ·rename_i hc
    refine ⟨a,len,cap,rfl,hc.2.1,hc.2.2,fun i hi=>?_⟩
    cases hm:(List.range len).mapM fun i=>(W.cells? base (a.add (i*P.cellsOf e)) (P.cellsOf e)).bind (DataW.trod enc P W base sp held n e) with
    | none=>rw [hm] at h;cases h
    | some r =>
     obtain ⟨b,hb,_⟩:=(uB hm).2 i i (by simp [hi])
     obtain ⟨cs,h1,h2⟩:=Option.bind_eq_some_iff.1 hb
     exact ⟨cs,b,h1,h2⟩
   ·cases h
 | _=>simp at h
structure TreeTypes (P:Program) (tS tT:TypeId):Prop where
 ex:∃ti tu ts:TypeId,∃f0 f1 f2 f3 f4 f5:Field,P.underlying tS=some (.slice tT)∧P.underlying tT=some (.struct #[f0,f1,f2,f3,f4,f5])∧P.cellsOf tT=6 ∧
  (f0.type=ti∧f1.type=ti∧f2.type=ti∧f3.type=tu∧f4.type=ts∧f5.type=tS)∧(f0.offset=0∧f1.offset=1∧f2.offset=2∧f3.offset=3∧f4.offset=4∧f5.offset=5) ∧
  P.underlying ti=some (.int .i64)∧P.underlying tu=some (.int .u64)∧P.underlying ts=some .string∧P.cellsOf ti=1∧P.cellsOf tu=1∧P.cellsOf ts=1∧P.cellsOf tS=1
theorem jCZ {tS tT:TypeId} (hTT:TreeTypes P tS tT):∀n:Nat,
  (∀(c:Value) (x:DataW H×List MemPlace),DataW.trod enc P W base sp held n tS [c]=some x→∃s:Sl,∃ts:List Sp.Tree,c=s.v∧(∀(k f t u:Int) (tx:ByteArray),TreeAt (fun _=>True) W s (.mk k f t u tx ts))∧∀i (hi:i<ts.length),Sp.NumT ts[i]) ∧
  (∀(cs:List Value) (x:DataW H×List MemPlace),DataW.trod enc P W base sp held n tT cs=some x→∃t s,cs=kT t s∧TreeAt (fun _=>True) W s t∧Sp.NumT t):=by
 obtain ⟨ti,tu,tx,f0,f1,f2,f3,f4,f5,hS,hT,hc6,⟨e0,e1,e2,e3,e4,e5⟩,⟨o0,o1,o2,o3,o4,o5⟩,ui,uu,us,ci,cu,cs1,cS⟩:=hTT.ex
 intro n
 induction n with
 | zero=>exact ⟨fun c x h=>(by cases h),fun cs x h=>(by cases h)⟩
 | succ n ih =>
  refine ⟨fun c x h=>?_,fun cs x h=>?_⟩
  ·rcases jAB hS h with rfl | ⟨a,len,cap,rfl,hle,hcm,hel⟩
   ·exact ⟨Sl.nil,[],rfl,fun k f t u tx=>.mk k f t u tx [] Sl.nil (fun _=>Sl.nil) rfl (by simp) (fun i h=>by simp at h) (fun i h=>by simp at h),fun i hi=>absurd hi (Nat.not_lt_zero i)⟩
   ·rw [hc6] at hel
    have hex:∀i,∃q:Sp.Tree×Sl,i<len→Row W (a.add (i*6)) (kT q.1 q.2)∧TreeAt (fun _=>True) W q.2 q.1∧Sp.NumT q.1:=by
     intro i;by_cases hi:i<len
     ·obtain ⟨cs,y,h1,h2⟩:=hel i hi;obtain ⟨tr,s,e,hTr⟩:=ih.2 cs y h2;exact ⟨(tr,s),fun _=>⟨e▸(jEO h1).2,hTr⟩⟩
     ·exact ⟨(Sp.Tree.mk 0 0 0 0 ⟨#[]⟩ [],Sl.nil),fun h=>absurd h hi⟩
    obtain ⟨q,hq⟩:=Classical.axiomOfChoice hex
    refine ⟨⟨some a,len,cap⟩,(List.range len).map fun i=>(q i).1,rfl,?_,fun i hi=>by rw [List.getElem_map,List.getElem_range];exact (hq i (by simpa using hi)).2.2⟩
    refine fun k f t u tx=>.mk k f t u tx _ _ (fun i=>(q i).2) (by simp) (by simp only [maxLen] at hcm;simp;omega) (fun i h=>?_) (fun i h=>?_)
    ·have hi:i<len:=by simpa using h
     refine ⟨a.add (i*6),⟨by omega,by simpa using hi,a,rfl,by simp⟩,trivial,?_⟩
     simpa using (hq i hi).1
    ·have hi:i<len:=by simpa using h
     simpa using (hq i hi).2.1
  ·rw [DataW.trod_step] at h
   unfold DataW.trodStep at h
   rw [hT] at h
   simp only at h
   split at h
   ·rename_i hl
    rw [hc6] at hl
    match cs,hl with
    | [c0,c1,c2,c3,c4,c5],_ =>
     cases hm:([f0,f1,f2,f3,f4,f5]:List Field).mapM (fun f=>DataW.trod enc P W base sp held n f.type ((([c0,c1,c2,c3,c4,c5]:List Value).drop f.offset).take (P.cellsOf f.type))) with
     | none=>rw [hm] at h;cases h
     | some r =>
      have hf:=(uB hm).2
      obtain ⟨_,h0,_⟩:=hf 0 f0 rfl
      obtain ⟨_,h1,_⟩:=hf 1 f1 rfl
      obtain ⟨_,h2,_⟩:=hf 2 f2 rfl
      obtain ⟨_,h3,_⟩:=hf 3 f3 rfl
      obtain ⟨_,h4,_⟩:=hf 4 f4 rfl
      obtain ⟨_,h5,_⟩:=hf 5 f5 rfl
      rw [e0,o0,ci] at h0;rw [e1,o1,ci] at h1;rw [e2,o2,ci] at h2;rw [e3,o3,cu] at h3;rw [e4,o4,cs1] at h4;rw [e5,o5,cS] at h5
      obtain ⟨m0,rfl⟩:=gI ui h0
      obtain ⟨m1,rfl⟩:=gI ui h1
      obtain ⟨m2,rfl⟩:=gI ui h2
      obtain ⟨m3,rfl,hu⟩:=jFC uu h3
      obtain ⟨m4,rfl⟩:=jDA us h4
      obtain ⟨s,ts,rfl,hTr,hNr⟩:=ih.1 c5 _ h5
      exact ⟨.mk m0 m1 m2 m3 m4 ts,s,rfl,hTr m0 m1 m2 m3 m4,.mk _ _ _ _ _ _ hu hNr⟩
   ·cases h
end
theorem jDB:TreeTypes prog 23 25 :=
 ⟨3,22,9,_,_,_,_,_,_,underlying23,underlying25,by kernel_rfl,⟨rfl,rfl,rfl,rfl,rfl,rfl⟩,⟨rfl,rfl,rfl,rfl,rfl,rfl⟩,underlying3,underlying22,underlying9,by kernel_rfl,by kernel_rfl,by kernel_rfl,by kernel_rfl⟩
end Go.Proofs
end
section
open Go Go.SE
namespace Go.Proofs
theorem jBX {P:Program} {W:World} {r:Reach} {b0:Nat} {t:TypeId} {v:Value} (ht:P.underlying t=some .string) (h:Value.okWide P W r b0 t v):∃x,v=.string x :=
 lW ht (by unfold Value.okWide at h;rw [ht] at h;exact h)
end Go.Proofs
end
