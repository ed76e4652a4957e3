import Derived.Test.YtkafbiknboamlaaDoorPa2
import Derived.Test.YtkafbiknboamlaaDoorPa1
import Derived.Test.YtkafbiknboamlaaDoorProg
import Derived.WalkKit
import Derived.Shelf.Pu.ErrVarParseUint
import Derived.Ground.MpProg
import Derived.Lib.SmallJoins
import Derived.Laws.DeepStrings4
import Derived.Recover
import Derived.KernelRfl
section
open Go Go.SE
namespace Go.Sp
theorem jAN {L:Pool} {n:Node} (hp:jY n=0) (ha:(jL n.kind).kids<1→n.a=0) (hb:(jL n.kind).kids<2→n.b=0) (hf:jT (jL n.kind) n=0) (hk:∀k∈zF n,inP L k=true) :
  check L n=if 1+((zF n).map (sizeOf L)).sum>4096∨(zF n).foldl (fun d t=>max d (depthOf L t)) 0+1>64 then (0,0,52) else (1+((zF n).map (sizeOf L)).sum,(zF n).foldl (fun d t=>max d (depthOf L t)) 0+1,0):=by
 unfold check
 simp only
 rw [if_neg (by simp [hp]),if_neg (fun h=>?_),if_neg (by simp [hf]),if_neg (fun h=>?_)]
 ·obtain ⟨k,hk1,hk2⟩:=List.any_eq_true.1 h
  rw [hk k hk1] at hk2;cases hk2
 ·rw [Bool.or_eq_true,Bool.and_eq_true,Bool.and_eq_true] at h
  rcases h with ⟨h1,h2⟩ | ⟨h1,h2⟩
  ·rw [ha (of_decide_eq_true h1)] at h2;simp at h2
  ·rw [hb (of_decide_eq_true h1)] at h2;simp at h2
theorem mk_ok {L:Pool} {n:Node} (hW:Wf L) (hl:L.length<65536) (hp:jY n=0) (ha:(jL n.kind).kids<1→n.a=0) (hb:(jL n.kind).kids<2→n.b=0) (hf:jT (jL n.kind) n=0) (hk:∀k∈zF n,inP L k=true)
  {sz d:Int} (hs:1+((zF n).map (sizeOf L)).sum=sz) (hd:(zF n).foldl (fun d t=>max d (depthOf L t)) 0+1=d) :
  ((sz>4096∨d>64)→(make L n).2.1=52)∧(¬ (sz>4096∨d>64)→∃r M,make L n=(r,0,L++M)∧inP (L++M) r=true∧kX (L++M) r=n∧Wf (L++M)∧sizeOf (L++M) r=sz∧depthOf (L++M) r=d∧(L++M).length≤L.length+1):=by
 have hc:=jAN hp ha hb hf hk
 rw [hs,hd] at hc
 refine ⟨fun h=>?_,fun h=>?_⟩
 ·rw [if_pos h] at hc
  unfold make;simp only [hc];rfl
 ·rw [if_neg h] at hc
  have h0:(make L n).2.1=0:=by
   unfold make;simp only [hc];rw [if_neg (by simp)];split
   ·rfl
   ·rw [if_neg (by omega)]
  obtain ⟨M,e⟩:=jEM L n
  obtain ⟨m1,m2,_⟩:=jCN h0
  have hw:=jGO hW n
  have hfew:=jCO L n
  rw [e] at m1 m2 hw hfew
  refine ⟨(make L n).1,M,by rw [← e,← h0],m1,m2,hw,?_,?_,hfew⟩
  ·rw [(hw.node m1).2.2.2.2.2.1,m2,← hs]
   congr 2
   exact List.map_congr_left (fun k hk'=>uB (hk k hk'))
  ·rw [(hw.node m1).2.2.2.2.2.2,m2,← hd]
   congr 1
   have:∀(l:List Int) (d:Int),(∀k∈l,inP L k=true)→l.foldl (fun d k=>max d (depthOf (L++M) k)) d=l.foldl (fun d k=>max d (depthOf L k)) d:=by
    intro l;induction l with
    | nil=>intro d _;rfl
    | cons a l ih=>intro d hh;simp only [List.foldl_cons];rw [yI (hh a (by simp))];exact ih _ (fun k hk=>hh k (by simp [hk]))
   exact this _ _ hk
structure LP (T:Tree) (sz d:Int):Prop where
 s1:1≤sz
 d1:1≤d
 yes:∀i s,0≤i→0≤s→s+sz≤4096→i+d≤64→looks i s T=(0,s+sz)
 no:∀i s,0≤i→0≤s→(4096<s+sz∨64<i+d)→(looks i s T).1=52
theorem LP0 {k f t u:Int} {x:ByteArray} (h:zZ ⟨k,f,t,u,x,0,0⟩ 0=0):LP (.mk k f t u x []) 1 1:=by
 refine ⟨by omega,by omega,fun i s hi hs h1 h2=>?_,fun i s hi hs h1=>?_⟩
 ·rw [looks,if_neg (by omega),if_neg (by omega)];simp [zB,h]
 ·rw [looks];split
  ·rfl
  ·rw [if_pos (by omega)]
theorem LP1 {k f t u:Int} {x:ByteArray} {A:Tree} {sa da:Int} (h:zZ ⟨k,f,t,u,x,0,0⟩ 1=0) (hA:LP A sa da):LP (.mk k f t u x [A]) (1+sa) (da+1):=by
 have a1:=hA.s1;have a2:=hA.d1;refine ⟨by omega,by omega,fun i s hi hs h1 h2=>?_,fun i s hi hs h1=>?_⟩
 ·rw [looks,if_neg (by omega),if_neg (by omega)];simp only [List.length_cons,List.length_nil,zB,h,if_pos,hA.yes (i+1) (s+1) (by omega) (by omega) (by omega) (by omega)];simp;omega
 ·rw [looks];split
  ·rfl
  ·split
   ·rfl
   ·simp only [List.length_cons,List.length_nil,zB,h,if_pos];simpa using hA.no (i+1) (s+1) (by omega) (by omega) (by omega)
theorem LP2 {k f t u:Int} {x:ByteArray} {A B:Tree} {sa da sb db:Int} (h:zZ ⟨k,f,t,u,x,0,0⟩ 2=0) (hA:LP A sa da) (hB:LP B sb db):LP (.mk k f t u x [A,B]) (1+(sa+sb)) (max da db+1):=by
 have a1:=hA.s1;have a2:=hA.d1;have b1:=hB.s1;have b2:=hB.d1;refine ⟨by omega,by omega,fun i s hi hs h1 h2=>?_,fun i s hi hs h1=>?_⟩
 ·rw [looks,if_neg (by omega),if_neg (by omega)];simp only [List.length_cons,List.length_nil,zB,h,if_pos,hA.yes (i+1) (s+1) (by omega) (by omega) (by omega) (by omega),hB.yes (i+1) (s+1+sa) (by omega) (by omega) (by omega) (by omega)];simp;omega
 ·rw [looks];split
  ·rfl
  ·split
   ·rfl
   ·simp only [List.length_cons,List.length_nil,zB,h,if_pos];by_cases hc:s+1+sa≤4096∧i+1+da≤64
    ·rw [hA.yes (i+1) (s+1) (by omega) (by omega) hc.1 hc.2];simpa using hB.no (i+1) (s+1+sa) (by omega) (by omega) (by omega)
    ·have:=hA.no (i+1) (s+1) (by omega) (by omega) (by omega);rw [this];simp
end Go.Sp
end
section
open Go Go.SE
namespace Go.Sp
open Go.Proofs
theorem yO {k f t u:Int} {x:ByteArray} {len:Nat} (h:zZ ⟨k,f,t,u,x,0,0⟩ len=0):jY ⟨k,f,t,u,x,0,0⟩=0∧(len:Int)=(jL k).kids∧jT (jL k) ⟨k,f,t,u,x,0,0⟩=0:=by
 unfold zZ at h;simp only at h;by_cases h1:jY ⟨k,f,t,u,x,0,0⟩=0
 ·rw [if_pos h1] at h;by_cases h2:(len:Int)≠(jL k).kids
  ·rw [if_pos h2] at h;simp at h
  ·rw [if_neg h2] at h;exact ⟨h1,Classical.byContradiction h2,by simpa using h⟩
 ·rw [if_neg h1] at h;rw [if_neg h1] at h;exact absurd h h1
theorem jGN {L:Pool} {n:Node} (hW:Wf L) (hp:jY n=0) (ha:(jL n.kind).kids<1→n.a=0) (hb:(jL n.kind).kids<2→n.b=0) (hf:jT (jL n.kind) n=0) (hk:∀k∈zF n,inP L k=true)
  {sz d:Int} (hs:1+((zF n).map (sizeOf L)).sum=sz) (hd:(zF n).foldl (fun d t=>max d (depthOf L t)) 0+1=d) (h:¬ (sz>4096∨d>64)) :
  (∃r M,make L n=(r,0,L++M)∧inP (L++M) r=true∧kX (L++M) r=n∧Wf (L++M)∧sizeOf (L++M) r=sz∧depthOf (L++M) r=d∧(L++M).length≤L.length+1)∨((make L n).2.1=6∧65536≤L.length):=by
 by_cases hl:L.length<65536
 ·exact .inl ((mk_ok hW hl hp ha hb hf hk hs hd).2 h)
 have hc:=jAN hp ha hb hf hk
 rw [hs,hd,if_neg h] at hc
 cases hfd:find L n with
 | none =>
  right
  unfold make;simp only [hc,hfd]
  rw [if_neg (by simp),if_pos (by omega)]
  exact ⟨rfl,by omega⟩
 | some i =>
  left
  obtain ⟨hi,e⟩:=oS hfd
  have hm:make L n=((i:Int)+1,0,L):=by unfold make;simp only [hc,hfd];rw [if_neg (by simp)]
  have hin:inP L ((i:Int)+1)=true:=vJ.2 ⟨by omega,by omega⟩
  have hn:kX L ((i:Int)+1)=n:=by rw [yQ hi,e]
  have hw:=hW.node hin
  rw [hn] at hw
  refine ⟨_,[],by rw [hm,List.append_nil],by rw [List.append_nil];exact hin,by rw [List.append_nil];exact hn,by rw [List.append_nil];exact hW,?_,?_,by simp⟩
  ·rw [List.append_nil,← hs,hw.2.2.2.2.2.1]
  ·rw [List.append_nil,← hd,hw.2.2.2.2.2.2]
abbrev Grown (L:Pool) (T:Tree) (sz d:Int) (q:Int×Int×Pool):Prop:=(∃r M,q=(r,0,L++M)∧inP (L++M) r=true∧Wf (L++M)∧sizeOf (L++M) r=sz∧depthOf (L++M) r=d∧((L++M).length:Int)≤L.length+sz)∨(q.2.1=6∧65536<L.length+sz)
structure GP (T:Tree) (sz d:Int):Prop extends LP T sz d where
 grw:∀L,Wf L→sz≤4096→d≤64→Grown L T sz d (grow L T)
theorem GP0 {k f t u:Int} {x:ByteArray} (h:zZ ⟨k,f,t,u,x,0,0⟩ 0=0):GP (.mk k f t u x []) 1 1:=by
 refine ⟨LP0 h,fun L hW h1 h2=>?_⟩;obtain ⟨o1,o2,o3⟩:=yO h;have hk:zF ⟨k,f,t,u,x,0,0⟩=[]:=by simp [zF,← o2]
 rw [grow,zK];rcases jGN (n:=⟨k,f,t,u,x,0,0⟩) hW o1 (fun _=>rfl) (fun _=>rfl) o3 (by rw [hk];simp) (sz:=1) (d:=1) (by rw [hk];rfl) (by rw [hk];rfl) (by omega) with ⟨r,M,e,i,_,w,s,dd,l⟩ | ⟨e,l⟩
 ·exact .inl ⟨r,M,e,i,w,s,dd,by omega⟩
 ·exact .inr ⟨e,by omega⟩
theorem GP1 {k f t u:Int} {x:ByteArray} {A:Tree} {sa da:Int} (h:zZ ⟨k,f,t,u,x,0,0⟩ 1=0) (hA:GP A sa da):GP (.mk k f t u x [A]) (1+sa) (da+1):=by
 refine ⟨LP1 h hA.toLP,fun L hW h1 h2=>?_⟩;obtain ⟨o1,o2,o3⟩:=yO h;have s1:=hA.s1;have d1:=hA.d1;rw [grow];rcases hA.grw L hW (by omega) (by omega) with ⟨r,M,e,i,w,s,dd,l⟩ | ⟨e,l⟩
 ·rw [zK,e,if_neg (by simp),if_pos rfl,zK];have hk:zF ⟨k,f,t,u,x,r,0⟩=[r]:=by simp [zF,← o2]
  rcases jGN (n:=⟨k,f,t,u,x,r,0⟩) w o1 (fun hh=>by simp only at hh;omega) (fun _=>rfl) o3 (by rw [hk];intro k hk;simp at hk;rw [hk];exact i) (sz:=1+sa) (d:=da+1) (by rw [hk];simp [s]) (by rw [hk];simp [dd];omega) (by omega) with ⟨r',M',e',i',_,w',s',dd',l'⟩ | ⟨e',l'⟩
  ·exact .inl ⟨r',M++M',by rw [← List.append_assoc];exact e',by rw [← List.append_assoc];exact i',by rw [← List.append_assoc];exact w',by rw [← List.append_assoc];exact s',by rw [← List.append_assoc];exact dd',by rw [← List.append_assoc];omega⟩
  ·exact .inr ⟨e',by omega⟩
 ·rw [zK,if_pos (by rw [e];decide)];exact .inr ⟨e,by omega⟩
theorem GP2 {k f t u:Int} {x:ByteArray} {A B:Tree} {sa da sb db:Int} (h:zZ ⟨k,f,t,u,x,0,0⟩ 2=0) (hA:GP A sa da) (hB:GP B sb db):GP (.mk k f t u x [A,B]) (1+(sa+sb)) (max da db+1):=by
 refine ⟨LP2 h hA.toLP hB.toLP,fun L hW h1 h2=>?_⟩;obtain ⟨o1,o2,o3⟩:=yO h;have s1:=hA.s1;have d1:=hA.d1;have s2:=hB.s1;have d2:=hB.d1;rw [grow];rcases hA.grw L hW (by omega) (by omega) with ⟨r,M,e,i,w,s,dd,l⟩ | ⟨e,l⟩
 ·rw [zK,e,if_neg (by simp),if_pos rfl];simp only;rcases hB.grw (L++M) w (by omega) (by omega) with ⟨r2,M2,e2,i2,w2,ss2,dd2,l2⟩ | ⟨e2,l2⟩
  ·rw [zK,e2,if_neg (by simp),if_neg (by omega),zK];have hk:zF ⟨k,f,t,u,x,r,r2⟩=[r,r2]:=by simp [zF,← o2]
   rcases jGN (n:=⟨k,f,t,u,x,r,r2⟩) w2 o1 (fun hh=>by simp only at hh;omega) (fun hh=>by simp only at hh;omega) o3 (by rw [hk];intro k hk;simp at hk;rcases hk with rfl | rfl;exact jCZ i;exact i2) (sz:=1+(sa+sb)) (d:=max da db+1) (by rw [hk];simp [-List.append_assoc,uB i,s,ss2]) (by rw [hk];simp [-List.append_assoc,yI i,dd,dd2];omega) (by omega) with ⟨r',M',e',i',_,w',s',dd',l'⟩ | ⟨e',l'⟩
   ·exact .inl ⟨r',M++M2++M',by rw [← List.append_assoc,← List.append_assoc];exact e',by rw [← List.append_assoc,← List.append_assoc];exact i',by rw [← List.append_assoc,← List.append_assoc];exact w',by rw [← List.append_assoc,← List.append_assoc];exact s',by rw [← List.append_assoc,← List.append_assoc];exact dd',by rw [← List.append_assoc,← List.append_assoc];omega⟩
   ·exact .inr ⟨e',by omega⟩
  ·rw [zK,if_pos (by rw [e2];decide)];exact .inr ⟨e2,by omega⟩
 ·rw [zK,if_pos (by rw [e];decide)];exact .inr ⟨e,by omega⟩
theorem GP.of {T:Tree} {sz d:Int} (h:GP T sz d) (hs:sz≤4096) (hd:d≤64) {L:Pool} (hW:Wf L):(Sp.of L T).2.1=0∨(Sp.of L T=(0,6,L)∧65536<L.length+sz):=by
 unfold Sp.of;rw [h.yes 0 0 (by omega) (by omega) (by omega) (by omega),if_neg (by simp)];rcases h.grw L hW hs hd with ⟨r,M,e,_⟩ | ⟨e,l⟩
 ·rw [e];simp
 ·rw [if_pos (by rw [e];decide),e];exact .inr ⟨rfl,l⟩
theorem xS (n:Int):IntKind.u64.wrap n=(u64N n:Int)∧u64N n<18446744073709551616:=by
 unfold u64N;rw [IntKind.wrap_u64];omega
theorem jAI {k f t u:Int} {x:ByteArray} {len:Nat} (h:zZ ⟨k,f,t,u,x,0,0⟩ len=0):x.size≤64∧
  ((k=1∧len=0)∨(k=2∧len=0)∨(k=3∧len=0)∨(k=4∧len=2)∨(k=5∧len=1)∨(k=6∧len=0)∨(k=7∧len=1)∨(k=8∧len=1)∨(k=9∧len=1)):=by
 obtain ⟨h1,h2,h3⟩:=yO h
 have hx:x.size≤64:=by
  unfold jT at h3;simp only at h3;split at h3
  ·cases h3
  ·split at h3
   ·cases h3
   ·omega
 have hk:1≤k∧k≤9:=by
  unfold jY at h1;simp only at h1;split at h1
  ·cases h1
  ·rename_i hh;have:vU k=true:=by
    cases hi:vU k with
    | true=>rfl
    | false=>rw [hi] at hh;simp at hh
   unfold vU at this;rw [Bool.and_eq_true,decide_eq_true_eq,decide_eq_true_eq] at this;exact this
 refine ⟨hx,?_⟩
 rcases (show k=1∨k=2∨k=3∨k=4∨k=5∨k=6∨k=7∨k=8∨k=9 by omega) with rfl | rfl | rfl | rfl | rfl | rfl | rfl | rfl | rfl <;> simp [jL] at h2 <;> simp <;> omega
theorem oP {k f t u:Int} {x:ByteArray} (hu:u.toNat<18446744073709551616) (hx:x.size≤64) (nd:∀n,n<18446744073709551616→(Lib.decDigits n).length≤20):(jES k f t u x).length≤300:=by
 have h1:=nd (u64N f) (xS f).2;have h2:=nd (u64N t) (xS t).2;have h3:=nd u.toNat hu;have h4:(quoT x.data.toList).length≤258:=by
  unfold quoT;have:=gM x.data.toList;have hl:x.data.toList.length=x.size:=by rw [Array.length_toList];rfl
  simp only [List.length_cons,List.length_append,List.length_nil];omega
 unfold jES
 repeat' split
 all_goals first | omega | (simp only [List.length_cons,List.length_append,List.length_nil];omega)
theorem jGF (nd:∀n,n<18446744073709551616→(Lib.decDigits n).length≤20) (t:Tree):Good t→NumT t→(shw t).length≤400*cnt t:=by
 induction t using Tree.ind with
 | h k f t u x ks ih =>
  intro hg hn
  obtain ⟨_,_,_,_,_,_,own,kids⟩:=hg
  obtain ⟨_,_,_,_,_,_,hu,hn⟩:=hn
  have hu:0≤u∧u<18446744073709551616:=hu
  obtain ⟨hx,hk⟩:=jAI own
  have hh:=oP (k:=k) (f:=f) (t:=t) (u:=u) (x:=x) (by omega) hx nd
  unfold shw cnt
  have key:(jAD ks).length≤100+400*vM ks:=by
   match ks,kids,ih,hn with
   | [],_,_,_=>simp [jAD]
   | [a],kids,ih,hn =>
    have:=ih 0 (by simp) (kids 0 (by simp)) (hn 0 (by simp))
    simp only [List.getElem_cons_zero] at this
    simp only [jAD,shwR,vM,List.length_cons,List.length_append,List.length_nil];omega
   | a :: b :: r,kids,ih,hn =>
    have h1:=ih 0 (by simp) (kids 0 (by simp)) (hn 0 (by simp))
    have h2:=ih 1 (by simp) (kids 1 (by simp)) (hn 1 (by simp))
    simp only [List.getElem_cons_zero,List.getElem_cons_succ] at h1 h2
    simp only [jAD,shwR,vM,List.length_cons,List.length_append,List.length_nil];omega
  rw [List.length_append];omega
end Go.Sp
end
section
open Go Go.SE
namespace Go.Proofs
attribute [local irreducible] Calls
end Go.Proofs
end
section
open Go Go.SE
namespace Go.Proofs
open Tryd
attribute [local irreducible] Calls
theorem TreeAt.hst {S:NP} {w0 w w':World} {H H':NP} {s:Sl} {t:Sp.Tree} (h:TreeAt S w s t) (hs:Hst w0 H w H' w') (hd:∀b,S b→b<w.heap.size∧¬ H b):TreeAt S w' s t :=
 h.ext hs.ext (fun b hb hh=>hs.disj (G:=S) hd b hb hh)
theorem oC {xs ys:List Sp.Tree} {j:Nat} (hl:xs.length=ys.length) (hj:j<xs.length):Sp.kJ (xs.drop j) (ys.drop j)=(Sp.xY xs[j] (ys[j]'(by omega)) && Sp.kJ (xs.drop (j+1)) (ys.drop (j+1))):=by
 rw [List.drop_eq_getElem_cons hj,List.drop_eq_getElem_cons (show j<ys.length by omega),Sp.kJ]
theorem gK:∀{xs ys:List Sp.Tree},Sp.kJ xs ys=true→xs.length=ys.length
 | [],[],_=>rfl
 | a :: xs,b :: ys,h=>by simp only [Sp.kJ,Bool.and_eq_true] at h;simp [gK h.2]
 | [],b :: ys,h=>by simp [Sp.kJ] at h
 | a :: xs,[],h=>by simp [Sp.kJ] at h
theorem uK {S:NP} (t:Sp.Tree):∀(t':Sp.Tree) (s s':Sl) (w0:World),TreeAt S w0 s t→TreeAt S w0 s' t'→(∀b,S b→b<w0.heap.size) →
  Calls prog 14 #[.agg (vD t s).toArray,.agg (vD t' s').toArray] w0 (fun e w'=>∃r:Bool,e=.returned (.bool r)∧(r=Sp.xY t t'∧Pure w0 w')):=by
 induction t using Sp.Tree.ind with
 | h k f t u x ks ih =>
 intro t' s s' w0 hT hT' hSw
 obtain ⟨k',f',tt',u',x',ks'⟩:=t'
 suffices key:∀K:Bool→WP,(∀r w',(r=Sp.xY (.mk k f t u x ks) (.mk k' f' tt' u' x' ks')∧Pure w0 w')→K r w')→m_P k f t u x s k' f' tt' u' x' s' w0 K from
  w_P _ _ _ _ _ _ _ _ _ _ _ _ w0 _ (key _ (fun _ _ h=>h))
 intro K hK
 have hlen:s.len=ks.length:=by cases hT;assumption
 have hlen':s'.len=ks'.length:=by cases hT';assumption
 have hfit:ks.length≤9223372036854775807:=by cases hT;assumption
 unfold m_P
 rintro y1 rfl
 refine ⟨fun h=>?_,fun h=>?_⟩
 ·intro H7 w7 hs7
  refine hK _ _ ⟨?_,hs7.first⟩
  symm
  apply Bool.eq_false_iff.2
  intro hs
  simp only [Sp.xY,Bool.and_eq_true,decide_eq_true_eq] at hs
  obtain ⟨⟨⟨⟨⟨rfl,rfl⟩,rfl⟩,rfl⟩,rfl⟩,h6⟩:=hs
  have:=gK h6
  simp [hlen,hlen',this] at h
 ·have hne : k = k' ∧ f = f' ∧ t = tt' ∧ u = u' ∧ x = x' ∧ ks.length = ks'.length := by
   simp only [Bool.or_eq_false_iff,bne_eq_false_iff_eq,Bool.not_eq_false',decide_eq_true_eq] at h;obtain ⟨⟨⟨⟨⟨h1,h2⟩,h3⟩,h4⟩,h5⟩,h6⟩:=h;exact ⟨h1,h2,h3,h4,h5,by omega⟩
  obtain ⟨rfl,rfl,rfl,rfl,rfl,hll⟩:=hne
  have hsp:Sp.xY (.mk k f t u x ks) (.mk k f t u x ks')=Sp.kJ ks ks':=by simp [Sp.xY]
  rw [hsp] at hK
  intro H7 w7 hs7
  refine ⟨fun i H w'=>∃j:Nat,i=j∧j≤ks.length∧Pure w0 w'∧Sp.kJ ks ks'=Sp.kJ (ks.drop j) (ks'.drop j),fun i _=>((ks.length:Int) - i).toNat,⟨0,rfl,Nat.zero_le _,hs7.first,rfl⟩,?_⟩
  rintro _ Hl wl hl ⟨j,rfl,hj,El,heq⟩
  unfold m_P_l1
  refine ⟨fun hc=>?_,fun hc=>?_⟩
  ·have hlt:=jCP hlen hc
   have hlt':j<ks'.length:=by omega
   rw [oC hll hlt] at heq
   have g1:∃a r,At s j 6 a∧S a.block∧(∀w',Pure w0 w'→Row w' a (vD ks[j] r))∧TreeAt S w0 r ks[j]:=by
    cases hT with
    | mk _ _ _ _ _ _ _ rs len fit row kid=>obtain ⟨a,h1,h2,h3⟩:=row j hlt;exact ⟨a,rs j,h1,h2,fun w' E=>E.row h3 id,kid j hlt⟩
   have g2:∃a r,At s' j 6 a∧S a.block∧(∀w',Pure w0 w'→Row w' a (vD ks'[j] r))∧TreeAt S w0 r ks'[j]:=by
    cases hT' with
    | mk _ _ _ _ _ _ _ rs len fit row kid=>obtain ⟨a,h1,h2,h3⟩:=row j hlt';exact ⟨a,rs j,h1,h2,fun w' E=>E.row h3 id,kid j hlt'⟩
   obtain ⟨a,r,hat,_,hr,hk⟩:=g1
   obtain ⟨a',r',hat',_,hr',hk'⟩:=g2
   refine ⟨fun w'=>Pure w0 w',El.trans (Ext.drew wl),?_⟩
   rintro _ rfl
   have Ed:=El.trans (Ext.drew wl)
   refine ⟨a,hat,_,_,_,_,_,r,fun w' h=>hr w' h,a',hat',_,_,_,_,_,r',fun w' h=>hr' w' h,?_⟩
   refine (ih j hlt ks'[j] r r' wl.drew (hk.pure Ed) (hk'.pure Ed) (fun b hb=>by have:=hSw b hb;have:=Ed.size;omega)).mono ?_
   rintro _ w13 ⟨q,rfl,rfl,E13⟩
   refine ⟨_,rfl,Ed.trans E13,E13.keptP,fun h=>?_,fun h=>?_⟩
   ·have h:Sp.xY ks[j] ks'[j]=false:=by simpa using h
    exact hK _ _ ⟨by rw [heq,h];rfl,Ed.trans E13⟩
   ·have h:Sp.xY ks[j] ks'[j]=true:=by simpa using h
    rw [h,Bool.true_and] at heq
    rw [lT hlt (by omega)]
    exact ⟨⟨j+1,rfl,hlt,Ed.trans E13,heq⟩,jFM hlt⟩
  ·have hge:=jDD hlen hj hc
   subst hge
   rw [List.drop_length,hll,List.drop_length] at heq
   exact hK _ _ ⟨heq.symm,El⟩
end Go.Proofs
end
section
open Go Go.SE
namespace Go.Proofs
attribute [local irreducible] Calls
end Go.Proofs
end
section
open Go Go.SE
namespace Go.Proofs
open Tryd
attribute [local irreducible] Calls
theorem AppO.appAt {w0 w:World} {H:NP} {b r:Sl} {acc:List UInt8} (h:AppO w0 H w b r acc) (l:List UInt8) (hne:l≠[]) (hl:acc.length+l.length≤200000000) {p:Addr} (hp:Row w p (l.map fun c=>Value.int .u8 (c.toNat:Int))) :
  ∃s w2,(Builtin.append_ #[49,49] 49 #[r.v,(Sl.mk (some p) l.length l.length).v]).run prog w=.ok s.v w2∧Kept H w w2∧AppO w0 H w2 b s (acc++l)∧Ext r.blk w w2∧∀k,s.blk k→r.blk k∨w.heap.size≤k:=by
 obtain ⟨s,w2,hr,R,X,o⟩:=h.rows.appends (P:=prog) (ty:=49) (qs:=byr l) (c:=l.length) uI (by rw [yU];exact hp) (uL l) (tZ l) (by intro e;exact hne (by simpa [byr] using e)) (by rw [zG,zG];omega) (by rw [zG,zG];simp [maxLen];omega)
 rw [zG] at hr
 obtain ⟨k1,k2⟩:=h.call (r2:=s) (acc2:=acc++l) ⟨by simpa [byr] using R,X,o⟩
 exact ⟨s,w2,hr,k1,k2,X,o⟩
def jFT (fd:FuncId) (t:Sp.Tree):Prop:=∀(S:NP) (sl b:Sl) (acc:List UInt8) (w0:World) (B0:Nat),TreeAt S w0 sl t→(∀k,S k→k<B0)→B0≤w0.heap.size→Rws w0 5 1 b (byr acc)→(∀k,b.blk k→B0≤k)→acc.length+400*Sp.cnt t≤80000000→(∀w,Ext (fun k=>B0≤k) w0 w→Pow w) →
 Calls prog fd #[b.v,.agg (vD t sl).toArray] w0 (fun e w'=>∃r:Sl,e=.returned r.v∧AppR w0 b r (acc++Sp.shw t) w')
abbrev ShownC (t:Sp.Tree):Prop:=jFT 19 t
set_option maxHeartbeats 1000000 in
theorem xB (fd:FuncId) {S:NP} {w0 w2:World} {H:NP} {b b2 sa:Sl} {acc:List UInt8} {B0:Nat} {A:Sp.Tree} {a1:Addr} (cc:UInt8) (C1:WP) (hA:jFT fd A) (O:AppO w0 H w2 b b2 acc) (hbB:∀k,b.blk k→B0≤k) (hB0:B0≤w0.heap.size) (hS:∀k,S k→k<B0) (hlen:acc.length+400*Sp.cnt A≤79999900)
  (hsl:(Sp.shw A).length≤400*Sp.cnt A) (hP:∀w,Ext (fun k=>B0≤k) w0 w→Pow w) (hC:C1 w2) (hCt:∀w,C1 w→TreeAt S w sa A) (hCe:∀w w',C1 w→Ext (fun k=>B0≤k) w w'→C1 w') (K:Sl→WP) (hK:∀r w',AppR w0 b r (acc++cc :: (Sp.shw A++[41])) w'→K r w') :
  (∀(p2:Addr) (w3:World),New w2 (.cells #[(.int .u8 (cc.toNat:Int))] 5) p2 w3→C1 w3 ∧
 (∃s1:Sl,∃w4:World,(Builtin.append_ #[49,49] 49 #[b2.v,(Sl.mk (some p2) 1 1).v]).run prog w3=.ok s1.v w4∧C1 w4 ∧
 Kept H w3 w4 ∧
 (Calls prog fd #[s1.v,.agg (vD A sa).toArray] w4 (fun e w5=>∃r1:Sl,e=.returned r1.v∧C1 w5∧
  Kept H w4 w5 ∧
  ∀(p3:Addr) (w6:World),New w5 (.cells #[(.int .u8 41)] 5) p3 w6→C1 w6 ∧
  ∃s2:Sl,∃w7:World,(Builtin.append_ #[49,49] 49 #[r1.v,(Sl.mk (some p3) 1 1).v]).run prog w6=.ok s2.v w7∧C1 w7 ∧
  Kept H w6 w7 ∧
  K s2 w7)) ∧
 (∀(p4:Addr) (w8:World),New w4 (.cells #[(.int .u8 41)] 5) p4 w8→C1 w8 ∧
 Calls prog fd #[s1.v,.agg (vD A sa).toArray] w8 (fun e w9=>∃r2:Sl,e=.returned r2.v∧C1 w9∧
  Kept H w8 w9 ∧
  ∃s3:Sl,∃w10:World,(Builtin.append_ #[49,49] 49 #[r2.v,(Sl.mk (some p4) 1 1).v]).run prog w9=.ok s3.v w10∧C1 w10 ∧
  Kept H w9 w10 ∧
  K s3 w10))) ∧
 (∀(p5:Addr) (w11:World),New w3 (.cells #[(.int .u8 41)] 5) p5 w11→C1 w11 ∧
 ∃s4:Sl,∃w12:World,(Builtin.append_ #[49,49] 49 #[b2.v,(Sl.mk (some p2) 1 1).v]).run prog w11=.ok s4.v w12∧C1 w12 ∧
 Kept H w11 w12 ∧
 Calls prog fd #[s4.v,.agg (vD A sa).toArray] w12 (fun e w13=>∃r3:Sl,e=.returned r3.v∧C1 w13∧
  Kept H w12 w13 ∧
  ∃s5:Sl,∃w14:World,(Builtin.append_ #[49,49] 49 #[r3.v,(Sl.mk (some p5) 1 1).v]).run prog w13=.ok s5.v w14∧C1 w14 ∧
  Kept H w13 w14 ∧
  K s5 w14))) ∧
 (∀(p6:Addr) (w15:World),New w2 (.cells #[(.int .u8 41)] 5) p6 w15→C1 w15 ∧
 ∀(p7:Addr) (w16:World),New w15 (.cells #[(.int .u8 (cc.toNat:Int))] 5) p7 w16→C1 w16 ∧
 ∃s6:Sl,∃w17:World,(Builtin.append_ #[49,49] 49 #[b2.v,(Sl.mk (some p7) 1 1).v]).run prog w16=.ok s6.v w17∧C1 w17 ∧
 Kept H w16 w17 ∧
 Calls prog fd #[s6.v,.agg (vD A sa).toArray] w17 (fun e w18=>∃r4:Sl,e=.returned r4.v∧C1 w18∧
  Kept H w17 w18 ∧
  ∃s7:Sl,∃w19:World,(Builtin.append_ #[49,49] 49 #[r4.v,(Sl.mk (some p6) 1 1).v]).run prog w18=.ok s7.v w19∧C1 w19 ∧
  Kept H w18 w19 ∧
  K s7 w19)):=by
 have bB:∀{w:World} {r:Sl} {acc:List UInt8},AppO w0 H w b r acc→∀k,r.blk k→B0≤k:=fun O k hk=>(O.new k hk).elim (hbB k) (fun h=>by omega)
 have cP:∀{w w':World},C1 w→Pure w w'→C1 w':=fun h E=>hCe _ _ h E.pure
 have cX:∀{w w':World} {r:Sl} {acc:List UInt8},C1 w→AppO w0 H w b r acc→Ext r.blk w w'→C1 w':=fun h O X=>hCe _ _ h (X.mono (fun k _ hk=>bB O k hk))
 have lay:∀{w:World} {r:Sl} {acc2:List UInt8} {c:UInt8} {p:Addr},acc2.length≤80000000→AppO w0 H w b r acc2→C1 w→Row w p [.int .u8 (c.toNat:Int)]→∃s w',(Builtin.append_ #[49,49] 49 #[r.v,(Sl.mk (some p) 1 1).v]).run prog w=.ok s.v w'∧C1 w'∧Kept H w w'∧AppO w0 H w' b s (acc2++[c])∧Ext r.blk w w'∧∀k,s.blk k→r.blk k∨w.heap.size≤k:=fun {w r acc2 c p} hl O' hC' hp=>by
  obtain ⟨s,w',h1,h2,h3,h4,h5⟩:=O'.appAt [c] (by simp) (by simp;omega) (p:=p) hp;exact ⟨s,w',h1,cX hC' O' h4,h2,h3,h4,h5⟩
 have tree:∀{w:World} {r:Sl},AppO w0 H w b r (acc++[cc])→C1 w→Calls prog fd #[r.v,.agg (vD A sa).toArray] w (fun e w'=>∃r2:Sl,e=.returned r2.v∧C1 w'∧Kept H w w'∧AppO w0 H w' b r2 (acc++[cc]++Sp.shw A)∧Ext r.blk w w'):=fun {w r} O' hC'=>by
  have hE:Ext (fun k=>B0≤k) w0 w:=O'.ext.mono (fun k _ hk=>hbB k hk);refine (hA S sa r (acc++[cc]) w B0 (hCt w hC') hS (by have:=O'.ext.size;omega) O'.rows (bB O') (by simp;omega) (fun w' E=>hP w' (hE.trans E))).mono ?_;rintro _ w' ⟨r2,rfl,hR⟩;obtain ⟨k1,k2⟩:=O'.call hR;exact ⟨r2,rfl,cX hC' O' hR.ext,k1,k2,hR.ext⟩
 have l2:(acc++[cc]++Sp.shw A).length≤80000000:=by simp only [List.length_append,List.length_cons,List.length_nil];omega
 have fin:∀{w:World} {s:Sl},AppO w0 H w b s (acc++[cc]++Sp.shw A++[41])→K s w:=fun O'=>hK _ _ (by have:=O'.done;simpa using this)
 refine ⟨fun p2 w3 n2=>?_,fun p6 w15 n6=>?_⟩
 ·have E3:Pure w2 w3:=Ext.new n2
  have O3:=O.pure E3
  have c3:=cP hC E3
  have R2:=(Box.of_new n2).row
  have y2:=n2.at_size
  refine ⟨c3,?_,fun p5 w11 n5=>?_⟩
  ·obtain ⟨s1,w4,h1,c4,k4,O4,X4,o4⟩:=lay (c:=cc) (by omega) O3 c3 R2
   refine ⟨s1,w4,h1,c4,k4,?_,fun p4 w8 n4=>?_⟩
   ·refine (tree O4 c4).mono ?_
    rintro _ w5 ⟨r1,rfl,c5,k5,O5,X5⟩
    refine ⟨r1,rfl,c5,k5,fun p3 w6 n3=>?_⟩
    have E6:Pure w5 w6:=Ext.new n3
    obtain ⟨s2,w7,h2,c7,k7,O7,_⟩:=lay (c:=41) l2 (O5.pure E6) (cP c5 E6) (Box.of_new n3).row
    exact ⟨cP c5 E6,s2,w7,h2,c7,k7,fin O7⟩
   ·have E8:Pure w4 w8:=Ext.new n4
    have c8:=cP c4 E8
    refine ⟨c8,?_⟩
    have O8:=O4.pure E8
    refine (tree O8 c8).mono ?_
    rintro _ w9 ⟨r2,rfl,c9,k9,O9,X9⟩
    have y4:=n4.at_size
    have R9:=X9.row (Box.of_new n4).row (fun hh=>by have:=O4.rows.lt hh;omega)
    obtain ⟨s3,w10,h3,c10,k10,O10,_⟩:=lay (c:=41) l2 O9 c9 R9
    exact ⟨r2,rfl,c9,k9,s3,w10,h3,c10,k10,fin O10⟩
  ·have E11:Pure w3 w11:=Ext.new n5
   have O11:=O3.pure E11
   have c11:=cP c3 E11
   have y5:=n5.at_size
   refine ⟨c11,?_⟩
   obtain ⟨s4,w12,h4,c12,k12,O12,X12,o12⟩:=lay (c:=cc) (by omega) O11 c11 (((Box.of_new n2).pure E11).row)
   refine ⟨s4,w12,h4,c12,k12,?_⟩
   refine (tree O12 c12).mono ?_
   rintro _ w13 ⟨r3,rfl,c13,k13,O13,X13⟩
   have z11:=(Box.of_new n5).lt
   have nb:¬ b2.blk p5.block:=fun hh=>by have:=O3.rows.lt hh;omega
   have R13:=X13.row (X12.row (Box.of_new n5).row nb) (fun hh=>(o12 _ hh).elim nb (fun h=>by omega))
   obtain ⟨s5,w14,h5,c14,k14,O14,_⟩:=lay (c:=41) l2 O13 c13 R13
   exact ⟨r3,rfl,c13,k13,s5,w14,h5,c14,k14,fin O14⟩
 ·have E15:Pure w2 w15:=Ext.new n6
  have O15:=O.pure E15
  have c15:=cP hC E15
  have y6:=n6.at_size
  refine ⟨c15,fun p7 w16 n7=>?_⟩
  have E16:Pure w15 w16:=Ext.new n7
  have O16:=O15.pure E16
  have c16:=cP c15 E16
  refine ⟨c16,?_⟩
  obtain ⟨s6,w17,h6,c17,k17,O17,X17,o17⟩:=lay (c:=cc) (by omega) O16 c16 (Box.of_new n7).row
  refine ⟨s6,w17,h6,c17,k17,?_⟩
  refine (tree O17 c17).mono ?_
  rintro _ w18 ⟨r4,rfl,c18,k18,O18,X18⟩
  have z15:=(Box.of_new n6).lt
  have z16:=E16.size
  have nb:¬ b2.blk p6.block:=fun hh=>by have:=O.rows.lt hh;omega
  have R18:=X18.row (X17.row ((Box.of_new n6).pure E16).row nb) (fun hh=>(o17 _ hh).elim nb (fun h=>by omega))
  obtain ⟨s7,w19,h7,c19,k19,O19,_⟩:=lay (c:=41) l2 O18 c18 R18
  exact ⟨r4,rfl,c18,k18,s7,w19,h7,c19,k19,fin O19⟩
end Go.Proofs
namespace Go.Proofs
open Tryd
attribute [local irreducible] Calls
theorem jDU {S:NP} {w0 w:World} {H:NP} {b b2 xs:Sl} {acc:List UInt8} {B0:Nat} {A:Sp.Tree} {k f t u:Int} {y:ByteArray} (hA:ShownC A) (O:AppO w0 H w b b2 acc) (hbB:∀k,b.blk k→B0≤k) (hB0:B0≤w0.heap.size) (hS:∀k,S k→k<B0) (hlen:acc.length+400*Sp.cnt A≤79999900)
  (hsl:(Sp.shw A).length≤400*Sp.cnt A) (hP:∀w,Ext (fun k=>B0≤k) w0 w→Pow w) (hT:TreeAt S w xs (.mk k f t u y [A])) :
  m_K_j1 xs b2 H w (fun r w'=>AppR w0 b r (acc++Sp.jAD [A]) w'):=by
 unfold m_K_j1
 cases hT with
 | mk _ _ _ _ _ _ _ rs len fit row kid =>
 obtain ⟨a1,h1,h2,h3⟩:=row 0 (by simp)
 have k0:=kid 0 (by simp)
 simp only [List.getElem_cons_zero] at h3 k0
 generalize rs 0=sa at *
 obtain ⟨kk,ff,tt,uu,yy,ks⟩:=A
 refine ⟨fun w'=>Row w' a1 (vD (.mk kk ff tt uu yy ks) sa)∧TreeAt S w' sa (.mk kk ff tt uu yy ks),⟨(Ext.drew (F:=None) w).row h3 id,k0.pure (Ext.drew w)⟩,?_⟩
 rintro _ rfl
 refine ⟨a1,h1,kk,ff,tt,uu,yy,sa,fun _ h=>h.1,?_⟩
 exact xB _ (S:=S) (B0:=B0) (A:=.mk kk ff tt uu yy ks) (a1:=a1) 40 (fun w'=>Row w' a1 (vD (.mk kk ff tt uu yy ks) sa)∧TreeAt S w' sa (.mk kk ff tt uu yy ks)) hA (O.pure (Ext.drew w)) hbB hB0 hS hlen hsl hP ⟨(Ext.drew (F:=None) w).row h3 id,k0.pure (Ext.drew w)⟩ (fun _ h=>h.2)
  (fun _ _ h E=>⟨E.row h.1 (fun hh=>by have:=hS _ h2;omega),h.2.ext E (fun b hb hh=>by have:=hS b hb;omega)⟩) (fun r w'=>AppR w0 b r (acc++Sp.jAD [.mk kk ff tt uu yy ks]) w') (fun r w' h=>by simpa [Sp.jAD,Sp.shwR] using h)
set_option maxHeartbeats 1000000 in
theorem jGW (t:Sp.Tree):Sp.Good t→Sp.NumT t→ShownC t:=by
 induction t using Sp.Tree.ind with
 | h k f t u y ks ih =>
  intro hg hn S sl b acc w0 B0 hT hS hB0 hR hbB hlen hP
  obtain ⟨_,_,_,_,_,_,own,kids⟩:=hg
  obtain ⟨_,_,_,_,_,_,hu,hnk⟩:=hn
  have hu:0≤u∧u<18446744073709551616:=hu
  obtain ⟨hy,hk⟩:=Sp.jAI own
  have nd:∀n,n<18446744073709551616→(Lib.decDigits n).length≤20:=fun n h=>nd20 h
  have hh:=Sp.oP (k:=k) (f:=f) (t:=t) (u:=u) (x:=y) (by omega) hy nd
  have hlens:∀i (hi:i<ks.length),(Sp.shw ks[i]).length≤400*Sp.cnt ks[i]:=fun i hi=>Sp.jGF nd ks[i] (kids i hi) (hnk i hi)
  refine w_K b k f t u y sl w0 (fun r w'=>AppR w0 b r (acc++Sp.shw (.mk k f t u y ks)) w') ?_
  unfold m_K
  have O:=AppO.start hR
  have eB:∀{H:NP} {w:World} {r:Sl} {acc:List UInt8},AppO w0 H w b r acc→Ext (fun k=>B0≤k) w0 w:=fun O=>O.ext.mono (fun k _ hk=>hbB k hk)
  have hacc:acc.length≤79999600:=by have:=Sp.jDG (.mk k f t u y ks);omega
  unfold Sp.cnt at hlen
  unfold Sp.shw Sp.jES
  have num:∀(c:UInt8) (n:Nat) (hn:n<18446744073709551616) {H:NP} {w:World} {r:Sl} {acc2:List UInt8},acc2.length≤80000000→AppO w0 H w b r acc2→Calls prog 30 #[r.v,.int .u8 (c.toNat:Int),.int .u64 (n:Int)] w (fun e w'=>∃r2:Sl,e=.returned r2.v∧Kept H w w'∧AppO w0 H w' b r2 (acc2++c :: Lib.decDigits n)):=fun c n hn {H w r acc2} hl O'=>by
   have bB:∀k,r.blk k→B0≤k:=fun k hk=>(O'.new k hk).elim (hbB k) (fun h=>by omega);refine (jBP r acc2 c n hn w O'.rows (by omega) (fun w' E=>hP w' ((eB O').trans (E.mono (fun k _ hk=>bB k hk))))).mono ?_;rintro _ w' ⟨r2,rfl,hA⟩;obtain ⟨k1,k2⟩:=O'.call hA;exact ⟨r2,rfl,k1,k2⟩
  have up:∀{H:NP} {w:World} {r:Sl} {acc2:List UInt8},AppO w0 H w b r acc2→TreeAt S w sl (.mk k f t u y ks):=fun O'=>hT.ext (eB O') (fun b hb hh=>by have:=hS b hb;omega)
  have tail:∀{H:NP} {w:World} {r:Sl} {acc2:List UInt8} {A:Sp.Tree},ks=[A]→acc2.length≤acc.length+300→AppO w0 H w b r acc2→m_K_j1 sl r H w (fun r w'=>AppR w0 b r (acc2++Sp.jAD ks) w'):=fun {H w r acc2 A} e hl O'=>by
   subst e;have:=Sp.xL [A];simp only [Sp.vM] at hlen;have h0:=hlens 0 (by simp);simp only [List.getElem_cons_zero] at h0;exact jDU (by have:=ih 0 (by simp) (kids 0 (by simp)) (hnk 0 (by simp));simpa using this) O' hbB hB0 hS (by omega) h0 hP (up O')
  have one:ks.length=1→∃A,ks=[A]:=fun h=>List.length_eq_one_iff.1 h
  have nil0:ks.length=0→ks=[]:=fun h=>List.length_eq_zero_iff.1 h
  obtain ⟨ef,lf⟩:=Sp.xS f
  obtain ⟨et,lt⟩:=Sp.xS t
  rw [ef,et]
  rcases hk with ⟨rfl,hl⟩ | ⟨rfl,hl⟩ | ⟨rfl,hl⟩ | ⟨rfl,hl⟩ | ⟨rfl,hl⟩ | ⟨rfl,hl⟩ | ⟨rfl,hl⟩ | ⟨rfl,hl⟩ | ⟨rfl,hl⟩
  ·refine Br.t (by decide) (fun H1 w1 hs1=>?_)
   refine (num 110 _ lf (by omega) (O.hst hs1)).mono ?_
   rintro _ w2 ⟨r,rfl,k2,O2⟩
   exact ⟨r,rfl,k2,by have:=O2.done;rw [nil0 hl];simpa [Sp.jAD] using this⟩
  ·refine Br.f (by decide) (Br.t (by decide) (fun H1 w1 hs1=>?_))
   obtain ⟨n,rfl⟩:∃n:Nat,u=n:=⟨u.toNat,by omega⟩
   refine (num 35 n (by omega) (by omega) (O.hst hs1)).mono ?_
   rintro _ w2 ⟨r,rfl,k2,O2⟩
   exact ⟨r,rfl,k2,by have:=O2.done;rw [nil0 hl];simpa [Sp.jAD] using this⟩
  ·refine Br.f (by decide) (Br.f (by decide) (Br.f (by decide) (Br.t (by decide) (fun H1 w1 hs1=>?_))))
   have O1:=O.hst hs1
   refine (jBO b acc y w1 O1.rows (by omega) (by omega)).mono ?_
   rintro _ w2 ⟨r,rfl,hA⟩
   obtain ⟨k1,k2⟩:=O1.call hA
   exact ⟨r,rfl,k1,by have:=k2.done;rw [nil0 hl];simpa [Sp.jAD] using this⟩
  ·-- a pair
   obtain ⟨A,B,rfl⟩:∃A B,ks=[A,B]:=by
    match ks,hl with
    | [A,B],_=>exact ⟨A,B,rfl⟩
   refine Br.f (by decide) (Br.f (by decide) (Br.f (by decide) (Br.f (by decide) (Br.t (by decide) (fun H1 w1 hs1=>?_)))))
   have O1:=O.hst hs1
   simp only [Sp.vM] at hlen
   have T1:=up O1
   have iA:=ih 0 (by simp) (kids 0 (by simp)) (hnk 0 (by simp))
   have iB:=ih 1 (by simp) (kids 1 (by simp)) (hnk 1 (by simp))
   have lA:=hlens 0 (by simp)
   have lB:=hlens 1 (by simp)
   simp only [List.getElem_cons_zero,List.getElem_cons_succ] at iA iB lA lB
   cases T1 with
   | mk _ _ _ _ _ _ _ rs len fit row kid =>
   obtain ⟨a1,p1,p2,p3⟩:=row 0 (by simp)
   obtain ⟨a2,q1,q2,q3⟩:=row 1 (by simp)
   have k0:=kid 0 (by simp)
   have k1:=kid 1 (by simp)
   simp only [List.getElem_cons_zero,List.getElem_cons_succ] at p3 q3 k0 k1
   generalize rs 0=sa at *
   generalize rs 1=sb at *
   obtain ⟨ka,fa,ta,ua,ya,ksa⟩:=A
   obtain ⟨kb,fb,tb,ub,yb,ksb⟩:=B
   have CE:∀w w',(Row w a1 (vD (.mk ka fa ta ua ya ksa) sa)∧TreeAt S w sa (.mk ka fa ta ua ya ksa)∧Row w a2 (vD (.mk kb fb tb ub yb ksb) sb)∧TreeAt S w sb (.mk kb fb tb ub yb ksb))→Ext (fun k=>B0≤k) w w'→(Row w' a1 (vD (.mk ka fa ta ua ya ksa) sa)∧TreeAt S w' sa (.mk ka fa ta ua ya ksa)∧Row w' a2 (vD (.mk kb fb tb ub yb ksb) sb)∧TreeAt S w' sb (.mk kb fb tb ub yb ksb)):=fun w w' h E =>
    ⟨E.row h.1 (fun hh=>by have:=hS _ p2;omega),h.2.1.ext E (fun b hb hh=>by have:=hS b hb;omega),E.row h.2.2.1 (fun hh=>by have:=hS _ q2;omega),h.2.2.2.ext E (fun b hb hh=>by have:=hS b hb;omega)⟩
   have c1:=CE _ _ ⟨p3,k0,q3,k1⟩ (Ext.drew (F:=fun k=>B0≤k) w1)
   refine ⟨fun w=>Row w a1 (vD (.mk ka fa ta ua ya ksa) sa)∧TreeAt S w sa (.mk ka fa ta ua ya ksa)∧Row w a2 (vD (.mk kb fb tb ub yb ksb) sb)∧TreeAt S w sb (.mk kb fb tb ub yb ksb),c1,?_⟩
   rintro _ rfl
   refine ⟨a1,p1,ka,fa,ta,ua,ya,sa,fun _ h=>h.1,?_⟩
   have Od:=O1.pure (Ext.drew w1)
   intro p8 w25 n8
   have E25:Pure w1.drew w25:=Ext.new n8
   refine ⟨CE _ _ c1 E25.pure,?_⟩
   have c25:=CE _ _ c1 E25.pure
   have bB:∀{H:NP} {w:World} {r:Sl} {acc:List UInt8},AppO w0 H w b r acc→∀k,r.blk k→B0≤k:=fun O' k hk=>(O'.new k hk).elim (hbB k) (fun h=>by omega)
   have O25:=Od.pure E25
   obtain ⟨s8,w26,r8,k26,O26,X26,_⟩:=O25.appAt [40] (by simp) (by simp;omega) (Box.of_new n8).row
   have c26:=CE _ _ c25 (X26.mono (fun k _ hk=>bB O25 k hk))
   refine ⟨s8,w26,r8,c26,k26,?_⟩
   refine (iA S sa s8 (acc++[40]) w26 B0 c26.2.1 hS (by have:=O26.ext.size;omega) O26.rows (bB O26) (by simp;omega) (fun w' E=>hP w' ((eB O26).trans E))).mono ?_
   rintro _ w27 ⟨r9,rfl,hA9⟩
   obtain ⟨k27,O27⟩:=O26.call hA9
   have c27:=CE _ _ c26 (hA9.ext.mono (fun k _ hk=>bB O26 k hk))
   refine ⟨r9,rfl,c27,k27,?_⟩
   have c28:=CE _ _ c27 (Ext.drew (F:=fun k=>B0≤k) w27)
   refine ⟨fun w=>Row w a1 (vD (.mk ka fa ta ua ya ksa) sa)∧TreeAt S w sa (.mk ka fa ta ua ya ksa)∧Row w a2 (vD (.mk kb fb tb ub yb ksb) sb)∧TreeAt S w sb (.mk kb fb tb ub yb ksb),c28,?_⟩
   rintro _ rfl
   refine ⟨a2,q1,kb,fb,tb,ub,yb,sb,fun _ h=>h.2.2.1,?_⟩
   exact xB _ (S:=S) (B0:=B0) (A:=.mk kb fb tb ub yb ksb) (a1:=a2) 32 (fun w=>Row w a1 (vD (.mk ka fa ta ua ya ksa) sa)∧TreeAt S w sa (.mk ka fa ta ua ya ksa)∧Row w a2 (vD (.mk kb fb tb ub yb ksb) sb)∧TreeAt S w sb (.mk kb fb tb ub yb ksb)) iB (O27.pure (Ext.drew w27)) hbB hB0 hS (by simp;omega) lB hP c28 (fun _ h=>h.2.2.2) CE _ (fun r w' h=>by simpa [Sp.jAD,Sp.shwR] using h)
  ·obtain ⟨A,rfl⟩:=one hl
   refine Br.f (by decide) (Br.f (by decide) (Br.f (by decide) (Br.f (by decide) (Br.f (by decide) (Br.t (by decide) (fun H1 w1 hs1=>?_))))))
   have O1:=O.hst hs1
   intro p15 w46 n15
   obtain ⟨s16,w47,r16,k47,O47⟩:=O1.app [104] (by simp) (by simp;omega) n15
   refine ⟨s16,w47,r16,k47,?_⟩
   have:=tail rfl (by simp) O47
   simpa using this
  ·refine Br.f (by decide) (Br.f (by decide) (Br.t (by decide) (fun H1 w1 hs1=>?_)))
   refine (num 107 _ lf (by omega) (O.hst hs1)).mono ?_
   rintro _ w2 ⟨r,rfl,k2,O2⟩
   exact ⟨r,rfl,k2,by have:=O2.done;rw [nil0 hl];simpa [Sp.jAD] using this⟩
  ·obtain ⟨A,rfl⟩:=one hl
   refine Br.f (by decide) (Br.f (by decide) (Br.f (by decide) (Br.f (by decide) (Br.f (by decide) (Br.f (by decide) (Br.t (by decide) (fun H1 w1 hs1=>?_)))))))
   refine (num 115 _ lf (by omega) (O.hst hs1)).mono ?_
   rintro _ w2 ⟨r,rfl,k2,O2⟩
   refine ⟨r,rfl,k2,?_⟩
   have d1:=nd _ lf
   have:=tail rfl (by simp;omega) O2
   simpa using this
  ·obtain ⟨A,rfl⟩:=one hl
   refine Br.f (by decide) (Br.f (by decide) (Br.f (by decide) (Br.f (by decide) (Br.f (by decide) (Br.f (by decide) (Br.f (by decide) (Br.t (by decide) (fun H1 w1 hs1=>⟨fun _=>True,trivial,?_⟩))))))))
   rintro _ rfl
   have d1:=nd _ lf
   have d2:=nd _ lt
   refine (num 112 _ lf (by omega) ((O.hst hs1).pure (Ext.drew w1))).mono ?_
   rintro _ w2 ⟨r,rfl,k2,O2⟩
   refine ⟨r,rfl,trivial,k2,?_⟩
   refine (num 62 _ lt (by simp;omega) O2).mono ?_
   rintro _ w3 ⟨r2,rfl,k3,O3⟩
   refine ⟨r2,rfl,trivial,k3,?_⟩
   have:=tail rfl (by simp;omega) O3
   simpa using this
  ·obtain ⟨A,rfl⟩:=one hl
   refine Br.f (by decide) (Br.f (by decide) (Br.f (by decide) (Br.f (by decide) (Br.f (by decide) (Br.f (by decide) (Br.f (by decide) (Br.f (by decide) (Br.t (by decide) (fun H1 w1 hs1=>⟨fun _=>True,trivial,?_⟩)))))))))
   rintro _ rfl
   have d1:=nd _ lf
   have d2:=nd _ lt
   refine (num 102 _ lf (by omega) ((O.hst hs1).pure (Ext.drew w1))).mono ?_
   rintro _ w2 ⟨r,rfl,k2,O2⟩
   refine ⟨r,rfl,trivial,k2,?_⟩
   refine (num 62 _ lt (by simp;omega) O2).mono ?_
   rintro _ w3 ⟨r2,rfl,k3,O3⟩
   refine ⟨r2,rfl,trivial,k3,?_⟩
   have:=tail rfl (by simp;omega) O3
   simpa using this
end Go.Proofs
end
section
open Go Go.SE
namespace Go.Sp
def jAY (t:Tree):List UInt8×Int:=if (of [] t).2.1≠0 then ([],(of [] t).2.1) else (shw t,0)
theorem jGL {L:Pool} {t:Tree} (h:(of L t).2.1=0):Good t:=by
 refine jBC t 0 0 ?_;unfold of at h;split at h
 ·rename_i hh;exact absurd h hh
 ·rename_i hh;simpa using hh
end Go.Sp
namespace Go.Proofs
open Tryd
attribute [local irreducible] Calls
theorem jGI {w0 w:World} (h:Pow w0) (E:Ext (fun k=>w0.heap.size≤k) w0 w):Pow w:=yY h (E.mono (fun i hi hh=>by have:w0.heap.size≤i:=hh;omega))
theorem jAH {w0 w w':World} {F:NP} (E:Pure w0 w) (X:Ext F w w') (hF:∀b,F b→w0.heap.size≤b):Pure w0 w':=E.trans' X (fun b hb hf=>by have:=hF b hf;omega)
theorem jEZ {S:NP} (t:Sp.Tree) (s:Sl) (w0:World) (hT:TreeAt S w0 s t) (hS:∀b,S b→b<w0.heap.size) (hn:Sp.NumT t) (hc:Sp.cnt t≤100000) (ht:Pow w0) :
  Calls prog 9 #[.agg (vD t s).toArray] w0 (fun e w'=>∃r:ByteArray,∃er:Int,e=.returned (.tuple #[.string r,.int .i64 er])∧((r=⟨(Sp.jAY t).1.toArray⟩∧er=(Sp.jAY t).2)∧Pure w0 w')):=by
 obtain ⟨k,f,to,u,x,ks⟩:=t
 refine w_K1 k f to u x s w0 (fun r er w'=>(r=⟨(Sp.jAY (.mk k f to u x ks)).1.toArray⟩∧er=(Sp.jAY (.mk k f to u x ks)).2)∧Pure w0 w') ?_
 unfold m_K1
 intro H1 w1 hs1
 have E1:=hs1.first
 have hH:=hs1.here.lt
 refine ⟨fun _=>True,trivial,?_⟩
 rintro _ rfl
 have Ed:Pure w0 w1.drew:=E1.trans (Ext.drew w1)
 refine (c_New w1.drew).mono ?_
 rintro _ w3 ⟨_,rfl,p,rfl,E3,F,hP,hF⟩
 have E03:=Ed.trans E3
 have z1:w1.drew.heap.size=w1.heap.size:=rfl
 have z0:=Ed.size
 refine ⟨_,rfl,trivial,E3.keptP,?_⟩
 refine (c_Of (S:=S) p (.mk k f to u x ks) s w3 (hT.pure E03) hP Sp.Ok.nil (fun b hb hs=>by have:=hF b hb;have:=hS b hs;omega) (fun b hb=>by have:=hS b hb;have:=E03.size;omega)).mono ?_
 rintro _ w4 ⟨r2,r3,rfl,hr,F',hP',X4,hF'⟩
 have E04:Pure w0 w4:=jAH E03 X4 (fun b hb=>by have:=hF b hb;omega)
 refine ⟨_,_,rfl,trivial,X4.kept (fun b hb hf=>by have:=hF b hf;have:=hH b hb;omega),?_⟩
 simp only [Prod.mk.injEq] at hr
 obtain ⟨_,rfl⟩:=hr
 unfold Sp.jAY
 refine ⟨fun h=>?_,fun h=>?_⟩
 ·rw [if_pos (by simpa using h)]
  exact ⟨⟨rfl,rfl⟩,E04⟩
 ·have h0:(Sp.of [] (.mk k f to u x ks)).2.1=0:=by simpa using h
  rw [if_neg (by simpa using h0)]
  have hnil:∀b,¬ Sl.nil.blk b:=fun b hb=>by obtain ⟨a,h,_⟩:=hb;cases h
  refine (jGW (.mk k f to u x ks) (Sp.jGL h0) hn S s Sl.nil [] w4 w0.heap.size (hT.pure E04) hS E04.size (Rws.nil _ _ _) (fun b hb=>(hnil b hb).elim) (by simp;omega) (fun w E=>?_)).mono ?_
  ·exact jGI ht (E04.pure.trans E)
  rintro _ w5 ⟨r,rfl,hA⟩
  refine ⟨r,rfl,hA.ext.kept (fun b hb hh=>(hnil b hh).elim),?_⟩
  refine ⟨_,xZ (P:=prog) underlying49 underlying5 underlying9 hA.rows.lst,⟨by simp,rfl⟩,jAH E04 hA.ext (fun b hb=>(hnil b hb).elim)⟩
end Go.Proofs
end
section
namespace Go.Proofs
open Tryd
open Go.Shelf
def oM:Go.Shelf.Ren:=⟨fun | 14=>54 | 16=>69 | 17=>70 | 19=>80 | 20=>81 | 21=>82 | 22=>83 | 23=>84 | 24=>85 | 25=>92 | 27=>94 | 26=>93 | 28=>97 | 29=>98 | 30=>76 | 31=>77 | 32=>78 | 33=>79 | 35=>88 | 34=>87 | 36=>89 | 37=>90 | 38=>91 | 39=>95 | 40=>96 | n=>n,fun | 9=>9 | 3=>3 | 22=>22 | 24=>101 | 25=>102 | 4=>4 | 34=>127 | 5=>5 | 36=>97 | 37=>49 | 0=>0 | 39=>128 | 21=>21 | 44=>139 | 47=>142 | 50=>145 | 48=>143 | 2=>2 | 52=>122 | 55=>125 | 59=>133 | 60=>134 | 20=>20 | 61=>135 | 65=>146 | 66=>147 | 67=>79 | n=>n,fun | 0=>1 | 1=>2 | 2=>0 | 3=>3 | 4=>4 | n=>n⟩
theorem jAJ:Go.Proofs.LaysPu.n14 prog oM:={
 mixed:=by kernel_rfl
 f14:=func54.trans (congrArg some (by kernel_rfl))
 f16:=func69.trans (congrArg some (by kernel_rfl))
 f17:=func70.trans (congrArg some (by kernel_rfl))
 f19:=func80.trans (congrArg some (by kernel_rfl))
 f20:=func81.trans (congrArg some (by kernel_rfl))
 f21:=func82.trans (congrArg some (by kernel_rfl))
 f22:=func83.trans (congrArg some (by kernel_rfl))
 f23:=func84.trans (congrArg some (by kernel_rfl))
 f24:=func85.trans (congrArg some (by kernel_rfl))
 f25:=func92.trans (congrArg some (by kernel_rfl))
 f26:=func93.trans (congrArg some (by kernel_rfl))
 f27:=func94.trans (congrArg some (by kernel_rfl))
 f28:=func97.trans (congrArg some (by kernel_rfl))
 f29:=func98.trans (congrArg some (by kernel_rfl))
 f30:=func76.trans (congrArg some (by kernel_rfl))
 f31:=func77.trans (congrArg some (by kernel_rfl))
 f32:=func78.trans (congrArg some (by kernel_rfl))
 f33:=func79.trans (congrArg some (by kernel_rfl))
 f34:=func87.trans (congrArg some (by kernel_rfl))
 f35:=func88.trans (congrArg some (by kernel_rfl))
 f36:=func89.trans (congrArg some (by kernel_rfl))
 f37:=func90.trans (congrArg some (by kernel_rfl))
 f38:=func91.trans (congrArg some (by kernel_rfl))
 f39:=func95.trans (congrArg some (by kernel_rfl))
 f40:=func96.trans (congrArg some (by kernel_rfl))
 t0:=underlying0
 a0:=isAgg0
 z0:=sizeOf0
 v0:=zeroValue0
 i0:=by kernel_rfl
 t2:=underlying2
 a2:=isAgg2
 z2:=sizeOf2
 v2:=zeroValue2
 i2:=by kernel_rfl
 t3:=underlying3
 a3:=isAgg3
 z3:=sizeOf3
 v3:=zeroValue3
 i3:=by kernel_rfl
 t4:=underlying4
 a4:=isAgg4
 z4:=sizeOf4
 v4:=zeroValue4
 i4:=by kernel_rfl
 t5:=underlying5
 a5:=isAgg5
 z5:=sizeOf5
 v5:=zeroValue5
 i5:=by kernel_rfl
 t9:=underlying9
 a9:=isAgg9
 z9:=sizeOf9
 v9:=zeroValue9
 i9:=by kernel_rfl
 t20:=underlying20
 a20:=isAgg20
 z20:=sizeOf20
 v20:=zeroValue20
 i20:=by kernel_rfl
 t21:=underlying21
 a21:=isAgg21
 z21:=sizeOf21
 v21:=zeroValue21
 i21:=by kernel_rfl
 t22:=underlying22
 a22:=isAgg22
 z22:=sizeOf22
 v22:=zeroValue22
 i22:=by kernel_rfl
 t24:=underlying101
 a24:=isAgg101
 z24:=sizeOf101
 v24:=zeroValue101
 i24:=by kernel_rfl
 t25:=underlying102
 a25:=isAgg102
 z25:=sizeOf102
 v25:=zeroValue102
 i25:=by kernel_rfl
 t34:=underlying127
 a34:=isAgg127
 z34:=sizeOf127
 v34:=zeroValue127
 i34:=by kernel_rfl
 c34:=by kernel_rfl
 t36:=underlying97
 a36:=isAgg97
 z36:=sizeOf97
 v36:=zeroValue97
 i36:=by kernel_rfl
 t37:=underlying49
 a37:=isAgg49
 z37:=sizeOf49
 v37:=zeroValue49
 i37:=by kernel_rfl
 t39:=underlying128
 a39:=isAgg128
 z39:=sizeOf128
 v39:=zeroValue128
 i39:=by kernel_rfl
 t44:=underlying139
 a44:=isAgg139
 z44:=sizeOf139
 v44:=zeroValue139
 i44:=by kernel_rfl
 t47:=underlying142
 a47:=isAgg142
 z47:=sizeOf142
 v47:=zeroValue142
 i47:=by kernel_rfl
 t48:=underlying143
 a48:=isAgg143
 z48:=sizeOf143
 v48:=zeroValue143
 i48:=by kernel_rfl
 t50:=underlying145
 a50:=isAgg145
 z50:=sizeOf145
 v50:=zeroValue145
 i50:=by kernel_rfl
 t52:=underlying122
 a52:=isAgg122
 z52:=sizeOf122
 v52:=zeroValue122
 i52:=by kernel_rfl
 t55:=underlying125
 a55:=isAgg125
 z55:=sizeOf125
 v55:=zeroValue125
 i55:=by kernel_rfl
 t59:=underlying133
 a59:=isAgg133
 z59:=sizeOf133
 v59:=zeroValue133
 i59:=by kernel_rfl
 t60:=underlying134
 a60:=isAgg134
 z60:=sizeOf134
 v60:=zeroValue134
 i60:=by kernel_rfl
 t61:=underlying135
 a61:=isAgg135
 z61:=sizeOf135
 t65:=underlying146
 a65:=isAgg146
 z65:=sizeOf146
 v65:=zeroValue146
 i65:=by kernel_rfl
 t66:=underlying147
 a66:=isAgg147
 z66:=sizeOf147
 v66:=zeroValue147
 i66:=by kernel_rfl
 t67:=underlying79
 a67:=isAgg79
 z67:=sizeOf79
 v67:=zeroValue79
 i67:=by kernel_rfl
 g0:=by kernel_rfl
 m0:=by kernel_rfl
 g1:=by kernel_rfl
 m1:=by kernel_rfl
 g2:=by kernel_rfl
 m2:=by kernel_rfl
 g3:=by kernel_rfl
 m3:=by kernel_rfl
 g4:=by kernel_rfl
 m4:=by kernel_rfl }
theorem jCV (s:ByteArray) (hmax:s.size≤9223372036854775806) (u:Nat) (h:Lib.parseUintB 64 s.data.toList=.ok u) (w:World) :
  Calls prog 54 #[.string s,.int .i64 10,.int .i64 64] w (fun e w'=>e=.returned (.tuple #[.int .u64 u,.nilIface])∧(w'=w∨w'=Lib.bytesWorld w 5 s)):=Any.strconv_ParseUint_10_at64_ok jAJ s hmax u h w
theorem oO (s : ByteArray) (hlim : s.size ≤ 281474976710656) (h : Lib.parseUintB 64 s.data.toList = .range) (tp : TypeId) (p : Value) (w : World) (hvar : w.var? prog "strconv.ErrRange" = some #[.iface tp p]) :
  Calls prog 54 #[.string s,.int .i64 10,.int .i64 64] w (fun e w'=>∃N,e=.returned (.tuple #[.int .u64 18446744073709551615,.iface 128 (.pointer (some ⟨N,0,none⟩))])∧w.heap.size≤N∧w'.heap[N]?=some (.cells #[.string ⟨#[80,97,114,115,101,85,105,110,116]⟩,.string s,.iface tp p] 139 (0,0))∧RowKit.Below w.heap.size w w'):=Any.strconv_ParseUint_10_at64_range_var jAJ s hlim h tp p w hvar
end Go.Proofs
end
section
open Go Go.SE
namespace Go.SE
theorem oV {B:Nat} {w w':World} (h:RowKit.Below B w w'):Ext (fun b=>B≤b) w w':=⟨h.os,h.tape,h.output,(by first | exact Nat.le_refl _),h.size,fun b _ hf=>h.block b (by omega)⟩
end Go.SE
end
section
open Go Go.SE
namespace Go.Proofs
open Tryd
attribute [local irreducible] Calls
abbrev ErrV (w : World) : Prop := ∃ tp p, w.var? prog "strconv.ErrRange" = some #[.iface tp p]
theorem xD (M:Nat) (hM:M=18446744073709551615):∀(l:List UInt8) (acc:Nat),(∀c∈l,Sp.isDig c=true)→acc≤M→Lib.parseUintM M acc l=if l.foldl (fun n c=>10*n+(c.toNat - 48)) acc≤M then .ok (l.foldl (fun n c=>10*n+(c.toNat - 48)) acc) else .range
 | [],acc,_,ha=>by rw [Lib.parseUintM,List.foldl_nil,if_pos ha]
 | c :: r,acc,hd,ha=>by
  have hc:=hd c (by simp);unfold Sp.isDig at hc;rw [Bool.and_eq_true,decide_eq_true_eq,decide_eq_true_eq] at hc;have mono:∀(l:List UInt8) (a:Nat),a≤l.foldl (fun n c=>10*n+(c.toNat - 48)) a:=by
   intro l;induction l with
   | nil=>intro a;exact Nat.le_refl _
   | cons d l ih=>intro a;rw [List.foldl_cons];have:=ih (10*a+(d.toNat - 48));omega
  have hm:=mono r (10*acc+(c.toNat - 48));rw [Lib.parseUintM,if_pos hc,List.foldl_cons];by_cases h1:1844674407370955162≤acc
  ·rw [if_pos h1,if_neg (by omega)]
  ·rw [if_neg h1];by_cases h2:M<acc*10+(c.toNat - 48)
   ·rw [if_pos h2,if_neg (by omega)]
   ·rw [if_neg h2,Nat.mul_comm acc 10,xD M hM r _ (fun d hd'=>hd d (by simp [hd'])) (by omega)]
theorem jCJ {l:List UInt8} (hd:∀c∈l,Sp.isDig c=true) (hne:l≠[]):Lib.parseUintB 64 l=if Sp.decV l≤18446744073709551615 then .ok (Sp.decV l) else .range:=by
 unfold Lib.parseUintB;rw [if_neg hne];exact xD _ (by decide) l 0 hd (by decide)
theorem tY (l:List UInt8) (hd:∀c∈l,Sp.isDig c=true) (hne:l≠[]) (hl:l.length≤10000000) (w:World) (hv:ErrV w) :
  Calls prog 54 #[.string ⟨l.toArray⟩,.int .i64 10,.int .i64 64] w (fun e w'=>Pure w w'∧((Sp.decV l<18446744073709551616∧e=.returned (.tuple #[.int .u64 (Sp.decV l:Int),.nilIface]))∨(18446744073709551616≤Sp.decV l∧∃k T v,e=.returned (.tuple #[.int .u64 k,.iface T v])))):=by
 have hsz:(ByteArray.mk l.toArray).size=l.length:=by simp [ByteArray.size]
 have hB:=jCJ hd hne
 by_cases h:Sp.decV l≤18446744073709551615
 ·rw [if_pos h] at hB
  refine (jCV ⟨l.toArray⟩ (by omega) _ (by simpa using hB) w).mono ?_
  rintro e w' ⟨rfl,hw⟩
  refine ⟨?_,.inl ⟨by omega,rfl⟩⟩
  rcases hw with rfl | rfl
  ·exact Ext.refl _
  ·exact (oV (Joins.below_bytesWorld w.heap.size w _ _ (Nat.le_refl _))).mono (fun i hi h=>by have:w.heap.size≤i:=h;omega)
 ·rw [if_neg h] at hB
  obtain ⟨tp,p,hv⟩:=hv
  refine (oO ⟨l.toArray⟩ (by omega) (by simpa using hB) tp p w hv).mono ?_
  rintro e w' ⟨N,rfl,_,_,hb⟩
  exact ⟨(oV hb).mono (fun i hi h=>by have:w.heap.size≤i:=h;omega),.inr ⟨by omega,_,_,_,rfl⟩⟩
def jFG (w0:World) (a:Addr):Prop:=∀w,Ext (·=a.block) w0 w→ErrV w
theorem jFG.ext {w0 w1:World} {a:Addr} (h:jFG w0 a) (E:Ext (·=a.block) w0 w1):jFG w1 a:=fun w E'=>h w (E.trans E')
theorem jCA (x:ByteArray) (i k:Nat) (h:i+k≤(bts x).length) (w:World):(Instr.sliceAt 9 (.string x) (some (.int .i64 (i:Int))) (some (.int .i64 ((i+k:Nat):Int))) none).run prog w=.ok (.string ⟨(((bts x).drop i).take k).toArray⟩) w:=by
 have hl:=kO x;rw [run_sliceAt_string _ _ _ _ _ _ underlying9,run_slice_string_if _ _ _ _ _ _ _ underlying9,if_pos ⟨by omega,by omega⟩,if_pos ⟨by omega,by omega⟩];have:x.extract (i:Int).toNat ((i+k:Nat):Int).toNat=⟨(((bts x).drop i).take k).toArray⟩:=by
  simp only [Int.toNat_natCast];apply ByteArray.ext;rw [ByteArray.data_extract];apply Array.toList_inj.1;rw [Array.toList_extract];simp [bts,List.extract_eq_take_drop]
 rw [this]
theorem jCH (w:World):(Go.binOp .neq 101 (.nilIface:Value) (.nilIface:Value)).run prog w=.ok (.bool false) w:=by kernel_rfl
theorem jGG (T:TypeId) (v:Value) (w:World):(Go.binOp .neq 101 (.iface T v) (.nilIface:Value)).run prog w=.ok (.bool true) w:=by kernel_rfl
section
variable (a:Addr) (x:ByteArray) (i n:Nat) (w0:World) (h:Spk w0 a x i n) (hi:i≤(bts x).length) (hc:(bts x).length≤10000000) (hv:jFG w0 a)
include h hi hc hv
theorem jDH:Calls prog 38 #[.pointer (some a)] w0 (fun e w'=>lQ w0 a x n (fun v:Nat=>.int .u64 (v:Int)) e w' (Sp.vZ (bts x) i)):=by
 refine (w_G (some a) w0 (fun o r w'=>lQ w0 a x n (fun v:Nat=>.int .u64 (v:Int)) (match o with | none=>.returned (.int .u64 r) | some ch=>.panicked ch) w' (Sp.vZ (bts x) i)) ?_).mono ?_
 ·unfold m_G;have hl:=kO x;refine ⟨a,rfl,_,zH h,?_⟩;refine (xN a x i n w0 h hi).mono ?_;unfold Sp.vZ;rintro e w1 (⟨d,hd,rfl,E1⟩ | ⟨hd,rfl,E1⟩)
  ·rw [hd];simp only;have hilt:=Sp.lN hd;have hdi:(bts x)[i]=d:=by rw [List.getElem?_eq_getElem hilt] at hd;exact Option.some.inj hd
   have h1:=h.pure E1;refine .inl ⟨_,rfl,E1.keptP,fun hb=>⟨a,rfl,fun H1 w2 hs2=>?_⟩,fun hb=>fun H1 w2 hs2=>?_⟩
   ·have h2:=h1.ext hs2.ext (fun hh=>by have:=hs2.old _ hh;have:=h.lt;omega);refine ⟨_,zH h2,?_⟩;refine (zY (some a) 60 i w2).mono ?_;rintro _ w3 ⟨rfl,rfl⟩;refine .inr ⟨_,rfl,?_⟩;rw [if_pos (by unfold Sp.isDig;simp at hb;simp;omega)];exact ⟨rfl,E1.pure.trans' hs2.ext (fun b hb hh=>by have:=hs2.old _ hh;omega)⟩
   ·have hdig:Sp.isDig d=true:=by unfold Sp.isDig;simp at hb;simp;omega
    rw [if_neg (by rw [hdig];decide)];have nH:∀{H:NP} {w w':World},Hst w0 H w H w'→¬ H a.block:=fun hs hh=>by have:=hs.old _ hh;have:=h.lt;omega
    have h2:=h1.ext hs2.ext (fun hh=>by have:=hs2.old _ hh;have:=h.lt;omega);have E2:Ext (·=a.block) w0 w2:=E1.pure.trans' hs2.ext (fun b hb hh=>by have:=hs2.old _ hh;omega);unfold m_G_j1;have hdl:=Sp.lZ hi;have hne:Sp.jX (bts x) i≠[]:=by rw [Sp.vH hilt (by rw [hdi];exact hdig)];simp
    refine ⟨fun H w=>(∀b,H b→w0.heap.size≤b)∧∃j:Nat,i≤j∧j+(Sp.jX (bts x) j).length=i+(Sp.jX (bts x) i).length∧j≤(bts x).length∧Spk w a x j n∧Ext (·=a.block) w0 w,fun w=>match w.cell? (a.add 1) with | some (.int _ k)=>((bts x).length - k.toNat) | _=>0,⟨fun b hb=>hs2.old b hb,i,Nat.le_refl _,rfl,hi,h2,E2⟩,?_⟩;rintro Hl wl hsl ⟨hHl,j,hij,hjl,hj,hR,hE⟩;unfold m_G_l3;refine ⟨a,rfl,fun w7 hs7=>?_⟩;have hna:=nH hsl;have h7:=hR.ext hs7.ext hna;have E7:Ext (·=a.block) w0 w7:=hE.trans' hs7.ext (fun b hb hh=>by have:=hHl _ hh;omega);have done:Sp.jX (bts x) j=[]→m_G_j2 (some a) (i:Int) w0 Hl w7 (fun o r w'=>lQ w0 a x n (fun v:Nat=>.int .u64 (v:Int)) (match o with | none=>.returned (.int .u64 r) | some ch=>.panicked ch) w' (if Sp.qR (Sp.jX (bts x) i)=true then .no 61 i else .ok (Sp.decV (Sp.jX (bts x) i)) (i+(Sp.jX (bts x) i).length))):=fun e=>by
     have hjj:j=i+(Sp.jX (bts x) i).length:=by rw [e] at hjl;simpa using hjl
     unfold m_G_j2;refine ⟨a,rfl,fun w3 hs3=>?_⟩;have h3:=h7.ext hs3.ext hna;have E3:Ext (·=a.block) w0 w3:=E7.trans' hs3.ext (fun b hb hh=>by have:=hHl _ hh;omega);refine ⟨x,h3.cell0,a,rfl,_,zH h3,_,by rw [hjj];exact jCA x i _ hdl w3,?_⟩;rw [Sp.tJ];have hall:=Sp.jAX (bts x) i;have hsz:(ByteArray.mk (Sp.jX (bts x) i).toArray).size=(Sp.jX (bts x) i).length:=by simp [ByteArray.size]
     have hix:∀(l:List UInt8) (w:World),1<l.length→∃c,l.head?=some c∧(Instr.index 9 (.string ⟨l.toArray⟩) (.int .i64 0)).run prog w=.ok (.int .u8 (c.toNat:Int)) w:=fun l w hl=>by
      cases l with
      | nil=>simp at hl
      | cons c l=>exact ⟨c,rfl,qP ⟨(c :: l).toArray⟩ 0 (by simp [bts]) w⟩
     refine (tY _ hall hne (by omega) w3 (hv w3 E3)).mono ?_;generalize Sp.jX (bts x) i=D at *;rintro _ w4 ⟨E4,⟨hlt,rfl⟩ | ⟨hge,k,T,v,rfl⟩⟩
     ·have h4:=h3.pure E4;have F4:=E3.thenPure E4;refine ⟨_,_,rfl,E4.keptP,_,jCH w4,fun hb=>(by cases hb),fun _=>⟨fun hb=>?_,fun hb=>?_⟩⟩
      ·have hb:1<D.length:=by have:=of_decide_eq_true hb;omega
       obtain ⟨c,hhd,hrun⟩:=hix D w4 hb;refine ⟨_,hrun,fun hz=>?_,fun hz=>?_⟩
       ·refine (zY (some a) 61 i w4).mono ?_;rintro _ w5 ⟨rfl,rfl⟩;refine .inr ⟨_,rfl,?_⟩;rw [if_pos (by
         unfold Sp.qR;have:c=48:=by
          have:=beq_iff_eq.1 hz;apply UInt8.toNat_inj.1;show c.toNat=48;omega
         rw [hhd,this,decide_eq_true hb];simp)]
        exact ⟨rfl,F4⟩
       ·rw [if_neg (by
         unfold Sp.qR;have:c≠48:=fun e=>by subst e;simp at hz
         rw [hhd,decide_eq_false (by omega)];simp [this])]
        rw [hjj] at h4;exact ⟨rfl,h4,F4⟩
      ·rw [if_neg (by
        have:=of_decide_eq_false hb;unfold Sp.qR;rw [decide_eq_false (by omega),decide_eq_false (by omega)];simp)]
       rw [hjj] at h4;exact ⟨rfl,h4,F4⟩
     ·refine ⟨_,_,rfl,E4.keptP,_,jGG T v w4,fun _=>?_,fun hb=>(by cases hb)⟩;refine (zY (some a) 61 i w4).mono ?_;rintro _ w5 ⟨rfl,rfl⟩;refine .inr ⟨_,rfl,?_⟩;rw [if_pos (by unfold Sp.qR;rw [decide_eq_true hge];rfl)];exact ⟨rfl,E3.thenPure E4⟩
    have hdj:∀hlt:j<(bts x).length,¬ (48≤(bts x)[j].toNat∧(bts x)[j].toNat≤57)→Sp.jX (bts x) j=[]:=fun hlt hh=>Sp.yC hlt (by unfold Sp.isDig;rw [Bool.and_eq_false_iff,decide_eq_false_iff_not,decide_eq_false_iff_not];omega);refine ⟨_,zH h7,a,rfl,x,h7.cell0,fun hc=>?_,fun hc=>done (Sp.xA (by have:=of_decide_eq_false hc;omega))⟩;have hlt:j<(bts x).length:=by have:=of_decide_eq_true hc;omega
    refine ⟨a,rfl,x,h7.cell0,a,rfl,_,zH h7,_,qP x j hlt w7,fun hb=>?_,fun hb=>done (hdj hlt (by have:=of_decide_eq_false hb;omega))⟩;refine ⟨a,rfl,x,h7.cell0,a,rfl,_,zH h7,_,qP x j hlt w7,fun hb2=>?_,fun hb2=>done (hdj hlt (by have:=of_decide_eq_false hb2;omega))⟩;refine ⟨a,rfl,_,zH h7,a,rfl,h7.canW (i:=1) (by simp),hna,?_⟩;rintro w8 rfl;rw [zV (show j≤(bts x).length by omega) (by omega)];have hstep:Sp.jX (bts x) j=(bts x)[j] :: Sp.jX (bts x) (j+1):=Sp.vH hlt (by unfold Sp.isDig;rw [Bool.and_eq_true,decide_eq_true_eq,decide_eq_true_eq];have:=of_decide_eq_true hb;have:=of_decide_eq_true hb2;omega);refine ⟨⟨hHl,j+1,by omega,?_,hlt,kK h7 (j+1),E7.trans kP⟩,?_⟩
    ·rw [hstep] at hjl;simp only [List.length_cons] at hjl;omega
    ·show (match (w7.setCell (a.add 1) (.int .i64 ((j+1:Nat):Int))).cell? (a.add 1) with | some (.int _ k)=>((bts x).length - k.toNat) | _=>0)<(match wl.cell? (a.add 1) with | some (.int _ k)=>((bts x).length - k.toNat) | _=>0);rw [zH (kK h7 (j+1)),zH hR];simp only;omega
  ·rw [hd];exact .inr ⟨_,rfl,rfl,E1.pure⟩
 ·rintro e w' (⟨r,rfl,hh⟩ | ⟨ch,rfl,hh⟩) <;> exact hh
theorem jFA (nt:Int):Calls prog 37 #[.pointer (some a),.int .i64 nt] w0 (fun e w'=>lQ w0 a x n (fun v:Nat=>.int .i64 (v:Int)) e w' (Sp.zP (bts x) nt i)):=by
 refine (w_N1 (some a) nt w0 (fun o r w'=>lQ w0 a x n (fun v:Nat=>.int .i64 (v:Int)) (match o with | none=>.returned (.int .i64 r) | some ch=>.panicked ch) w' (Sp.zP (bts x) nt i)) ?_).mono ?_
 ·unfold m_N1;refine ⟨a,rfl,_,zH h,?_⟩;refine (jDH a x i n w0 h hi hc hv).mono ?_;intro e w1;unfold Sp.zP;have hok:=Sp.uR (bts x) i;generalize Sp.vZ (bts x) i=R at *;cases R with
  | no er at_=>rintro ⟨rfl,E⟩;exact .inr ⟨_,rfl,rfl,E⟩
  | ok v j =>
   rintro ⟨rfl,h1,E⟩
   have big:∀hh:(16≤v∨(v:Int)=nt),Calls prog 24 #[.pointer (some a),.int .i64 50,.int .i64 (i:Int)] w1 (fun e w3=>(e=.returned (.tuple #[])∧lQ w0 a x n (fun v:Nat=>.int .i64 (v:Int)) (.returned (.int .i64 (IntKind.i64.wrap (v:Int)))) w3 (if 16≤v∨(v:Int)=nt then .no 50 i else .ok v j))∨∃ch,e=.panicked ch∧lQ w0 a x n (fun v:Nat=>.int .i64 (v:Int)) (.panicked ch) w3 (if 16≤v∨(v:Int)=nt then .no 50 i else .ok v j)):=fun hh=>by
    refine (zY (some a) 50 i w1).mono ?_;rintro _ w2 ⟨rfl,rfl⟩;refine .inr ⟨_,rfl,?_⟩;rw [if_pos hh];exact ⟨rfl,E⟩
   refine .inl ⟨_,rfl,fun hb=>?_,fun hb=>?_⟩
   ·rw [Bool.or_eq_true,decide_eq_true_eq,beq_iff_eq] at hb
    by_cases h16:16≤v
    ·exact big (.inl h16)
    ·rw [IntWalk.i64_in _ (by omega)] at hb
     exact big (.inr (by omega))
   ·rw [Bool.or_eq_false_iff,decide_eq_false_iff_not,beq_eq_false_iff_ne] at hb
    have hw:IntKind.i64.wrap (v:Int)=(v:Int):=IntWalk.i64_in _ (by omega)
    rw [hw] at hb ⊢
    show lQ _ _ _ _ _ _ _ (if 16≤v∨(v:Int)=nt then _ else _)
    rw [if_neg (by omega)]
    exact ⟨rfl,h1,E⟩
 ·rintro e w' (⟨r,rfl,hh⟩ | ⟨ch,rfl,hh⟩) <;> exact hh
end
theorem jDX {P:Program} {t:TypeId} (h:Nat) (hh:h<16) (w:World):(Go.binOp .shl t (.int .u8 (h:Int)) (.int .u64 4)).run P w=.ok (.int .u8 ((16*h:Nat):Int)) w:=by
 have hr:∀k:Fin 16,IntKind.u8.wrap ((k.val:Int)*2 ^ min (4:Int).toNat IntKind.u8.bits)=((16*k.val:Nat):Int):=by decide +kernel
 have:=hr ⟨h,hh⟩;show (Op.shift .shl .u8 (h:Int) .u64 4).run P w=_;unfold Op.shift;simp only at this;simpa using this
theorem jCG {P:Program} {t:TypeId} (h l:Nat) (hh:h<16) (hl:l<16) (w:World):(Go.binOp .or t (.int .u8 ((16*h:Nat):Int)) (.int .u8 (l:Int))).run P w=.ok (.int .u8 ((UInt8.ofNat (16*h+l)).toNat:Int)) w:=by
 have hr:∀k m:Fin 16,IntKind.u8.wrap ((BitVec.ofInt IntKind.u8.bits ((16*k.val:Nat):Int) ||| BitVec.ofInt IntKind.u8.bits (m.val:Int)).toNat:Int)=((UInt8.ofNat (16*k.val+m.val)).toNat:Int):=by decide +kernel
 have:=hr ⟨h,hh⟩ ⟨l,hl⟩;simp only at this;show ((pure (Value.int .u8 _):Sem Value)).run P w=_;rw [this];rfl
theorem jGT {c v:Nat} (h:Sp.tU c=some v):v<16:=by
 unfold Sp.tU at h;split at h
 ·cases h;omega
 ·split at h
  ·cases h;omega
  ·split at h
   ·cases h;omega
   ·cases h
theorem uS {B:List UInt8} {i v j:Nat} (h:Sp.kT B i=.ok v j):v<16:=by
 unfold Sp.kT at h;split at h
 ·cases h
 ·split at h
  ·cases h
  ·rename_i hv;cases h;exact jGT hv
structure DatS (w0 w:World) (a:Addr) (x:ByteArray) (n j:Nat) (b:Sl) (acc:List UInt8):Prop where
 rd:Spk w a x j n
 rows:Rws w 5 1 b (byr acc)
 own:∀k,b.blk k→w0.heap.size≤k
 ext:Ext (·=a.block) w0 w
 la:a.block<w0.heap.size
section
variable {w0 w w':World} {a:Addr} {x:ByteArray} {n j:Nat} {b:Sl} {acc:List UInt8}
theorem DatS.move {j':Nat} (h:DatS w0 w a x n j b acc) (hr:Spk w' a x j' n) (E:Ext (·=a.block) w w'):DatS w0 w' a x n j' b acc :=
 ⟨hr,h.rows.ext E (fun k hk e=>by have:=h.own k hk;have:=h.la;omega),h.own,h.ext.trans E,h.la⟩
theorem DatS.app (h:DatS w0 w a x n j b acc) (c:UInt8) (hl:acc.length≤10000000) {p:Addr} {w1:World} (hn:New w (.cells #[.int .u8 (c.toNat:Int)] 5) p w1) :
  ∃s w2,(Builtin.append_ #[49,49] 49 #[b.v,(Sl.mk (some p) 1 1).v]).run prog w1=.ok s.v w2∧DatS w0 w2 a x n j s (acc++[c]):=by
 have E1:Pure w w1:=Ext.new hn
 obtain ⟨s,w2,hr,R,X,o⟩:=(h.rows.pure E1).append (P:=prog) (ty:=49) (c:=1) uI (r:=[.int .u8 (c.toNat:Int)]) (Box.of_new hn).row rfl rfl (by rw [zG];omega) (by rw [zG];simp [maxLen];omega)
 have z:=h.ext.size
 have z1:=E1.size
 refine ⟨s,w2,hr,⟨(h.rd.pure E1).ext X (fun hh=>by have:=h.own _ hh;have:=h.la;omega),?_,fun k hk=>?_,(h.ext.thenPure E1).trans' X (fun k hk hh=>by have:=h.own k hh;omega),h.la⟩⟩
 ·rw [show byr (acc++[c])=byr acc++[[.int .u8 (c.toNat:Int)]] by simp [byr]];exact R
 ·rcases o k hk with h1 | h1
  ·exact h.own k h1
  ·omega
end
section
variable (a:Addr) (x:ByteArray) (i n:Nat) (w0:World) (h:Spk w0 a x i n) (hq:∃c,(bts x)[i]?=some c∧c.toNat=34) (hc:(bts x).length≤10000000)
include h hq hc
theorem jFC:Calls prog 39 #[.pointer (some a)] w0 (fun e w'=>lQ w0 a x n (fun l:List UInt8=>.string ⟨l.toArray⟩) e w' (Sp.qA (bts x) i)):=by
 obtain ⟨c34,hc34,hv34⟩:=hq;have hil:=Sp.lN hc34;refine (w_H (some a) w0 (fun o r w'=>lQ w0 a x n (fun l:List UInt8=>.string ⟨l.toArray⟩) (match o with | none=>.returned (.string r) | some ch=>.panicked ch) w' (Sp.qA (bts x) i)) ?_).mono ?_
 ·unfold m_H;refine ⟨a,rfl,_,zH h,?_⟩;refine (yS a x i n w0 h (by omega) 34 hc).mono ?_;intro e w1;have ht:Sp.zU (bts x) 34 i=.ok () (i+1):=by unfold Sp.zU;rw [hc34];simp only;rw [if_pos hv34]
  rw [ht];rintro ⟨rfl,h1,E1⟩;have hnil:∀b,¬ Sl.nil.blk b:=fun b hb=>by obtain ⟨a,h,_⟩:=hb;cases h
  refine .inl ⟨rfl,fun b w=>∃(f j:Nat) (acc:List UInt8),j≤(bts x).length∧(bts x).length+1≤f+j∧acc.length≤j∧Sp.vR (bts x) i f j acc=Sp.qA (bts x) i∧DatS w0 w a x n j b acc,fun _ w=>match w.cell? (a.add 1) with | some (.int _ k)=>((bts x).length - k.toNat) | _=>0,⟨(bts x).length+1,i+1,[],hil,by omega,by simp,rfl,⟨h1,Rws.nil _ _ _,fun b hb=>(hnil b hb).elim,E1,h.lt⟩⟩,?_⟩;rintro b wl ⟨f,j,acc,hj,hf,hal,hsp,D⟩;obtain ⟨f,rfl⟩:∃g,f=g+1:=⟨f - 1,by omega⟩;unfold m_H_l1;rw [Sp.vR] at hsp;have again : ∀ {b' : Sl} {w' : World} {j' : Nat} {acc' : List UInt8}, j < j' → j' ≤ (bts x).length → acc'.length ≤ j' → Sp.vR (bts x) i f j' acc' = Sp.qA (bts x) i → DatS w0 w' a x n j' b' acc' →
    (fun (b:Sl) (w:World)=>(∃(f j:Nat) (acc:List UInt8),j≤(bts x).length∧(bts x).length+1≤f+j∧acc.length≤j∧Sp.vR (bts x) i f j acc=Sp.qA (bts x) i∧DatS w0 w a x n j b acc)∧(fun (_:Sl) (w:World)=>match w.cell? (a.add 1) with | some (.int _ k)=>((bts x).length - k.toNat) | _=>0) b w<(fun (_:Sl) (w:World)=>match w.cell? (a.add 1) with | some (.int _ k)=>((bts x).length - k.toNat) | _=>0) b wl) b' w':=fun h1 h2 h3 h4 D'=>by
   refine ⟨⟨f,_,_,h2,by omega,h3,h4,D'⟩,?_⟩
   show (match World.cell? _ (a.add 1) with | some (.int _ k)=>((bts x).length - k.toNat) | _=>0)<(match World.cell? _ (a.add 1) with | some (.int _ k)=>((bts x).length - k.toNat) | _=>0)
   rw [zH D'.rd,zH D.rd]
   simp only
   omega
  have give:∀{e k:Nat} {w:World} {Kc:Sl→WP},Spk w a x k n→Ext (·=a.block) w0 w→(Sp.Rr.no (e:Int) k:Sp.Rr (List UInt8))=Sp.qA (bts x) i→True:=fun _ _ _=>trivial;refine (xN a x j n wl D.rd hj).mono ?_;rintro e w2 (⟨c,hcc,rfl,E2⟩ | ⟨hcc,rfl,E2⟩)
  ·rw [hcc] at hsp;simp only at hsp;have hjl:=Sp.lN hcc;have hclt:=c.toNat_lt;have D2:=D.move (D.rd.pure E2) E2.pure;refine .inl ⟨_,rfl,fun hb=>⟨a,rfl,_,zH D2.rd,?_⟩,fun hb=>?_⟩
   ·refine (zY (some a) 60 j w2).mono ?_;rintro _ w3 ⟨rfl,rfl⟩;refine .inr ⟨_,rfl,?_⟩;rw [if_pos (by simp at hb;omega)] at hsp;rw [← hsp];exact ⟨rfl,D2.ext⟩
   ·rw [if_neg (by simp at hb;omega)] at hsp;unfold m_H_j2;refine ⟨a,rfl,_,zH D2.rd,a,rfl,D2.rd.canW (i:=1) (by simp),?_⟩;rintro w4 rfl;rw [zV (show j≤(bts x).length by omega) (by omega)];have D4:=D2.move (kK D2.rd (j+1)) kP;generalize w2.setCell (a.add 1) (.int .i64 ((j+1:Nat):Int))=w4 at *;refine ⟨fun h34=>?_,fun h34=>?_⟩
    ·have h34:c.toNat=34:=by have:=beq_iff_eq.1 h34;omega
     rw [if_pos h34] at hsp;have hbl:b.len=acc.length:=by rw [D4.rows.len,zG]
     have conv:=xZ (P:=prog) underlying49 underlying5 underlying9 D4.rows.lst
     refine ⟨fun h64=>?_,fun h64=>⟨_,conv,?_⟩⟩
     ·refine (zY (some a) 1 i w4).mono ?_;rintro _ w5 ⟨rfl,rfl⟩;refine .inr ⟨_,rfl,?_⟩;rw [if_pos (by have:=of_decide_eq_true h64;omega)] at hsp;rw [← hsp];exact ⟨rfl,D4.ext⟩
     ·rw [if_neg (by have:=of_decide_eq_false h64;omega)] at hsp;rw [← hsp];exact ⟨rfl,D4.rd,D4.ext⟩
    ·have h34:c.toNat≠34:=by have:=beq_eq_false_iff_ne.1 h34;omega
     rw [if_neg h34] at hsp;refine ⟨fun h92=>?_,fun h92=>?_⟩
     ·have h92:c.toNat=92:=by have:=beq_iff_eq.1 h92;omega
      rw [if_pos h92] at hsp;refine (xN a x (j+1) n w4 D4.rd (by omega)).mono ?_;rintro e w6 (⟨d,hdd,rfl,E6⟩ | ⟨hdd,rfl,E6⟩)
      ·rw [hdd] at hsp;simp only at hsp;have hdl:=Sp.lN hdd;have hdlt:=d.toNat_lt;have D6:=D4.move (D4.rd.pure E6) E6.pure;refine .inl ⟨_,rfl,fun hb=>⟨a,rfl,_,zH D6.rd,?_⟩,fun hb=>?_⟩
       ·refine (zY (some a) 60 ((j+1:Nat):Int) w6).mono ?_;rintro _ w7 ⟨rfl,rfl⟩;refine .inr ⟨_,rfl,?_⟩;rw [if_neg (by simp at hb;omega),if_neg (by simp at hb;omega)] at hsp;rw [← hsp];exact ⟨rfl,D6.ext⟩
       ·unfold m_H_j3;refine ⟨a,rfl,_,zH D6.rd,a,rfl,D6.rd.canW (i:=1) (by simp),?_⟩;rintro w10 rfl;rw [zV (show j+1≤(bts x).length by omega) (by omega)];have D10:=D6.move (kK D6.rd (j+1+1)) kP;generalize w6.setCell (a.add 1) (.int .i64 ((j+1+1:Nat):Int))=w10 at *;refine ⟨fun h120=>?_,fun h120=>?_⟩
        ·have h120:d.toNat=120:=by have:=beq_iff_eq.1 h120;omega
         rw [if_pos h120] at hsp;refine (jDI a x (j+1+1) n w10 D10.rd (by omega) hc).mono ?_;intro e w11;have hok1:=Sp.qT (bts x) (j+2);have hlt1:=@uS (bts x) (j+2);rw [show j+1+1=j+2 from rfl] at *;generalize Sp.kT (bts x) (j+2)=R1 at *;cases R1 with
         | no er at_=>rintro ⟨rfl,X⟩;exact .inr ⟨_,rfl,by rw [← hsp];exact ⟨rfl,D10.ext.trans X⟩⟩
         | ok hi j1 =>
          rintro ⟨rfl,hr1,X1⟩
          obtain ⟨q1,q2⟩:=hok1 hi j1 rfl
          have hhi:=hlt1 rfl
          have D11:=D10.move hr1 X1
          refine .inl ⟨_,rfl,_,jDX hi hhi w11,?_⟩
          refine (jDI a x j1 n w11 D11.rd q2 hc).mono ?_
          intro e w12
          have hok2:=Sp.qT (bts x) j1
          have hlt2:=@uS (bts x) j1
          simp only [Sp.Rr.bind] at hsp
          generalize Sp.kT (bts x) j1=R2 at *
          cases R2 with
          | no er at_=>rintro ⟨rfl,X⟩;exact .inr ⟨_,rfl,by rw [← hsp];exact ⟨rfl,D11.ext.trans X⟩⟩
          | ok lo j2 =>
           rintro ⟨rfl,hr2,X2⟩
           obtain ⟨q3,q4⟩:=hok2 lo j2 rfl
           have hlo:=hlt2 rfl
           have D12:=D11.move hr2 X2
           refine .inl ⟨_,rfl,_,jCG hi lo hhi hlo w12,?_⟩
           intro p1 w13 n13
           obtain ⟨s1,w14,hr,D14⟩:=D12.app (UInt8.ofNat (16*hi+lo)) (by omega) n13
           exact ⟨s1,w14,hr,again (by omega) q4 (by simp;omega) hsp D14⟩
        ·have h120:d.toNat≠120:=by have:=beq_eq_false_iff_ne.1 h120;omega
         rw [if_neg h120,if_pos (by simp at hb;omega)] at hsp;intro p2 w15 n15;obtain ⟨s2,w16,hr,D16⟩:=D10.app d (by omega) n15;exact ⟨s2,w16,hr,again (by omega) (by omega) (by simp;omega) hsp D16⟩
      ·rw [hdd] at hsp;exact .inr ⟨_,rfl,by rw [← hsp];exact ⟨rfl,D4.ext.thenPure E6⟩⟩
     ·have h92:c.toNat≠92:=by have:=beq_eq_false_iff_ne.1 h92;omega
      rw [if_neg h92] at hsp;intro p3 w18 n18;obtain ⟨s3,w19,hr,D19⟩:=D4.app c (by omega) n18;exact ⟨s3,w19,hr,again (by omega) (by omega) (by simp;omega) hsp D19⟩
  ·rw [hcc] at hsp;exact .inr ⟨_,rfl,by rw [← hsp];exact ⟨rfl,D.ext.thenPure E2⟩⟩
 ·rintro e w' (⟨r,rfl,hh⟩ | ⟨ch,rfl,hh⟩) <;> exact hh
end
abbrev BMap (w:World) (m:Nat) (M:List (Int×Int)):Prop:=CMap w m (M.map fun p=>(.int .u8 p.1,.int .i64 p.2))
theorem bk (M:List (Int×Int)):∀p∈M.map (fun p:Int×Int=>((Value.int .u8 p.1,Value.int .i64 p.2):Value×Value)),∃n,p.1=.int .u8 n:=by
 intro p hp;obtain ⟨q,_,rfl⟩:=List.mem_map.1 hp;exact ⟨_,rfl⟩
theorem vC {w:World} {m:Nat} {M:List (Int×Int)} (h:BMap w m M) {k v:Int} (hn:∀p∈M,p.1≠k):∃w',(Instr.mapUpdate 76 (.map (some m)) (.int .u8 k) (.int .i64 v)).run prog w=.ok () w'∧BMap w' m (M++[(k,v)])∧Ext (·=m) w w':=by
 obtain ⟨w',h1,h2,h3⟩:=h.insert (P:=prog) underlying76 (KeyOK.of_int underlying5) (bk M) (k:=.int .u8 k) (v:=.int .i64 v) ⟨k,rfl⟩ (fun p hp e=>by
  obtain ⟨q,hq,rfl⟩:=List.mem_map.1 hp;simp only [Value.int.injEq,true_and] at e;exact hn q hq e)
 exact ⟨w',h1,by simpa [BMap] using h2,h3⟩
def jBJ:List (Int×Int):=[(110,1),(35,2),(107,6),(34,3),(40,4),(104,5),(115,7),(112,8),(102,9)]
theorem jBI (c:Nat):(∀p∈jBJ,p.1≠(c:Int))→Sp.kC c=0:=by
 intro h;simp only [jBJ,List.mem_cons,List.not_mem_nil,or_false,forall_eq_or_imp,forall_eq] at h;unfold Sp.kC;rw [if_neg (by omega),if_neg (by omega),if_neg (by omega),if_neg (by omega),if_neg (by omega),if_neg (by omega),if_neg (by omega),if_neg (by omega),if_neg (by omega)]
theorem jCW (c:Nat) (v:Int):((c:Int),v)∈jBJ→Sp.kC c=v:=by
 intro h;simp only [jBJ,List.mem_cons,List.not_mem_nil,or_false,Prod.mk.injEq] at h;rcases h with ⟨h,rfl⟩ | ⟨h,rfl⟩ | ⟨h,rfl⟩ | ⟨h,rfl⟩ | ⟨h,rfl⟩ | ⟨h,rfl⟩ | ⟨h,rfl⟩ | ⟨h,rfl⟩ | ⟨h,rfl⟩
 ·obtain rfl:c=110:=by omega
  rfl
 ·obtain rfl:c=35:=by omega
  rfl
 ·obtain rfl:c=107:=by omega
  rfl
 ·obtain rfl:c=34:=by omega
  rfl
 ·obtain rfl:c=40:=by omega
  rfl
 ·obtain rfl:c=104:=by omega
  rfl
 ·obtain rfl:c=115:=by omega
  rfl
 ·obtain rfl:c=112:=by omega
  rfl
 ·obtain rfl:c=102:=by omega
  rfl
theorem jDN {w:World} {m:Nat} (h:BMap w m jBJ) (c:Nat):(Instr.lookup 76 (.map (some m)) (.int .u8 (c:Int)) false).run prog w=.ok (.int .i64 (Sp.kC c)) w:=by
 rcases CMap.lookup (P:=prog) h underlying76 (KeyOK.of_int underlying5) (bk jBJ) (k:=.int .u8 (c:Int)) ⟨_,rfl⟩ (zeroValue3 _) false with ⟨h1,h2⟩ | ⟨i,v,h1,h2⟩
 ·rw [jBI c (fun p hp e=>h1 (.int .u8 p.1,.int .i64 p.2) (List.mem_map.2 ⟨p,hp,rfl⟩) (by rw [e]))];exact h2
 ·obtain ⟨p,hp,he⟩:=List.mem_map.1 (List.mem_of_getElem? h1);simp only [Prod.mk.injEq,Value.int.injEq,true_and] at he;obtain ⟨h3,rfl⟩:=he;rw [jCW c p.2 (by rw [← h3];exact hp)];exact h2
abbrev TT (w0 w:World) (H:NP) (s:Sl) (t:Sp.Tree):Prop:=TreeAt (fun b=>w0.heap.size≤b∧b<w.heap.size∧¬ H b) w s t
section
variable {w0 w w':World} {H H':NP} {s:Sl} {t:Sp.Tree} {a:Addr}
theorem TT.hst (h:TT w0 w H s t) (hs:Hst w0 H w H' w'):TT w0 w' H' s t:=by
 have hd:=hs.disj (G:=fun b=>w0.heap.size≤b∧b<w.heap.size∧¬ H b) (fun b hb=>⟨hb.2.1,hb.2.2⟩);exact (h.ext hs.ext hd).mono (fun b hb=>⟨hb.1,by have:=hs.ext.size;omega,hd b hb⟩)
theorem TT.ext (h:TT w0 w H s t) (E:Ext (·=a.block) w w') (ha:a.block<w0.heap.size):TT w0 w' H s t :=
 (TreeAt.ext h E (fun b hb e=>by have:=hb.1;omega)).mono (fun b hb=>⟨hb.1,by have:=E.size;omega,hb.2.2⟩)
theorem TT.of {w1:World} (h:TreeAt (fun b=>w1.heap.size≤b∧b<w.heap.size) w s t) (hw:w0.heap.size≤w1.heap.size) (hH:∀b,H b→b<w1.heap.size):TT w0 w H s t :=
 h.mono (fun b hb=>⟨by omega,hb.2,fun hh=>by have:=hH b hh;omega⟩)
end
def SpkT (w0:World) (a:Addr) (x:ByteArray) (e:Ending) (w':World):Sp.Rt→Prop
 | .ok t j=>∃s:Sl,e=.returned (.agg (vD t.1 s).toArray)∧TreeAt (fun b=>w0.heap.size≤b∧b<w'.heap.size) w' s t.1∧Spk w' a x j t.2∧Ext (·=a.block) w0 w'
 | .no er i=>e=.panicked (flt er i)∧Ext (·=a.block) w0 w'
def SpkB (w0:World) (a:Addr) (x:ByteArray) (e:Ending) (w':World):Sp.Rt→Prop
 | .ok t j=>∃s:Sl,e=.returned s.v∧(∀k f to u y,TreeAt (fun b=>w0.heap.size≤b∧b<w'.heap.size) w' s (.mk k f to u y [t.1]))∧Spk w' a x j t.2∧Ext (·=a.block) w0 w'
 | .no er i=>e=.panicked (flt er i)∧Ext (·=a.block) w0 w'
def jFF (a:Addr) (x:ByteArray) (d:Nat):Prop:=∀(i n:Nat) (w0:World),Spk w0 a x i n→i≤(bts x).length→n≤4096→jFG w0 a→Calls prog 23 #[.pointer (some a),.int .i64 (64 - (d:Int))] w0 (fun e w'=>SpkT w0 a x e w' (Sp.jR (bts x) d i n))
theorem jFD (a:Addr) (x:ByteArray) (d:Nat) (hd:d<64) (hT:jFF a x d) (i n:Nat) (w0:World) (h:Spk w0 a x i n) (hi:i≤(bts x).length) (hn:n≤4096) (hv:jFG w0 a) (hc:(bts x).length≤10000000) :
  Calls prog 41 #[.pointer (some a),.int .i64 (64 - ((d+1:Nat):Int))] w0 (fun e w'=>SpkB w0 a x e w' (Sp.kL (bts x) (Sp.jR (bts x) d) n i)):=by
 refine (w_Q1 (some a) (64 - ((d+1:Nat):Int)) w0 (fun o r w'=>SpkB w0 a x (match o with | none=>.returned r.v | some ch=>.panicked ch) w' (Sp.kL (bts x) (Sp.jR (bts x) d) n i)) ?_).mono ?_
 ·unfold m_Q1
  rw [show IntKind.i64.wrap (64 - ((d+1:Nat):Int)+1)=64 - (d:Int) by rw [IntWalk.i64_in _ (by omega)];omega]
  have ha:=h.lt
  refine (yS a x i n w0 h hi 40 hc).mono ?_
  intro e w1
  have hok:=Sp.vQ (bts x) 40 i
  unfold Sp.kL
  generalize Sp.zU (bts x) 40 i=R at *
  cases R with
  | no er k=>rintro ⟨rfl,X⟩;exact .inr ⟨_,rfl,rfl,X⟩
  | ok u i1 =>
   rintro ⟨rfl,h1,X1⟩
   obtain ⟨g1,g2⟩:=hok _ _ rfl
   refine .inl ⟨rfl,X1.kept (fun b hb=>hb.elim),?_⟩
   refine (hT i1 n w1 h1 g2 hn (hv.ext X1)).mono ?_
   intro e w2
   have hok2:=Sp.qL (bts x) d i1 n g2
   have hnn:=Sp.xU (bts x) d i1 n hn
   simp only [Sp.Rr.bind]
   generalize Sp.jR (bts x) d i1 n=R2 at *
   cases R2 with
   | no er k=>rintro ⟨rfl,X⟩;exact .inr ⟨_,rfl,rfl,X1.trans X⟩
   | ok t i2 =>
    rintro ⟨s,rfl,hTr,h2,X2⟩
    obtain ⟨g3,g4⟩:=hok2 _ _ rfl
    have hk2:Kept None w1 w2:=X2.kept (fun b hb=>hb.elim)
    refine .inl ⟨_,_,_,_,_,_,rfl,hk2,?_⟩
    intro H1 w4 hs4
    have z1:=X1.size
    have z2:=X2.size
    have nH:¬ H1 a.block:=fun hh=>by have:=hs4.here.old _ hh;omega
    have T2:TT w0 w2 None s t.1:=TT.of hTr z1 (fun b hb=>hb.elim)
    have T4:=TT.hst T2 hs4
    have h4:=h2.ext hs4.ext nH
    have X4:Ext (·=a.block) w0 w4:=(X1.trans X2).trans' hs4.ext (fun b hb hh=>by have:=hs4.here.old b hh;omega)
    refine (yS a x i2 t.2 w4 h4 g4 41 hc).mono ?_
    intro e w5
    simp only
    generalize Sp.zU (bts x) 41 i2=R3 at *
    cases R3 with
    | no er k=>rintro ⟨rfl,X⟩;exact .inr ⟨_,rfl,rfl,X4.trans X⟩
    | ok u i3 =>
     rintro ⟨rfl,h5,X5⟩
     refine .inl ⟨rfl,X5.kept (fun b hb e=>nH (e▸hb)),?_⟩
     intro p2 w6 n6
     have E6:Pure w5 w6:=Ext.new n6
     have T5:=TT.ext T4 X5 ha
     have hp:=n6.at_size
     have z5:=X4.size
     have z6:=X5.size
     have z7:=E6.size
     have B6:=Box.of_new n6
     have l6:=B6.lt
     refine ⟨_,rfl,fun k f to u y=>?_,h5.pure E6,(X4.trans X5).thenPure E6⟩
     have T6:=(TreeAt.pure T5 E6).mono (S':=fun b=>w0.heap.size≤b∧b<w6.heap.size) (fun b hb=>⟨hb.1,by omega⟩)
     exact TreeAt.one (A:=t.1) (sa:=s) B6 ⟨by omega,by omega⟩ T6
 ·rintro e w' (⟨r,rfl,hh⟩ | ⟨ch,rfl,hh⟩) <;> exact hh
abbrev KT (w0:World) (a:Addr) (x:ByteArray) (R:Sp.Rt):Option (List PanicEntry)→Int→Int→Int→Int→ByteArray→Sl→WP:=fun o k f t u y s w'=>SpkT w0 a x (match o with | none=>.returned (.agg #[.int .i64 k,.int .i64 f,.int .i64 t,.int .u64 u,.string y,s.v]) | some ch=>.panicked ch) w' R
structure TS (w0 w:World) (H:NP) (a:Addr) (x:ByteArray) (i n:Nat):Prop where
 rd:Spk w a x i n
 le:i≤(bts x).length
 ext:Ext (·=a.block) w0 w
 la:a.block<w0.heap.size
 oH:∀b,H b→w0.heap.size≤b∧b<w.heap.size
 few:(bts x).length≤10000000
section
variable {w0 w w':World} {H H':NP} {a:Addr} {x:ByteArray} {i j n n':Nat}
theorem TS.nH (h:TS w0 w H a x i n):¬ H a.block:=fun hh=>by have:=(h.oH _ hh).1;have:=h.la;omega
theorem TS.hst (h:TS w0 w H a x i n) (hs:Hst w0 H w H' w'):TS w0 w' H' a x i n :=
 ⟨h.rd.ext hs.ext (fun hh=>by have:=hs.here.old _ hh;have:=h.la;omega),h.le,h.ext.trans' hs.ext (fun b hb hh=>by have:=hs.here.old b hh;omega),h.la,fun b hb=>⟨hs.here.old b hb,hs.here.lt b hb⟩,h.few⟩
theorem TS.to (h:TS w0 w H a x i n) (hr:Spk w' a x j n') (hj:j≤(bts x).length) (E:Ext (·=a.block) w w'):Kept H w w'∧TS w0 w' H a x j n' :=
 ⟨E.kept (fun b hb e=>h.nH (e▸hb)),hr,hj,h.ext.trans E,h.la,fun b hb=>⟨(h.oH b hb).1,by have:=(h.oH b hb).2;have:=E.size;omega⟩,h.few⟩
theorem gF (h:TS w0 w H a x i n) {k f to u:Int} {y:ByteArray} {ks:List Sp.Tree} {s:Sl} (hT:TT w0 w H s (.mk k f to u y ks)) :
  ∀w19,Hst w0 H w H w19→Calls prog 35 #[.pointer (some a)] w19 (fun e w20=>e=.returned (.tuple #[])∧Kept H w19 w20∧∀w21,Hst w0 H w20 H w21→KT w0 a x (.ok (.mk k f to u y ks,n) (Sp.jQ (bts x) i)) none k f to u y s w21):=by
 intro w19 hs19
 have h19:=h.hst hs19
 have T19:=TT.hst hT hs19
 refine (xM a x i n w19 h19.rd h19.le h19.few).mono ?_
 rintro _ w20 ⟨rfl,hr,E⟩
 obtain ⟨k20,h20⟩:=h19.to hr (Sp.kH h.le).2 E
 refine ⟨rfl,k20,fun w21 hs21=>?_⟩
 have h21:=h20.hst hs21
 have T21:=TT.hst (TT.ext T19 E h.la) hs21
 exact ⟨s,rfl,T21.mono (fun b hb=>⟨hb.1,hb.2.1⟩),h21.rd,h21.ext⟩
theorem qV (h:TS w0 w H a x i n) {e:Int} {k:Nat} {w1:World} (X:Ext (·=a.block) w w1):KT w0 a x (.no e k) (some (flt e k)) 0 0 0 0 ⟨#[]⟩ Sl.nil w1:=⟨rfl,h.ext.trans X⟩
theorem jBZ {k f to u:Int} {y:ByteArray}:TT w0 w H Sl.nil (.mk k f to u y []):=TreeAt.leaf
end
set_option maxHeartbeats 2000000 in
theorem jFK {w0 w:World} {H:NP} {a:Addr} {x:ByteArray} {i j n d:Nat} {c:UInt8} (hd:d<64) (hT:jFF a x d) (hj:j<(bts x).length) (hcj:(bts x)[j]?=some c) (k:Int) (hk:k=Sp.kC c.toNat) (hk0:k≠0)
  (h:TS w0 w H a x i n) (hi:i=if k=3∨k=4 then j else j+1) (hn:n≤4096) (hv:jFG w0 a) :
  m_C_j4 (some a) (64 - ((d+1:Nat):Int)) k w0 H w (KT w0 a x ((Sp.kR (bts x) (Sp.jR (bts x) d) k n j).bind fun t m=>.ok t (Sp.jQ (bts x) m))):=by
 have hdeep:IntKind.i64.wrap (64 - ((d+1:Nat):Int)+1)=64 - (d:Int):=by rw [IntWalk.i64_in _ (by omega)];omega
 have hk9:k=1∨k=2∨k=6∨k=3∨k=4∨k=5∨k=7∨k=8∨k=9:=by
  subst hk;unfold Sp.kC at hk0 ⊢
  repeat' split at hk0
  all_goals simp_all
 have nameC:∀(nt:Int) {w1:World} {H1:NP} {i1:Nat},TS w0 w1 H1 a x i1 n→Calls prog 37 #[.pointer (some a),.int .i64 nt] w1 (fun e w2=>(∃v j2,Sp.zP (bts x) nt i1=.ok v j2∧e=.returned (.int .i64 (v:Int))∧Kept H1 w1 w2∧TS w0 w2 H1 a x j2 n)∨(∃er k,Sp.zP (bts x) nt i1=.no er k∧e=.panicked (flt er k)∧Ext (·=a.block) w1 w2)):=fun nt w1 H1 i1 h1=>by
  refine (jFA a x i1 n w1 h1.rd h1.le h1.few (hv.ext h1.ext) nt).mono ?_;intro e w2;have hok:=Sp.qN (bts x) nt i1;generalize Sp.zP (bts x) nt i1=R at *;cases R with
  | no er k=>rintro ⟨rfl,X⟩;exact .inr ⟨_,_,rfl,rfl,X⟩
  | ok v j2 =>
   rintro ⟨rfl,hr,X⟩
   obtain ⟨k2,h2⟩:=h1.to hr (hok _ _ rfl).2 X
   exact .inl ⟨_,_,rfl,rfl,k2,h2⟩
 have bodyC:∀{w1:World} {H1:NP} {i1:Nat},TS w0 w1 H1 a x i1 n→Calls prog 41 #[.pointer (some a),.int .i64 (64 - ((d+1:Nat):Int))] w1 (fun e w2=>(∃t j2,Sp.kL (bts x) (Sp.jR (bts x) d) n i1=.ok t j2∧∃s:Sl,e=.returned s.v∧Kept H1 w1 w2∧TS w0 w2 H1 a x j2 t.2∧∀k f to u y,TT w0 w2 H1 s (.mk k f to u y [t.1]))∨(∃er k,Sp.kL (bts x) (Sp.jR (bts x) d) n i1=.no er k∧e=.panicked (flt er k)∧Ext (·=a.block) w1 w2)):=fun {w1 H1 i1} h1=>by
  refine (jFD a x d hd hT i1 n w1 h1.rd h1.le hn (hv.ext h1.ext) h1.few).mono ?_;intro e w2;have hok:=Sp.yM (B:=bts x) (T:=Sp.jR (bts x) d) (fun i n=>by
   by_cases h:i≤(bts x).length
   ·exact Sp.qL (bts x) d i n h
   ·intro a j e;exfalso;have hb:Sp.jQ (bts x) i=i:=Sp.qB (by omega);cases d <;> (unfold Sp.jR at e;rw [hb,List.getElem?_eq_none (by omega)] at e;cases e)) n i1
  generalize Sp.kL (bts x) (Sp.jR (bts x) d) n i1=R at *;cases R with
  | no er k=>rintro ⟨rfl,X⟩;exact .inr ⟨_,_,rfl,rfl,X⟩
  | ok t j2 =>
   rintro ⟨s,rfl,hTr,hr,X⟩
   obtain ⟨k2,h2⟩:=h1.to hr (hok _ _ rfl).2 X
   exact .inl ⟨_,_,rfl,s,rfl,k2,h2,fun k f to u y=>TT.of (hTr k f to u y) h1.ext.size (fun b hb=>(h1.oH b hb).2)⟩
 have takeC:∀(ch:Nat) {w1:World} {H1:NP} {i1 n1:Nat},TS w0 w1 H1 a x i1 n1→Calls prog 40 #[.pointer (some a),.int .u8 (ch:Int)] w1 (fun e w2=>(∃j2,Sp.zU (bts x) ch i1=.ok () j2∧e=.returned (.tuple #[])∧Kept H1 w1 w2∧Ext (·=a.block) w1 w2∧TS w0 w2 H1 a x j2 n1)∨(∃er k,Sp.zU (bts x) ch i1=.no er k∧e=.panicked (flt er k)∧Ext (·=a.block) w1 w2)):=fun ch w1 H1 i1 n1 h1=>by
  refine (yS a x i1 n1 w1 h1.rd h1.le ch h1.few).mono ?_;intro e w2;have hok:=Sp.vQ (bts x) ch i1;generalize Sp.zU (bts x) ch i1=R at *;cases R with
  | no er k=>rintro ⟨rfl,X⟩;exact .inr ⟨_,_,rfl,rfl,X⟩
  | ok v j2 =>
   rintro ⟨rfl,hr,X⟩
   obtain ⟨k2,h2⟩:=h1.to hr (hok _ _ rfl).2 X
   exact .inl ⟨_,rfl,rfl,k2,X,h2⟩
 have termC:∀{w1:World} {H1:NP} {i1 n1:Nat},n1≤4096→TS w0 w1 H1 a x i1 n1→Calls prog 23 #[.pointer (some a),.int .i64 (64 - (d:Int))] w1 (fun e w2=>(∃t j2,Sp.jR (bts x) d i1 n1=.ok t j2∧t.2≤4096∧∃s:Sl,e=.returned (.agg (vD t.1 s).toArray)∧Kept H1 w1 w2∧Ext (·=a.block) w1 w2∧TS w0 w2 H1 a x j2 t.2∧TT w0 w2 H1 s t.1)∨(∃er k,Sp.jR (bts x) d i1 n1=.no er k∧e=.panicked (flt er k)∧Ext (·=a.block) w1 w2)):=fun {w1 H1 i1 n1} hn1 h1=>by
  refine (hT i1 n1 w1 h1.rd h1.le hn1 (hv.ext h1.ext)).mono ?_;intro e w2;have hok:=Sp.qL (bts x) d i1 n1 h1.le;have hnn:=Sp.xU (bts x) d i1 n1 hn1;generalize Sp.jR (bts x) d i1 n1=R at *;cases R with
  | no er k=>rintro ⟨rfl,X⟩;exact .inr ⟨_,_,rfl,rfl,X⟩
  | ok t j2 =>
   rintro ⟨s,rfl,hTr,hr,X⟩
   obtain ⟨k2,h2⟩:=h1.to hr (hok _ _ rfl).2 X
   exact .inl ⟨_,_,rfl,hnn _ _ rfl,s,rfl,k2,X,h2,TT.of hTr h1.ext.size (fun b hb=>(h1.oH b hb).2)⟩
 unfold m_C_j4 Sp.kR
 refine ⟨fun hb=>fun H3 w17 hs17=>?_,fun hb1=>⟨fun hb=>fun H3 w17 hs17=>?_,fun hb2=>⟨fun hb=>fun H3 w17 hs17=>?_,fun hb3=>⟨fun hb=>?_,fun hb4=>⟨fun hb=>fun H3 w17 hs17=>?_,fun hb5=>⟨fun hb=>fun H3 w17 hs17=>?_,fun hb7=>fun H3 w17 hs17=>?_⟩⟩⟩⟩⟩⟩
 ·-- a name,a key
  have hk16:k=1∨k=6:=by
   by_cases h1:k=1
   ·exact .inl h1
   ·rw [show ((k:Int) == 1)=false by simpa using h1] at hb;right;simpa using hb
  rw [if_pos hk16]
  rw [if_neg (by omega)] at hi
  subst hi
  have h17:=h.hst hs17
  refine (nameC (-1) h17).mono ?_
  rintro e w18 (⟨v,j2,hR,rfl,k18,h18⟩ | ⟨er,m,hR,rfl,X⟩)
  ·rw [hR]
   exact .inl ⟨_,rfl,k18,gF h18 jBZ⟩
  ·rw [hR]
   exact .inr ⟨_,rfl,qV h17 X⟩
 ·have hk2:k=2:=by simpa using hb
  subst hk2
  rw [if_neg (by decide),if_pos rfl]
  rw [if_neg (by decide)] at hi
  subst hi
  have h17:=h.hst hs17
  refine (jDH a x (j+1) n w17 h17.rd h17.le h17.few (hv.ext h17.ext)).mono ?_
  intro e w22
  have hok:=Sp.uR (bts x) (j+1)
  generalize Sp.vZ (bts x) (j+1)=R at *
  cases R with
  | no er m=>rintro ⟨rfl,X⟩;exact .inr ⟨_,rfl,qV h17 X⟩
  | ok v j2 =>
   rintro ⟨rfl,hr,X⟩
   obtain ⟨k22,h22⟩:=h17.to hr (hok _ _ rfl).2 X
   exact .inl ⟨_,rfl,k22,gF h22 jBZ⟩
 ·have hk3:k=3:=by simpa using hb
  subst hk3
  rw [if_neg (by decide),if_neg (by decide),if_pos rfl]
  rw [if_pos (by decide)] at hi
  subst hi
  have h17:=h.hst hs17
  have hc34:c.toNat=34:=by
   unfold Sp.kC at hk
   repeat' split at hk
   all_goals first | assumption | exact absurd hk (by decide)
  refine (jFC a x i n w17 h17.rd ⟨c,hcj,hc34⟩ h17.few).mono ?_
  intro e w26
  have hok:Sp.uX (bts x) (i+1) (Sp.qA (bts x) i):=Sp.qO (bts x) i ((bts x).length+1) (i+1) []
  generalize Sp.qA (bts x) i=R at *
  cases R with
  | no er m=>rintro ⟨rfl,X⟩;exact .inr ⟨_,rfl,qV h17 X⟩
  | ok v j2 =>
   rintro ⟨rfl,hr,X⟩
   obtain ⟨k22,h22⟩:=h17.to hr (hok _ _ rfl).2 X
   exact .inl ⟨_,rfl,k22,gF h22 jBZ⟩
 ·have hk4:k=4:=by simpa using hb
  subst hk4
  rw [if_neg (by decide),if_neg (by decide),if_neg (by decide),if_pos rfl]
  rw [if_pos (by decide)] at hi
  subst hi
  refine ⟨a,rfl,fun H3 w17 hs17=>?_⟩
  have h17:=h.hst hs17
  refine ⟨_,zH h17.rd,a,rfl,h17.rd.canW (i:=1) (by simp),h17.nH,?_⟩
  rintro w30 rfl
  rw [zV (show i≤(bts x).length by omega) (by have:=h.few;omega),hdeep]
  obtain ⟨_,h30⟩:=h17.to (kK h17.rd (i+1)) hj kP
  refine (termC hn h30).mono ?_
  rintro e w31 (⟨t1,j1,hR,hn1,s1,rfl,k31,X31,h31,T31⟩ | ⟨er,m,hR,rfl,X⟩)
  ·rw [hR]
   refine .inl ⟨_,_,_,_,_,s1,rfl,k31,?_⟩
   intro H4 w33 hs33
   have h33:=h31.hst hs33
   have T33:=TT.hst T31 hs33
   refine (termC hn1 h33).mono ?_
   rintro e w34 (⟨t2,j2,hR2,hn2,s2,rfl,k34,X34,h34,T34⟩ | ⟨er,m,hR2,rfl,X⟩)
   ·simp only [Sp.Rr.bind]
    rw [hR2]
    refine .inl ⟨_,_,_,_,_,s2,rfl,k34,?_⟩
    intro H5 w36 hs36
    have h36:=h34.hst hs36
    have T1:=TT.hst (TT.ext T33 X34 h.la) hs36
    have T2:=TT.hst T34 hs36
    refine (takeC 41 h36).mono ?_
    rintro e w37 (⟨j3,hR3,rfl,k37,X37,h37⟩ | ⟨er,m,hR3,rfl,X⟩)
    ·simp only
     rw [hR3]
     refine .inl ⟨trivial,k37,?_⟩
     intro p5 w38 n38
     have E38:Pure w37 w38:=Ext.new n38
     have B38:=Box.of_new n38
     have hp:=n38.at_size
     have l38:=B38.lt
     have z:=h37.ext.size
     intro w39 hs39
     have hE38:=E38.keptP (H:=H5)
     obtain ⟨_,h38⟩:=h37.to (h37.rd.pure E38) h37.le E38.pure
     have up:∀{s:Sl} {t:Sp.Tree},TT w0 w36 H5 s t→TT w0 w38 H5 s t:=fun T=>(TreeAt.pure (TT.ext T X37 h.la) E38).mono (fun b hb=>⟨hb.1,by omega,hb.2.2⟩)
     refine gF h38 (TreeAt.pair (A:=t1.1) (B:=t2.1) (sa:=s1) (sb:=s2) B38 ⟨by omega,by omega,fun hh=>by have:=(h37.oH _ hh).2;omega⟩ (up T1) (up T2)) w39 hs39
    ·simp only
     rw [hR3]
     exact .inr ⟨_,rfl,qV h36 X⟩
   ·simp only [Sp.Rr.bind]
    rw [hR2]
    exact .inr ⟨_,rfl,qV h33 X⟩
  ·rw [hR]
   exact .inr ⟨_,rfl,qV h30 X⟩
 ·have hk5:k=5:=by simpa using hb
  subst hk5
  rw [if_neg (by decide),if_neg (by decide),if_neg (by decide),if_neg (by decide),if_pos rfl]
  rw [if_neg (by decide)] at hi
  subst hi
  have h17:=h.hst hs17
  refine (bodyC h17).mono ?_
  rintro e w42 (⟨t,j2,hR,s,rfl,k42,h42,T42⟩ | ⟨er,m,hR,rfl,X⟩)
  ·rw [hR];exact .inl ⟨_,rfl,k42,gF h42 (T42 _ _ _ _ _)⟩
  ·rw [hR];exact .inr ⟨_,rfl,qV h17 X⟩
 ·have hk7:k=7:=by simpa using hb
  subst hk7
  rw [if_neg (by decide),if_neg (by decide),if_neg (by decide),if_neg (by decide),if_neg (by decide),if_pos rfl]
  rw [if_neg (by decide)] at hi
  subst hi
  have h17:=h.hst hs17
  refine (nameC (-1) h17).mono ?_
  rintro e w46 (⟨v,j1,hR,rfl,k46,h46⟩ | ⟨er,m,hR,rfl,X⟩)
  ·rw [hR]
   refine .inl ⟨_,rfl,k46,fun w47 hs47=>?_⟩
   have h47:=h46.hst hs47
   refine (bodyC h47).mono ?_
   rintro e w48 (⟨t,j2,hR2,s,rfl,k48,h48,T48⟩ | ⟨er,m,hR2,rfl,X⟩)
   ·simp only [Sp.Rr.bind];rw [hR2];exact .inl ⟨_,rfl,k48,gF h48 (T48 _ _ _ _ _)⟩
   ·simp only [Sp.Rr.bind];rw [hR2];exact .inr ⟨_,rfl,qV h47 X⟩
  ·rw [hR];exact .inr ⟨_,rfl,qV h17 X⟩
 ·have h16 : ¬ (k = 1 ∨ k = 6) := by
   rintro (rfl | rfl)
   ·simp at hb1
   ·simp at hb1
  have h2:k≠2:=by simpa using hb2
  have h3:k≠3:=by simpa using hb3
  have h4:k≠4:=by simpa using hb4
  have h5:k≠5:=by simpa using hb5
  have h7:k≠7:=by simpa using hb7
  rw [if_neg h16,if_neg h2,if_neg h3,if_neg h4,if_neg h5,if_neg h7]
  rw [if_neg (by omega)] at hi
  subst hi
  have h17:=h.hst hs17
  refine (nameC (-1) h17).mono ?_
  rintro e w52 (⟨v,j1,hR,rfl,k52,h52⟩ | ⟨er,m,hR,rfl,X⟩)
  ·rw [hR]
   refine .inl ⟨_,rfl,k52,fun w53 hs53=>?_⟩
   have h53:=h52.hst hs53
   refine (takeC 62 h53).mono ?_
   rintro e w54 (⟨j2,hR2,rfl,k54,X54,h54⟩ | ⟨er,m,hR2,rfl,X⟩)
   ·simp only [Sp.Rr.bind]
    rw [hR2]
    refine .inl ⟨trivial,k54,?_⟩
    refine (nameC (v:Int) h54).mono ?_
    rintro e w55 (⟨v2,j3,hR3,rfl,k55,h55⟩ | ⟨er,m,hR3,rfl,X⟩)
    ·simp only
     rw [hR3]
     refine .inl ⟨_,rfl,k55,fun w56 hs56=>?_⟩
     have h56:=h55.hst hs56
     refine (bodyC h56).mono ?_
     rintro e w57 (⟨t,j4,hR4,s,rfl,k57,h57,T57⟩ | ⟨er,m,hR4,rfl,X⟩)
     ·simp only;rw [hR4];exact .inl ⟨_,rfl,k57,gF h57 (T57 _ _ _ _ _)⟩
     ·simp only;rw [hR4];exact .inr ⟨_,rfl,qV h56 X⟩
    ·simp only
     rw [hR3];exact .inr ⟨_,rfl,qV h54 X⟩
   ·simp only [Sp.Rr.bind]
    rw [hR2];exact .inr ⟨_,rfl,qV h53 X⟩
  ·rw [hR];exact .inr ⟨_,rfl,qV h17 X⟩
end Go.Proofs
end
section
open Go Go.SE
namespace Go.Proofs
attribute [local irreducible] Calls
theorem spk_j3 {w0 w:World} {H:NP} {a:Addr} {x:ByteArray} {j n d:Nat} {c:UInt8} (hd:d<64) (hT:jFF a x d) (hj:j<(bts x).length) (hcj:(bts x)[j]?=some c) (hk0:Sp.kC c.toNat≠0)
  (h:TS w0 w H a x j n) (hn:n<4096) (hv:jFG w0 a) :
  m_C_j3 (some a) (64 - ((d+1:Nat):Int)) (c.toNat:Int) (Sp.kC c.toNat) w0 H w (KT w0 a x ((Sp.kR (bts x) (Sp.jR (bts x) d) (Sp.kC c.toNat) (n+1) j).bind fun t m=>.ok t (Sp.jQ (bts x) m))):=by
 unfold m_C_j3
 refine ⟨a,rfl,_,spk_n h.rd,a,rfl,h.rd.canW (i:=2) (by simp),h.nH,?_⟩
 rintro w15 rfl
 rw [zV (show n≤4096 by omega) (by omega)]
 obtain ⟨_,h15⟩:=h.to (jDR h.rd (n+1)) h.le kP
 have hk34:(Sp.kC c.toNat=3∨Sp.kC c.toNat=4)↔(c.toNat=34∨c.toNat=40):=by
  unfold Sp.kC;constructor
  ·intro h;repeat' split at h
   all_goals simp_all
  ·rintro (h | h) <;> rw [h] <;> decide
 refine ⟨fun hb=>⟨a,rfl,fun H2 w16 hs16=>?_⟩,fun hb=>fun H2 w16 hs16=>?_⟩
 ·have h16:=h15.hst hs16
  refine ⟨_,zH h16.rd,a,rfl,h16.rd.canW (i:=1) (by simp),h16.nH,?_⟩
  rintro w61 rfl
  rw [zV (show j≤(bts x).length by omega) (by have:=h.few;omega)]
  obtain ⟨_,h61⟩:=h16.to (kK h16.rd (j+1)) hj kP
  exact jFK hd hT hj hcj _ rfl hk0 h61 (by rw [if_neg (fun hh=>by have:=hk34.1 hh;simp at hb;omega)]) (by omega) hv
 ·exact jFK hd hT hj hcj _ rfl hk0 (h15.hst hs16) (by rw [if_pos (hk34.2 (by
   by_cases h1:c.toNat=34
   ·exact .inl h1
   ·right;rw [show (((c.toNat:Int)) != 34)=true by simp;omega] at hb;simp at hb;omega))]) (by omega) hv
set_option maxHeartbeats 2000000 in
theorem jAC (a:Addr) (x:ByteArray) (deep:Int) (i n:Nat) (w0:World) (h:Spk w0 a x i n) (hi:i≤(bts x).length) (hc:(bts x).length≤10000000) (R:Sp.Rt)
  (h1:(bts x)[Sp.jQ (bts x) i]?=none→R=.no 3 (Sp.jQ (bts x) i))
  (h2:∀c,(bts x)[Sp.jQ (bts x) i]?=some c→Sp.kC c.toNat=0→R=.no 60 (Sp.jQ (bts x) i))
  (h3:∀c,(bts x)[Sp.jQ (bts x) i]?=some c→Sp.kC c.toNat≠0→(n=4096∨deep=64)→R=.no 52 (Sp.jQ (bts x) i))
  (h4:∀c H w,(bts x)[Sp.jQ (bts x) i]?=some c→Sp.kC c.toNat≠0→¬ (n=4096∨deep=64)→TS w0 w H a x (Sp.jQ (bts x) i) n→m_C_j3 (some a) deep (c.toNat:Int) (Sp.kC c.toNat) w0 H w (KT w0 a x R)) :
  m_C (some a) deep w0 (KT w0 a x R):=by
 unfold m_C
 intro H1 w1 hs1
 have E1:=hs1.first
 have t1:TS w0 w1 H1 a x i n:=⟨h.pure E1,hi,E1.pure,h.lt,fun b hb=>⟨hs1.here.old b hb,hs1.here.lt b hb⟩,hc⟩
 refine (xM a x i n w1 t1.rd hi hc).mono ?_
 rintro _ w2 ⟨rfl,hr2,X2⟩
 have hbl:=Sp.kH hi
 generalize Sp.jQ (bts x) i=j at *
 obtain ⟨k2,t2⟩:=t1.to hr2 hbl.2 X2
 refine ⟨rfl,k2,?_⟩
 refine (xN a x j n w2 t2.rd hbl.2).mono ?_
 rintro e w3 (⟨c,hcc,rfl,E3⟩ | ⟨hcc,rfl,E3⟩)
 ·have t3:TS w0 w3 H1 a x j n:=(t2.to (t2.rd.pure E3) hbl.2 E3.pure).2
  refine .inl ⟨_,rfl,E3.keptP,?_⟩
  intro p2 w4 n4
  have hp:=n4.at_size
  have E4:Pure w3 w4:=Ext.new n4
  have M4:BMap w4 p2.block []:=CMap.of_new n4
  have hH:∀b,H1 b→b≠p2.block:=fun b hb=>by have:=(t3.oH b hb).2;omega
  have kp:∀{w w':World},Ext (·=p2.block) w w'→Kept H1 w w':=fun X=>X.kept (fun b hb e=>hH b hb e)
  obtain ⟨w5,r5,M5,X5⟩:=vC M4 (k:=110) (v:=1) (by decide)
  obtain ⟨w6,r6,M6,X6⟩:=vC M5 (k:=35) (v:=2) (by decide)
  obtain ⟨w7,r7,M7,X7⟩:=vC M6 (k:=107) (v:=6) (by decide)
  obtain ⟨w8,r8,M8,X8⟩:=vC M7 (k:=34) (v:=3) (by decide)
  obtain ⟨w9,r9,M9,X9⟩:=vC M8 (k:=40) (v:=4) (by decide)
  obtain ⟨w10,r10,M10,X10⟩:=vC M9 (k:=104) (v:=5) (by decide)
  obtain ⟨w11,r11,M11,X11⟩:=vC M10 (k:=115) (v:=7) (by decide)
  obtain ⟨w12,r12,M12,X12⟩:=vC M11 (k:=112) (v:=8) (by decide)
  obtain ⟨w13,r13,M13,X13⟩:=vC M12 (k:=102) (v:=9) (by decide)
  have E13:Pure w3 w13:=E4.trans' (((((((((X5.trans X6).trans X7).trans X8).trans X9).trans X10).trans X11).trans X12).trans X13)) (fun b hb e=>by omega)
  have t13:TS w0 w13 H1 a x j n:=(t3.to (t3.rd.pure E13) hbl.2 E13.pure).2
  refine ⟨w5,r5,kp X5,w6,r6,kp X6,w7,r7,kp X7,w8,r8,kp X8,w9,r9,kp X9,w10,r10,kp X10,w11,r11,kp X11,w12,r12,kp X12,w13,r13,kp X13,_,jDN M13 c.toNat,fun hb=>⟨a,rfl,fun w14 hs14=>?_⟩,fun hb=>fun w14 hs14=>?_⟩
  ·have t14:=t13.hst hs14
   refine ⟨_,zH t14.rd,?_⟩
   refine (zY (some a) 60 j w14).mono ?_
   rintro _ w64 ⟨rfl,rfl⟩
   rw [h2 c hcc (by simpa using hb)]
   exact .inr ⟨_,rfl,qV t14 (Ext.refl _)⟩
  ·have hk0:Sp.kC c.toNat≠0:=by simpa using hb
   have t14:=t13.hst hs14
   unfold m_C_j1
   refine ⟨a,rfl,_,spk_n t14.rd,fun H6 w63 hs63=>?_⟩
   have t63:=t14.hst hs63
   unfold m_C_j2
   refine ⟨fun hb=>?_,fun hb=>h4 c H6 w63 hcc hk0 (by simp at hb;omega) t63⟩
   refine ⟨a,rfl,_,zH t63.rd,?_⟩
   refine (zY (some a) 52 j w63).mono ?_
   rintro _ w64 ⟨rfl,rfl⟩
   rw [h3 c hcc hk0 (by simp at hb;omega)]
   exact .inr ⟨_,rfl,qV t63 (Ext.refl _)⟩
 ·rw [h1 hcc]
  exact .inr ⟨_,rfl,qV t2 E3.pure⟩
theorem jEY (a:Addr) (x:ByteArray) (hc:(bts x).length≤10000000):∀d,d≤64→jFF a x d:=by
 intro d;induction d with
 | zero =>
  intro _ i n w0 h hi hn hv
  refine (w_C (some a) (64 - ((0:Nat):Int)) w0 (KT w0 a x (Sp.jR (bts x) 0 i n)) ?_).mono ?_
  ·refine jAC a x _ i n w0 h hi hc _ (fun e=>?_) (fun c e hk=>?_) (fun c e hk _=>?_) (fun c H w e hk hh _=>absurd (.inr (by simp)) hh)
   ·unfold Sp.jR;rw [e]
   ·unfold Sp.jR;rw [e];simp only;rw [if_pos hk]
   ·unfold Sp.jR;rw [e];simp only;rw [if_neg hk]
  ·rintro e w' (⟨k,f,t,u,y,s,rfl,hh⟩ | ⟨ch,rfl,hh⟩) <;> exact hh
 | succ d ih =>
  intro hd i n w0 h hi hn hv
  refine (w_C (some a) (64 - ((d+1:Nat):Int)) w0 (KT w0 a x (Sp.jR (bts x) (d+1) i n)) ?_).mono ?_
  ·refine jAC a x _ i n w0 h hi hc _ (fun e=>?_) (fun c e hk=>?_) (fun c e hk hh=>?_) (fun c H w e hk hh ht=>?_)
   ·unfold Sp.jR;rw [e]
   ·unfold Sp.jR;rw [e];simp only;rw [if_pos hk]
   ·unfold Sp.jR;rw [e];simp only;rw [if_neg hk,if_pos (by omega)]
   ·have:=spk_j3 (by omega) (ih (by omega)) (Sp.lN e) e hk ht (by omega) hv
    unfold Sp.jR;rw [e];simp only;rw [if_neg hk,if_neg (by omega)]
    exact this
  ·rintro e w' (⟨k,f,t,u,y,s,rfl,hh⟩ | ⟨ch,rfl,hh⟩) <;> exact hh
end Go.Proofs
end
section
namespace Go.SE
section
variable {P:Program} {n:Nat} {ρ:Env} {w:World} {ds:List Deferred} {Q:Exit→Act→World→Prop} {a:Act}
theorem gD {c1 c2:Code} (ha:Rep ds n ρ a)
  (h:wpE (x:=⟨none,ds⟩) P n c1 (fun e ρ' w'=>match e with | .normal=>∀a',Rep ds n ρ' a'→c2.wp P Q a' w' | .panic ch=>∀a',Rep ds n ρ' a'→Q (.panic ch) a' w' | _=>False) ρ w):(Code.seq c1 c2).wp P Q a w:=by
 refine wp_seq (wpIn_wide.1 (wpIn_mono (h a ha) ?_))
 rintro e a' w' ⟨ρ',⟨hr,hq⟩ | ⟨rfl,_,_,D,hr,hD,hq⟩⟩
 ·cases e <;> first | exact hq.elim | exact hq _ hr
 ·exact hq.elim
theorem jDQ {c:Code} (ha:Rep ds n ρ a)
  (h:wpE (x:=⟨none,ds⟩) P n c (fun e ρ' w'=>match e with | .normal=>∀a',Rep ds n ρ' a'→Q .normal a' w' | .panic ch=>∀a',Rep ds n ρ' a'→Q (.panic ch) a' w' | _=>False) ρ w):c.wp P Q a w:=by
 refine wpIn_wide.1 (wpIn_mono (h a ha) ?_)
 rintro e a' w' ⟨ρ',⟨hr,hq⟩ | ⟨rfl,_,_,D,hr,hD,hq⟩⟩
 ·cases e <;> first | exact hq.elim | exact hq _ hr
 ·exact hq.elim
theorem jBX {id t:Nat} {f:FuncId} {caps:Array Operand} {ty ty':TypeId} {pos pos':String} {aft aft':Array Edge} {c2:Code} (ha:Rep ds n ρ a) (ht:t<n)
  (h:∀a',Rep (⟨.fn (.func f) (caps.map (evE ρ)),#[]⟩ :: ds) n (put ρ (some t) (.func (.func f) #[] (caps.map (evE ρ)))) a'→c2.wp P Q a' w) :
  (Code.seq (.region id #[⟨some t,.makeFunc (.func f) #[] caps,ty,pos,aft,none⟩,⟨none,.defer ⟨.value (.tmp t),#[],#[]⟩,ty',pos',aft',none⟩] false) c2).wp P Q a w:=by
 have h1:Rep ds n (put ρ (some t) (.func (.func f) #[] (caps.map (evE ρ)))) (a.put (some t) (.func (.func f) #[] (caps.map (evE ρ)))):=ha.put (fun k e=>by cases e;exact ht) _
 have h2:=h ({ (a.put (some t) (.func (.func f) #[] (caps.map (evE ρ)))) with defers:=⟨.fn (.func f) (caps.map (evE ρ)),#[]⟩ :: ds }.put none undef) ⟨rfl,h1.size,h1.get⟩
 refine wp_seq ((wpIn_wide (n:=0)).1 (wpIn_region_lit (l:=[_,_]) ?_))
 unfold wpListIn
 rw [if_pos (by simp [Region.wanted])]
 refine qK (ro:=none) ⟨by simp,?_⟩
 rw [ha.eval]
 simp only [execOp,Instr.makeFunc]
 show wpListIn _ 0 P _ _ _ _ _
 unfold wpListIn
 rw [if_pos (by simp [Region.wanted])]
 refine ⟨fun f _=>trivial,?_⟩
 have hev:(a.put (some t) (.func (.func f) #[] (caps.map (evE ρ)))).eval (.tmp t)=.func (.func f) #[] (caps.map (evE ρ)):=by
  rw [h1.eval];simp [evE,put,upd]
 have hd:=h1.defers
 simp [Oper.semAt,Fence.wide,execOp,resolve,hev,Deferred.ofValue,Oper.uponIn,wpListIn,Exit.then,hd]
 exact h2
theorem oX {f:FuncId} {fn:Func} {c:Code} {args:List Value} {R:Ending→World→Prop} (hf:P.funcs[f]?=some fn) (hb:fn.body=some c) (hn:fn.ntmps=n) (hl:args.length≤n)
  (h:∀a,Rep [] n (lO args) a→c.wp P (bodyPostD P fn R) a w):Calls P f args.toArray w R:=by
 subst hn;exact calls_of_wp_defers hf hb (h _ (uT args hl))
inductive Recov:FrameMode→Value→FrameMode→Prop
 | idle:Recov .returning .nilIface .returning
 | hit (v:Value) (older:List PanicEntry):Recov (.panicking ({ v:=v,recovered:=false } :: older)) v (.panicking ({ v:=v,recovered:=true } :: older))
def bodyEN (P:Program) (fn:Func) (n:Nat) (R:Ending→World→Prop):Exit→Env→World→Prop
 | .normal,ρ,w=>∃v,(∀ds a,Rep ds n ρ a→(results fn a.tmps).run P w=.ok v w)∧R (.returned v) w
 | .panic ch,_,w=>R (.panicked ch) w
 | _,_,_=>False
theorem qZ {id t t2:Nat} {f:FuncId} {fn:Func} {c:Code} {args:List Value} {v:Value} {u u':FrameMode} {R:Ending→World→Prop} {ty ty':TypeId} {pos pos':String} {aft aft':Array Edge}
  (hu:Recov u v u') (hf:P.funcs[f]?=some fn)
  (hb:fn.body=some (Code.seq (.region id #[⟨some t,.call ⟨.builtin .recover,#[],#[]⟩,ty,pos,aft,none⟩,⟨some t2,.assign (.tmp t),ty',pos',aft',none⟩] false) c))
  (hn:fn.ntmps=n) (hl:args.length≤n) (ht:t<n) (ht2:t2<n)
  (h:wpE (x:=⟨none,[]⟩) P n c (bodyEN P fn n R) (put (put (lO args) (some t) v) (some t2) v) w) :
  CallsD P f args.toArray u w (fun e u1 w'=>u1=u'∧R e w'):=by
 subst hn
 refine callsD_of_wpS hf hb fun c₀ cs hm=>?_
 apply wpS_seq
 apply wpS_region
 have hr:=uT args hl
 have h1:Rep [] fn.ntmps (put (lO args) (some t) v) _:=hr.put (d:=some t) (fun k e=>by cases e;exact ht) v
 have h2:Rep [] fn.ntmps (put (put (lO args) (some t) v) (some t2) v) _:=h1.put (d:=some t2) (fun k e=>by cases e;exact ht2) v
 have hv:((Act.mk (args.toArray++Array.replicate (fn.ntmps - args.toArray.size) undef) []).put (some t) v).eval (.tmp t)=v:=by
  rw [h1.eval];simp [evE,put,upd]
 have key:∀cs',cs'={ c₀ with mode:=u' } :: cs→c.wpS P (bodyPostS P fn c₀ cs fun e u1 w'=>u1=u'∧R e w') ((((Act.mk (args.toArray++Array.replicate (fn.ntmps - args.toArray.size) undef) []).put (some t) v)).put (some t2) v) cs' w:=by
  rintro cs' rfl;refine wpS_of_wp (jDQ h2 (uQ ?_ h));intro e ρ' w' hq;cases e with
  | normal =>
   intro a' ha'
   obtain ⟨x,hx,hR⟩:=hq
   exact ⟨ha'.defers,u',rfl,x,hx _ a' ha',rfl,hR⟩
  | panic ch =>
   intro a' ha'
   exact ⟨ha'.defers,u',rfl,rfl,hq⟩
  | _=>exact hq.elim
 have h0:(execOp (Act.mk (args.toArray++Array.replicate (fn.ntmps - args.toArray.size) undef) []).eval ⟨some t,.call ⟨.builtin .recover,#[],#[]⟩,ty,pos,aft,none⟩).run P w=.ok .recover w:=by
  simp [execOp,resolve,invoke,builtin]
 show wpOpsS P _ _ [0,1] _ _ _
 cases hu with
 | idle =>
  have hrd:recoverD (c₀ :: cs)=none:=by simp [recoverD,hm]
  simp only [wpOpsS,List.getElem?_toArray,List.getElem?_cons_zero,List.getElem?_cons_succ]
  rw [if_pos (by simp [Region.wanted]),h0]
  simp only [hrd]
  rw [if_pos (by simp [Region.wanted])]
  simp only [execOp,hv,Oper.upon]
  exact key _ (by cases c₀;simp_all)
 | hit v older =>
  have hrd:recoverD (c₀ :: cs)=some (v,{ c₀ with mode:=.panicking ({ v:=v,recovered:=true } :: older) } :: cs):=by simp [recoverD,hm]
  simp only [wpOpsS,List.getElem?_toArray,List.getElem?_cons_zero,List.getElem?_cons_succ]
  rw [if_pos (by simp [Region.wanted]),h0]
  simp only [hrd]
  rw [if_pos (by simp [Region.wanted])]
  simp only [execOp,hv,Oper.upon]
  exact key _ rfl
end
section
variable {P:Program} {x:Cx} {n:Nat} {Q:Exit→Env→World→Prop} {ρ:Env} {w:World}
theorem vG {ops:Array Oper} {Q':Env→World→Prop} {X:List PanicEntry→World→Prop} {I:Env→Prop} (hQ:∀ρ a w,Rep x.ds n ρ a→Q' ρ w→jBF x n Q .normal a w) (hX:∀ρ a ch w,Rep x.ds n ρ a→I ρ→X ch w→jBF x n Q (.panic ch) a w) :
  ∀(l:List Oper),(∀o∈l,∀ρ v,I ρ→I (put ρ o.dst v))→∀(ρ:Env) (a:Act) (w:World),kW n l=true→Rep x.ds n ρ a→I ρ→lP P ops Q' X l ρ w→wpListIn (fen x.ro) 0 P ops (jBF x n Q) l a w
 | [],_,ρ,a,w,_,hr,_,h=>hQ _ _ _ hr h
 | o :: l,hI,ρ,a,w,hd,hr,hi,h=>by
  obtain ⟨hk,hd'⟩:=yH hd;have hI':∀o∈l,∀ρ v,I ρ→I (put ρ o.dst v):=fun o ho=>hI o (List.mem_cons_of_mem _ ho);have h0:=hI o (List.mem_cons_self ..);unfold lP at h;unfold wpListIn;rw [hr.yielded];split
  ·rename_i hw;rw [if_pos hw] at h;apply qK;rw [hr.eval];exact uY h (fun v w' hh=>vG hQ hX l hI' _ _ _ hd' (hr.put hk v) (h0 _ _ hi) hh) (fun ch w' hh=>hX ρ a ch w' hr hi hh)
  ·rename_i hw;rw [if_neg hw] at h;exact ⟨fun f _=>xK x.ro f,vG hQ hX l hI' _ _ _ hd' (hr.put hk undef) (h0 _ _ hi) h⟩
theorem uE {id:Nat} {l:List Oper} (I:Env→Prop) (hI:∀o∈l,∀ρ v,I ρ→I (put ρ o.dst v)) (hi:I ρ) (hd:kW n l=true) (h:lP P l.toArray (fun ρ w=>Q .normal ρ w) (fun ch w=>∀ρ,I ρ→Q (.panic ch) ρ w) l ρ w):wpE (x:=x) P n (.region id l.toArray false) Q ρ w:=fun a ha =>
 wpIn_region_lit (vG (I:=I) (fun ρ' _ _ hr hq=>⟨ρ',.inl ⟨hr,hq⟩⟩) (fun ρ' _ _ _ hr hi' hq=>⟨ρ',.inl ⟨hr,hq ρ' hi'⟩⟩) l hI ρ a w hd ha hi h)
theorem jBW {c:Code} {ds:List Deferred} {Q:Exit→Act→World→Prop} {a:Act} (hne:ds≠[]) (ha:Rep ds n ρ a)
  (h:wpE (x:=⟨none,ds⟩) P n c (fun e ρ' w'=>match e with | .normal=>∀a',Rep ds n ρ' a'→Q .normal a' w' | .ret=>∀a',Rep ds n ρ' a'→Q .ret a' w' | .panic ch=>∀a',Rep ds n ρ' a'→Q (.panic ch) a' w' | _=>False) ρ w):c.wp P Q a w:=by
 refine wpIn_wide.1 (wpIn_mono (h a ha) ?_)
 rintro e a' w' ⟨ρ',⟨hr,hq⟩ | ⟨rfl,_,h0,D,hr,hD,hq⟩⟩
 ·cases e <;> first | exact hq.elim | exact hq _ hr
 ·exact absurd h0 hne
end
end Go.SE
end
section
open Go Go.SE
namespace Go.Proofs
open Tryd
attribute [local irreducible] Calls CallsD
theorem jBU {P:Program} {ε:Operand→Value} {w:World} {d:Option Tmp} {ty:TypeId} {pos:String} {aft:Array Edge} {g:Option (Nat×Bool)} {x:Operand} {X T:TypeId} {v:Value} {td:TypeDesc} (hx:ε x=.iface T v) (ht:P.underlying T=some td) (hi:∀m,td≠.interface m) :
  (execOp ε ⟨d,.typeAssert x X T false,ty,pos,aft,g⟩).run P w=.ok (.value v) w:=by
 simp only [execOp,hx]
 have:(Instr.typeAssert (.iface T v) X T false).run P w=.ok v w:=by
  unfold Instr.typeAssert;simp only [Sem.run_bind,run_underlying ht,Result.andThen];cases td <;> first | exact absurd rfl (hi _) | simp
 simp [this]
theorem jCY {P:Program} {w:World} {f:FuncId} {cap args:Array Value} (hc:∀args w,(callFunc f args).run P w=.ok (.enter f args) w) (h:cap=args):(invoke (.fn (.func f) cap) #[]).run P w=.ok (.enter f args) w:=by
 subst h;simp [invoke,hc]
abbrev zeroT:List Value:=[.int .i64 0,.int .i64 0,.int .i64 0,.int .u64 0,.string ⟨#[]⟩,Sl.nil.v]
set_option maxRecDepth 100000 in
theorem jFB (p1 p2 p3:Addr) (w:World):CallsD prog 22 #[.pointer (some p1),.pointer (some p2),.pointer (some p3)] .returning w (fun e u' w'=>u'=.returning∧(e=.returned (.tuple #[])∧w'=w)):=by
 refine qZ (args:=[.pointer (some p1),.pointer (some p2),.pointer (some p3)]) (R:=fun e w'=>e=.returned (.tuple #[])∧w'=w) .idle func22 rfl ntmps22 (Nat.le_of_ble_eq_true rfl) (by decide) (by decide) ?_;refine jC ?_;refine rg ?_;refine q0 .nilIface ?_;refine q0 (.bool false) ?_;refine jB ?_;refine jM ?_;refine kG (t:=false) (by kernel_rfl) (fun hc1=>by cases hc1) (fun hc1=>?_);refine jG ?_;exact ⟨.tuple #[],fun ds a ha=>by rw [results_none results22],rfl,rfl⟩
set_option maxRecDepth 100000 in
set_option maxHeartbeats 4000000 in
theorem jGV (cap1 cap2 cap3:Addr) (er at_:Int) (older:List PanicEntry) (w0:World) {c1 c2 c3:List Value} (B1:Box w0 cap1 c1 25) (l1:c1.length=6) (B2:Box w0 cap2 c2 28) (l2:c2.length=1) (B3:Box w0 cap3 c3 3) (l3:c3.length=1) (n12:cap1.block≠cap2.block) (n13:cap1.block≠cap3.block) (n23:cap2.block≠cap3.block) :
  CallsD prog 22 #[.pointer (some cap1),.pointer (some cap2),.pointer (some cap3)] (.panicking ({ v:=.iface 53 (.agg #[.int .i64 er,.int .i64 at_]),recovered:=false } :: older)) w0 (fun e' u' w'=>u'=.panicking ({ v:=.iface 53 (.agg #[.int .i64 er,.int .i64 at_]),recovered:=true } :: older) ∧
   (e'=.returned (.tuple #[])∧(Box w' cap1 zeroT 25∧Box w' cap2 [.int .i64 er] 28∧Box w' cap3 [.int .i64 at_] 3∧Ext (fun b=>b=cap1.block∨b=cap2.block∨b=cap3.block) w0 w'))):=by
 refine qZ (args:=[.pointer (some cap1),.pointer (some cap2),.pointer (some cap3)]) (R:=fun e' w'=>e'=.returned (.tuple #[])∧(Box w' cap1 zeroT 25∧Box w' cap2 [.int .i64 er] 28∧Box w' cap3 [.int .i64 at_] 3∧Ext (fun b=>b=cap1.block∨b=cap2.block∨b=cap3.block) w0 w')) (.hit _ older) func22 rfl ntmps22 (Nat.le_of_ble_eq_true rfl) (by decide) (by decide) ?_
 have hs:=Hst.start w0
 have hb:=HB.nil None w0
 refine jC ?_
 refine rg ?_
 refine q0 (.iface 53 (.agg #[.int .i64 er,.int .i64 at_])) ?_
 refine q0 (.bool true) ?_
 refine jB ?_
 refine jM ?_
 refine kE (by kernel_rfl) ?_
 refine jC ?_
 refine rg ?_
 refine q0 (.iface 53 (.agg #[.int .i64 er,.int .i64 at_])) ?_
 refine q2 (.agg #[.int .i64 er,.int .i64 at_]) (jBU (by kernel_rfl) underlying53 (by intro m;simp)) ?_
 refine kU (O:=(.cells #[(.int .i64 0),(.int .i64 0)] 53)) (fun p=>.pointer (some p)) (jF rfl) (jV (zeroValue53 _) rfl) ?_
 intro p1 w1 hn1
 have hsb:=hs.alloc hb hn1
 clear hs hb hn1
 obtain ⟨H1,hs,hb⟩:=hsb
 refine zE (jF rfl) (vL (a:=p1) (vs:=[(.int .i64 er),(.int .i64 at_)]) (by kernel_rfl) (by kernel_rfl) rfl (sizeOf53 _) rfl (hb.canWs0 0 2 (gZ) (by kernel_rfl))) ?_
 intro w2 hn2
 have hsb:Hst w0 None w0 H1 w2∧HB H1 w2 [(p1,[(.int .i64 er),(.int .i64 at_)],53)]:=by
  rw [hn2];exact hb.store0 (i:=0) (vs:=[(.int .i64 er),(.int .i64 at_)]) hs (gZ) (by kernel_rfl) (by kernel_rfl)
 clear hs hb hn2
 obtain ⟨hs,hb⟩:=hsb
 have EA:=hs.first
 have hold:=hs.here.old
 refine jB ?_
 refine jM ?_
 replace hs:=hs.here
 refine vP (fun x=>HB H1 x [(p1,[(.int .i64 er),(.int .i64 at_)],53)]) [5,6,7] [7] (by kernel_rfl) (by kernel_rfl) (by kernel_rfl) (by kernel_rfl) hb.drew ?_
 intro w3 hw3
 replace hb:HB H1 w3 [(p1,[(.int .i64 er),(.int .i64 at_)],53)]:=by rw [hw3];exact hb.drew
 have E3:Pure w0 w3:=by rw [hw3];exact EA.trans (Ext.drew w2)
 clear hs hw3 EA
 have b1:=B1.pure E3
 have b2:=B2.pure E3
 have b3:=B3.pure E3
 have nh:∀b,b<w0.heap.size→¬ H1 b:=fun b hb hh=>by have:=hold b hh;omega
 refine qx 0 (.agg #[(.int .i64 0),(.int .i64 0),(.int .i64 0),(.int .u64 0),(.string (⟨#[]⟩:ByteArray)),Sl.nil.v]) Kp0 ?_
 refine qx 1 (.pointer (some p1)) Kp1 ?_
 refine qz 2 (.int .i64 er) Kp2 (fun w' hw'=>(gX (a:=p1) (by kernel_rfl) (isAgg28 _) (hw'.cell0 0 (gZ) (by kernel_rfl)))) ?_
 refine qx 3 (.pointer (some (p1.add 1))) Kp3 ?_
 refine qz 4 (.int .i64 at_) Kp4 (fun w' hw'=>(gX (a:=(p1.add 1)) (by kernel_rfl) (isAgg3 _) (hw'.cell 0 1 (gZ) (by kernel_rfl)))) ?_
 refine lgo (k:=5) (by kernel_rfl) ?_
 refine oA Kp5 (jF rfl) (by kernel_rfl) (vL (a:=cap1) (vs:=zeroT) (by kernel_rfl) (by kernel_rfl) rfl (sizeOf25 _) rfl (b1.canWs (by rw [l1];decide))) ?_
 intro w4 hn3
 have X4:Ext (·=cap1.block) w3 w4:=by rw [hn3];exact Ext.storeRow _ _ _
 have d1:Box w4 cap1 zeroT 25:=by rw [hn3];exact b1.store (by rw [l1];rfl)
 have d2:=b2.ext X4 (fun e=>n12 e.symm)
 have d3:=b3.ext X4 (fun e=>n13 e.symm)
 have hk:Kept H1 w3 w4:=X4.kept (fun b hb e=>nh b (e▸B1.lt) hb)
 refine ⟨.inr (hb.kept hk),?_⟩
 replace hb:=hb.kept hk
 clear hk hn3
 refine lgo (k:=6) (by kernel_rfl) ?_
 refine oA Kp6 (jF rfl) (by kernel_rfl) (zN (a:=cap2) (v:=(.int .i64 er)) (by kernel_rfl) (by kernel_rfl) rfl (sizeOf28 _) (d2.canW0 (by omega))) ?_
 intro w5 hn4
 have X5:Ext (·=cap2.block) w4 w5:=by rw [hn4];exact Ext.setCell _ _
 obtain ⟨v2,rfl⟩:∃v,c2=[v]:=List.length_eq_one_iff.1 l2
 obtain ⟨v3,rfl⟩:∃v,c3=[v]:=List.length_eq_one_iff.1 l3
 have e2:Box w5 cap2 [.int .i64 er] 28:=by rw [hn4];exact d2.set0
 have e1:=d1.ext X5 n12
 have e3:=d3.ext X5 (fun e=>n23 e.symm)
 have hk:Kept H1 w4 w5:=X5.kept (fun b hb e=>nh b (e▸B2.lt) hb)
 refine ⟨.inr (hb.kept hk),?_⟩
 replace hb:=hb.kept hk
 clear hk hn4
 refine lgo (k:=7) (by kernel_rfl) ?_
 refine oA Kp7 (jF rfl) (by kernel_rfl) (zN (a:=cap3) (v:=(.int .i64 at_)) (by kernel_rfl) (by kernel_rfl) rfl (sizeOf3 _) (e3.canW0 (by simp))) ?_
 intro w6 hn5
 have X6:Ext (·=cap3.block) w5 w6:=by rw [hn5];exact Ext.setCell _ _
 refine ⟨.inl (by kernel_rfl),?_⟩
 refine jBV (by kernel_rfl) ?_
 refine ⟨.tuple #[],fun ds a ha=>by rw [results_none results22],rfl,e1.ext X6 n13,e2.ext X6 n23,by rw [hn5];exact e3.set0,?_⟩
 exact ((E3.pure.trans (X4.mono (fun _ _ h=>.inl h))).trans (X5.mono (fun _ _ h=>.inr (.inl h)))).trans (X6.mono (fun _ _ h=>.inr (.inr h)))
theorem vV {w w':World} (h:ErrV w) (E:Pure w w'):ErrV w':=by
 obtain ⟨tp,p,h⟩:=h;refine ⟨tp,p,?_⟩;unfold World.var? at *;cases hg : prog.globalNamed "strconv.ErrRange" with
 | none=>simp [hg] at h
 | some g =>
  simp only [hg,Option.bind_some] at h ⊢
  cases hh:w.heap[g]? with
  | none=>simp [hh] at h
  | some o=>rw [E.heap hh id];rw [hh] at h;exact h
def tC (w0:World) (R:Sp.Tree×Int×Int) (e:Ending) (w':World):Prop:=∃s:Sl,e=.returned (.tuple #[.agg (vD R.1 s).toArray,.int .i64 R.2.1,.int .i64 R.2.2])∧TreeAt (fun b=>w0.heap.size≤b∧b<w'.heap.size) w' s R.1∧Pure w0 w'
theorem tM {ρ:Env} {w:World} {p1 p2 p3:Addr} {vs:List Value} {a b:Int} (h2:ρ 2=.pointer (some p1)) (h3:ρ 3=.pointer (some p2)) (h4:ρ 4=.pointer (some p3)) (B1:Box w p1 vs 25) (hl:vs.length=6) (B2:Box w p2 [.int .i64 a] 28) (B3:Box w p3 [.int .i64 b] 3) :
  RVs prog ρ w [.cell 2 25,.cell 3 28,.cell 4 3] [.agg vs.toArray,.int .i64 a,.int .i64 b] :=
 ⟨RV.cellA (A:=p1) (vs:=vs) h2 (isAgg25 _) (sizeOf25 _) hl B1.row,RV.cell1 (A:=p2) h3 (isAgg28 _) B2.cell0,RV.cell1 (A:=p3) h4 (isAgg3 _) B3.cell0,trivial⟩
set_option maxRecDepth 100000 in
set_option maxHeartbeats 4000000 in
theorem oY (x:ByteArray) (w0:World) (h:1048576<x.size):Calls prog 12 #[.string x] w0 (fun e w'=>tC w0 (Sp.tQ,1,0) e w'):=by
 refine uJ (args:=[(.string x)]) func12 rfl ntmps12 (Nat.le_of_ble_eq_true rfl) ?_;refine jC ?_;refine rg ?_;refine kU (O:=(.cells #[(.int .i64 0),(.int .i64 0),(.int .i64 0),(.int .u64 0),(.string (⟨#[]⟩:ByteArray)),Sl.nil.v] 25)) (fun p=>.pointer (some p)) (jF rfl) (jV (zeroValue25 _) rfl) ?_;intro p1 w1 n1;refine kU (O:=(.cells #[(.int .i64 0)] 28)) (fun p=>.pointer (some p)) (jF rfl) (jV (zeroValue28 _) rfl) ?_;intro p2 w2 n2;refine kU (O:=(.cells #[(.int .i64 0)] 3)) (fun p=>.pointer (some p)) (jF rfl) (jV (zeroValue3 _) rfl) ?_;intro p3 w3 n3;have E1:Pure w0 w1:=Ext.new n1;have E2:Pure w1 w2:=Ext.new n2;have E3:Pure w2 w3:=Ext.new n3;have y1:=n1.at_size;have y2:=n2.at_size;have y3:=n3.at_size;have z1:=E1.size;have z2:=E2.size;have l1:=(Box.of_newA n1).lt;have l2:=(Box.of_newA n2).lt;have B1:=((Box.of_newA n1).pure E2).pure E3;have B2:=(Box.of_newA n2).pure E3;have B3:=Box.of_newA n3;refine jB ?_;refine jM ?_;refine jC ?_;refine jC ?_;refine rg ?_;refine q0 (.string x) ?_;refine q0 (.int .i64 (x.size:Int)) ?_;refine q0 (.bool (decide ((x.size:Int)>1048576))) ?_;refine jB ?_;refine jM ?_;refine kG (t:=(decide ((x.size:Int)>1048576))) (by kernel_rfl) (fun hc1=>?_) (fun hc1=>absurd h (by have:=of_decide_eq_false hc1;omega));refine jC ?_;refine rg ?_;refine q2 (.agg #[(.int .i64 0),(.int .i64 0),(.int .i64 0),(.int .u64 0),(.string (⟨#[]⟩:ByteArray)),Sl.nil.v]) (xQ (a:=p1) (vs:=zeroT) (by kernel_rfl) (isAgg25 _) (sizeOf25 _) rfl B1.row) ?_;refine zE (jF rfl) (vL (a:=p1) (vs:=zeroT) (by kernel_rfl) (by kernel_rfl) rfl (sizeOf25 _) rfl (B1.canWs (by decide))) ?_;intro w4 hn4;have X4:Ext (·=p1.block) w3 w4:=by rw [hn4];exact Ext.storeRow _ _ _
 have C1:Box w4 p1 zeroT 25:=by rw [hn4];exact B1.store (by rfl)
 have C2:=B2.ext X4 (fun e=>by omega);have C3:=B3.ext X4 (fun e=>by omega);refine zE (jF rfl) (zN (a:=p2) (v:=(.int .i64 1)) (by kernel_rfl) (by kernel_rfl) rfl (sizeOf28 _) (C2.canW0 (by simp))) ?_;intro w5 hn5;have X5:Ext (·=p2.block) w4 w5:=by rw [hn5];exact Ext.setCell _ _
 have D2:Box w5 p2 [.int .i64 1] 28:=by rw [hn5];exact C2.set0
 have D1:=C1.ext X5 (fun e=>by omega);have D3:=C3.ext X5 (fun e=>by omega);refine zE (jF rfl) (zN (a:=p3) (v:=(.int .i64 0)) (by kernel_rfl) (by kernel_rfl) rfl (sizeOf3 _) (D3.canW0 (by simp))) ?_;intro w6 hn6;have X6:Ext (·=p3.block) w5 w6:=by rw [hn6];exact Ext.setCell _ _
 have F3:Box w6 p3 [.int .i64 0] 3:=by rw [hn6];exact D3.set0
 have F1:=D1.ext X6 (fun e=>by omega);have F2:=D2.ext X6 (fun e=>by omega);refine jB ?_;refine jM ?_;refine tH ?_;refine kB ?_;refine yW (v:=.tuple #[.agg zeroT.toArray,.int .i64 1,.int .i64 0]) (.inl rfl) results12 (tM (by kernel_rfl) (by kernel_rfl) (by kernel_rfl) F1 rfl F2 F3) (by kernel_rfl) ?_;refine ⟨Sl.nil,rfl,TreeAt.leaf,?_⟩;exact ((((E1.trans E2).trans E3).trans' X4 (fun b hb e=>by omega)).trans' X5 (fun b hb e=>by omega)).trans' X6 (fun b hb e=>by omega)
set_option maxRecDepth 100000 in
set_option maxHeartbeats 8000000 in
theorem lL (x:ByteArray) (w0:World) (h:x.size≤1048576) (hv:ErrV w0):Calls prog 12 #[.string x] w0 (fun e w'=>tC w0 (Sp.xV (bts x)) e w'):=by
 have hx:=kO x;refine oX (args:=[.string x]) func12 rfl ntmps12 (Nat.le_of_ble_eq_true rfl) ?_;intro a ha;refine gD ha ?_;refine rg ?_;refine kU (O:=(.cells #[(.int .i64 0),(.int .i64 0),(.int .i64 0),(.int .u64 0),(.string (⟨#[]⟩:ByteArray)),Sl.nil.v] 25)) (fun p=>.pointer (some p)) (jF rfl) (jV (zeroValue25 _) rfl) ?_;intro p1 w1 n1;refine kU (O:=(.cells #[(.int .i64 0)] 28)) (fun p=>.pointer (some p)) (jF rfl) (jV (zeroValue28 _) rfl) ?_;intro p2 w2 n2;refine kU (O:=(.cells #[(.int .i64 0)] 3)) (fun p=>.pointer (some p)) (jF rfl) (jV (zeroValue3 _) rfl) ?_;intro p3 w3 n3;have E1:Pure w0 w1:=Ext.new n1;have E2:Pure w1 w2:=Ext.new n2;have E3:Pure w2 w3:=Ext.new n3;have y1:=n1.at_size;have y2:=n2.at_size;have y3:=n3.at_size;have z1:=E1.size;have z2:=E2.size;have l1:=(Box.of_newA n1).lt;have l2:=(Box.of_newA n2).lt;have B1:=((Box.of_newA n1).pure E2).pure E3;have B2:=(Box.of_newA n2).pure E3;have B3:=Box.of_newA n3;refine jB ?_;clear ha;intro a ha;refine gD ha ?_;refine jC ?_;refine rg ?_;refine q0 (.string x) ?_;refine q0 (.int .i64 (x.size:Int)) ?_;refine q0 (.bool (decide ((x.size:Int)>1048576))) ?_;refine jB ?_;refine jM ?_;refine kG (t:=(decide ((x.size:Int)>1048576))) (by kernel_rfl) (fun hc1=>absurd h (by have:=of_decide_eq_true hc1;omega)) (fun hc1=>?_);refine jG ?_;clear ha;intro a ha;refine jBX ha (by decide) ?_;clear ha;intro a ha;refine gD ha ?_;refine rg ?_;refine q0 (.string x) ?_;refine q0 (.agg #[(.string x),(.int .i64 0),(.int .i64 0)]) ?_;refine kU (O:=(.cells #[(.string x),(.int .i64 0),(.int .i64 0)] 56)) (fun p=>.pointer (some p)) (jF rfl) (x_box (cs:=#[(.string x),(.int .i64 0),(.int .i64 0)]) (by kernel_rfl)) ?_;intro p4 w4 n4;refine q0 (.pointer (some p4)) ?_;have E4:Pure w3 w4:=Ext.new n4;have y4:=n4.at_size;have z3:=E3.size;have l3:=B3.lt;have R4:Spk w4 p4 x 0 0:=Box.of_newA n4;have C1:=B1.pure E4;have C2:=B2.pure E4;have C3:=B3.pure E4;have E04:Pure w0 w4:=((E1.trans E2).trans E3).trans E4;have hK:jFG w4 p4:=fun w E=>vV hv (E04.trans' E (fun b hb e=>by omega));refine jB ?_;clear ha;intro a ha;refine jBW (by simp) ha ?_;refine jC ?_;refine uE (fun ρ=>ρ 2=.pointer (some p1)∧ρ 3=.pointer (some p2)∧ρ 4=.pointer (some p3)) ?_ ⟨by kernel_rfl,by kernel_rfl,by kernel_rfl⟩ (by kernel_rfl) ?_
 ·intro o ho ρ v hh;simp only [List.mem_cons,List.not_mem_nil,or_false] at ho;rcases ho with rfl | rfl | rfl <;> exact hh
 refine jJ 1 ?_;refine q0 (.pointer (some p4)) ?_;refine jB ?_;have hT:=jEY p4 x (by omega) 64 (Nat.le_refl _) 0 0 w4 R4 (Nat.zero_le _) (by omega) hK;refine jW (jF rfl) (by intro c hc;cases hc) (gA (args:=#[(.pointer (some p4)),(.int .i64 0)]) call23 (by kernel_rfl)) (hT.mono ?_);clear hT;intro e w5;have hok:=Sp.qL (bts x) 64 0 0 (Nat.zero_le _);unfold Sp.xV;generalize Sp.jR (bts x) 64 0 0=R at *;have hit:∀(er:Int) (i:Nat) (w5:World) (c1 c2 c3:List Value),Box w5 p1 c1 25→c1.length=6→Box w5 p2 c2 28→c2.length=1→Box w5 p3 c3 3→c3.length=1→Pure w0 w5→∀(ρ':Env),ρ' 2=.pointer (some p1)→ρ' 3=.pointer (some p2)→ρ' 4=.pointer (some p3)→∀ds,ds=([⟨.fn (.func 22) #[.pointer (some p1),.pointer (some p2),.pointer (some p3)],#[]⟩]:List Deferred)→∀a',Rep ds 30 ρ' a'→bodyPostD prog f12 (fun e w'=>tC w0 (Sp.tQ,er,(i:Int)) e w') (.panic (flt er i)) a' w5:=by
  intro er i w5 c1 c2 c3 D1 k1 D2 k2 D3 k3 E5 ρ' h2 h3 h4 ds hds a' ha';subst hds;show Leaves _ _ _ _ _ _ _;rw [ha'.defers];refine leaves_cons (f:=22) (args:=#[.pointer (some p1),.pointer (some p2),.pointer (some p3)]) (by simp) (jCY call22 rfl) ?_;refine (jGV p1 p2 p3 er (i:Int) [] w5 D1 k1 D2 k2 D3 k3 (by omega) (by omega) (by omega)).mono ?_;rintro e u' w6 ⟨rfl,rfl,F1,F2,F3,X6⟩;refine ⟨_,yF (v:=.tuple #[.agg zeroT.toArray,.int .i64 er,.int .i64 (i:Int)]) results12 (tM h2 h3 h4 F1 rfl F2 F3) ha' (by kernel_rfl),Sl.nil,rfl,TreeAt.leaf,E5.trans' X6 (fun b hb e=>by omega)⟩
 cases R with
 | no er i =>
  rintro ⟨rfl,X⟩
  refine .inr ⟨_,rfl,fun ρ' hI=>?_⟩
  intro a' ha'
  exact hit er i w5 _ _ _ (C1.ext X (by omega)) rfl (C2.ext X (by omega)) rfl (C3.ext X (by omega)) rfl (E04.trans' X (fun b hb e=>by omega)) ρ' hI.1 hI.2.1 hI.2.2 _ (by kernel_rfl) a' ha'
 | ok t j =>
  rintro ⟨s,rfl,hTr,R5,X5⟩
  refine .inl ⟨_,rfl,?_⟩
  obtain ⟨g1,g2⟩:=hok t j rfl
  have D1:=C1.ext X5 (by omega)
  have D2:=C2.ext X5 (by omega)
  have D3:=C3.ext X5 (by omega)
  have E05:Pure w0 w5:=E04.trans' X5 (fun b hb e=>by omega)
  have z4:=E4.size
  have l4:=R4.lt
  have hS:∀b,(w4.heap.size≤b∧b<w5.heap.size)→b≠p1.block∧b≠p2.block∧b≠p3.block:=fun b hb=>by omega
  obtain ⟨⟨k,f,to,u,y,ks⟩,nn⟩:=t
  refine zA ?_
  refine zE (jF rfl) (vL (a:=p1) (vs:=[.int .i64 k,.int .i64 f,.int .i64 to,.int .u64 u,.string y,s.v]) (by kernel_rfl) (by kernel_rfl) rfl (sizeOf25 _) rfl (D1.canWs (by simp))) ?_
  intro w6 hn6
  have X6:Ext (·=p1.block) w5 w6:=by rw [hn6];exact Ext.storeRow _ _ _
  have F1:Box w6 p1 [.int .i64 k,.int .i64 f,.int .i64 to,.int .u64 u,.string y,s.v] 25:=by rw [hn6];exact D1.store (by rfl)
  have F2:=D2.ext X6 (fun e=>by omega)
  have F3:=D3.ext X6 (fun e=>by omega)
  have R6:=R5.ext X6 (fun e=>by omega)
  have T6:=hTr.ext X6 (fun b hb=>(hS b hb).1)
  have E06:Pure w0 w6:=E05.trans' X6 (fun b hb e=>by omega)
  clear hn6
  refine jB ?_
  refine jM ?_
  have fin : ∀ (ρ' : Env) (w13 : World), ρ' 2 = .pointer (some p1) → ρ' 3 = .pointer (some p2) → ρ' 4 = .pointer (some p3) → Box w13 p1 [.int .i64 k, .int .i64 f, .int .i64 to, .int .u64 u, .string y, s.v] 25 → Box w13 p2 [.int .i64 0] 28 → Box w13 p3 [.int .i64 0] 3 → TreeAt (fun b => w4.heap.size ≤ b ∧ b < w5.heap.size) w13 s (.mk k f to u y ks) → Pure w0 w13 → w5.heap.size ≤ w13.heap.size → ¬ j < (bts x).length →
    ∀ds,ds=([⟨.fn (.func 22) #[.pointer (some p1),.pointer (some p2),.pointer (some p3)],#[]⟩]:List Deferred)→∀a',Rep ds 30 ρ' a'→bodyPostD prog f12 (fun e w'=>tC w0 (if j<(bts x).length then (Sp.tQ,4,(j:Int)) else (.mk k f to u y ks,0,0)) e w') .ret a' w13:=by
   intro ρ' w13 h2 h3 h4 G1 G2 G3 T13 E13 z13 hj ds hds a' ha'
   subst hds
   show Leaves _ _ _ _ _ _ _
   rw [ha'.defers]
   refine leaves_cons (f:=22) (args:=#[.pointer (some p1),.pointer (some p2),.pointer (some p3)]) (by simp) (jCY call22 rfl) ?_
   refine (jFB p1 p2 p3 w13).mono ?_
   rintro e u' w14 ⟨rfl,rfl,rfl⟩
   refine ⟨_,yF (v:=.tuple #[.agg #[.int .i64 k,.int .i64 f,.int .i64 to,.int .u64 u,.string y,s.v],.int .i64 0,.int .i64 0]) results12 (tM h2 h3 h4 G1 rfl G2 G3) ha' (by kernel_rfl),?_⟩
   rw [if_neg hj]
   exact ⟨s,rfl,T13.mono (fun b hb=>⟨by omega,by omega⟩),E13⟩
  refine jC ?_
  refine jC ?_
  refine rg ?_
  refine q0 (.pointer (some p4)) ?_
  refine q0 (.pointer (some p4)) ?_
  refine q0 (.pointer (some (p4.add 1))) ?_
  refine q2 (.int .i64 (j:Int)) (gX (a:=(p4.add 1)) (by kernel_rfl) (isAgg3 _) (zH R6)) ?_
  refine q0 (.string x) ?_
  refine q0 (.int .i64 (x.size:Int)) ?_
  refine q0 (.bool (decide ((j:Int)<(x.size:Int)))) ?_
  refine jB ?_
  refine jM ?_
  refine kG (t:=(decide ((j:Int)<(x.size:Int)))) (by kernel_rfl) (fun hc2=>?_) (fun hc2=>?_)
  ·have hj:j<(bts x).length:=by have:=of_decide_eq_true hc2;omega
   refine uE (fun ρ=>ρ 2=.pointer (some p1)∧ρ 3=.pointer (some p2)∧ρ 4=.pointer (some p3)) ?_ ⟨by kernel_rfl,by kernel_rfl,by kernel_rfl⟩ (by kernel_rfl) ?_
   ·intro o ho ρ v hh
    simp only [List.mem_cons,List.not_mem_nil,or_false] at ho
    rcases ho with rfl | rfl | rfl | rfl | rfl | rfl <;> exact hh
   refine jJ 5 ?_
   refine q0 (.pointer (some p4)) ?_
   refine q0 (.pointer (some p4)) ?_
   refine q0 (.pointer (some p4)) ?_
   refine q0 (.pointer (some (p4.add 1))) ?_
   refine q2 (.int .i64 (j:Int)) (gX (a:=(p4.add 1)) (by kernel_rfl) (isAgg3 _) (zH R6)) ?_
   refine jB ?_
   refine jW (jF rfl) (by intro c hc;cases hc) (gA (args:=#[(.pointer (some p4)),(.int .i64 4),(.int .i64 (j:Int))]) call24 (by kernel_rfl)) ((zY (some p4) 4 (j:Int) w6).mono ?_)
   rintro e w7 ⟨rfl,rfl⟩
   refine .inr ⟨_,rfl,fun ρ' hI=>?_⟩
   intro a' ha'
   simp only
   rw [if_pos hj]
   exact hit 4 j _ _ _ _ F1 rfl F2 rfl F3 rfl E06 ρ' hI.1 hI.2.1 hI.2.2 _ (by kernel_rfl) a' ha'
  ·have hj:¬ j<(bts x).length:=by have:=of_decide_eq_false hc2;omega
   refine jG ?_
   refine jM ?_
   refine jC ?_
   refine rg ?_
   refine q2 (.agg #[.int .i64 k,.int .i64 f,.int .i64 to,.int .u64 u,.string y,s.v]) (xQ (a:=p1) (vs:=[.int .i64 k,.int .i64 f,.int .i64 to,.int .u64 u,.string y,s.v]) (by kernel_rfl) (isAgg25 _) (sizeOf25 _) rfl F1.row) ?_
   refine zE (jF rfl) (vL (a:=p1) (vs:=[.int .i64 k,.int .i64 f,.int .i64 to,.int .u64 u,.string y,s.v]) (by kernel_rfl) (by kernel_rfl) rfl (sizeOf25 _) rfl (F1.canWs (by simp))) ?_
   intro w8 hn8
   have X8:Ext (·=p1.block) w6 w8:=by rw [hn8];exact Ext.storeRow _ _ _
   have G1:Box w8 p1 [.int .i64 k,.int .i64 f,.int .i64 to,.int .u64 u,.string y,s.v] 25:=by rw [hn8];exact F1.store (by rfl)
   have G2:=F2.ext X8 (fun e=>by omega)
   have G3:=F3.ext X8 (fun e=>by omega)
   refine zE (jF rfl) (zN (a:=p2) (v:=(.int .i64 0)) (by kernel_rfl) (by kernel_rfl) rfl (sizeOf28 _) (G2.canW0 (by simp))) ?_
   intro w9 hn9
   have X9:Ext (·=p2.block) w8 w9:=by rw [hn9];exact Ext.setCell _ _
   have I2:Box w9 p2 [.int .i64 0] 28:=by rw [hn9];exact G2.set0
   have I1:=G1.ext X9 (fun e=>by omega)
   have I3:=G3.ext X9 (fun e=>by omega)
   refine zE (jF rfl) (zN (a:=p3) (v:=(.int .i64 0)) (by kernel_rfl) (by kernel_rfl) rfl (sizeOf3 _) (I3.canW0 (by simp))) ?_
   intro w10 hn10
   have X10:Ext (·=p3.block) w9 w10:=by rw [hn10];exact Ext.setCell _ _
   have J3:Box w10 p3 [.int .i64 0] 3:=by rw [hn10];exact I3.set0
   have J1:=I1.ext X10 (fun e=>by omega)
   have J2:=I2.ext X10 (fun e=>by omega)
   have T10:=((T6.ext X8 (fun b hb=>(hS b hb).1)).ext X9 (fun b hb=>(hS b hb).2.1)).ext X10 (fun b hb=>(hS b hb).2.2)
   have E10:Pure w0 w10:=((E06.trans' X8 (fun b hb e=>by omega)).trans' X9 (fun b hb e=>by omega)).trans' X10 (fun b hb e=>by omega)
   refine jB ?_
   refine jM ?_
   refine tH ?_
   intro a' ha'
   exact fin _ w10 (by kernel_rfl) (by kernel_rfl) (by kernel_rfl) J1 J2 J3 T10 E10 (by have:=X6.size;have:=X8.size;have:=X9.size;have:=X10.size;omega) hj _ (by kernel_rfl) a' ha'
theorem uV (x:ByteArray) (w0:World) (hv:ErrV w0):Calls prog 12 #[.string x] w0 (fun e w'=>tC w0 (Sp.qM (bts x)) e w'):=by
 have hx:=kO x;unfold Sp.qM;by_cases h:1048576<(bts x).length
 ·rw [if_pos h];exact oY x w0 (by omega)
 ·rw [if_neg h];exact lL x w0 (by omega) hv
end Go.Proofs
end
section
open Go Go.SE
namespace Go.Proofs
open Tryd
set_option maxRecDepth 100000
set_option maxHeartbeats 4000000
attribute [local irreducible] wpL wpX opE wpE Calls
def m_R1 (aY aZ:Int) (bA bB:Int) (bC:ByteArray) (bD:Sl) (bE bF:Int) (bG bH:Int) (bI:ByteArray) (bJ:Sl) (w0:World) (K:Int→Int→Int→Int→ByteArray→Sl→WP):Prop :=∀H3 w3,Hst w0 None w0 H3 w3→∀p4 w4,New w3 (.cells #[(vi aY),(vi aZ),(vi bA),(vu bB),(vs bC),bD.v,(vi bE),(vi bF),(vi bG),(vu bH),(vs bI),bJ.v] 25) p4 w4→∀w5,Hst w0 H3 w4 H3 w5→K 4 0 0 0 ⟨#[]⟩ (Sl.mk (some p4) 2 2) w5
theorem w_R1 (aY aZ bA bB bC bD bE bF bG bH bI bJ w0 K) (h:m_R1 aY aZ bA bB bC bD bE bF bG bH bI bJ w0 K):
  Calls prog 16 #[(.agg #[(vi aY),(vi aZ),(vi bA),(vu bB),(vs bC),bD.v]),(.agg #[(vi bE),(vi bF),(vi bG),(vu bH),(vs bI),bJ.v])] w0 (fun e w'=>∃aG aH aI aJ aK aL,e=.returned (Ab aG aH aI aJ aK aL)∧K aG aH aI aJ aK aL w'):=by
 refine cw (args:=[(Ab aY aZ bA bB bC bD),(Ab bE bF bG bH bI bJ)]) func16 ntmps16 ?_
 obtain ⟨hs,hb⟩:=st0 w0
 refine eg (nw3 (Aa aY aZ bA bB bC bD) 25 hs hb xb fun p1 w1 H1 hs hb=>nw3 (Aa bE bF bG bH bI bJ) 25 hs hb xb fun p2 w2 H2 hs hb=>nw3 [(vi 0),(vi 0),(vi 0),(vu 0),ve,Sl.nil.v] 25 hs hb (jV (zeroValue25 _) rfl) fun p3 w3 H3 hs hb=>ln (eg (q2 (Ab aY aZ bA bB bC bD) (xa p1 (Aa aY aZ bA bB bC bD) (isAgg25 _) (sizeOf25 _) (hb.r0 2 6 (gS (gS gZ)))) (q2 (Ab bE bF bG bH bI bJ) (xa p2 (Aa bE bF bG bH bI bJ) (isAgg25 _) (sizeOf25 _) (hb.r0 1 6 (gS gZ))) ?_))))
 have ⟨h,hs⟩:=hs.hr (h H3 w3)
 refine nw5 (fun p=>(Sl.mk (some p) 2 2).v) hs hb h fun p4 w4 hs hb h=>q (zE (jF rfl) (xo p3 [(vi 4),(vi 0),(vi 0),(vu 0),ve,(Sl.mk (some p4) 2 2).v] (sizeOf25 _) (hb.k0 0 6 gZ)) ?_)
 intro w5 hn4
 obtain ⟨hs,hb⟩:=hb.st1 0 hs hn4 gZ
 refine ln (er ?_)
 have ⟨h,hs⟩:=hs.hr (h w5)
 refine yW (.inl rfl) (vs:=[(.agg #[(vi 4),(vi 0),(vi 0),(vu 0),ve,(Sl.mk (some p4) 2 2).v])]) (v:=(.agg #[(vi 4),(vi 0),(vi 0),(vu 0),ve,(Sl.mk (some p4) 2 2).v])) results16 ⟨(rva (isAgg25 _) (sizeOf25 _) (hb.r0 0 6 gZ)),trivial⟩ (by kernel_rfl) ⟨4,0,0,0,⟨#[]⟩,(Sl.mk (some p4) 2 2),rfl,h⟩
def s_W (e1:Int):Int :=e1
theorem pw_W (e1:Int) (w0:World) :
  Calls prog 11 #[(vi e1)] w0 (fun e w'=>(e=.returned (vi e1))∧Pure w0 w'):=by
 refine cw (args:=[(vi e1)]) func11 ntmps11 (eg (q0 (vi 0) (ln (eg (q0 (vi e1) (q0 (vi e1) (ln ?_)))))))
 refine er (rs1 results11 (v:=(vi e1)) ⟨by kernel_rfl,Ext.refl _⟩)
theorem p_W (e1:Int) (w0:World):Calls prog 11 #[(.int .i64 e1)] w0 (fun e w'=>e=.returned (.int .i64 (s_W e1))∧Pure w0 w'):=pw_W e1 w0
def m_N_j1 (r5 r6:Int) (r7 r8:Int) (x1:Bool) (w0:World) (H:NP) (w:World) (K:Bool→WP):Prop :=∀y2:Bool,y2=((((x1 && (r5 == 50)) && (r6 == 1)) && (r7 == 3)) && (r8 == 6))→∀H10 w27,Hst w0 H w H10 w27→K y2 w27
def m_N  (w0:World) (K:Bool→WP):Prop :=Calls prog 16 #[(.agg #[(vi 3),(vi 0),(vi 0),(vu 0),(vs (⟨#[100,101,97,108]⟩:ByteArray)),Sl.nil.v]),(.agg #[(vi 2),(vi 0),(vi 0),(vu 7),ve,Sl.nil.v])] w0 (fun e w1=>∃aG aH aI aJ aK aL,e=.returned (Ab aG aH aI aJ aK aL)∧Kept None w0 w1∧∀p1 w2,New w1 (.cells #[(vi aG),(vi aH),(vi aI),(vu aJ),(vs aK),aL.v] 25) p1 w2→∀H1 w4,Hst w0 None w2 H1 w4→Calls prog 9 #[(.agg #[(vi 7),(vi 0),(vi 0),(vu 0),ve,(Sl.mk (some p1) 1 1).v])] w4 (fun e w5=>∃r1 r2,e=.returned (.tuple #[(vs r1),(vi r2)])∧Kept H1 w4 w5∧Calls prog 12 #[(vs (⟨#[115,48,40,32,40,34,100,101,97,108,34,35,55,41,32,41]⟩:ByteArray))] w5 (fun e w6=>∃aA aB aC aD aE aF r3 r4,e=.returned (.tuple #[(Ab aA aB aC aD aE aF),(vi r3),(vi r4)])∧Kept H1 w5 w6∧∀H2 w8,Hst w0 H1 w6 H2 w8→Calls prog 12 #[(vs (⟨#[110,49,54]⟩:ByteArray))] w8 (fun e w9=>∃aM aN aO aP aQ aR r5 r6,e=.returned (.tuple #[(Ab aM aN aO aP aQ aR),(vi r5),(vi r6)])∧Kept H2 w8 w9∧∀H3 w11,Hst w0 H2 w9 H3 w11→Calls prog 12 #[(vs (⟨#[40,110,49,32,35,50]⟩:ByteArray))] w11 (fun e w12=>∃aS aT aU aV aW aX r7 r8,e=.returned (.tuple #[(Ab aS aT aU aV aW aX),(vi r7),(vi r8)])∧Kept H3 w11 w12∧∀y1:Bool,y1=((r2 == 0) && (decide (r1=(⟨#[115,48,40,40,34,100,101,97,108,34,32,35,55,41,41]⟩:ByteArray))))→Br (y1 && (r3 == 0)) (∀H6 w18,Hst w0 H3 w12 H6 w18→Calls prog 14 #[(.agg #[(vi 7),(vi 0),(vi 0),(vu 0),ve,(Sl.mk (some p1) 1 1).v]),(.agg #[(vi aA),(vi aB),(vi aC),(vu aD),(vs aE),aF.v])] w18 (fun e w28=>∃r9,e=.returned (vb r9)∧Kept H6 w18 w28∧m_N_j1 r5 r6 r7 r8 r9 w0 H6 w28 K)) (∀H6 w18,Hst w0 H3 w12 H6 w18→m_N_j1 r5 r6 r7 r8 false w0 H6 w18 K))))))
theorem w_N  (w0:World) (K:Bool→WP) (h:m_N  w0 K) :
  Calls prog 8 #[] w0 (fun e w'=>∃r10,e=.returned (vb r10)∧K r10 w'):=by
 refine cw (args:=[]) func8 ntmps8 ?_
 obtain ⟨hs,hb⟩:=st0 w0
 refine eg (q (ln (eg (qb (sc call16 (h.mono fun e w1 ⟨aG,aH,aI,aJ,aK,aL,k,hk,h⟩=>have ⟨hs,hb⟩:=hk.hh hs hb;⟨_,k,?_⟩))))))
 refine nw5 (fun p=>(Sl.mk (some p) 1 1).v) hs hb h fun p1 w2 hs hb h=>q (nw3 [(vi 0),(vi 0),(vi 0),(vu 0),ve,Sl.nil.v] 25 hs hb (jV (zeroValue25 _) rfl) fun p2 w3 H1 hs hb=>sbx 0 [(vi 7),(vi 0),(vi 0),(vu 0),ve,(Sl.mk (some p1) 1 1).v] (sizeOf25 _) hs hb gZ fun w4 hs hb=>ln (eg (q2 (.agg #[(vi 7),(vi 0),(vi 0),(vu 0),ve,(Sl.mk (some p1) 1 1).v]) (xa p2 [(vi 7),(vi 0),(vi 0),(vu 0),ve,(Sl.mk (some p1) 1 1).v] (isAgg25 _) (sizeOf25 _) (hb.r0 0 6 gZ)) ?_)))
 have ⟨h,hs⟩:=hs.hr (h H1 w4)
 refine sc call9 (h.mono fun e w5 ⟨r1,r2,k,hk,h⟩=>have ⟨hs,hb⟩:=hk.hh hs hb;⟨_,k,?_⟩)
 refine q (qd (ln (eg (sc call12 (h.mono fun e w6 ⟨aA,aB,aC,aD,aE,aF,r3,r4,k,hk,h⟩=>have ⟨hs,hb⟩:=hk.hh hs hb;⟨_,k,?_⟩)))))
 refine qd (nw3 [(vi 0),(vi 0),(vi 0),(vu 0),ve,Sl.nil.v] 25 hs hb (jV (zeroValue25 _) rfl) fun p3 w7 H2 hs hb=>sbx 0 (Aa aA aB aC aD aE aF) (sizeOf25 _) hs hb gZ fun w8 hs hb=>qb (ln (eg ?_)))
 have ⟨h,hs⟩:=hs.hr (h H2 w8)
 refine sc call12 (h.mono fun e w9 ⟨aM,aN,aO,aP,aQ,aR,r5,r6,k,hk,h⟩=>have ⟨hs,hb⟩:=hk.hh hs hb;⟨_,k,?_⟩)
 refine qd (nw3 [(vi 0),(vi 0),(vi 0),(vu 0),ve,Sl.nil.v] 25 hs hb (jV (zeroValue25 _) rfl) fun p4 w10 H3 hs hb=>sbx 0 (Aa aM aN aO aP aQ aR) (sizeOf25 _) hs hb gZ fun w11 hs hb=>qb (ln (eg ?_)))
 have ⟨h,hs⟩:=hs.hr (h H3 w11)
 refine sc call12 (h.mono fun e w12 ⟨aS,aT,aU,aV,aW,aX,r7,r8,k,hk,h⟩=>have ⟨hs,hb⟩:=hk.hh hs hb;⟨_,k,?_⟩)
 refine qd (nw3 [(vi 0),(vi 0),(vi 0),(vu 0),ve,Sl.nil.v] 25 hs hb (jV (zeroValue25 _) rfl) fun p5 w13 H4 hs hb=>sbx 0 (Aa aS aT aU aV aW aX) (sizeOf25 _) hs hb gZ fun w14 hs hb=>qb (ln (eg (q (sc call11 ((p_W r2 w14).mono ?_))))))
 rintro e w15 ⟨he,hE⟩
 refine ⟨_,he,?_⟩
 obtain ⟨hs,hb⟩:=hs.pp hb hE
 refine qb (jN 3 (fun ρ wJ=>∃b1'0 y1:Bool,∃HJ:NP,((r2 == 0)=b1'0)∧(y1=(b1'0 && (decide (r1=(⟨#[115,48,40,40,34,100,101,97,108,34,32,35,55,41,41]⟩:ByteArray)))))∧Hst w0 H3 w12 HJ wJ∧HB HJ wJ [(p5,(Aa aS aT aU aV aW aX),25),(p4,(Aa aM aN aO aP aQ aR),25),(p3,(Aa aA aB aC aD aE aF),25),(p2,[(vi 7),(vi 0),(vi 0),(vu 0),ve,(Sl.mk (some p1) 1 1).v],25)]∧Has ρ [(1,(vp (some p2))),(4,(vp (some p3))),(5,(vi r3)),(8,(vi r5)),(9,(vi r6)),(11,(vi r7)),(12,(vi r8)),(44,(vb y1))]) ?_ ?_)
 rintro ρ w16 ⟨b1'0,y1,H5,he0,hy1,hs,hb,hH⟩
 subst he0
 have h:=h y1 hy1
 refine jU hH (q (jN 4 (fun ρ wJ=>∃b2'0:Bool,∃HJ:NP,(y1=b2'0)∧Hst w0 H3 w12 HJ wJ∧HB HJ wJ [(p5,(Aa aS aT aU aV aW aX),25),(p4,(Aa aM aN aO aP aQ aR),25),(p3,(Aa aA aB aC aD aE aF),25),(p2,[(vi 7),(vi 0),(vi 0),(vu 0),ve,(Sl.mk (some p1) 1 1).v],25)]∧Has ρ [(1,(vp (some p2))),(4,(vp (some p3))),(8,(vi r5)),(9,(vi r6)),(11,(vi r7)),(12,(vi r8)),(49,(vb (b2'0 && (r3 == 0))))]) ?_ ?_))
 rintro ρ w18 ⟨b2'0,H6,he0,hs,hb,hH⟩
 subst he0
 refine jU hH (q (jN 4 (fun ρ w=>∃x1,∃H:NP,Has ρ [(8,(vi r5)),(9,(vi r6)),(11,(vi r7)),(12,(vi r8)),(54,(vb x1))]∧Hst w0 H w H w∧HB H w [(p5,(Aa aS aT aU aV aW aX),25),(p4,(Aa aM aN aO aP aQ aR),25),(p3,(Aa aA aB aC aD aE aF),25),(p2,[(vi 7),(vi 0),(vi 0),(vu 0),ve,(Sl.mk (some p1) 1 1).v],25)]∧m_N_j1 r5 r6 r7 r8 x1 w0 H w K) ?_ ?_))
 rintro ρ w ⟨x1,H,hH,hs,hb,h⟩
 refine jU hH (q (jN 4 (fun ρ wJ=>∃b3'0:Bool,∃HJ:NP,(x1=b3'0)∧Hst w0 H w HJ wJ∧HB HJ wJ [(p5,(Aa aS aT aU aV aW aX),25),(p4,(Aa aM aN aO aP aQ aR),25),(p3,(Aa aA aB aC aD aE aF),25),(p2,[(vi 7),(vi 0),(vi 0),(vu 0),ve,(Sl.mk (some p1) 1 1).v],25)]∧Has ρ [(9,(vi r6)),(11,(vi r7)),(12,(vi r8)),(59,(vb (b3'0 && (r5 == 50))))]) ?_ ?_))
 rintro ρ w21 ⟨b3'0,H7,he0,hs,hb,hH⟩
 subst he0
 refine jU hH (q (jN 3 (fun ρ wJ=>∃b4'0:Bool,∃HJ:NP,((x1 && (r5 == 50))=b4'0)∧Hst w0 H w HJ wJ∧HB HJ wJ [(p5,(Aa aS aT aU aV aW aX),25),(p4,(Aa aM aN aO aP aQ aR),25),(p3,(Aa aA aB aC aD aE aF),25),(p2,[(vi 7),(vi 0),(vi 0),(vu 0),ve,(Sl.mk (some p1) 1 1).v],25)]∧Has ρ [(11,(vi r7)),(12,(vi r8)),(63,(vb (b4'0 && (r6 == 1))))]) ?_ ?_))
 rintro ρ w23 ⟨b4'0,H8,he0,hs,hb,hH⟩
 subst he0
 refine jU hH (q (jN 4 (fun ρ wJ=>∃b5'0:Bool,∃HJ:NP,(((x1 && (r5 == 50)) && (r6 == 1))=b5'0)∧Hst w0 H w HJ wJ∧HB HJ wJ [(p5,(Aa aS aT aU aV aW aX),25),(p4,(Aa aM aN aO aP aQ aR),25),(p3,(Aa aA aB aC aD aE aF),25),(p2,[(vi 7),(vi 0),(vi 0),(vu 0),ve,(Sl.mk (some p1) 1 1).v],25)]∧Has ρ [(12,(vi r8)),(68,(vb (b5'0 && (r7 == 3))))]) ?_ ?_))
 rintro ρ w25 ⟨b5'0,H9,he0,hs,hb,hH⟩
 subst he0
 refine jU hH (q (jN 3 (fun ρ wJ=>∃b6'0 y2:Bool,∃HJ:NP,((((x1 && (r5 == 50)) && (r6 == 1)) && (r7 == 3))=b6'0)∧(y2=(b6'0 && (r8 == 6)))∧Hst w0 H w HJ wJ∧HB HJ wJ [(p5,(Aa aS aT aU aV aW aX),25),(p4,(Aa aM aN aO aP aQ aR),25),(p3,(Aa aA aB aC aD aE aF),25),(p2,[(vi 7),(vi 0),(vi 0),(vu 0),ve,(Sl.mk (some p1) 1 1).v],25)]∧Has ρ [(72,(vb y2))]) ?_ ?_))
 rintro ρ w27 ⟨b6'0,y2,H10,he0,hy2,hs,hb,hH⟩
 subst he0
 have h:=h y2 hy2
 refine jU hH (q (ln (er ?_)))
 have ⟨h,hs⟩:=hs.hr (h H10 w27)
 refine rs1 results8 ⟨y2,rfl,h⟩
 rcases bte (((x1 && (r5 == 50)) && (r6 == 1)) && (r7 == 3)) with hg12 | hg12
 refine qk 69 hg12 (qk 69 hg12 (q2 (vb (r8 == 6)) (xT hg12) (jB ⟨true,_,_,hg12,rfl,hs,hb,hm⟩)))
 refine sj2 69 hg12 (q2 (vb false) (xF hg12) (jB ⟨false,_,_,hg12,rfl,hs,hb,hm⟩))
 rcases bte ((x1 && (r5 == 50)) && (r6 == 1)) with hg10 | hg10
 refine qk 64 hg10 (vY (wy 64 hg10) (xc call11) ((p_W r7 w23).mono ?_))
 rintro e w26 ⟨he,hE⟩
 refine ⟨_,he,?_⟩
 obtain ⟨hs,hb⟩:=hs.pp hb hE
 refine qk 64 hg10 (q2 (vb (r7 == 3)) (xT hg10) (jB ⟨true,_,hg10,hs,hb,hm⟩))
 refine sj3 64 hg10 (q2 (vb false) (xF hg10) (jB ⟨false,_,hg10,hs,hb,hm⟩))
 rcases bte (x1 && (r5 == 50)) with hg8 | hg8
 refine qk 60 hg8 (qk 60 hg8 (q2 (vb (r6 == 1)) (xT hg8) (jB ⟨true,_,hg8,hs,hb,hm⟩)))
 refine sj2 60 hg8 (q2 (vb false) (xF hg8) (jB ⟨false,_,hg8,hs,hb,hm⟩))
 rcases bte x1 with hg6 | hg6
 refine qk 55 hg6 (vY (wy 55 hg6) (xc call11) ((p_W r5 w).mono ?_))
 rintro e w22 ⟨he,hE⟩
 refine ⟨_,he,?_⟩
 obtain ⟨hs,hb⟩:=hs.pp hb hE
 refine qk 55 hg6 (q2 (vb (r5 == 50)) (xT hg6) (jB ⟨true,_,hg6,hs,hb,hm⟩))
 refine sj3 55 hg6 (q2 (vb false) (xF hg6) (jB ⟨false,_,hg6,hs,hb,hm⟩))
 obtain ⟨hg13,h⟩|⟨hg13,h⟩:=h.br
 refine stq (v:=(.agg #[(vi 7),(vi 0),(vi 0),(vu 0),ve,(Sl.mk (some p1) 1 1).v])) (wy 50 hg13) (xa p2 [(vi 7),(vi 0),(vi 0),(vu 0),ve,(Sl.mk (some p1) 1 1).v] (isAgg25 _) (sizeOf25 _) (hb.r0 3 6 (gS (gS (gS gZ))))) (stq (v:=(Ab aA aB aC aD aE aF)) (wy 50 hg13) (xa p3 (Aa aA aB aC aD aE aF) (isAgg25 _) (sizeOf25 _) (hb.r0 2 6 (gS (gS gZ)))) ?_)
 have ⟨h,hs⟩:=hs.hr (h H6 w18)
 refine vY (wy 50 hg13) (xc call14) (h.mono ?_)
 rintro e w28 ⟨r9,rfl,hk,h⟩
 refine ⟨_,rfl,?_⟩
 obtain ⟨hs,hb⟩:=hk.hh hs hb
 refine q2 (vb r9) (xT hg13) (jB ⟨r9,H6,hm,hs,hb,h⟩)
 refine sj3 50 hg13 (q2 (vb false) (xF hg13) (jB ?_))
 have ⟨h,hs⟩:=hs.hr (h H6 w18)
 exact ⟨false,H6,hm,hs,hb,h⟩
 rcases bte y1 with hg4 | hg4
 refine qk 45 hg4 (vY (wy 45 hg4) (xc call11) ((p_W r3 w16).mono ?_))
 rintro e w19 ⟨he,hE⟩
 refine ⟨_,he,?_⟩
 obtain ⟨hs,hb⟩:=hs.pp hb hE
 refine qk 45 hg4 (q2 (vb (r3 == 0)) (xT hg4) (jB ⟨true,_,hg4,hs,hb,hm⟩))
 refine sj3 45 hg4 (q2 (vb false) (xF hg4) (jB ⟨false,_,hg4,hs,hb,hm⟩))
 rcases bte (r2 == 0) with hg2 | hg2
 refine qk 41 hg2 (stq (v:=(vb (decide (r1=(⟨#[115,48,40,40,34,100,101,97,108,34,32,35,55,41,41]⟩:ByteArray))))) (wy 41 hg2) (jFU (by kernel_rfl) (by kernel_rfl)) (q2 (vb (decide (r1=(⟨#[115,48,40,40,34,100,101,97,108,34,32,35,55,41,41]⟩:ByteArray)))) (xT hg2) (jB ⟨true,_,_,hg2,rfl,hs,hb,hm⟩)))
 refine sj2 41 hg2 (q2 (vb false) (xF hg2) (jB ⟨false,_,_,hg2,rfl,hs,hb,hm⟩))
def m_O_j1 (x1:Bool) (H:NP) (w:World) (K:Bool→WP):Prop :=Br x1 (Calls prog 8 #[] w (fun e w11=>∃r6,e=.returned (vb r6)∧Kept H w w11∧K r6 w11)) (K false w)
def m_O (text1:ByteArray) (w0:World) (K:Bool→WP):Prop :=Br ((decide ((text1.size:Int)>8000)) && (decide ((text1.size:Int)≤1048576))) (∀H1 w1,Hst w0 None w0 H1 w1→Calls prog 8 #[] w1 (fun e w2=>∃r1,e=.returned (vb r1)∧Kept H1 w1 w2∧K r1 w2)) (∀H1 w1,Hst w0 None w0 H1 w1→Calls prog 12 #[(vs text1)] w1 (fun e w3=>∃aG aH aI aJ aK aL r2 r3,e=.returned (.tuple #[(Ab aG aH aI aJ aK aL),(vi r2),(vi r3)])∧Kept H1 w1 w3∧∀H2 w5,Hst w0 H1 w3 H2 w5→Calls prog 13 #[(vs text1)] w5 (fun e w6=>∃aA aB aC aD aE aF r4 r5,e=.returned (.tuple #[(Ab aA aB aC aD aE aF),(vi r4),(vi r5)])∧Kept H2 w5 w6∧Br ((r2 == r4) && (r3 == r5)) (∀H4 w10,Hst w0 H2 w6 H4 w10→Calls prog 14 #[(.agg #[(vi aG),(vi aH),(vi aI),(vu aJ),(vs aK),aL.v]),(.agg #[(vi aA),(vi aB),(vi aC),(vu aD),(vs aE),aF.v])] w10 (fun e w12=>∃r7,e=.returned (vb r7)∧Kept H4 w10 w12∧m_O_j1 r7 H4 w12 K)) (∀H4 w10,Hst w0 H2 w6 H4 w10→m_O_j1 false H4 w10 K))))
theorem w_O (text1 w0 K) (h:m_O text1 w0 K):
  Calls prog 4 #[(vs text1)] w0 (fun e w'=>∃r8,e=.returned (vb r8)∧K r8 w'):=by
 refine cw (args:=[(vs text1)]) func4 ntmps4 ?_
 obtain ⟨hs,hb⟩:=st0 w0
 refine eg (q (ln (jC (jC (zW (fun ρ wJ=>∃b1'0:Bool,∃HJ:NP,((decide ((text1.size:Int)>8000))=b1'0)∧Hst w0 None w0 HJ wJ∧HB HJ wJ []∧Has ρ [(0,(vs text1)),(16,(vb (b1'0 && (decide ((text1.size:Int)≤1048576)))))]) ?_ ?_)))))
 refine rg (qd ?_)
 rcases bte (decide ((text1.size:Int)>8000)) with hg2 | hg2
 refine qk 12 hg2 (qk 12 hg2 (qk 12 hg2 (q2 (vb (decide ((text1.size:Int)≤1048576))) (xT hg2) (ln ⟨true,_,hg2,hs,hb,hm⟩))))
 refine sj3 12 hg2 (q2 (vb false) (xF hg2) (ln ⟨false,_,hg2,hs,hb,hm⟩))
 rintro ρ w1 ⟨b1'0,H1,he0,hs,hb,hH⟩
 subst he0
 refine zL hH (jM (cbr h ?_ ?_))<;>intro h
 refine eg ?_
 have ⟨h,hs⟩:=hs.hr (h H1 w1)
 refine sc call8 (h.mono fun e w2 ⟨r1,k,hk,h⟩=>have ⟨hs,hb⟩:=hk.hh hs hb;⟨_,k,?_⟩)
 refine q (ln (er (kB (rs1 results4 ⟨r1,rfl,h⟩))))
 refine jG (jM (eg (q ?_)))
 have ⟨h,hs⟩:=hs.hr (h H1 w1)
 refine sc call12 (h.mono fun e w3 ⟨aG,aH,aI,aJ,aK,aL,r2,r3,k,hk,h⟩=>have ⟨hs,hb⟩:=hk.hh hs hb;⟨_,k,?_⟩)
 refine qd (nw3 [(vi 0),(vi 0),(vi 0),(vu 0),ve,Sl.nil.v] 25 hs hb (jV (zeroValue25 _) rfl) fun p1 w4 H2 hs hb=>sbx 0 (Aa aG aH aI aJ aK aL) (sizeOf25 _) hs hb gZ fun w5 hs hb=>qb (ln (eg (q ?_))))
 have ⟨h,hs⟩:=hs.hr (h H2 w5)
 refine sc call13 (h.mono fun e w6 ⟨aA,aB,aC,aD,aE,aF,r4,r5,k,hk,h⟩=>have ⟨hs,hb⟩:=hk.hh hs hb;⟨_,k,?_⟩)
 refine qd (nw3 [(vi 0),(vi 0),(vi 0),(vu 0),ve,Sl.nil.v] 25 hs hb (jV (zeroValue25 _) rfl) fun p2 w7 H3 hs hb=>sbx 0 (Aa aA aB aC aD aE aF) (sizeOf25 _) hs hb gZ fun w8 hs hb=>qb (ln (eg (q (sc call11 ((p_W r2 w8).mono ?_))))))
 rintro e w9 ⟨he,hE⟩
 refine ⟨_,he,?_⟩
 obtain ⟨hs,hb⟩:=hs.pp hb hE
 refine qc (jN 4 (fun ρ wJ=>∃b2'0:Bool,∃HJ:NP,((r2 == r4)=b2'0)∧Hst w0 H2 w6 HJ wJ∧HB HJ wJ [(p2,(Aa aA aB aC aD aE aF),25),(p1,(Aa aG aH aI aJ aK aL),25)]∧Has ρ [(3,(vp (some p1))),(6,(vp (some p2))),(38,(vb (b2'0 && (r3 == r5))))]) ?_ ?_)
 rintro ρ w10 ⟨b2'0,H4,he0,hs,hb,hH⟩
 subst he0
 refine jU hH (q (jN 4 (fun ρ w=>∃x1,∃H:NP,Has ρ [(43,(vb x1))]∧Hst w0 H w H w∧HB H w [(p2,(Aa aA aB aC aD aE aF),25),(p1,(Aa aG aH aI aJ aK aL),25)]∧m_O_j1 x1 H w K) ?_ ?_))
 rintro ρ w ⟨x1,H,hH,hs,hb,h⟩
 refine jU hH (q ?_)
 obtain ⟨hg5,h⟩|⟨hg5,h⟩:=h.br
 refine vY (wy 44 hg5) (xc call8) (h.mono ?_)
 rintro e w11 ⟨r6,rfl,hk,h⟩
 refine ⟨_,rfl,?_⟩
 obtain ⟨hs,hb⟩:=hk.hh hs hb
 refine q2 (vb r6) (xT hg5) (q (ln (er (rs1 results4 ⟨r6,rfl,h⟩))))
 refine sj 44 hg5 (q2 (vb false) (xF hg5) (q (ln (er (rs1 results4 ⟨false,rfl,h⟩)))))
 obtain ⟨hg6,h⟩|⟨hg6,h⟩:=h.br
 refine stq (v:=(Ab aG aH aI aJ aK aL)) (wy 39 hg6) (xa p1 (Aa aG aH aI aJ aK aL) (isAgg25 _) (sizeOf25 _) (hb.r0 1 6 (gS gZ))) (stq (v:=(Ab aA aB aC aD aE aF)) (wy 39 hg6) (xa p2 (Aa aA aB aC aD aE aF) (isAgg25 _) (sizeOf25 _) (hb.r0 0 6 gZ)) ?_)
 have ⟨h,hs⟩:=hs.hr (h H4 w10)
 refine vY (wy 39 hg6) (xc call14) (h.mono ?_)
 rintro e w12 ⟨r7,rfl,hk,h⟩
 refine ⟨_,rfl,?_⟩
 obtain ⟨hs,hb⟩:=hk.hh hs hb
 refine q2 (vb r7) (xT hg6) (jB ⟨r7,H4,hm,hs,hb,h⟩)
 refine sj3 39 hg6 (q2 (vb false) (xF hg6) (jB ?_))
 have ⟨h,hs⟩:=hs.hr (h H4 w10)
 exact ⟨false,H4,hm,hs,hb,h⟩
 rcases bte (r2 == r4) with hg4 | hg4
 refine qk 34 hg4 (qk 34 hg4 (qk 34 hg4 (q2 (vb (r3 == r5)) (xT hg4) (jB ⟨true,_,hg4,hs,hb,hm⟩))))
 refine sj3 34 hg4 (q2 (vb false) (xF hg4) (jB ⟨false,_,hg4,hs,hb,hm⟩))
end Go.Proofs
end
section
open Go Go.SE
namespace Go.Proofs
open Tryd
attribute [local irreducible] Calls
theorem oZ {S:NP} (A B:Sp.Tree) (sa sb:Sl) (w0:World) (hA:TreeAt S w0 sa A) (hB:TreeAt S w0 sb B) (hS:∀b,S b→b<w0.heap.size) :
  Calls prog 16 #[.agg (vD A sa).toArray,.agg (vD B sb).toArray] w0 (fun e w'=>∃s:Sl,e=.returned (.agg (vD (.mk 4 0 0 0 ⟨#[]⟩ [A,B]) s).toArray)∧TreeAt (fun b=>S b∨(w0.heap.size≤b∧b<w'.heap.size)) w' s (.mk 4 0 0 0 ⟨#[]⟩ [A,B])∧Pure w0 w'):=by
 obtain ⟨k,f,t,u,x,ks⟩:=A
 obtain ⟨k2,f2,t2,u2,x2,ks2⟩:=B
 refine (w_R1 k f t u x sa k2 f2 t2 u2 x2 sb w0 (fun rk rf rt ru rx s w'=>rk=4∧rf=0∧rt=0∧ru=0∧rx=⟨#[]⟩∧TreeAt (fun b=>S b∨(w0.heap.size≤b∧b<w'.heap.size)) w' s (.mk 4 0 0 0 ⟨#[]⟩ [.mk k f t u x ks,.mk k2 f2 t2 u2 x2 ks2])∧Pure w0 w') ?_).mono ?_
 ·unfold m_R1
  intro H3 w3 hs3 p4 w4 n4 w5 hs5
  have E3:=hs3.first
  have E4:Pure w3 w4:=Ext.new n4
  have E04:Pure w0 w4:=E3.trans E4
  have hp:=n4.at_size
  have z3:=E3.size
  have l4:=(Box.of_new n4).lt
  have hH:∀b,H3 b→w0.heap.size≤b∧b<w3.heap.size:=fun b hb=>⟨hs3.here.old b hb,hs3.here.lt b hb⟩
  have B4:=(Box.of_new n4).ext hs5.ext (fun hh=>by have:=(hH _ hh).2;omega)
  have up:∀{s:Sl} {T:Sp.Tree},TreeAt S w0 s T→TreeAt (fun b=>S b∨(w0.heap.size≤b∧b<w5.heap.size)) w5 s T:=fun h=>((h.pure E04).ext hs5.ext (fun b hb hh=>by have:=(hH b hh).1;have:=hS b hb;omega)).mono (fun b hb=>.inl hb)
  have z5:=hs5.ext.size
  exact ⟨rfl,rfl,rfl,rfl,rfl,TreeAt.pair (A:=.mk k f t u x ks) (B:=.mk k2 f2 t2 u2 x2 ks2) (sa:=sa) (sb:=sb) B4 (.inr ⟨by omega,by omega⟩) (up hA) (up hB),E04.trans' hs5.ext (fun b hb hh=>by have:=(hH b hh).1;omega)⟩
 ·rintro e w' ⟨rk,rf,rt,ru,rx,s,rfl,rfl,rfl,rfl,rfl,rfl,h⟩
  exact ⟨s,rfl,h⟩
def gU:Sp.Tree:=.mk 7 0 0 0 ⟨#[]⟩ [.mk 4 0 0 0 ⟨#[]⟩ [.mk 3 0 0 0 ⟨#[100,101,97,108]⟩ [],.mk 2 0 0 7 ⟨#[]⟩ []]]
set_option maxRecDepth 100000 in
theorem jCR:Sp.jAY gU=([115,48,40,40,34,100,101,97,108,34,32,35,55,41,41],0):=by kernel_rfl
set_option maxRecDepth 100000 in
theorem xI:Sp.qM (bts ⟨#[115,48,40,32,40,34,100,101,97,108,34,35,55,41,32,41]⟩)=(gU,0,0):=by kernel_rfl
set_option maxRecDepth 100000 in
theorem jBE:(Sp.qM (bts ⟨#[110,49,54]⟩)).2=(50,1):=by kernel_rfl
set_option maxRecDepth 100000 in
theorem jBD:(Sp.qM (bts ⟨#[40,110,49,32,35,50]⟩)).2=(3,6):=by kernel_rfl
theorem tC.un {w0 w':World} {R:Sp.Tree×Int×Int} {e:Ending} (h:tC w0 R e w'):∃k f t u y ks s,R.1=.mk k f t u y ks∧e=.returned (.tuple #[.agg #[.int .i64 k,.int .i64 f,.int .i64 t,.int .u64 u,.string y,s.v],.int .i64 R.2.1,.int .i64 R.2.2])∧TreeAt (fun b=>w0.heap.size≤b∧b<w'.heap.size) w' s (.mk k f t u y ks)∧Pure w0 w':=by
 obtain ⟨⟨k,f,t,u,y,ks⟩,a,b⟩:=R;obtain ⟨s,rfl,hT,E⟩:=h;exact ⟨k,f,t,u,y,ks,s,rfl,rfl,hT,E⟩
theorem tN {w0 w w':World} {H:NP} {s:Sl} {t:Sp.Tree} (h:TreeAt (fun b=>w.heap.size≤b∧b<w'.heap.size) w' s t) (E:Pure w0 w) (hH:∀b,H b→b<w.heap.size):TT w0 w' H s t:=TT.of h E.size hH
theorem yB {w0 w w':World} {H:NP} {s:Sl} {t:Sp.Tree} (h:TT w0 w H s t) (E:Pure w w'):TT w0 w' H s t:=(TreeAt.pure h E).mono (fun b hb=>⟨hb.1,by have:=E.size;omega,hb.2.2⟩)
theorem jEO:Sp.NumT gU:=by
 have n0:Sp.jER 0:=⟨by decide,by decide⟩;have n7:Sp.jER 7:=⟨by decide,by decide⟩;have leaf:∀k f t u x,Sp.jER u→Sp.NumT (.mk k f t u x []):=fun k f t u x h=>.mk k f t u x [] h (fun i hi=>by simp at hi);refine .mk _ _ _ _ _ _ n0 (fun i hi=>?_);obtain rfl:i=0:=by simp at hi;omega
 refine .mk _ _ _ _ _ _ n0 (fun i hi=>?_);match i,hi with
 | 0,_=>exact leaf _ _ _ _ _ n0
 | 1,_=>exact leaf _ _ _ _ _ n7
set_option maxRecDepth 100000 in
theorem jCS:Sp.xY gU gU=true:=by kernel_rfl
set_option maxRecDepth 100000 in
set_option maxHeartbeats 2000000 in
theorem jGY (w0:World) (ht:Pow w0) (hv:ErrV w0):Calls prog 8 #[] w0 (fun e w'=>∃r:Bool,e=.returned (.bool r)∧(r=true∧Pure w0 w')):=by
 refine w_N w0 (fun r w'=>r=true∧Pure w0 w') ?_;unfold m_N;refine (oZ (S:=fun _=>False) (.mk 3 0 0 0 ⟨#[100,101,97,108]⟩ []) (.mk 2 0 0 7 ⟨#[]⟩ []) Sl.nil Sl.nil w0 TreeAt.leaf TreeAt.leaf (fun b hb=>hb.elim)).mono ?_;rintro _ w1 ⟨s,rfl,hT1,E1⟩;refine ⟨_,_,_,_,_,s,rfl,E1.keptP,?_⟩;intro p1 w2 n2 H1 w4 hs4;have E2:Pure w1 w2:=Ext.new n2;have E02:=E1.trans E2;have y2:=n2.at_size;have z1:=E1.size;have z2:=E2.size;have B2:=Box.of_new n2;have l2:=B2.lt;have T2:TT w0 w2 None (Sl.mk (some p1) 1 1) gU:=by
  refine TreeAt.one (A:=.mk 4 0 0 0 ⟨#[]⟩ [.mk 3 0 0 0 ⟨#[100,101,97,108]⟩ [],.mk 2 0 0 7 ⟨#[]⟩ []]) (sa:=s) B2 ⟨by omega,by omega,id⟩ ?_;exact (TreeAt.pure hT1 E2).mono (fun b hb=>by
   rcases hb with hb | hb
   ·exact hb.elim
   ·exact ⟨hb.1,by omega,id⟩)
 have T4:=TT.hst T2 hs4;have E4:=E02.hst hs4;refine (jEZ gU (Sl.mk (some p1) 1 1) w4 T4 (fun b hb=>hb.2.1) jEO (by decide) (yY ht E4)).mono ?_;rintro _ w5 ⟨r1,r2,rfl,⟨hr1,hr2⟩,E5⟩;rw [jCR] at hr1 hr2;subst hr1;subst hr2;refine ⟨_,_,rfl,E5.keptP,?_⟩;have T5:=yB T4 E5;have E05:=E4.trans E5;have hH1:=hs4.here.lt;refine (uV _ w5 (vV hv E05)).mono ?_;intro e w6 hR;obtain ⟨k,f,t,u,y,ks,s2,hR1,rfl,hT6,E6⟩:=hR.un;rw [xI] at hR1;rw [xI];simp only at hR1;rw [← hR1] at hT6;refine ⟨_,_,_,_,_,s2,_,_,rfl,E6.keptP,?_⟩;have T6:=yB T5 E6;have T26:TT w0 w6 H1 s2 gU:=tN hT6 E05 (fun b hb=>by have:=hH1 b hb;have:=E5.size;omega);have E06:=E05.trans E6;intro H2 w8 hs8;have T8:=TT.hst T6 hs8;have T28:=TT.hst T26 hs8;have E08:=E06.hst hs8;refine (uV _ w8 (vV hv E08)).mono ?_;intro e w9 hR;obtain ⟨k3,f3,t3,u3,y3,ks3,s3,_,rfl,_,E9⟩:=hR.un;rw [jBE];refine ⟨_,_,_,_,_,s3,_,_,rfl,E9.keptP,?_⟩;intro H3 w11 hs11;have T11:=TT.hst (yB T8 E9) hs11;have T211:=TT.hst (yB T28 E9) hs11;have E11:=(E08.trans E9).hst hs11;refine (uV _ w11 (vV hv E11)).mono ?_;intro e w12 hR;obtain ⟨k4,f4,t4,u4,y4,ks4,s4,_,rfl,_,E12⟩:=hR.un;rw [jBD];refine ⟨_,_,_,_,_,s4,_,_,rfl,E12.keptP,?_⟩;rintro y1 rfl;refine Br.t (by kernel_rfl) (fun H6 w18 hs18=>?_);have T18:=TT.hst (yB T11 E12) hs18;have T218:=TT.hst (yB T211 E12) hs18;have E18:=(E11.trans E12).hst hs18;have hmk:gU=.mk k f t u y ks:=hR1;rw [hmk] at T218;refine (uK (S:=fun b=>b<w18.heap.size) gU (.mk k f t u y ks) (Sl.mk (some p1) 1 1) s2 w18 (T18.mono (fun b hb=>hb.2.1)) (T218.mono (fun b hb=>hb.2.1)) (fun b hb=>hb)).mono ?_;rintro _ w28 ⟨r9,rfl,hr9,E28⟩;rw [← hmk,jCS] at hr9;subst hr9;refine ⟨_,rfl,E28.keptP,?_⟩;unfold m_N_j1;rintro y2 rfl H10 w27 hs27;exact ⟨by kernel_rfl,(E18.trans E28).hst hs27⟩
end Go.Proofs
end
section
open Go Go.SE
open Go.IntKind renaming i64 → q6
namespace Go.Proofs
open Tryd
set_option maxRecDepth 100000
set_option maxHeartbeats 4000000
attribute [local irreducible] wpL wpX opE wpE Calls
def m_X_l1 (r1:Option Addr) (w0:World) (Hl1:NP) (wl1:World) (Kc1:NP→WP) (K:WP):Prop :=∃a1,r1=some a1∧∀w1,Hst w0 Hl1 wl1 Hl1 w1→∃v1,w1.cell? (a1.add 1)=some (vi v1)∧∃a2,r1=some a2∧∃v2,w1.cell? a2=some (vs v2)∧Br (decide (v1<(v2.size:Int))) (∃a3,r1=some a3∧∃v3,w1.cell? a3=some (vs v3)∧∃a4,r1=some a4∧∃v4,w1.cell? (a4.add 1)=some (vi v4)∧∃e1:Int,(Instr.index 9 (vs v3) (vi v4)).run prog w1=.ok (.int .u8 e1) w1∧Br (e1 == 32) (∃a5,r1=some a5∧∃v5,w1.cell? (a5.add 1)=some (vi v5)∧∃a6,r1=some a6∧kD w1 (a6.add 1)∧¬ Hl1 (a6.add 1).block∧∀w2,w2=w1.setCell (a6.add 1) (vi (q6.wrap (v5+1)))→Kc1 Hl1 w2) (K w1)) (K w1)
def m_X (r1:Option Addr) (w0:World) (K:WP):Prop :=∃(I1:NP→WP) (mu1:World→Nat),I1 None w0∧∀Hl1 wl1,Hst w0 Hl1 wl1 Hl1 wl1→I1 Hl1 wl1→m_X_l1 r1 w0 Hl1 wl1 (fun H' w'=>I1 H' w'∧mu1 w'<mu1 wl1) K
theorem w_X (r1 w0 K) (h:m_X r1 w0 K):
  Calls prog 42 #[(vp r1)] w0 (fun e w'=>e=.returned (.tuple #[])∧K  w'):=by
 refine cw (args:=[(vp r1)]) func42 ntmps42 ?_
 obtain ⟨hs,hb⟩:=st0 w0
 refine jP ?_
 obtain ⟨I1,mu1,h0,hr⟩:=h
 refine kN (σ:=NP×World) (fun s ρ w=>w=s.2∧Has ρ [(0,(vp r1))]∧Hst w0 s.1 w s.1 w∧HB s.1 w []∧I1 s.1 s.2) (fun s=>mu1 s.2) (None,w0) ⟨rfl,hm,hs,hb,h0⟩ ?_
 rintro ⟨Hl1,wl1⟩ ρ w ⟨hw,hH,hs,hb,hI⟩
 dsimp only at hw hH hs hb;subst w
 have h:=hr Hl1 wl1 hs hI
 refine jZ hH (jC (jC (zC (by kernel_rfl) (by kernel_rfl) (by kernel_rfl) (by kernel_rfl) ?_)))
 intro w1 hw1
 have hs:Hst w0 Hl1 wl1 Hl1 w1:=by rw [hw1];exact hs.drew
 have hb:HB Hl1 w1 []:=by rw [hw1];exact hb.drew
 refine qq 0 (vp r1) Kp0 (qg 1 ?_)
 obtain ⟨a1,hp1,h⟩:=h
 refine sxQ Kp1 (jF rfl) rfl (xn hp1) (qq 2 (vp (some (a1.add 1))) Kp2 (qg 3 ?_))
 have ⟨h,hs⟩:=hs.hr (h w1)
 obtain ⟨v1,hv6,h⟩:=h
 refine sxQ Kp3 (jF rfl) rfl (xl (isAgg3 _) hv6) (qq 4 (vp r1) Kp4 (qg 5 ?_))
 obtain ⟨a2,hp2,h⟩:=h
 refine sxQ Kp5 (jF rfl) rfl (xn hp2) (qq 6 (vp (some a2)) Kp6 (qg 7 ?_))
 obtain ⟨v2,hv5,h⟩:=h
 refine sxQ Kp7 (jF rfl) rfl (xl (isAgg9 _) hv5) (qq 8 (vi (v2.size:Int)) Kp8 (qq 9 (vb (decide (v1<(v2.size:Int)))) Kp9 (qq 10 (vb (decide (v1<(v2.size:Int)))) (jE (S8 (jA (jA jD)))) (qg 11 ?_))))
 obtain ⟨hg1,h⟩|⟨hg1,h⟩:=h.br
 refine sxQ (v:=(vp r1)) (jE (S8 (jA (jA (jA jD))))) (wy 12 hg1) rfl (by kernel_rfl) (qg 12 ?_)
 obtain ⟨a3,hp3,h⟩:=h
 refine sxQ (jE (S8 (S4 jD))) (wy 12 hg1) rfl (xn hp3) (qg 13 (sxQ (v:=(vp (some a3))) (jE (S8 (S4 (jA jD)))) (wy 12 hg1) rfl (by kernel_rfl) (qg 14 ?_)))
 obtain ⟨v3,hv4,h⟩:=h
 refine sxQ (jE (S8 (S4 (jA (jA jD))))) (wy 12 hg1) rfl (xl (isAgg9 _) hv4) (qg 15 (sxQ (v:=(vp r1)) (jE (S8 (S4 (jA (jA (jA jD)))))) (wy 12 hg1) rfl (by kernel_rfl) (qg 16 ?_)))
 obtain ⟨a4,hp4,h⟩:=h
 refine sxQ (jE (S8 (S8 jD))) (wy 12 hg1) rfl (xn hp4) (qg 17 (sxQ (v:=(vp (some (a4.add 1)))) (jE (S8 (S8 (jA jD)))) (wy 12 hg1) rfl (by kernel_rfl) (qg 18 ?_)))
 obtain ⟨v4,hv3,h⟩:=h
 refine sxQ (jE (S8 (S8 (jA (jA jD))))) (wy 12 hg1) rfl (xl (isAgg3 _) hv3) (qg 19 ?_)
 obtain ⟨e1,hv2,h⟩:=h
 refine sxQ (v:=(.int .u8 e1)) (jE (S8 (S8 (jA (jA (jA jD)))))) (wy 12 hg1) rfl (zO (by kernel_rfl) (by kernel_rfl) hv2) (qg 20 (sxQ (v:=(vb (e1 == 32))) (jE (S8 (S8 (S4 jD)))) (wy 12 hg1) rfl (by kernel_rfl) (qr 21 (vb (e1 == 32)) (jE (S8 (S8 (S4 (jA jD))))) (xT hg1) (wn (jM (cbr h ?_ ?_))))))<;>intro h
 refine jG (jM (jP (rg (q (qm h fun a5 h=>q (ql (isAgg3 _) h fun v5 h=>q (qm h fun a6 h=>q (st2 (sizeOf3 _) hs hb h fun w2 hs hb h=>jB (kY (jM ⟨(Hl1,w2),⟨rfl,hm,hs,hb,h.1⟩,h.2⟩))))))))))
 refine zQ (qI (qI (qH (jAF (.inr rfl) results42 ⟨rfl,h⟩))))
 refine qE (jE (S8 (jA (jA (jA jD))))) (jH rfl (yD 12 hg1) rfl) (qn 12 (jE (S8 (S4 jD))) (jH rfl (yD 12 hg1) rfl) (qn 13 (jE (S8 (S4 (jA jD)))) (jH rfl (yD 12 hg1) rfl) (qn 14 (jE (S8 (S4 (jA (jA jD))))) (jH rfl (yD 12 hg1) rfl) (qn 15 (jE (S8 (S4 (jA (jA (jA jD)))))) (jH rfl (yD 12 hg1) rfl) (qn 16 (jE (S8 (S8 jD))) (jH rfl (yD 12 hg1) rfl) (qn 17 (jE (S8 (S8 (jA jD)))) (jH rfl (yD 12 hg1) rfl) (qn 18 (jE (S8 (S8 (jA (jA jD))))) (jH rfl (yD 12 hg1) rfl) (qn 19 (jE (S8 (S8 (jA (jA (jA jD)))))) (jH rfl (yD 12 hg1) rfl) (qn 20 (jE (S8 (S8 (S4 jD)))) (jH rfl (yD 12 hg1) rfl) (qr 21 (vb false) (jE (S8 (S8 (S4 (jA jD))))) (xF hg1) (wn (jM (zT (by kernel_rfl) (zQ (qI (qI (qH (jAF (.inr rfl) results42 ⟨rfl,h⟩))))))))))))))))))
def m_S1 (r1:Option Addr) (e1 at1:Int) (w0:World) (K:WP):Prop :=∃a1,r1=some a1∧∃v1,w0.cell? (a1.add 3)=some (vi v1)∧Br (v1 == 0) (∃a2,r1=some a2∧kD w0 (a2.add 3)∧∀w1,w1=w0.setCell (a2.add 3) (vi e1)→∃a3,r1=some a3∧kD w1 (a3.add 4)∧∀w2,w2=w1.setCell (a3.add 4) (vi at1)→K w2) (K w0)
theorem w_S1 (r1 e1 at1 w0 K) (h:m_S1 r1 e1 at1 w0 K):
  Calls prog 26 #[(vp r1),(vi e1),(vi at1)] w0 (fun e w'=>e=.returned (.tuple #[])∧K  w'):=by
 refine cw (args:=[(vp r1),(vi e1),(vi at1)]) func26 ntmps26 (eg (q0 (vp r1) ?_))
 refine qm h fun a1 h=>q (ql (isAgg3 _) h fun v1 h=>q (ln (cbr h ?_ ?_)))<;>intro h
 refine eg (qb (qm h fun a2 h=>q (st1 (sizeOf3 _) h fun w1 h=>ln (rg (qb (qm h fun a3 h=>q (st1 (sizeOf3 _) h fun w2 h=>jB (jAF (.inr rfl) results26 ⟨rfl,h⟩))))))))
 refine jG (jAF (.inr rfl) results26 ⟨rfl,h⟩)
def m_T1 (r1:Option Addr) (w0:World) (K:WP):Prop :=∃a1,r1=some a1∧∀w1,Hst w0 None w0 None w1→∃v1,w1.cell? (a1.add 1)=some (vi v1)∧∃a2,r1=some a2∧∃v2,w1.cell? a2=some (vs v2)∧Br (decide (v1≥(v2.size:Int))) (∃a3,r1=some a3∧∃v3,w1.cell? a3=some (vs v3)∧Calls prog 26 #[(vp r1),(vi 3),(vi (v3.size:Int))] w1 (fun e w2=>e=.returned (.tuple #[])∧Kept None w1 w2∧K w2)) (∃a4,r1=some a4∧∃v4,w1.cell? (a4.add 1)=some (vi v4)∧Calls prog 26 #[(vp r1),(vi 60),(vi v4)] w1 (fun e w3=>e=.returned (.tuple #[])∧Kept None w1 w3∧K w3))
theorem w_T1 (r1 w0 K) (h:m_T1 r1 w0 K):
  Calls prog 43 #[(vp r1)] w0 (fun e w'=>e=.returned (.tuple #[])∧K  w'):=by
 refine cw (args:=[(vp r1)]) func43 ntmps43 ?_
 obtain ⟨hs,hb⟩:=st0 w0
 refine jC (zC (by kernel_rfl) (by kernel_rfl) (by kernel_rfl) (by kernel_rfl) ?_)
 intro w1 hw1
 have hs:Hst w0 None w0 None w1:=by rw [hw1];exact hs.drew
 have hb:HB None w1 []:=by rw [hw1];exact hb.drew
 refine qq 0 (vp r1) Kp0 (qg 1 ?_)
 obtain ⟨a1,hp1,h⟩:=h
 refine sxQ Kp1 (jF rfl) rfl (xn hp1) (qq 2 (vp (some (a1.add 1))) Kp2 (qg 3 ?_))
 have ⟨h,hs⟩:=hs.hr (h w1)
 obtain ⟨v1,hv4,h⟩:=h
 refine sxQ Kp3 (jF rfl) rfl (xl (isAgg3 _) hv4) (qq 4 (vp r1) Kp4 (qg 5 ?_))
 obtain ⟨a2,hp2,h⟩:=h
 refine sxQ Kp5 (jF rfl) rfl (xn hp2) (qq 6 (vp (some a2)) Kp6 (qg 7 ?_))
 obtain ⟨v2,hv3,h⟩:=h
 refine sxQ Kp7 (jF rfl) rfl (xl (isAgg9 _) hv3) (qq 8 (vi (v2.size:Int)) Kp8 (qq 9 (vb (decide (v1≥(v2.size:Int)))) Kp9 (wn (jM (cbr h ?_ ?_)))))<;>intro h
 refine rg (qb (qm h fun a3 h=>q (ql (isAgg9 _) h fun v3 h=>q (sc call26 (h.mono fun e w2 ⟨k,hk,h⟩=>have ⟨hs,hb⟩:=hk.hh hs hb;⟨_,k,?_⟩)))))
 refine jB (jAF (.inr rfl) results43 ⟨rfl,h⟩)
 refine rg (qb (qm h fun a4 h=>q (ql (isAgg3 _) h fun v4 h=>sc call26 (h.mono fun e w3 ⟨k,hk,h⟩=>have ⟨hs,hb⟩:=hk.hh hs hb;⟨_,k,?_⟩))))
 refine jB (jAF (.inr rfl) results43 ⟨rfl,h⟩)
def m_F_j1 (r1:Option Addr) (v1 n1:Int) (wide1:Bool) (H:NP) (w:World) (K:Int→Int→WP):Prop :=∃a3,r1=some a3∧∃v3,w.cell? (a3.add 1)=some (vi v3)∧Br (v3 == v1) (Calls prog 43 #[(vp r1)] w (fun e w1=>e=.returned (.tuple #[])∧Kept H w w1∧K n1 v1 w1)) (Br wide1 (Calls prog 26 #[(vp r1),(vi 61),(vi v1)] w (fun e w2=>e=.returned (.tuple #[])∧Kept H w w2∧K n1 v1 w2)) (∃a4,r1=some a4∧∃v4,w.cell? a4=some (vs v4)∧∃e1:Int,(Instr.index 9 (vs v4) (vi v1)).run prog w=.ok (.int .u8 e1) w∧Br (e1 == 48) (∃a5,r1=some a5∧∃v5,w.cell? (a5.add 1)=some (vi v5)∧Br (decide (v5>(q6.wrap (v1+1)))) (Calls prog 26 #[(vp r1),(vi 61),(vi v1)] w (fun e w3=>e=.returned (.tuple #[])∧Kept H w w3∧K n1 v1 w3)) (K n1 v1 w)) (K n1 v1 w)))
def m_F_j3 (r1:Option Addr) (v1 n2:Int) (wide2 x1:Bool) (w0:World) (H:NP) (w:World) (Kc2:Int→Bool→NP→WP) (K:Int→Int→WP):Prop :=Br x1 (∃a6,r1=some a6∧∀w4,Hst w0 H w H w4→∃v6,w4.cell? a6=some (vs v6)∧∃a7,r1=some a7∧∃v7,w4.cell? (a7.add 1)=some (vi v7)∧∃e2:Int,(Instr.index 9 (vs v6) (vi v7)).run prog w4=.ok (.int .u8 e2) w4∧∃z1,(Go.binOp .quo 22 (vu (IntKind.u64.wrap (18446744073709551615 - (IntKind.u64.wrap (IntKind.u8.wrap (e2 - 48)))))) (vu 10)).run prog w4=.ok (vu z1) w4∧∃a8,r1=some a8∧∀H1 w5,Hst w0 H w4 H1 w5→∃v8,w5.cell? (a8.add 1)=some (vi v8)∧∃a9,r1=some a9∧kD w5 (a9.add 1)∧¬ H1 (a9.add 1).block∧∀w6,w6=w5.setCell (a9.add 1) (vi (q6.wrap (v8+1)))→Kc2 (IntKind.u64.wrap ((IntKind.u64.wrap (10*n2))+(IntKind.u64.wrap (IntKind.u8.wrap (e2 - 48))))) ((decide (n2>z1)) || wide2) H1 w6) (m_F_j1 r1 v1 n2 wide2 H w K)
def m_F_l2 (r1:Option Addr) (v1 n2:Int) (wide2:Bool) (w0:World) (Hl1:NP) (wl1:World) (Kc2:Int→Bool→NP→WP) (K:Int→Int→WP):Prop :=∃a10,r1=some a10∧∀w7,Hst w0 Hl1 wl1 Hl1 w7→∃v9,w7.cell? (a10.add 1)=some (vi v9)∧∃a11,r1=some a11∧∃v10,w7.cell? a11=some (vs v10)∧Br (decide (v9<(v10.size:Int))) (∃a12,r1=some a12∧∃v11,w7.cell? a12=some (vs v11)∧∃a13,r1=some a13∧∃v12,w7.cell? (a13.add 1)=some (vi v12)∧∃e3:Int,(Instr.index 9 (vs v11) (vi v12)).run prog w7=.ok (.int .u8 e3) w7∧Br (decide (e3≥48)) (∃a14,r1=some a14∧∃v13,w7.cell? a14=some (vs v13)∧∃a15,r1=some a15∧∃v14,w7.cell? (a15.add 1)=some (vi v14)∧∃e4:Int,(Instr.index 9 (vs v13) (vi v14)).run prog w7=.ok (.int .u8 e4) w7∧m_F_j3 r1 v1 n2 wide2 (decide (e4≤57)) w0 Hl1 w7 Kc2 K) (m_F_j3 r1 v1 n2 wide2 false w0 Hl1 w7 Kc2 K)) (m_F_j3 r1 v1 n2 wide2 false w0 Hl1 w7 Kc2 K)
def m_F (r1:Option Addr) (w0:World) (K:Int→Int→WP):Prop :=∃a1,r1=some a1∧∃v1,w0.cell? (a1.add 1)=some (vi v1)∧∃a2,r1=some a2∧∃v2,w0.cell? (a2.add 3)=some (vi v2)∧Br (v2 != 0) (K 0 v1 w0) (∃(I1:Int→Bool→NP→WP) (mu1:Int→Bool→World→Nat),I1 0 false None w0∧∀(n2:Int) (wide2:Bool) (Hl1:NP) (wl1:World),Hst w0 Hl1 wl1 Hl1 wl1→I1 n2 wide2 Hl1 wl1→m_F_l2 r1 v1 n2 wide2 w0 Hl1 wl1 (fun y'0 y'1 H' w'=>I1 y'0 y'1 H' w'∧mu1 y'0 y'1 w'<mu1 n2 wide2 wl1) K)
theorem w_F (r1 w0 K) (h:m_F r1 w0 K):
  Calls prog 57 #[(vp r1)] w0 (fun e w'=>∃r2 r3,e=.returned (.tuple #[(vu r2),(vi r3)])∧K r2 r3 w'):=by
 refine cw (args:=[(vp r1)]) func57 ntmps57 ?_
 obtain ⟨hs,hb⟩:=st0 w0
 refine eg (qb (ln (eg (q (qm h fun a1 h=>q (ql (isAgg3 _) h fun v1 h=>q (ln (jC (eg (q (qm h fun a2 h=>q (ql (isAgg3 _) h fun v2 h=>q (ln (cbr h ?_ ?_))))))))))))))<;>intro h
 refine eg (qc (ln (er (kB (lC (.inl rfl) results57 (v:=(vu 0)) (by kernel_rfl) (v':=(vi v1)) (by kernel_rfl) ⟨0,v1,rfl,h⟩)))))
 refine jG (jM (eg (q (ln (eg (q (ln (jC (zJ (fun ρ w=>∃n1 wide1,∃H:NP,Has ρ [(0,(vp r1)),(4,(vi v1)),(5,(vu n1)),(6,(vb wide1))]∧Hst w0 H w H w∧HB H w []∧m_F_j1 r1 v1 n1 wide1 H w K) ?_ ?_)))))))))
 rintro ρ w ⟨n1,wide1,H,hH,hs,hb,h⟩
 refine jZ hH (jC (jP (eg (q (qm h fun a3 h=>q (ql (isAgg3 _) h fun v3 h=>qc (ln (cbr h ?_ ?_))))))))<;>intro h
 refine rg (q (sc call43 (h.mono fun e w1 ⟨k,hk,h⟩=>have ⟨hs,hb⟩:=hk.hh hs hb;⟨_,k,?_⟩)))
 refine jB (kY (jM (eg (qd (ln (er (lC (.inl rfl) results57 (v:=(vu n1)) (by kernel_rfl) (v':=(vi v1)) (by kernel_rfl) ⟨n1,v1,rfl,h⟩)))))))
 refine eg (qb ?_)
 obtain ⟨hg1,h⟩|⟨hg1,h⟩:=h.br
 refine sj3 90 hg1 (sj5 90 hg1 (sm (sm (sm (sm (sm (sm (sm (sj 90 hg1 (q2 (vb true) (xT hg1) (q (ln (kE (by kernel_rfl) (rg (q0 (vp r1) (q0 (vi v1) (sc call26 (h.mono fun e w2 ⟨k,hk,h⟩=>have ⟨hs,hb⟩:=hk.hh hs hb;⟨_,k,?_⟩))))))))))))))))))
 refine jB (kY (jM (eg (qd (ln (er (lC (.inl rfl) results57 (v:=(vu n1)) (by kernel_rfl) (v':=(vi v1)) (by kernel_rfl) ⟨n1,v1,rfl,h⟩)))))))
 refine qk 90 hg1 ?_
 obtain ⟨a4,hp4,h⟩:=h
 refine q4 90 hg1 (xn hp4) (qk 90 hg1 ?_)
 obtain ⟨v4,hv3,h⟩:=h
 refine q4 90 hg1 (xl (isAgg9 _) hv3) (qk 90 hg1 ?_)
 obtain ⟨e1,hv2,h⟩:=h
 refine stq (v:=(.int .u8 e1)) (wy 90 hg1) (zO (by kernel_rfl) (by kernel_rfl) hv2) (qk 90 hg1 (qk 90 hg1 ?_))
 obtain ⟨hg2,h⟩|⟨hg2,h⟩:=h.br
 refine qk 98 hg2 ?_
 obtain ⟨a5,hp5,h⟩:=h
 refine q4 98 hg2 (xn hp5) (qk 98 hg2 ?_)
 obtain ⟨v5,hv1,h⟩:=h
 refine q4 98 hg2 (xl (isAgg3 _) hv1) (qk 98 hg2 (qk 98 hg2 (qk 98 hg2 (stq (v:=(vb (decide (v5>(q6.wrap (v1+1)))))) (wy 90 hg1) (xT hg2) (q2 (vb (decide (v5>(q6.wrap (v1+1))))) (xF hg1) (q (ln (cbr h ?_ ?_))))))))<;>intro h
 refine rg (qb (sc call26 (h.mono fun e w3 ⟨k,hk,h⟩=>have ⟨hs,hb⟩:=hk.hh hs hb;⟨_,k,?_⟩)))
 refine jB (kY (jM (eg (qd (ln (er (lC (.inl rfl) results57 (v:=(vu n1)) (by kernel_rfl) (v':=(vi v1)) (by kernel_rfl) ⟨n1,v1,rfl,h⟩)))))))
 refine jG (kY (jM (eg (qd (ln (er (lC (.inl rfl) results57 (v:=(vu n1)) (by kernel_rfl) (v':=(vi v1)) (by kernel_rfl) ⟨n1,v1,rfl,h⟩)))))))
 refine sj2 98 hg2 (sj5 98 hg2 (stq (v:=(vb false)) (wy 90 hg1) (xF hg2) (q2 (vb false) (xF hg1) (q (ln (zT (by kernel_rfl) (jG (kY (jM (eg (q0 (vu n1) (q0 (vi v1) (q0 (vu n1) (q0 (vi v1) (ln (er (lC (.inl rfl) results57 (v:=(vu n1)) (by kernel_rfl) (v':=(vi v1)) (by kernel_rfl) ⟨n1,v1,rfl,h⟩)))))))))))))))))
 refine jP ?_
 obtain ⟨I1,mu1,h0,hr⟩:=h
 refine kN (σ:=Int×Bool×NP×World) (fun s ρ w=>w=s.2.2.2∧Has ρ [(0,(vp r1)),(4,(vi v1)),(5,(vu s.1)),(6,(vb s.2.1))]∧Hst w0 s.2.2.1 w s.2.2.1 w∧HB s.2.2.1 w []∧I1 s.1 s.2.1 s.2.2.1 s.2.2.2) (fun s=>mu1 s.1 s.2.1 s.2.2.2) (0,false,None,w0) ⟨rfl,hm,hs,hb,h0⟩ ?_
 rintro ⟨n2,wide2,Hl1,wl1⟩ ρ w ⟨hw,hH,hs,hb,hI⟩
 dsimp only at hw hH hs hb;subst w
 have h:=hr n2 wide2 Hl1 wl1 hs hI
 refine jZ hH (jC (jC (zJ (fun ρ w=>∃x1,∃H:NP,Has ρ [(0,(vp r1)),(4,(vi v1)),(5,(vu n2)),(6,(vb wide2)),(51,(vb x1))]∧Hst w0 H w H w∧HB H w []∧m_F_j3 r1 v1 n2 wide2 x1 w0 H w (fun y'0 y'1 H' w'=>I1 y'0 y'1 H' w'∧mu1 y'0 y'1 w'<mu1 n2 wide2 wl1) K) ?_ ?_)))
 rintro ρ w ⟨x1,H,hH,hs,hb,h⟩
 refine jZ hH (cbr h ?_ ?_)<;>intro h
 refine jG (jM (jP (jC (zC (by kernel_rfl) (by kernel_rfl) (by kernel_rfl) (by kernel_rfl) ?_))))
 intro w4 hw4
 have hs:Hst w0 H w H w4:=by rw [hw4];exact hs.drew
 have hb:HB H w4 []:=by rw [hw4];exact hb.drew
 refine qq 0 (vp r1) Kp0 (qg 1 ?_)
 obtain ⟨a6,hp6,h⟩:=h
 refine sxQ Kp1 (jF rfl) rfl (xn hp6) (qq 2 (vp (some a6)) Kp2 (qg 3 ?_))
 have ⟨h,hs⟩:=hs.hr (h w4)
 obtain ⟨v6,hv9,h⟩:=h
 refine sxQ Kp3 (jF rfl) rfl (xl (isAgg9 _) hv9) (qq 4 (vp r1) Kp4 (qg 5 ?_))
 obtain ⟨a7,hp7,h⟩:=h
 refine sxQ Kp5 (jF rfl) rfl (xn hp7) (qq 6 (vp (some (a7.add 1))) Kp6 (qg 7 ?_))
 obtain ⟨v7,hv8,h⟩:=h
 refine sxQ Kp7 (jF rfl) rfl (xl (isAgg3 _) hv8) (qg 8 ?_)
 obtain ⟨e2,hv7,h⟩:=h
 refine sxQ (v:=(.int .u8 e2)) Kp8 (jF rfl) rfl (zO (by kernel_rfl) (by kernel_rfl) hv7) (qq 9 (.int .u8 (IntKind.u8.wrap (e2 - 48))) Kp9 (qq 10 (vu (IntKind.u64.wrap (IntKind.u8.wrap (e2 - 48)))) (jE (S8 (jA (jA jD)))) (qq 11 (vu (IntKind.u64.wrap (IntKind.u8.wrap (e2 - 48)))) (jE (S8 (jA (jA (jA jD))))) (wn (jM (jC (eg (qc ?_))))))))
 obtain ⟨z1,hv6,h⟩:=h
 refine q2 (vu z1) (jBT (by kernel_rfl) (by kernel_rfl) (by kernel_rfl) hv6) (q (ln (zW (fun ρ wJ=>∃b1'0:Bool,∃HJ:NP,((decide (n2>z1))=b1'0)∧Hst w0 H w4 HJ wJ∧HB HJ wJ []∧Has ρ [(0,(vp r1)),(4,(vi v1)),(5,(vu n2)),(6,(vb (b1'0 || wide2))),(7,(vu (IntKind.u64.wrap (IntKind.u8.wrap (e2 - 48)))))]) ?_ ?_)))
 refine kG (t:=(decide (n2>z1))) (by kernel_rfl) (fun hc6=>?_) (fun hc6=>?_)
 refine rg (q (ln ⟨true,_,hc6,hs,hb,hm⟩))
 refine jG (jM ⟨false,_,hc6,hs,hb,hm⟩)
 rintro ρ w5 ⟨b1'0,H1,he0,hs,hb,hH⟩
 subst he0
 refine zL hH (jM (eg (q (qd (ln (rg (q (qm h fun a8 h=>q ?_))))))))
 have ⟨h,hs⟩:=hs.hr (h H1 w5)
 refine ql (isAgg3 _) h fun v8 h=>q (qm h fun a9 h=>q (st2 (sizeOf3 _) hs hb h fun w6 hs hb h=>jB (kY (jM ⟨((IntKind.u64.wrap ((IntKind.u64.wrap (10*n2))+(IntKind.u64.wrap (IntKind.u8.wrap (e2 - 48))))),((decide (n2>z1)) || wide2),H1,w6),⟨rfl,hm,hs,hb,h.1⟩,h.2⟩))))
 refine zQ (qI (qI (qH (jM ⟨n2,wide2,H,hm,hs,hb,h⟩))))
 refine zC (by kernel_rfl) (by kernel_rfl) (by kernel_rfl) (by kernel_rfl) ?_
 intro w7 hw7
 have hs:Hst w0 Hl1 wl1 Hl1 w7:=by rw [hw7];exact hs.drew
 have hb:HB Hl1 w7 []:=by rw [hw7];exact hb.drew
 refine qq 0 (vp r1) Kp0 (qg 1 ?_)
 obtain ⟨a10,hp11,h⟩:=h
 refine sxQ Kp1 (jF rfl) rfl (xn hp11) (qq 2 (vp (some (a10.add 1))) Kp2 (qg 3 ?_))
 have ⟨h,hs⟩:=hs.hr (h w7)
 obtain ⟨v9,hv17,h⟩:=h
 refine sxQ Kp3 (jF rfl) rfl (xl (isAgg3 _) hv17) (qq 4 (vp r1) Kp4 (qg 5 ?_))
 obtain ⟨a11,hp12,h⟩:=h
 refine sxQ Kp5 (jF rfl) rfl (xn hp12) (qq 6 (vp (some a11)) Kp6 (qg 7 ?_))
 obtain ⟨v10,hv16,h⟩:=h
 refine sxQ Kp7 (jF rfl) rfl (xl (isAgg9 _) hv16) (qq 8 (vi (v10.size:Int)) Kp8 (qq 9 (vb (decide (v9<(v10.size:Int)))) Kp9 (qq 10 (vb (decide (v9<(v10.size:Int)))) (jE (S8 (jA (jA jD)))) (qg 11 ?_))))
 obtain ⟨hg3,h⟩|⟨hg3,h⟩:=h.br
 refine sxQ (v:=(vp r1)) (jE (S8 (jA (jA (jA jD))))) (wy 28 hg3) rfl (by kernel_rfl) (qg 12 ?_)
 obtain ⟨a12,hp13,h⟩:=h
 refine sxQ (jE (S8 (S4 jD))) (wy 28 hg3) rfl (xn hp13) (qg 13 (sxQ (v:=(vp (some a12))) (jE (S8 (S4 (jA jD)))) (wy 28 hg3) rfl (by kernel_rfl) (qg 14 ?_)))
 obtain ⟨v11,hv15,h⟩:=h
 refine sxQ (jE (S8 (S4 (jA (jA jD))))) (wy 28 hg3) rfl (xl (isAgg9 _) hv15) (qg 15 (sxQ (v:=(vp r1)) (jE (S8 (S4 (jA (jA (jA jD)))))) (wy 28 hg3) rfl (by kernel_rfl) (qg 16 ?_)))
 obtain ⟨a13,hp14,h⟩:=h
 refine sxQ (jE (S8 (S8 jD))) (wy 28 hg3) rfl (xn hp14) (qg 17 (sxQ (v:=(vp (some (a13.add 1)))) (jE (S8 (S8 (jA jD)))) (wy 28 hg3) rfl (by kernel_rfl) (qg 18 ?_)))
 obtain ⟨v12,hv14,h⟩:=h
 refine sxQ (jE (S8 (S8 (jA (jA jD))))) (wy 28 hg3) rfl (xl (isAgg3 _) hv14) (qg 19 ?_)
 obtain ⟨e3,hv13,h⟩:=h
 refine sxQ (v:=(.int .u8 e3)) (jE (S8 (S8 (jA (jA (jA jD)))))) (wy 28 hg3) rfl (zO (by kernel_rfl) (by kernel_rfl) hv13) (qg 20 (sxQ (v:=(vb (decide (e3≥48)))) (jE (S8 (S8 (S4 jD)))) (wy 28 hg3) rfl (by kernel_rfl) (qr 21 (vb (decide (e3≥48))) (jE (S8 (S8 (S4 (jA jD))))) (xT hg3) (qq 22 (vb (decide (e3≥48))) (jE (S8 (S8 (S4 (jA (jA jD)))))) (qg 23 ?_)))))
 obtain ⟨hg4,h⟩|⟨hg4,h⟩:=h.br
 refine sxQ (v:=(vp r1)) (jE (S8 (S8 (S4 (jA (jA (jA jD))))))) (wy 40 hg4) rfl (by kernel_rfl) (qg 24 ?_)
 obtain ⟨a14,hp15,h⟩:=h
 refine sxQ (jE (S8 (S8 (S8 jD)))) (wy 40 hg4) rfl (xn hp15) (qg 25 (sxQ (v:=(vp (some a14))) (jE (S8 (S8 (S8 (jA jD))))) (wy 40 hg4) rfl (by kernel_rfl) (qg 26 ?_)))
 obtain ⟨v13,hv12,h⟩:=h
 refine sxQ (jE (S8 (S8 (S8 (jA (jA jD)))))) (wy 40 hg4) rfl (xl (isAgg9 _) hv12) (qg 27 (sxQ (v:=(vp r1)) (jE (S8 (S8 (S8 (jA (jA (jA jD))))))) (wy 40 hg4) rfl (by kernel_rfl) (qg 28 ?_)))
 obtain ⟨a15,hp16,h⟩:=h
 refine sxQ (jE (S8 (S8 (S8 (S4 jD))))) (wy 40 hg4) rfl (xn hp16) (qg 29 (sxQ (v:=(vp (some (a15.add 1)))) (jE (S8 (S8 (S8 (S4 (jA jD)))))) (wy 40 hg4) rfl (by kernel_rfl) (qg 30 ?_)))
 obtain ⟨v14,hv11,h⟩:=h
 refine sxQ (jE (S8 (S8 (S8 (S4 (jA (jA jD))))))) (wy 40 hg4) rfl (xl (isAgg3 _) hv11) (qg 31 ?_)
 obtain ⟨e4,hv10,h⟩:=h
 refine sxQ (v:=(.int .u8 e4)) (jE (S8 (S8 (S8 (S4 (jA (jA (jA jD)))))))) (wy 40 hg4) rfl (zO (by kernel_rfl) (by kernel_rfl) hv10) (qg 32 (sxQ (v:=(vb (decide (e4≤57)))) (jE (S8 (S8 (S8 (S8 jD))))) (wy 40 hg4) rfl (by kernel_rfl) (qr 33 (vb (decide (e4≤57))) (jE (S8 (S8 (S8 (S8 (jA jD)))))) (xT hg4) (wn (jM ⟨(decide (e4≤57)),Hl1,hm,hs,hb,h⟩)))))
 refine qE (jE (S8 (S8 (S4 (jA (jA (jA jD))))))) (jH rfl (yD 40 hg4) rfl) (qn 24 (jE (S8 (S8 (S8 jD)))) (jH rfl (yD 40 hg4) rfl) (qn 25 (jE (S8 (S8 (S8 (jA jD))))) (jH rfl (yD 40 hg4) rfl) (qn 26 (jE (S8 (S8 (S8 (jA (jA jD)))))) (jH rfl (yD 40 hg4) rfl) (qn 27 (jE (S8 (S8 (S8 (jA (jA (jA jD))))))) (jH rfl (yD 40 hg4) rfl) (qn 28 (jE (S8 (S8 (S8 (S4 jD))))) (jH rfl (yD 40 hg4) rfl) (qn 29 (jE (S8 (S8 (S8 (S4 (jA jD)))))) (jH rfl (yD 40 hg4) rfl) (qn 30 (jE (S8 (S8 (S8 (S4 (jA (jA jD))))))) (jH rfl (yD 40 hg4) rfl) (qn 31 (jE (S8 (S8 (S8 (S4 (jA (jA (jA jD)))))))) (jH rfl (yD 40 hg4) rfl) (qn 32 (jE (S8 (S8 (S8 (S8 jD))))) (jH rfl (yD 40 hg4) rfl) (qr 33 (vb false) (jE (S8 (S8 (S8 (S8 (jA jD)))))) (xF hg4) (wn (jM ⟨false,Hl1,hm,hs,hb,h⟩))))))))))))
 refine qE (jE (S8 (jA (jA (jA jD))))) (jH rfl (yD 28 hg3) rfl) (qn 12 (jE (S8 (S4 jD))) (jH rfl (yD 28 hg3) rfl) (qn 13 (jE (S8 (S4 (jA jD)))) (jH rfl (yD 28 hg3) rfl) (qn 14 (jE (S8 (S4 (jA (jA jD))))) (jH rfl (yD 28 hg3) rfl) (qn 15 (jE (S8 (S4 (jA (jA (jA jD)))))) (jH rfl (yD 28 hg3) rfl) (qn 16 (jE (S8 (S8 jD))) (jH rfl (yD 28 hg3) rfl) (qn 17 (jE (S8 (S8 (jA jD)))) (jH rfl (yD 28 hg3) rfl) (qn 18 (jE (S8 (S8 (jA (jA jD))))) (jH rfl (yD 28 hg3) rfl) (qn 19 (jE (S8 (S8 (jA (jA (jA jD)))))) (jH rfl (yD 28 hg3) rfl) (qn 20 (jE (S8 (S8 (S4 jD)))) (jH rfl (yD 28 hg3) rfl) (qr 21 (vb false) (jE (S8 (S8 (S4 (jA jD))))) (xF hg3) (qq 22 (vb false) (jE (S8 (S8 (S4 (jA (jA jD)))))) (qn 23 (jE (S8 (S8 (S4 (jA (jA (jA jD))))))) (jH rfl (yD (c:=false) 40 rfl) rfl) (qn 24 (jE (S8 (S8 (S8 jD)))) (jH rfl (yD (c:=false) 40 rfl) rfl) (qn 25 (jE (S8 (S8 (S8 (jA jD))))) (jH rfl (yD (c:=false) 40 rfl) rfl) (qn 26 (jE (S8 (S8 (S8 (jA (jA jD)))))) (jH rfl (yD (c:=false) 40 rfl) rfl) (qn 27 (jE (S8 (S8 (S8 (jA (jA (jA jD))))))) (jH rfl (yD (c:=false) 40 rfl) rfl) (qn 28 (jE (S8 (S8 (S8 (S4 jD))))) (jH rfl (yD (c:=false) 40 rfl) rfl) (qn 29 (jE (S8 (S8 (S8 (S4 (jA jD)))))) (jH rfl (yD (c:=false) 40 rfl) rfl) (qn 30 (jE (S8 (S8 (S8 (S4 (jA (jA jD))))))) (jH rfl (yD (c:=false) 40 rfl) rfl) (qn 31 (jE (S8 (S8 (S8 (S4 (jA (jA (jA jD)))))))) (jH rfl (yD (c:=false) 40 rfl) rfl) (qn 32 (jE (S8 (S8 (S8 (S8 jD))))) (jH rfl (yD (c:=false) 40 rfl) rfl) (qq 33 (vb false) (jE (S8 (S8 (S8 (S8 (jA jD)))))) (wn ?_)))))))))))))))))))))))
 refine jM ⟨false,Hl1,hm,hs,hb,h⟩
def m_U1 (r1:Option Addr) (not1:Int) (w0:World) (K:Int→WP):Prop :=Calls prog 57 #[(vp r1)] w0 (fun e w1=>∃r2 r3,e=.returned (.tuple #[(vu r2),(vi r3)])∧∃a1,r1=some a1∧∃v1,w1.cell? (a1.add 3)=some (vi v1)∧Br ((v1 == 0) && ((decide (r2≥16)) || (((q6.wrap r2):Int) == not1))) (Calls prog 26 #[(vp r1),(vi 50),(vi r3)] w1 (fun e w5=>e=.returned (.tuple #[])∧∃a2,r1=some a2∧∃v2,w5.cell? (a2.add 3)=some (vi v2)∧Br (v2 != 0) (K 0 w5) (K (q6.wrap r2) w5))) (∃a3,r1=some a3∧∃v3,w1.cell? (a3.add 3)=some (vi v3)∧Br (v3 != 0) (K 0 w1) (K (q6.wrap r2) w1)))
theorem w_U1 (r1 not1 w0 K) (h:m_U1 r1 not1 w0 K):
  Calls prog 56 #[(vp r1),(vi not1)] w0 (fun e w'=>∃r4,e=.returned (vi r4)∧K r4 w'):=by
 refine cw (args:=[(vp r1),(vi not1)]) func56 ntmps56 (eg (q0 (vi 0) (ln (eg (q0 (vp r1) ?_)))))
 refine sc call57 (h.mono fun e w1 ⟨r2,r3,k,h⟩=>⟨_,k,?_⟩)
 refine q (qd (ln (jC (eg (q (qm h fun a1 h=>q (ql (isAgg3 _) h fun v1 h=>qb (jN 9 (fun ρ wJ=>∃b2'0:Bool,((v1 == 0)=b2'0)∧w1=wJ∧Has ρ [(0,(vp r1)),(5,(vu r2)),(6,(vi r3)),(26,(vb (b2'0 && ((decide (r2≥16)) || (((q6.wrap r2):Int) == not1)))))]) ?_ ?_))))))))
 rintro ρ w3 ⟨b2'0,he0,hw,hH⟩
 subst he0
 subst hw
 refine jU hH (ln (cbr h ?_ ?_))<;>intro h
 refine rg (qb (sc call26 (h.mono fun e w5 ⟨k,h⟩=>⟨_,k,?_⟩)))
 refine ln (jC (eg (q (qm h fun a2 h=>q (ql (isAgg3 _) h fun v2 h=>q (ln (cbr h ?_ ?_)))))))<;>intro h
 refine eg (q (ln (er (kB (rs1 results56 ⟨0,rfl,h⟩)))))
 refine jG (jM (eg (qc (ln (er (rs1 results56 ⟨(q6.wrap r2),rfl,h⟩))))))
 refine jG (jM (jC (eg (q (qm h fun a3 h=>q (ql (isAgg3 _) h fun v3 h=>q (ln (cbr h ?_ ?_))))))))<;>intro h
 refine eg (q (ln (er (kB (rs1 results56 ⟨0,rfl,h⟩)))))
 refine jG (jM (eg (qc (ln (er (rs1 results56 ⟨(q6.wrap r2),rfl,h⟩))))))
 rcases bte (v1 == 0) with hg4 | hg4
 refine qk 17 hg4 (qk 17 hg4 (qk 17 hg4 (jN 5 (fun ρ wJ=>∃b3'0:Bool,((decide (r2≥16))=b3'0)∧w1=wJ∧Has ρ [(0,(vp r1)),(5,(vu r2)),(6,(vi r3)),(17,(vb (v1 == 0))),(25,(vb (b3'0 || (((q6.wrap r2):Int) == not1))))]) ?_ ?_)))
 rintro ρ w4 ⟨b3'0,he0,hw,hH⟩
 subst he0
 subst hw
 refine jU hH (q2 (vb ((decide (r2≥16)) || (((q6.wrap r2):Int) == not1))) (xT hg4) (jB ⟨true,hg4,rfl,hm⟩))
 rcases bte (decide (r2≥16)) with hg6 | hg6
 refine sj4 20 hg6 (stq (v:=(vb true)) (wy 17 hg4) (xT hg6) (jB ⟨true,hg6,rfl,hm⟩))
 refine qk 20 hg6 (qk 20 hg6 (qk 20 hg6 (qk 20 hg6 (stq (v:=(vb (((q6.wrap r2):Int) == not1))) (wy 17 hg4) (xF hg6) (jB ⟨false,hg6,rfl,hm⟩)))))
 refine sj3 17 hg4 (sm (sm (sm (sm (sj 17 hg4 (q2 (vb false) (xF hg4) (jB ⟨false,hg4,rfl,hm⟩)))))))
def s_I (c1:Int):Int :=(cond ((decide (c1≥48)) && (decide (c1≤57))) (q6.wrap (IntKind.u8.wrap (c1 - 48))) (cond ((decide (c1≥97)) && (decide (c1≤102))) (q6.wrap ((q6.wrap (IntKind.u8.wrap (c1 - 97)))+10)) (cond ((decide (c1≥65)) && (decide (c1≤70))) (q6.wrap ((q6.wrap (IntKind.u8.wrap (c1 - 65)))+10)) (-1))))
theorem pw_I (c1:Int) (w0:World) :
  Calls prog 86 #[(.int .u8 c1)] w0 (fun e w'=>∃b'0 b'1 b'2:Bool,(((decide (c1≥48)) && (decide (c1≤57)))=b'0∧((decide (c1≥97)) && (decide (c1≤102)))=b'1∧((decide (c1≥65)) && (decide (c1≤70)))=b'2)∧(e=.returned (vi (cond b'0 (q6.wrap (IntKind.u8.wrap (c1 - 48))) (cond b'1 (q6.wrap ((q6.wrap (IntKind.u8.wrap (c1 - 97)))+10)) (cond b'2 (q6.wrap ((q6.wrap (IntKind.u8.wrap (c1 - 65)))+10)) (-1))))))∧Pure w0 w'):=by
 refine cw (args:=[(.int .u8 c1)]) func86 ntmps86 (eg (q0 (vi 0) (ln (jC (jP (jC ?_))))))
 refine zW (fun ρ wJ=>w0=wJ∧Has ρ [(0,(.int .u8 c1)),(3,(vb ((decide (c1≥48)) && (decide (c1≤57)))))]) ?_ ?_
 refine rg (qc (jN 3 (fun ρ wJ=>∃b3'0:Bool,((decide (c1≥48))=b3'0)∧w0=wJ∧Has ρ [(0,(.int .u8 c1)),(9,(vb (b3'0 && (decide (c1≤57)))))]) ?_ ?_))
 rintro ρ w3 ⟨b3'0,he0,hw,hH⟩
 subst he0
 subst hw
 refine jU hH (q (ln ⟨rfl,hm⟩))
 rcases bte (decide (c1≥48)) with hg4 | hg4
 refine qk 6 hg4 (qk 6 hg4 (q2 (vb (decide (c1≤57))) (xT hg4) (jB ⟨true,hg4,rfl,hm⟩)))
 refine sj2 6 hg4 (q2 (vb false) (xF hg4) (jB ⟨false,hg4,rfl,hm⟩))
 rintro ρ w2 ⟨hw,hH⟩
 subst hw
 refine zL hH (jM (kG (t:=((decide (c1≥48)) && (decide (c1≤57)))) (by kernel_rfl) (fun hc1=>?_) (fun hc1=>?_)))
 refine eg (qd (ln (er (yK (kB (rs1 results86 (v:=(vi (q6.wrap (IntKind.u8.wrap (c1 - 48))))) ⟨true,_,_,⟨hc1,rfl,rfl⟩,by kernel_rfl,Ext.refl _⟩))))))
 refine jC (zW (fun ρ wJ=>w0=wJ∧Has ρ [(0,(.int .u8 c1)),(13,(vb ((decide (c1≥97)) && (decide (c1≤102)))))]) ?_ ?_)
 refine rg (qc (jN 3 (fun ρ wJ=>∃b6'0:Bool,((decide (c1≥97))=b6'0)∧w0=wJ∧Has ρ [(0,(.int .u8 c1)),(19,(vb (b6'0 && (decide (c1≤102)))))]) ?_ ?_))
 rintro ρ w6 ⟨b6'0,he0,hw,hH⟩
 subst he0
 subst hw
 refine jU hH (q (ln ⟨rfl,hm⟩))
 rcases bte (decide (c1≥97)) with hg8 | hg8
 refine qk 16 hg8 (qk 16 hg8 (q2 (vb (decide (c1≤102))) (xT hg8) (jB ⟨true,hg8,rfl,hm⟩)))
 refine sj2 16 hg8 (q2 (vb false) (xF hg8) (jB ⟨false,hg8,rfl,hm⟩))
 rintro ρ w5 ⟨hw,hH⟩
 subst hw
 refine zL hH (jM (kG (t:=((decide (c1≥97)) && (decide (c1≤102)))) (by kernel_rfl) (fun hc2=>?_) (fun hc2=>?_)))
 refine eg (q (qd (ln (er (yK (kB (rs1 results86 (v:=(vi (q6.wrap ((q6.wrap (IntKind.u8.wrap (c1 - 97)))+10)))) ⟨false,true,_,⟨hc1,hc2,rfl⟩,by kernel_rfl,Ext.refl _⟩)))))))
 refine jC (zW (fun ρ wJ=>w0=wJ∧Has ρ [(0,(.int .u8 c1)),(24,(vb ((decide (c1≥65)) && (decide (c1≤70)))))]) ?_ ?_)
 refine rg (qc (jN 3 (fun ρ wJ=>∃b9'0:Bool,((decide (c1≥65))=b9'0)∧w0=wJ∧Has ρ [(0,(.int .u8 c1)),(30,(vb (b9'0 && (decide (c1≤70)))))]) ?_ ?_))
 rintro ρ w9 ⟨b9'0,he0,hw,hH⟩
 subst he0
 subst hw
 refine jU hH (q (ln ⟨rfl,hm⟩))
 rcases bte (decide (c1≥65)) with hg12 | hg12
 refine qk 27 hg12 (qk 27 hg12 (q2 (vb (decide (c1≤70))) (xT hg12) (jB ⟨true,hg12,rfl,hm⟩)))
 refine sj2 27 hg12 (q2 (vb false) (xF hg12) (jB ⟨false,hg12,rfl,hm⟩))
 rintro ρ w8 ⟨hw,hH⟩
 subst hw
 refine zL hH (jM (kG (t:=((decide (c1≥65)) && (decide (c1≤70)))) (by kernel_rfl) (fun hc3=>?_) (fun hc3=>?_)))
 refine eg (q (qd (ln (er (yK (kB (rs1 results86 (v:=(vi (q6.wrap ((q6.wrap (IntKind.u8.wrap (c1 - 65)))+10)))) ⟨false,false,true,⟨hc1,hc2,hc3⟩,by kernel_rfl,Ext.refl _⟩)))))))
 refine jG (kY (jM (eg (q (ln (er (rs1 results86 (v:=(vi (-1))) ⟨false,false,false,⟨hc1,hc2,hc3⟩,by kernel_rfl,Ext.refl _⟩)))))))
theorem p_I (c1:Int) (w0:World):Calls prog 86 #[(.int .u8 c1)] w0 (fun e w'=>e=.returned (.int .i64 (s_I c1))∧Pure w0 w'):=by
 refine (pw_I c1 w0).mono ?_;rintro e w' ⟨b'0,b'1,b'2,⟨e0,e1,e2⟩,h,E⟩;subst e0;subst e1;subst e2;exact ⟨h,E⟩
def m_V1 (r1:Option Addr) (w0:World) (K:Int→WP):Prop :=∃a1,r1=some a1∧∃v1,w0.cell? (a1.add 3)=some (vi v1)∧Br (v1 != 0) (K 0 w0) (∃a2,r1=some a2∧∃v2,w0.cell? (a2.add 1)=some (vi v2)∧¬ None (a2.add 1).block∧∃a3,r1=some a3∧∃v3,w0.cell? a3=some (vs v3)∧¬ None a3.block∧Br (decide (v2<(v3.size:Int))) (∃a4,r1=some a4∧∃v4,w0.cell? a4=some (vs v4)∧¬ None a4.block∧∃a5,r1=some a5∧∃v5,w0.cell? (a5.add 1)=some (vi v5)∧¬ None (a5.add 1).block∧∃e1:Int,(∀(H':NP) (w':World),Hst w0 None w0 H' w'→(Instr.index 9 (vs v4) (vi v5)).run prog w'=.ok (.int .u8 e1) w')∧Br (decide ((s_I e1)≥0)) (∃a6,r1=some a6∧∀H1 w3,Hst w0 None w0 H1 w3→∃v6,w3.cell? (a6.add 1)=some (vi v6)∧∃a7,r1=some a7∧kD w3 (a7.add 1)∧¬ H1 (a7.add 1).block∧∀w5,w5=w3.setCell (a7.add 1) (vi (q6.wrap (v6+1)))→∃a8,r1=some a8∧∃v7,w5.cell? a8=some (vs v7)∧¬ H1 a8.block∧∃a9,r1=some a9∧∃v8,w5.cell? (a9.add 1)=some (vi v8)∧¬ H1 (a9.add 1).block∧∃e2:Int,(∀(H':NP) (w':World),Hst w0 H1 w5 H' w'→(Instr.index 9 (vs v7) (vi (q6.wrap (v8 - 1)))).run prog w'=.ok (.int .u8 e2) w')∧∀H2 w8,Hst w0 H1 w5 H2 w8→K (s_I e2) w8) (∀H1 w3,Hst w0 None w0 H1 w3→Calls prog 43 #[(vp r1)] w3 (fun e w10=>e=.returned (.tuple #[])∧Kept H1 w3 w10∧K 0 w10))) (∀H3 w11,Hst w0 None w0 H3 w11→Calls prog 43 #[(vp r1)] w11 (fun e w12=>e=.returned (.tuple #[])∧Kept H3 w11 w12∧K 0 w12)))
theorem w_V1 (r1 w0 K) (h:m_V1 r1 w0 K):
  Calls prog 71 #[(vp r1)] w0 (fun e w'=>∃r2,e=.returned (vi r2)∧K r2 w'):=by
 refine cw (args:=[(vp r1)]) func71 ntmps71 ?_
 obtain ⟨hs,hb⟩:=st0 w0
 refine eg (q (ln (jC (eg (q (qm h fun a1 h=>q (ql (isAgg3 _) h fun v1 h=>q (ln (cbr h ?_ ?_)))))))))<;>intro h
 refine eg (q (ln (er (kB (rs1 results71 ⟨0,rfl,h⟩)))))
 refine jG (jM (jC (jC (vP (fun x=>∃H',Hst w0 None w0 H' x∧HB H' x []) [20] [] (by kernel_rfl) (by kernel_rfl) (by kernel_rfl) (by kernel_rfl) ⟨_,hs.drew,hb.drew⟩ ?_))))
 intro w1 hw1
 have hs:Hst w0 None w0 None w1:=by rw [hw1];exact hs.drew
 have hb:HB None w1 []:=by rw [hw1];exact hb.drew
 refine qx 0 (vp r1) Kp0 (qg 1 ?_)
 obtain ⟨a2,hp2,h⟩:=h
 refine sy Kp1 (fun _ _=>xn hp2) (qx 2 (vp (some (a2.add 1))) Kp2 (qg 3 ?_))
 obtain ⟨v2,hv9,hnh,h⟩:=h
 refine sy (v:=(vi v2)) Kp3 (fun w' hw'=>by obtain ⟨H',hs',hb'⟩:=hw';exact (xl (isAgg3 _) (qU hv9 hnh hs'))) (qx 4 (vp r1) Kp4 (qg 5 ?_))
 obtain ⟨a3,hp3,h⟩:=h
 refine sy Kp5 (fun _ _=>xn hp3) (qx 6 (vp (some a3)) Kp6 (qg 7 ?_))
 obtain ⟨v3,hv8,hnh,h⟩:=h
 refine sy (v:=(vs v3)) Kp7 (fun w' hw'=>by obtain ⟨H',hs',hb'⟩:=hw';exact (xl (isAgg9 _) (qU hv8 hnh hs'))) (qx 8 (vi (v3.size:Int)) Kp8 (qx 9 (vb (decide (v2<(v3.size:Int)))) Kp9 (qx 10 (vb (decide (v2<(v3.size:Int)))) (jE (S8 (jA (jA jD)))) (qg 11 ?_))))
 obtain ⟨hg1,h⟩|⟨hg1,h⟩:=h.br
 refine sz (v:=(vp r1)) (jE (S8 (jA (jA (jA jD))))) (wy 18 hg1) (fun _ _=>(by kernel_rfl)) (qg 12 ?_)
 obtain ⟨a4,hp4,h⟩:=h
 refine sz (jE (S8 (S4 jD))) (wy 18 hg1) (fun _ _=>xn hp4) (qw 13 (vp (some a4)) (jE (S8 (S4 (jA jD)))) (wy 18 hg1) (qg 14 ?_))
 obtain ⟨v4,hv7,hnh,h⟩:=h
 refine sz (v:=(vs v4)) (jE (S8 (S4 (jA (jA jD))))) (wy 18 hg1) (fun w' hw'=>by obtain ⟨H',hs',hb'⟩:=hw';exact (xl (isAgg9 _) (qU hv7 hnh hs'))) (qw 15 (vp r1) (jE (S8 (S4 (jA (jA (jA jD)))))) (wy 18 hg1) (qg 16 ?_))
 obtain ⟨a5,hp5,h⟩:=h
 refine sz (jE (S8 (S8 jD))) (wy 18 hg1) (fun _ _=>xn hp5) (qw 17 (vp (some (a5.add 1))) (jE (S8 (S8 (jA jD)))) (wy 18 hg1) (qg 18 ?_))
 obtain ⟨v5,hv6,hnh,h⟩:=h
 refine sz (v:=(vi v5)) (jE (S8 (S8 (jA (jA jD))))) (wy 18 hg1) (fun w' hw'=>by obtain ⟨H',hs',hb'⟩:=hw';exact (xl (isAgg3 _) (qU hv6 hnh hs'))) (qg 19 ?_)
 obtain ⟨e1,hv5,h⟩:=h
 refine sz (v:=(.int .u8 e1)) (jE (S8 (S8 (jA (jA (jA jD)))))) (wy 18 hg1) (fun w' hw'=>by obtain ⟨H',hs',hb'⟩:=hw';exact (zO (by kernel_rfl) (by kernel_rfl) (hv5 H' w' hs'))) (tG (fun ρ wJ=>∃HJ:NP,Hst w0 None w0 HJ wJ∧HB HJ wJ []∧Has ρ [(0,(vp r1)),(30,(vb (decide ((s_I e1)≥0))))]) ?_ ?_)
 refine lg 20 (jCE (jE (S8 (S8 (S4 jD)))) (wy 18 hg1) (by kernel_rfl) (xc call86) ((p_I e1 w1).mono ?_))
 rintro e w4 ⟨he,hE⟩
 obtain ⟨hs,hb⟩:=hs.pp hb hE
 refine ⟨(vi (s_I e1)),he.trans (by kernel_rfl),.inr ⟨_,hs,hb⟩,?_⟩
 refine qw 21 (vb (decide ((s_I e1)≥0))) (jE (S8 (S8 (S4 (jA jD))))) (wy 18 hg1) (qz 22 (vb (decide ((s_I e1)≥0))) (jE (S8 (S8 (S4 (jA (jA jD)))))) (fun _ _=>(xT hg1)) (wn ⟨_,hs,hb,hm⟩))
 rintro ρ w3 ⟨H1,hs,hb,hH⟩
 refine jGH hH (jM (cbr h ?_ ?_))<;>intro h
 refine eg (q (qm h fun a6 h=>q ?_))
 have ⟨h,hs⟩:=hs.hr (h H1 w3)
 refine ql (isAgg3 _) h fun v6 h=>q (qm h fun a7 h=>q (st2 (sizeOf3 _) hs hb h fun w5 hs hb h=>ln (jC (vP (fun x=>∃H',Hst w0 H1 w5 H' x∧HB H' x []) [10] [] (by kernel_rfl) (by kernel_rfl) (by kernel_rfl) (by kernel_rfl) ⟨_,hs.drew,hb.drew⟩ ?_))))
 intro w6 hw6
 have hs:Hst w0 H1 w5 H1 w6:=by rw [hw6];exact hs.drew
 have hb:HB H1 w6 []:=by rw [hw6];exact hb.drew
 refine qx 0 (vp r1) Kp0 (qg 1 ?_)
 obtain ⟨a8,hp9,h⟩:=h
 refine sy Kp1 (fun _ _=>xn hp9) (qx 2 (vp (some a8)) Kp2 (qg 3 ?_))
 obtain ⟨v7,hv3,hnh,h⟩:=h
 refine sy (v:=(vs v7)) Kp3 (fun w' hw'=>by obtain ⟨H',hs',hb'⟩:=hw';exact (xl (isAgg9 _) (qU hv3 hnh hs'))) (qx 4 (vp r1) Kp4 (qg 5 ?_))
 obtain ⟨a9,hp10,h⟩:=h
 refine sy Kp5 (fun _ _=>xn hp10) (qx 6 (vp (some (a9.add 1))) Kp6 (qg 7 ?_))
 obtain ⟨v8,hv2,hnh,h⟩:=h
 refine sy (v:=(vi v8)) Kp7 (fun w' hw'=>by obtain ⟨H',hs',hb'⟩:=hw';exact (xl (isAgg3 _) (qU hv2 hnh hs'))) (qx 8 (vi (q6.wrap (v8 - 1))) Kp8 (qg 9 ?_))
 obtain ⟨e2,hv1,h⟩:=h
 refine sy (v:=(.int .u8 e2)) Kp9 (fun w' hw'=>by obtain ⟨H',hs',hb'⟩:=hw';exact (zO (by kernel_rfl) (by kernel_rfl) (hv1 H' w' hs'))) (tG (fun ρ wJ=>∃HJ:NP,Hst w0 H1 w5 HJ wJ∧HB HJ wJ []∧Has ρ [(2,(vi (s_I e2)))]) ?_ ?_)
 refine lg 10 (slc (jE (S8 (jA (jA jD)))) call86 ((p_I e2 w6).mono ?_))
 rintro e w9 ⟨he,hE⟩
 obtain ⟨hs,hb⟩:=hs.pp hb hE
 refine ⟨(vi (s_I e2)),he.trans (by kernel_rfl),.inr ⟨_,hs,hb⟩,?_⟩
 refine qx 11 (vi (s_I e2)) (jE (S8 (jA (jA (jA jD))))) (wn ⟨_,hs,hb,hm⟩)
 rintro ρ w8 ⟨H2,hs,hb,hH⟩
 refine jGH hH (jM (er (kB ?_)))
 have ⟨h,hs⟩:=hs.hr (h H2 w8)
 refine rs1 results71 ⟨(s_I e2),rfl,h⟩
 refine jG (jM (eg (q ?_)))
 have ⟨h,hs⟩:=hs.hr (h H1 w3)
 refine sc call43 (h.mono fun e w10 ⟨k,hk,h⟩=>have ⟨hs,hb⟩:=hk.hh hs hb;⟨_,k,?_⟩)
 refine ln (eg (q (ln (er (rs1 results71 ⟨0,rfl,h⟩)))))
 refine qE (jE (S8 (jA (jA (jA jD))))) (jH rfl (yD 18 hg1) rfl) (qn 12 (jE (S8 (S4 jD))) (jH rfl (yD 18 hg1) rfl) (qn 13 (jE (S8 (S4 (jA jD)))) (jH rfl (yD 18 hg1) rfl) (qn 14 (jE (S8 (S4 (jA (jA jD))))) (jH rfl (yD 18 hg1) rfl) (qn 15 (jE (S8 (S4 (jA (jA (jA jD)))))) (jH rfl (yD 18 hg1) rfl) (qn 16 (jE (S8 (S8 jD))) (jH rfl (yD 18 hg1) rfl) (qn 17 (jE (S8 (S8 (jA jD)))) (jH rfl (yD 18 hg1) rfl) (qn 18 (jE (S8 (S8 (jA (jA jD))))) (jH rfl (yD 18 hg1) rfl) (qn 19 (jE (S8 (S8 (jA (jA (jA jD)))))) (jH rfl (yD 18 hg1) rfl) (tG (fun ρ wJ=>∃HJ:NP,Hst w0 None w0 HJ wJ∧HB HJ wJ []∧Has ρ [(0,(vp r1)),(30,(vb false))]) ?_ ?_)))))))))
 refine lg 20 (qE (jE (S8 (S8 (S4 jD)))) (jH rfl (yD 18 hg1) rfl) (qn 21 (jE (S8 (S8 (S4 (jA jD))))) (jH rfl (yD 18 hg1) rfl) (qz 22 (vb false) (jE (S8 (S8 (S4 (jA (jA jD)))))) (fun _ _=>(xF hg1)) (wn ⟨_,hs,hb,hm⟩))))
 rintro ρ w11 ⟨H3,hs,hb,hH⟩
 refine jGH hH (jM (zT (by kernel_rfl) (jG (jM (eg (q0 (vp r1) ?_))))))
 have ⟨h,hs⟩:=hs.hr (h H3 w11)
 refine sc call43 (h.mono fun e w12 ⟨k,hk,h⟩=>have ⟨hs,hb⟩:=hk.hh hs hb;⟨_,k,?_⟩)
 refine ln (eg (q (ln (er (rs1 results71 ⟨0,rfl,h⟩)))))
def m_E_j3 (r1:Option Addr) (b1:Sl) (c3:Int) (w0:World) (H:NP) (w:World) (Kc1:Sl→NP→WP) (_K:ByteArray→WP):Prop :=Br (cond (c3 == 34) (c3 == 34) (c3 == 92)) (∃a9,r1=some a9∧∀H1 w6,Hst w0 H w H1 w6→∃v8,w6.cell? (a9.add 1)=some (vi v8)∧∃a10,r1=some a10∧kD w6 (a10.add 1)∧¬ H1 (a10.add 1).block∧∀w7,w7=w6.setCell (a10.add 1) (vi (q6.wrap (v8+1)))→∀p1 w8,New w7 (.cells #[(.int .u8 c3)] 5) p1 w8→∃s1:Sl,∃w9:World,(Builtin.append_ #[49,49] 49 #[b1.v,(Sl.mk (some p1) 1 1).v]).run prog w8=.ok s1.v w9∧Kept H1 w8 w9∧Kc1 s1 H1 w9) (Br (c3 == 120) (∃a11,r1=some a11∧∀H1 w6,Hst w0 H w H1 w6→∃v9,w6.cell? (a11.add 1)=some (vi v9)∧∃a12,r1=some a12∧kD w6 (a12.add 1)∧¬ H1 (a12.add 1).block∧∀w10,w10=w6.setCell (a12.add 1) (vi (q6.wrap (v9+1)))→Calls prog 71 #[(vp r1)] w10 (fun e w11=>∃r2,e=.returned (vi r2)∧Kept H1 w10 w11∧Calls prog 71 #[(vp r1)] w11 (fun e w12=>∃r3,e=.returned (vi r3)∧Kept H1 w11 w12∧∀p2 w13,New w12 (.cells #[(.int .u8 (IntKind.u8.wrap (q6.wrap ((q6.wrap (16*r2))+r3))))] 5) p2 w13→∃s2:Sl,∃w14:World,(Builtin.append_ #[49,49] 49 #[b1.v,(Sl.mk (some p2) 1 1).v]).run prog w13=.ok s2.v w14∧Kept H1 w13 w14∧Kc1 s2 H1 w14))) (∀H1 w6,Hst w0 H w H1 w6→Calls prog 43 #[(vp r1)] w6 (fun e w15=>e=.returned (.tuple #[])∧Kept H1 w6 w15∧∀p3 w16,New w15 (.cells #[(.int .u8 c3)] 5) p3 w16→∃s3:Sl,∃w17:World,(Builtin.append_ #[49,49] 49 #[b1.v,(Sl.mk (some p3) 1 1).v]).run prog w16=.ok s3.v w17∧Kept H1 w16 w17∧Kc1 s3 H1 w17)))
def m_E_j2 (r1:Option Addr) (v1:Int) (b1:Sl) (x1:Bool) (w0:World) (H:NP) (w:World) (Kc1:Sl→NP→WP) (K:ByteArray→WP):Prop :=Br x1 (Calls prog 43 #[(vp r1)] w (fun e w1=>e=.returned (.tuple #[])∧Kept H w w1∧K ⟨#[]⟩ w1)) (∃a3,r1=some a3∧∀w2,Hst w0 H w H w2→∃v3,w2.cell? a3=some (vs v3)∧∃a4,r1=some a4∧∃v4,w2.cell? (a4.add 1)=some (vi v4)∧∃e1:Int,(Instr.index 9 (vs v3) (vi v4)).run prog w2=.ok (.int .u8 e1) w2∧∃a5,r1=some a5∧∃v5,w2.cell? (a5.add 1)=some (vi v5)∧∃a6,r1=some a6∧kD w2 (a6.add 1)∧¬ H (a6.add 1).block∧∀w3,w3=w2.setCell (a6.add 1) (vi (q6.wrap (v5+1)))→Br (e1 == 34) (Br (decide ((b1.len:Int)>64)) (Calls prog 26 #[(vp r1),(vi 1),(vi (q6.wrap (v1 - 1)))] w3 (fun e w4=>e=.returned (.tuple #[])∧Kept H w3 w4∧∃c1,(convert 49 9 b1.v).run prog w4=.ok (vs c1) w4∧K c1 w4)) (∃c2,(convert 49 9 b1.v).run prog w3=.ok (vs c2) w3∧K c2 w3)) (Br (e1 == 92) (∃a7,r1=some a7∧∀w5,Hst w0 H w3 H w5→∃v6,w5.cell? (a7.add 1)=some (vi v6)∧∃a8,r1=some a8∧∃v7,w5.cell? a8=some (vs v7)∧Br (decide (v6<(v7.size:Int))) (∃a13,r1=some a13∧∀w18,Hst w0 H w5 H w18→∃v10,w18.cell? a13=some (vs v10)∧∃a14,r1=some a14∧∃v11,w18.cell? (a14.add 1)=some (vi v11)∧∃e2:Int,(Instr.index 9 (vs v10) (vi v11)).run prog w18=.ok (.int .u8 e2) w18∧m_E_j3 r1 b1 e2 w0 H w18 Kc1 K) (m_E_j3 r1 b1 0 w0 H w5 Kc1 K)) (∀p4 w19,New w3 (.cells #[(.int .u8 e1)] 5) p4 w19→∃s4:Sl,∃w20:World,(Builtin.append_ #[49,49] 49 #[b1.v,(Sl.mk (some p4) 1 1).v]).run prog w19=.ok s4.v w20∧Kept H w19 w20∧Kc1 s4 H w20)))
def m_E_l1 (r1:Option Addr) (v1:Int) (b1:Sl) (w0:World) (Hl1:NP) (wl1:World) (Kc1:Sl→NP→WP) (K:ByteArray→WP):Prop :=∃a2,r1=some a2∧∃v2,wl1.cell? (a2.add 3)=some (vi v2)∧Br (v2 == 0) (∃a15,r1=some a15∧∀w21,Hst w0 Hl1 wl1 Hl1 w21→∃v12,w21.cell? (a15.add 1)=some (vi v12)∧∃a16,r1=some a16∧∃v13,w21.cell? a16=some (vs v13)∧Br (decide (v12≥(v13.size:Int))) (m_E_j2 r1 v1 b1 true w0 Hl1 w21 Kc1 K) (∃a17,r1=some a17∧∃v14,w21.cell? a17=some (vs v14)∧∃a18,r1=some a18∧∃v15,w21.cell? (a18.add 1)=some (vi v15)∧∃e3:Int,(Instr.index 9 (vs v14) (vi v15)).run prog w21=.ok (.int .u8 e3) w21∧Br (decide (e3<32)) (m_E_j2 r1 v1 b1 true w0 Hl1 w21 Kc1 K) (∃a19,r1=some a19∧∃v16,w21.cell? a19=some (vs v16)∧∃a20,r1=some a20∧∃v17,w21.cell? (a20.add 1)=some (vi v17)∧∃e4:Int,(Instr.index 9 (vs v16) (vi v17)).run prog w21=.ok (.int .u8 e4) w21∧m_E_j2 r1 v1 b1 (decide (e4>126)) w0 Hl1 w21 Kc1 K))) (Br (decide ((b1.len:Int)>64)) (Calls prog 26 #[(vp r1),(vi 1),(vi (q6.wrap (v1 - 1)))] wl1 (fun e w22=>e=.returned (.tuple #[])∧Kept Hl1 wl1 w22∧∃c4,(convert 49 9 b1.v).run prog w22=.ok (vs c4) w22∧K c4 w22)) (∃c5,(convert 49 9 b1.v).run prog wl1=.ok (vs c5) wl1∧K c5 wl1))
def m_E (r1:Option Addr) (w0:World) (K:ByteArray→WP):Prop :=∃a1,r1=some a1∧∃v1,w0.cell? (a1.add 1)=some (vi v1)∧∃(I1:Sl→NP→WP) (mu1:Sl→World→Nat),I1 Sl.nil None w0∧∀(b1:Sl) (Hl1:NP) (wl1:World),Hst w0 Hl1 wl1 Hl1 wl1→I1 b1 Hl1 wl1→m_E_l1 r1 v1 b1 w0 Hl1 wl1 (fun y'0 H' w'=>I1 y'0 H' w'∧mu1 y'0 w'<mu1 b1 wl1) K
theorem w_E (r1 w0 K) (h:m_E r1 w0 K):
  Calls prog 58 #[(vp r1)] w0 (fun e w'=>∃r4,e=.returned (vs r4)∧K r4 w'):=by
 refine cw (args:=[(vp r1)]) func58 ntmps58 ?_
 obtain ⟨hs,hb⟩:=st0 w0
 refine eg (q (ln (eg (q (qm h fun a1 h=>q (ql (isAgg3 _) h fun v1 h=>qb (ln (eg (q (ln (jC (jP ?_))))))))))))
 obtain ⟨I1,mu1,h0,hr⟩:=h
 refine kN (σ:=Sl×NP×World) (fun s ρ w=>w=s.2.2∧Has ρ [(0,(vp r1)),(3,(vi (q6.wrap (v1 - 1)))),(4,s.1.v)]∧Hst w0 s.2.1 w s.2.1 w∧HB s.2.1 w []∧I1 s.1 s.2.1 s.2.2) (fun s=>mu1 s.1 s.2.2) (Sl.nil,None,w0) ⟨rfl,hm,hs,hb,h0⟩ ?_
 rintro ⟨b1,Hl1,wl1⟩ ρ w ⟨hw,hH,hs,hb,hI⟩
 dsimp only at hw hH hs hb;subst w
 have h:=hr b1 Hl1 wl1 hs hI
 refine jZ hH (jC (eg (q (qm h fun a2 h=>q (ql (isAgg3 _) h fun v2 h=>q (ln (cbr h ?_ ?_)))))))<;>intro h
 refine jG (jM (jP (jC (jC (zJ (fun ρ w=>∃x1,∃H:NP,Has ρ [(0,(vp r1)),(3,(vi (q6.wrap (v1 - 1)))),(4,b1.v),(51,(vb x1))]∧Hst w0 H w H w∧HB H w []∧m_E_j2 r1 v1 b1 x1 w0 H w (fun y'0 H' w'=>I1 y'0 H' w'∧mu1 y'0 w'<mu1 b1 wl1) K) ?_ ?_)))))
 rintro ρ w ⟨x1,H,hH,hs,hb,h⟩
 refine jZ hH (cbr h ?_ ?_)<;>intro h
 refine eg (q (sc call43 (h.mono fun e w1 ⟨k,hk,h⟩=>have ⟨hs,hb⟩:=hk.hh hs hb;⟨_,k,?_⟩)))
 refine ln (eg (q (ln (er (kB (yK (kB (yK (kB (rs1 results58 ⟨⟨#[]⟩,rfl,h⟩))))))))))
 refine jG (jM (jC (zC (by kernel_rfl) (by kernel_rfl) (by kernel_rfl) (by kernel_rfl) ?_)))
 intro w2 hw2
 have hs:Hst w0 H w H w2:=by rw [hw2];exact hs.drew
 have hb:HB H w2 []:=by rw [hw2];exact hb.drew
 refine qq 0 (vp r1) Kp0 (qg 1 ?_)
 obtain ⟨a3,hp3,h⟩:=h
 refine sxQ Kp1 (jF rfl) rfl (xn hp3) (qq 2 (vp (some a3)) Kp2 (qg 3 ?_))
 have ⟨h,hs⟩:=hs.hr (h w2)
 obtain ⟨v3,hv17,h⟩:=h
 refine sxQ Kp3 (jF rfl) rfl (xl (isAgg9 _) hv17) (qq 4 (vp r1) Kp4 (qg 5 ?_))
 obtain ⟨a4,hp4,h⟩:=h
 refine sxQ Kp5 (jF rfl) rfl (xn hp4) (qq 6 (vp (some (a4.add 1))) Kp6 (qg 7 ?_))
 obtain ⟨v4,hv16,h⟩:=h
 refine sxQ Kp7 (jF rfl) rfl (xl (isAgg3 _) hv16) (qg 8 ?_)
 obtain ⟨e1,hv15,h⟩:=h
 refine sxQ (v:=(.int .u8 e1)) Kp8 (jF rfl) rfl (zO (by kernel_rfl) (by kernel_rfl) hv15) (qq 9 (.int .u8 e1) Kp9 (wn (jM (eg (q (qm h fun a5 h=>q (ql (isAgg3 _) h fun v5 h=>q (qm h fun a6 h=>q (st2 (sizeOf3 _) hs hb h fun w3 hs hb h=>ln (jC (eg (qb (ln (cbr h ?_ ?_))))))))))))))<;>intro h
 refine zQ (qI (bl_ne rfl (qI (qH (jM (jC (eg (q0 b1.v (q0 (vi (b1.len:Int)) (q0 (vb (decide ((b1.len:Int)>64))) (ln (cbr h ?_ ?_))))))))))))<;>intro h
 refine rg (qb (sc call26 (h.mono fun e w4 ⟨k,hk,h⟩=>have ⟨hs,hb⟩:=hk.hh hs hb;⟨_,k,?_⟩)))
 refine ln (eg (q ?_))
 obtain ⟨c1,hv1,h⟩:=h
 refine q2 (vs c1) (vF (by kernel_rfl) hv1) (q (ln (er (rs1 results58 ⟨c1,rfl,h⟩))))
 refine jG (jM (eg (q ?_)))
 obtain ⟨c2,hv2,h⟩:=h
 refine q2 (vs c2) (vF (by kernel_rfl) hv2) (q (ln (er (rs1 results58 ⟨c2,rfl,h⟩))))
 refine jG (jM (jC (eg (qb (ln (cbr h ?_ ?_))))))<;>intro h
 refine eg (q (ln (jC (jC (zC (by kernel_rfl) (by kernel_rfl) (by kernel_rfl) (by kernel_rfl) ?_)))))
 intro w5 hw5
 have hs:Hst w0 H w3 H w5:=by rw [hw5];exact hs.drew
 have hb:HB H w5 []:=by rw [hw5];exact hb.drew
 refine qq 0 (vp r1) Kp0 (qg 1 ?_)
 obtain ⟨a7,hp8,h⟩:=h
 refine sxQ Kp1 (jF rfl) rfl (xn hp8) (qq 2 (vp (some (a7.add 1))) Kp2 (qg 3 ?_))
 have ⟨h,hs⟩:=hs.hr (h w5)
 obtain ⟨v6,hv12,h⟩:=h
 refine sxQ Kp3 (jF rfl) rfl (xl (isAgg3 _) hv12) (qq 4 (vp r1) Kp4 (qg 5 ?_))
 obtain ⟨a8,hp9,h⟩:=h
 refine sxQ Kp5 (jF rfl) rfl (xn hp9) (qq 6 (vp (some a8)) Kp6 (qg 7 ?_))
 obtain ⟨v7,hv11,h⟩:=h
 refine sxQ Kp7 (jF rfl) rfl (xl (isAgg9 _) hv11) (qq 8 (vi (v7.size:Int)) Kp8 (qq 9 (vb (decide (v6<(v7.size:Int)))) Kp9 (wn (jM (zJ (fun ρ w=>∃c3:Int,∃H:NP,Has ρ [(0,(vp r1)),(3,(vi (q6.wrap (v1 - 1)))),(4,b1.v),(5,(.int .u8 c3))]∧Hst w0 H w H w∧HB H w []∧m_E_j3 r1 b1 c3 w0 H w (fun y'0 H' w'=>I1 y'0 H' w'∧mu1 y'0 w'<mu1 b1 wl1) K) ?_ ?_)))))
 rintro ρ w ⟨c3,H,hH,hs,hb,h⟩
 refine jZ hH (eg (q (ln (jP (jC (eg (qb (jB (jM (zW (fun ρ wJ=>∃b2'0:Bool,∃HJ:NP,((c3 == 34)=b2'0)∧Hst w0 H w HJ wJ∧HB HJ wJ []∧Has ρ [(0,(vp r1)),(3,(vi (q6.wrap (v1 - 1)))),(4,b1.v),(5,(.int .u8 c3)),(93,(.int .u8 c3)),(96,(vb (cond b2'0 (c3 == 34) (c3 == 92))))]) ?_ ?_))))))))))
 refine kG (t:=(c3 == 34)) (by kernel_rfl) (fun hc7=>?_) (fun hc7=>?_)
 refine jG (jM ⟨true,_,hc7,hs,hb,hm⟩)
 refine rg (qb (ln ⟨false,_,hc7,hs,hb,hm⟩))
 rintro ρ w6 ⟨b2'0,H1,he0,hs,hb,hH⟩
 subst he0
 refine zL hH (jM (cbr h ?_ ?_))<;>intro h
 refine rg (q (qm h fun a9 h=>q ?_))
 have ⟨h,hs⟩:=hs.hr (h H1 w6)
 refine ql (isAgg3 _) h fun v8 h=>q (qm h fun a10 h=>q (st2 (sizeOf3 _) hs hb h fun w7 hs hb h=>jB (kY (jM (rg (qb (nw5 (fun p=>(Sl.mk (some p) 1 1).v) hs hb h fun p1 w8 hs hb h=>?_)))))))
 obtain ⟨s1,w9,hv3,hk,h⟩:=h
 refine st (v:=s1.v) (jF rfl) (jO (args:=#[b1.v,(Sl.mk (some p1) 1 1).v]) (by kernel_rfl) (fun _=>rfl) hv3) ?_
 obtain ⟨hs,hb⟩:=hk.hh hs hb
 refine q (jB (kY (jM ⟨(s1,H1,w9),⟨rfl,hm,hs,hb,h.1⟩,h.2⟩)))
 refine eg (qb (ln (cbr h ?_ ?_)))<;>intro h
 refine eg (q (qm h fun a11 h=>q ?_))
 have ⟨h,hs⟩:=hs.hr (h H1 w6)
 refine ql (isAgg3 _) h fun v9 h=>q (qm h fun a12 h=>q (st2 (sizeOf3 _) hs hb h fun w10 hs hb h=>ln (eg (q (sc call71 (h.mono fun e w11 ⟨r2,k,hk,h⟩=>have ⟨hs,hb⟩:=hk.hh hs hb;⟨_,k,?_⟩))))))
 refine q (ln (eg (q (sc call71 (h.mono fun e w12 ⟨r3,k,hk,h⟩=>have ⟨hs,hb⟩:=hk.hh hs hb;⟨_,k,?_⟩)))))
 refine q (ln (rg (qb (qd (jB (kY (jM (rg (qb (nw5 (fun p=>(Sl.mk (some p) 1 1).v) hs hb h fun p2 w13 hs hb h=>?_))))))))))
 obtain ⟨s2,w14,hv5,hk,h⟩:=h
 refine st (v:=s2.v) (jF rfl) (jO (args:=#[b1.v,(Sl.mk (some p2) 1 1).v]) (by kernel_rfl) (fun _=>rfl) hv5) ?_
 obtain ⟨hs,hb⟩:=hk.hh hs hb
 refine q (jB (kY (jM ⟨(s2,H1,w14),⟨rfl,hm,hs,hb,h.1⟩,h.2⟩)))
 refine rg (q ?_)
 have ⟨h,hs⟩:=hs.hr (h H1 w6)
 refine sc call43 (h.mono fun e w15 ⟨k,hk,h⟩=>have ⟨hs,hb⟩:=hk.hh hs hb;⟨_,k,?_⟩)
 refine jB (kY (jM (rg (qb (nw5 (fun p=>(Sl.mk (some p) 1 1).v) hs hb h fun p3 w16 hs hb h=>?_)))))
 obtain ⟨s3,w17,hv7,hk,h⟩:=h
 refine st (v:=s3.v) (jF rfl) (jO (args:=#[b1.v,(Sl.mk (some p3) 1 1).v]) (by kernel_rfl) (fun _=>rfl) hv7) ?_
 obtain ⟨hs,hb⟩:=hk.hh hs hb
 refine q (jB (kY (jM ⟨(s3,H1,w17),⟨rfl,hm,hs,hb,h.1⟩,h.2⟩)))
 refine cbr h ?_ ?_<;>intro h
 refine zC (by kernel_rfl) (by kernel_rfl) (by kernel_rfl) (by kernel_rfl) ?_
 intro w18 hw18
 have hs:Hst w0 H w5 H w18:=by rw [hw18];exact hs.drew
 have hb:HB H w18 []:=by rw [hw18];exact hb.drew
 refine qq 0 (vp r1) Kp0 (qg 1 ?_)
 obtain ⟨a13,hp16,h⟩:=h
 refine sxQ Kp1 (jF rfl) rfl (xn hp16) (qq 2 (vp (some a13)) Kp2 (qg 3 ?_))
 have ⟨h,hs⟩:=hs.hr (h w18)
 obtain ⟨v10,hv10,h⟩:=h
 refine sxQ Kp3 (jF rfl) rfl (xl (isAgg9 _) hv10) (qq 4 (vp r1) Kp4 (qg 5 ?_))
 obtain ⟨a14,hp17,h⟩:=h
 refine sxQ Kp5 (jF rfl) rfl (xn hp17) (qq 6 (vp (some (a14.add 1))) Kp6 (qg 7 ?_))
 obtain ⟨v11,hv9,h⟩:=h
 refine sxQ Kp7 (jF rfl) rfl (xl (isAgg3 _) hv9) (qg 8 ?_)
 obtain ⟨e2,hv8,h⟩:=h
 refine sxQ (v:=(.int .u8 e2)) Kp8 (jF rfl) rfl (zO (by kernel_rfl) (by kernel_rfl) hv8) (qq 9 (.int .u8 e2) Kp9 (wn (jM ⟨e2,H,hm,hs,hb,h⟩)))
 refine jG (jM ⟨0,H,hm,hs,hb,h⟩)
 refine jG (jM (rg (qb (nw5 (fun p=>(Sl.mk (some p) 1 1).v) hs hb h fun p4 w19 hs hb h=>?_))))
 obtain ⟨s4,w20,hv13,hk,h⟩:=h
 refine st (v:=s4.v) (jF rfl) (jO (args:=#[b1.v,(Sl.mk (some p4) 1 1).v]) (by kernel_rfl) (fun _=>rfl) hv13) ?_
 obtain ⟨hs,hb⟩:=hk.hh hs hb
 refine q (jB (kY (jM ⟨(s4,H,w20),⟨rfl,hm,hs,hb,h.1⟩,h.2⟩)))
 refine zC (by kernel_rfl) (by kernel_rfl) (by kernel_rfl) (by kernel_rfl) ?_
 intro w21 hw21
 have hs:Hst w0 Hl1 wl1 Hl1 w21:=by rw [hw21];exact hs.drew
 have hb:HB Hl1 w21 []:=by rw [hw21];exact hb.drew
 refine qq 0 (vp r1) Kp0 (qg 1 ?_)
 obtain ⟨a15,hp18,h⟩:=h
 refine sxQ Kp1 (jF rfl) rfl (xn hp18) (qq 2 (vp (some (a15.add 1))) Kp2 (qg 3 ?_))
 have ⟨h,hs⟩:=hs.hr (h w21)
 obtain ⟨v12,hv25,h⟩:=h
 refine sxQ Kp3 (jF rfl) rfl (xl (isAgg3 _) hv25) (qq 4 (vp r1) Kp4 (qg 5 ?_))
 obtain ⟨a16,hp19,h⟩:=h
 refine sxQ Kp5 (jF rfl) rfl (xn hp19) (qq 6 (vp (some a16)) Kp6 (qg 7 ?_))
 obtain ⟨v13,hv24,h⟩:=h
 refine sxQ Kp7 (jF rfl) rfl (xl (isAgg9 _) hv24) (qq 8 (vi (v13.size:Int)) Kp8 (qq 9 (vb (decide (v12≥(v13.size:Int)))) Kp9 (qq 10 (vb (decide (v12≥(v13.size:Int)))) (jE (S8 (jA (jA jD)))) (qg 11 ?_))))
 obtain ⟨hg1,h⟩|⟨hg1,h⟩:=h.br
 refine qE (jE (S8 (jA (jA (jA jD))))) (jH rfl (yD 28 hg1) rfl) (qn 12 (jE (S8 (S4 jD))) (jH rfl (yD 28 hg1) rfl) (qn 13 (jE (S8 (S4 (jA jD)))) (jH rfl (yD 28 hg1) rfl) (qn 14 (jE (S8 (S4 (jA (jA jD))))) (jH rfl (yD 28 hg1) rfl) (qn 15 (jE (S8 (S4 (jA (jA (jA jD)))))) (jH rfl (yD 28 hg1) rfl) (qn 16 (jE (S8 (S8 jD))) (jH rfl (yD 28 hg1) rfl) (qn 17 (jE (S8 (S8 (jA jD)))) (jH rfl (yD 28 hg1) rfl) (qn 18 (jE (S8 (S8 (jA (jA jD))))) (jH rfl (yD 28 hg1) rfl) (qn 19 (jE (S8 (S8 (jA (jA (jA jD)))))) (jH rfl (yD 28 hg1) rfl) (qn 20 (jE (S8 (S8 (S4 jD)))) (jH rfl (yD 28 hg1) rfl) (qr 21 (vb true) (jE (S8 (S8 (S4 (jA jD))))) (xT hg1) (qq 22 (vb true) (jE (S8 (S8 (S4 (jA (jA jD)))))) (qn 23 (jE (S8 (S8 (S4 (jA (jA (jA jD))))))) (jH rfl (yD (c:=true) 40 rfl) rfl) (qn 24 (jE (S8 (S8 (S8 jD)))) (jH rfl (yD (c:=true) 40 rfl) rfl) (qn 25 (jE (S8 (S8 (S8 (jA jD))))) (jH rfl (yD (c:=true) 40 rfl) rfl) (qn 26 (jE (S8 (S8 (S8 (jA (jA jD)))))) (jH rfl (yD (c:=true) 40 rfl) rfl) (qn 27 (jE (S8 (S8 (S8 (jA (jA (jA jD))))))) (jH rfl (yD (c:=true) 40 rfl) rfl) (qn 28 (jE (S8 (S8 (S8 (S4 jD))))) (jH rfl (yD (c:=true) 40 rfl) rfl) (qn 29 (jE (S8 (S8 (S8 (S4 (jA jD)))))) (jH rfl (yD (c:=true) 40 rfl) rfl) (qn 30 (jE (S8 (S8 (S8 (S4 (jA (jA jD))))))) (jH rfl (yD (c:=true) 40 rfl) rfl) (qn 31 (jE (S8 (S8 (S8 (S4 (jA (jA (jA jD)))))))) (jH rfl (yD (c:=true) 40 rfl) rfl) (qn 32 (jE (S8 (S8 (S8 (S8 jD))))) (jH rfl (yD (c:=true) 40 rfl) rfl) (qq 33 (vb true) (jE (S8 (S8 (S8 (S8 (jA jD)))))) (wn ?_)))))))))))))))))))))))
 refine jM ⟨true,Hl1,hm,hs,hb,h⟩
 refine sxQ (v:=(vp r1)) (jE (S8 (jA (jA (jA jD))))) (wy 28 hg1) rfl (by kernel_rfl) (qg 12 ?_)
 obtain ⟨a17,hp20,h⟩:=h
 refine sxQ (jE (S8 (S4 jD))) (wy 28 hg1) rfl (xn hp20) (qg 13 (sxQ (v:=(vp (some a17))) (jE (S8 (S4 (jA jD)))) (wy 28 hg1) rfl (by kernel_rfl) (qg 14 ?_)))
 obtain ⟨v14,hv23,h⟩:=h
 refine sxQ (jE (S8 (S4 (jA (jA jD))))) (wy 28 hg1) rfl (xl (isAgg9 _) hv23) (qg 15 (sxQ (v:=(vp r1)) (jE (S8 (S4 (jA (jA (jA jD)))))) (wy 28 hg1) rfl (by kernel_rfl) (qg 16 ?_)))
 obtain ⟨a18,hp21,h⟩:=h
 refine sxQ (jE (S8 (S8 jD))) (wy 28 hg1) rfl (xn hp21) (qg 17 (sxQ (v:=(vp (some (a18.add 1)))) (jE (S8 (S8 (jA jD)))) (wy 28 hg1) rfl (by kernel_rfl) (qg 18 ?_)))
 obtain ⟨v15,hv22,h⟩:=h
 refine sxQ (jE (S8 (S8 (jA (jA jD))))) (wy 28 hg1) rfl (xl (isAgg3 _) hv22) (qg 19 ?_)
 obtain ⟨e3,hv21,h⟩:=h
 refine sxQ (v:=(.int .u8 e3)) (jE (S8 (S8 (jA (jA (jA jD)))))) (wy 28 hg1) rfl (zO (by kernel_rfl) (by kernel_rfl) hv21) (qg 20 (sxQ (v:=(vb (decide (e3<32)))) (jE (S8 (S8 (S4 jD)))) (wy 28 hg1) rfl (by kernel_rfl) (qr 21 (vb (decide (e3<32))) (jE (S8 (S8 (S4 (jA jD))))) (xF hg1) (qq 22 (vb (decide (e3<32))) (jE (S8 (S8 (S4 (jA (jA jD)))))) (qg 23 ?_)))))
 obtain ⟨hg2,h⟩|⟨hg2,h⟩:=h.br
 refine qE (jE (S8 (S8 (S4 (jA (jA (jA jD))))))) (jH rfl (yD 40 hg2) rfl) (qn 24 (jE (S8 (S8 (S8 jD)))) (jH rfl (yD 40 hg2) rfl) (qn 25 (jE (S8 (S8 (S8 (jA jD))))) (jH rfl (yD 40 hg2) rfl) (qn 26 (jE (S8 (S8 (S8 (jA (jA jD)))))) (jH rfl (yD 40 hg2) rfl) (qn 27 (jE (S8 (S8 (S8 (jA (jA (jA jD))))))) (jH rfl (yD 40 hg2) rfl) (qn 28 (jE (S8 (S8 (S8 (S4 jD))))) (jH rfl (yD 40 hg2) rfl) (qn 29 (jE (S8 (S8 (S8 (S4 (jA jD)))))) (jH rfl (yD 40 hg2) rfl) (qn 30 (jE (S8 (S8 (S8 (S4 (jA (jA jD))))))) (jH rfl (yD 40 hg2) rfl) (qn 31 (jE (S8 (S8 (S8 (S4 (jA (jA (jA jD)))))))) (jH rfl (yD 40 hg2) rfl) (qn 32 (jE (S8 (S8 (S8 (S8 jD))))) (jH rfl (yD 40 hg2) rfl) (qr 33 (vb true) (jE (S8 (S8 (S8 (S8 (jA jD)))))) (xT hg2) (wn (jM ⟨true,Hl1,hm,hs,hb,h⟩))))))))))))
 refine sxQ (v:=(vp r1)) (jE (S8 (S8 (S4 (jA (jA (jA jD))))))) (wy 40 hg2) rfl (by kernel_rfl) (qg 24 ?_)
 obtain ⟨a19,hp22,h⟩:=h
 refine sxQ (jE (S8 (S8 (S8 jD)))) (wy 40 hg2) rfl (xn hp22) (qg 25 (sxQ (v:=(vp (some a19))) (jE (S8 (S8 (S8 (jA jD))))) (wy 40 hg2) rfl (by kernel_rfl) (qg 26 ?_)))
 obtain ⟨v16,hv20,h⟩:=h
 refine sxQ (jE (S8 (S8 (S8 (jA (jA jD)))))) (wy 40 hg2) rfl (xl (isAgg9 _) hv20) (qg 27 (sxQ (v:=(vp r1)) (jE (S8 (S8 (S8 (jA (jA (jA jD))))))) (wy 40 hg2) rfl (by kernel_rfl) (qg 28 ?_)))
 obtain ⟨a20,hp23,h⟩:=h
 refine sxQ (jE (S8 (S8 (S8 (S4 jD))))) (wy 40 hg2) rfl (xn hp23) (qg 29 (sxQ (v:=(vp (some (a20.add 1)))) (jE (S8 (S8 (S8 (S4 (jA jD)))))) (wy 40 hg2) rfl (by kernel_rfl) (qg 30 ?_)))
 obtain ⟨v17,hv19,h⟩:=h
 refine sxQ (jE (S8 (S8 (S8 (S4 (jA (jA jD))))))) (wy 40 hg2) rfl (xl (isAgg3 _) hv19) (qg 31 ?_)
 obtain ⟨e4,hv18,h⟩:=h
 refine sxQ (v:=(.int .u8 e4)) (jE (S8 (S8 (S8 (S4 (jA (jA (jA jD)))))))) (wy 40 hg2) rfl (zO (by kernel_rfl) (by kernel_rfl) hv18) (qg 32 (sxQ (v:=(vb (decide (e4>126)))) (jE (S8 (S8 (S8 (S8 jD))))) (wy 40 hg2) rfl (by kernel_rfl) (qr 33 (vb (decide (e4>126))) (jE (S8 (S8 (S8 (S8 (jA jD)))))) (xF hg2) (wn (jM ⟨(decide (e4>126)),Hl1,hm,hs,hb,h⟩)))))
 refine zQ (qI (qI (qH (jM (jC (eg (q0 b1.v (q0 (vi (b1.len:Int)) (q0 (vb (decide ((b1.len:Int)>64))) (jB (jM (cbr h ?_ ?_))))))))))))<;>intro h
 refine rg (qb (sc call26 (h.mono fun e w22 ⟨k,hk,h⟩=>have ⟨hs,hb⟩:=hk.hh hs hb;⟨_,k,?_⟩)))
 refine ln (eg (q ?_))
 obtain ⟨c4,hv26,h⟩:=h
 refine q2 (vs c4) (vF (by kernel_rfl) hv26) (q (ln (er (rs1 results58 ⟨c4,rfl,h⟩))))
 refine jG (jM (eg (q ?_)))
 obtain ⟨c5,hv27,h⟩:=h
 refine q2 (vs c5) (vF (by kernel_rfl) hv27) (q (ln (er (rs1 results58 ⟨c5,rfl,h⟩))))
def m_L_j1 (r1:Option Addr) (x1:Bool) (H:NP) (w:World) (K:WP):Prop :=Br x1 (∃a2,r1=some a2∧∃v2,w.cell? (a2.add 1)=some (vi v2)∧∃a3,r1=some a3∧kD w (a3.add 1)∧¬ H (a3.add 1).block∧∀w1,w1=w.setCell (a3.add 1) (vi (q6.wrap (v2+1)))→K w1) (Calls prog 43 #[(vp r1)] w (fun e w2=>e=.returned (.tuple #[])∧Kept H w w2∧K w2))
def m_L (r1:Option Addr) (c1:Int) (w0:World) (K:WP):Prop :=∃a1,r1=some a1∧∃v1,w0.cell? (a1.add 3)=some (vi v1)∧Br (v1 != 0) (K w0) (∃a4,r1=some a4∧∀w3,Hst w0 None w0 None w3→∃v3,w3.cell? (a4.add 1)=some (vi v3)∧∃a5,r1=some a5∧∃v4,w3.cell? a5=some (vs v4)∧Br (decide (v3<(v4.size:Int))) (∃a6,r1=some a6∧∃v5,w3.cell? a6=some (vs v5)∧∃a7,r1=some a7∧∃v6,w3.cell? (a7.add 1)=some (vi v6)∧∃e1:Int,(Instr.index 9 (vs v5) (vi v6)).run prog w3=.ok (.int .u8 e1) w3∧m_L_j1 r1 (e1 == c1) None w3 K) (m_L_j1 r1 false None w3 K))
theorem w_L (r1 c1 w0 K) (h:m_L r1 c1 w0 K):
  Calls prog 59 #[(vp r1),(.int .u8 c1)] w0 (fun e w'=>e=.returned (.tuple #[])∧K  w'):=by
 refine cw (args:=[(vp r1),(.int .u8 c1)]) func59 ntmps59 ?_
 obtain ⟨hs,hb⟩:=st0 w0
 refine jC (eg (q (qm h fun a1 h=>q (ql (isAgg3 _) h fun v1 h=>q (ln (cbr h ?_ ?_))))))<;>intro h
 refine er (kB (jAF (.inl rfl) results59 ⟨rfl,h⟩))
 refine jG (jM (jC (jC (zJ (fun ρ w=>∃x1,∃H:NP,Has ρ [(0,(vp r1)),(31,(vb x1))]∧Hst w0 H w H w∧HB H w []∧m_L_j1 r1 x1 H w K) ?_ ?_))))
 rintro ρ w ⟨x1,H,hH,hs,hb,h⟩
 refine jZ hH (cbr h ?_ ?_)<;>intro h
 refine eg (q (qm h fun a2 h=>q (ql (isAgg3 _) h fun v2 h=>q (qm h fun a3 h=>q (st2 (sizeOf3 _) hs hb h fun w1 hs hb h=>ln (er (kB (jAF (.inl rfl) results59 ⟨rfl,h⟩))))))))
 refine jG (jM (rg (q (sc call43 (h.mono fun e w2 ⟨k,hk,h⟩=>have ⟨hs,hb⟩:=hk.hh hs hb;⟨_,k,?_⟩)))))
 refine jB (jAF (.inr rfl) results59 ⟨rfl,h⟩)
 refine zC (by kernel_rfl) (by kernel_rfl) (by kernel_rfl) (by kernel_rfl) ?_
 intro w3 hw3
 have hs:Hst w0 None w0 None w3:=by rw [hw3];exact hs.drew
 have hb:HB None w3 []:=by rw [hw3];exact hb.drew
 refine qq 0 (vp r1) Kp0 (qg 1 ?_)
 obtain ⟨a4,hp5,h⟩:=h
 refine sxQ Kp1 (jF rfl) rfl (xn hp5) (qq 2 (vp (some (a4.add 1))) Kp2 (qg 3 ?_))
 have ⟨h,hs⟩:=hs.hr (h w3)
 obtain ⟨v3,hv6,h⟩:=h
 refine sxQ Kp3 (jF rfl) rfl (xl (isAgg3 _) hv6) (qq 4 (vp r1) Kp4 (qg 5 ?_))
 obtain ⟨a5,hp6,h⟩:=h
 refine sxQ Kp5 (jF rfl) rfl (xn hp6) (qq 6 (vp (some a5)) Kp6 (qg 7 ?_))
 obtain ⟨v4,hv5,h⟩:=h
 refine sxQ Kp7 (jF rfl) rfl (xl (isAgg9 _) hv5) (qq 8 (vi (v4.size:Int)) Kp8 (qq 9 (vb (decide (v3<(v4.size:Int)))) Kp9 (qq 10 (vb (decide (v3<(v4.size:Int)))) (jE (S8 (jA (jA jD)))) (qg 11 ?_))))
 obtain ⟨hg1,h⟩|⟨hg1,h⟩:=h.br
 refine sxQ (v:=(vp r1)) (jE (S8 (jA (jA (jA jD))))) (wy 19 hg1) rfl (by kernel_rfl) (qg 12 ?_)
 obtain ⟨a6,hp7,h⟩:=h
 refine sxQ (jE (S8 (S4 jD))) (wy 19 hg1) rfl (xn hp7) (qg 13 (sxQ (v:=(vp (some a6))) (jE (S8 (S4 (jA jD)))) (wy 19 hg1) rfl (by kernel_rfl) (qg 14 ?_)))
 obtain ⟨v5,hv4,h⟩:=h
 refine sxQ (jE (S8 (S4 (jA (jA jD))))) (wy 19 hg1) rfl (xl (isAgg9 _) hv4) (qg 15 (sxQ (v:=(vp r1)) (jE (S8 (S4 (jA (jA (jA jD)))))) (wy 19 hg1) rfl (by kernel_rfl) (qg 16 ?_)))
 obtain ⟨a7,hp8,h⟩:=h
 refine sxQ (jE (S8 (S8 jD))) (wy 19 hg1) rfl (xn hp8) (qg 17 (sxQ (v:=(vp (some (a7.add 1)))) (jE (S8 (S8 (jA jD)))) (wy 19 hg1) rfl (by kernel_rfl) (qg 18 ?_)))
 obtain ⟨v6,hv3,h⟩:=h
 refine sxQ (jE (S8 (S8 (jA (jA jD))))) (wy 19 hg1) rfl (xl (isAgg3 _) hv3) (qg 19 ?_)
 obtain ⟨e1,hv2,h⟩:=h
 refine sxQ (v:=(.int .u8 e1)) (jE (S8 (S8 (jA (jA (jA jD)))))) (wy 19 hg1) rfl (zO (by kernel_rfl) (by kernel_rfl) hv2) (qg 20 (sxQ (v:=(.int .u8 c1)) (jE (S8 (S8 (S4 jD)))) (wy 19 hg1) rfl (by kernel_rfl) (qg 21 (sxQ (v:=(vb (e1 == c1))) (jE (S8 (S8 (S4 (jA jD))))) (wy 19 hg1) rfl (by kernel_rfl) (qr 22 (vb (e1 == c1)) (jE (S8 (S8 (S4 (jA (jA jD)))))) (xT hg1) (wn (jM ⟨(e1 == c1),None,hm,hs,hb,h⟩)))))))
 refine qE (jE (S8 (jA (jA (jA jD))))) (jH rfl (yD 19 hg1) rfl) (qn 12 (jE (S8 (S4 jD))) (jH rfl (yD 19 hg1) rfl) (qn 13 (jE (S8 (S4 (jA jD)))) (jH rfl (yD 19 hg1) rfl) (qn 14 (jE (S8 (S4 (jA (jA jD))))) (jH rfl (yD 19 hg1) rfl) (qn 15 (jE (S8 (S4 (jA (jA (jA jD)))))) (jH rfl (yD 19 hg1) rfl) (qn 16 (jE (S8 (S8 jD))) (jH rfl (yD 19 hg1) rfl) (qn 17 (jE (S8 (S8 (jA jD)))) (jH rfl (yD 19 hg1) rfl) (qn 18 (jE (S8 (S8 (jA (jA jD))))) (jH rfl (yD 19 hg1) rfl) (qn 19 (jE (S8 (S8 (jA (jA (jA jD)))))) (jH rfl (yD 19 hg1) rfl) (qn 20 (jE (S8 (S8 (S4 jD)))) (jH rfl (yD 19 hg1) rfl) (qn 21 (jE (S8 (S8 (S4 (jA jD))))) (jH rfl (yD 19 hg1) rfl) (qr 22 (vb false) (jE (S8 (S8 (S4 (jA (jA jD)))))) (xF hg1) (wn (jM ⟨false,None,hm,hs,hb,h⟩)))))))))))))
def m_W1 (r1:Option Addr) (aM aN:Int) (aO aP:Int) (aQ:ByteArray) (cB:Sl) (deep1:Int) (w0:World) (K:Int→Int→Int→Int→ByteArray→Sl→WP):Prop :=∀H2 w2,Hst w0 None w0 H2 w2→Calls prog 59 #[(vp r1),(.int .u8 40)] w2 (fun e w3=>e=.returned (.tuple #[])∧Kept H2 w2 w3∧Calls prog 25 #[(vp r1),(vi (q6.wrap (deep1+1)))] w3 (fun e w4=>∃aA aB aC aD aE aF,e=.returned (Ab aA aB aC aD aE aF)∧Kept H2 w3 w4∧∀p3 w5,New w4 (.cells #[(vi aA),(vi aB),(vi aC),(vu aD),(vs aE),aF.v] 25) p3 w5→∀w6,Hst w0 H2 w5 H2 w6→Calls prog 59 #[(vp r1),(.int .u8 41)] w6 (fun e w7=>e=.returned (.tuple #[])∧Kept H2 w6 w7∧∀w8,Hst w0 H2 w7 H2 w8→K aM aN aO aP aQ (Sl.mk (some p3) 1 1) w8)))
theorem w_W1 (r1 aM aN aO aP aQ cB deep1 w0 K) (h:m_W1 r1 aM aN aO aP aQ cB deep1 w0 K):
  Calls prog 60 #[(vp r1),(.agg #[(vi aM),(vi aN),(vi aO),(vu aP),(vs aQ),cB.v]),(vi deep1)] w0 (fun e w'=>∃aG aH aI aJ aK aL,e=.returned (Ab aG aH aI aJ aK aL)∧K aG aH aI aJ aK aL w'):=by
 refine cw (args:=[(vp r1),(Ab aM aN aO aP aQ cB),(vi deep1)]) func60 ntmps60 ?_
 obtain ⟨hs,hb⟩:=st0 w0
 refine eg (nw3 (Aa aM aN aO aP aQ cB) 25 hs hb xb fun p1 w1 H1 hs hb=>nw3 [(vi 0),(vi 0),(vi 0),(vu 0),ve,Sl.nil.v] 25 hs hb (jV (zeroValue25 _) rfl) fun p2 w2 H2 hs hb=>ln (eg (q ?_)))
 have ⟨h,hs⟩:=hs.hr (h H2 w2)
 refine sc call59 (h.mono fun e w3 ⟨k,hk,h⟩=>have ⟨hs,hb⟩:=hk.hh hs hb;⟨_,k,?_⟩)
 refine ln (eg (qc (sc call25 (h.mono fun e w4 ⟨aA,aB,aC,aD,aE,aF,k,hk,h⟩=>have ⟨hs,hb⟩:=hk.hh hs hb;⟨_,k,?_⟩))))
 refine nw5 (fun p=>(Sl.mk (some p) 1 1).v) hs hb h fun p3 w5 hs hb h=>q (zE (jF rfl) (zN (a:=(p1.add 5)) (v:=(Sl.mk (some p3) 1 1).v) (by kernel_rfl) (by kernel_rfl) rfl (sizeOf23 _) (hb.canW 1 5 (gS gZ) (by kernel_rfl))) ?_)
 intro w6 hn3
 have hsb:Hst w0 H2 w5 H2 w6∧HB H2 w6 [(p2,[(vi 0),(vi 0),(vi 0),(vu 0),ve,Sl.nil.v],25),(p1,[(vi aM),(vi aN),(vi aO),(vu aP),(vs aQ),(Sl.mk (some p3) 1 1).v],25)]:=by
  rw [hn3];exact hb.set (i:=1) 5 (v:=(Sl.mk (some p3) 1 1).v) hs (gS gZ) (by kernel_rfl)
 obtain ⟨hs,hb⟩:=hsb
 refine ln (eg (q ?_))
 have ⟨h,hs⟩:=hs.hr (h w6)
 refine sc call59 (h.mono fun e w7 ⟨k,hk,h⟩=>have ⟨hs,hb⟩:=hk.hh hs hb;⟨_,k,?_⟩)
 refine ln (eg (q2 (.agg #[(vi aM),(vi aN),(vi aO),(vu aP),(vs aQ),(Sl.mk (some p3) 1 1).v]) (xa p1 [(vi aM),(vi aN),(vi aO),(vu aP),(vs aQ),(Sl.mk (some p3) 1 1).v] (isAgg25 _) (sizeOf25 _) (hb.r0 1 6 (gS gZ))) (zE (jF rfl) (xo p2 [(vi aM),(vi aN),(vi aO),(vu aP),(vs aQ),(Sl.mk (some p3) 1 1).v] (sizeOf25 _) (hb.k0 0 6 gZ)) ?_)))
 intro w8 hn4
 obtain ⟨hs,hb⟩:=hb.st1 0 hs hn4 gZ
 refine ln (er ?_)
 have ⟨h,hs⟩:=hs.hr (h w8)
 refine yW (.inl rfl) (vs:=[(.agg #[(vi aM),(vi aN),(vi aO),(vu aP),(vs aQ),(Sl.mk (some p3) 1 1).v])]) (v:=(.agg #[(vi aM),(vi aN),(vi aO),(vu aP),(vs aQ),(Sl.mk (some p3) 1 1).v])) results60 ⟨(rva (isAgg25 _) (sizeOf25 _) (hb.r0 0 6 gZ)),trivial⟩ (by kernel_rfl) ⟨aM,aN,aO,aP,aQ,(Sl.mk (some p3) 1 1),rfl,h⟩
def m_X1 (r1:Option Addr) (c1 deep1:Int) (w0:World) (K:Int→Int→Int→Int→ByteArray→Sl→WP):Prop :=Br (c1 == 110) (∀H1 w1,Hst w0 None w0 H1 w1→Calls prog 56 #[(vp r1),(vi (-1))] w1 (fun e w2=>∃r2,e=.returned (vi r2)∧Kept H1 w1 w2∧∀w3,Hst w0 H1 w2 H1 w3→K 1 r2 0 0 ⟨#[]⟩ Sl.nil w3)) (Br (c1 == 107) (∀H1 w1,Hst w0 None w0 H1 w1→Calls prog 56 #[(vp r1),(vi (-1))] w1 (fun e w4=>∃r3,e=.returned (vi r3)∧Kept H1 w1 w4∧∀w5,Hst w0 H1 w4 H1 w5→K 6 r3 0 0 ⟨#[]⟩ Sl.nil w5)) (Br (c1 == 35) (∀H1 w1,Hst w0 None w0 H1 w1→Calls prog 57 #[(vp r1)] w1 (fun e w6=>∃r4 r5,e=.returned (.tuple #[(vu r4),(vi r5)])∧Kept H1 w1 w6∧∀w7,Hst w0 H1 w6 H1 w7→K 2 0 0 r4 ⟨#[]⟩ Sl.nil w7)) (Br (c1 == 34) (∀H1 w1,Hst w0 None w0 H1 w1→Calls prog 58 #[(vp r1)] w1 (fun e w8=>∃r6,e=.returned (vs r6)∧Kept H1 w1 w8∧∀w9,Hst w0 H1 w8 H1 w9→K 3 0 0 0 r6 Sl.nil w9)) (Br (c1 == 40) (∀H1 w1,Hst w0 None w0 H1 w1→Calls prog 25 #[(vp r1),(vi (q6.wrap (deep1+1)))] w1 (fun e w10=>∃aA aB aC aD aE aF,e=.returned (Ab aA aB aC aD aE aF)∧Kept H1 w1 w10∧∀H2 w12,Hst w0 H1 w10 H2 w12→Calls prog 25 #[(vp r1),(vi (q6.wrap (deep1+1)))] w12 (fun e w13=>∃aG aH aI aJ aK aL,e=.returned (Ab aG aH aI aJ aK aL)∧Kept H2 w12 w13∧∀H3 w15,Hst w0 H2 w13 H3 w15→Calls prog 59 #[(vp r1),(.int .u8 41)] w15 (fun e w16=>e=.returned (.tuple #[])∧Kept H3 w15 w16∧∀p4 w17,New w16 (.cells #[(vi aA),(vi aB),(vi aC),(vu aD),(vs aE),aF.v,(vi aG),(vi aH),(vi aI),(vu aJ),(vs aK),aL.v] 25) p4 w17→∀w18,Hst w0 H3 w17 H3 w18→K 4 0 0 0 ⟨#[]⟩ (Sl.mk (some p4) 2 2) w18)))) (Br (c1 == 104) (∀H1 w1,Hst w0 None w0 H1 w1→Calls prog 60 #[(vp r1),(.agg #[(vi 5),(vi 0),(vi 0),(vu 0),ve,Sl.nil.v]),(vi deep1)] w1 (fun e w19=>∃aR aS aT aU aV aW,e=.returned (Ab aR aS aT aU aV aW)∧Kept H1 w1 w19∧∀w20,Hst w0 H1 w19 H1 w20→K aR aS aT aU aV aW w20)) (Br (c1 == 115) (∀H1 w1,Hst w0 None w0 H1 w1→Calls prog 56 #[(vp r1),(vi (-1))] w1 (fun e w21=>∃r7,e=.returned (vi r7)∧Kept H1 w1 w21∧Calls prog 60 #[(vp r1),(.agg #[(vi 7),(vi r7),(vi 0),(vu 0),ve,Sl.nil.v]),(vi deep1)] w21 (fun e w22=>∃aX aY aZ bA bB bC,e=.returned (Ab aX aY aZ bA bB bC)∧Kept H1 w21 w22∧∀w23,Hst w0 H1 w22 H1 w23→K aX aY aZ bA bB bC w23))) (∀H1 w1,Hst w0 None w0 H1 w1→Calls prog 56 #[(vp r1),(vi (-1))] w1 (fun e w24=>∃r8,e=.returned (vi r8)∧Kept H1 w1 w24∧∀H5 w28,Hst w0 H1 w24 H5 w28→Calls prog 59 #[(vp r1),(.int .u8 62)] w28 (fun e w30=>e=.returned (.tuple #[])∧Kept H5 w28 w30∧Calls prog 56 #[(vp r1),(vi r8)] w30 (fun e w31=>∃r9,e=.returned (vi r9)∧Kept H5 w30 w31∧∀w32,Hst w0 H5 w31 H5 w32→Calls prog 60 #[(vp r1),(.agg #[(vi (cond (c1 == 102) 9 8)),(vi r8),(vi r9),(vu 0),ve,Sl.nil.v]),(vi deep1)] w32 (fun e w33=>∃bD bE bF bG bH bI,e=.returned (Ab bD bE bF bG bH bI)∧Kept H5 w32 w33∧∀w34,Hst w0 H5 w33 H5 w34→K bD bE bF bG bH bI w34)))))))))))
theorem w_X1 (r1 c1 deep1 w0 K) (h:m_X1 r1 c1 deep1 w0 K):
  Calls prog 44 #[(vp r1),(.int .u8 c1),(vi deep1)] w0 (fun e w'=>∃cC cD cE cF cG cH,e=.returned (Ab cC cD cE cF cG cH)∧K cC cD cE cF cG cH w'):=by
 refine cw (args:=[(vp r1),(.int .u8 c1),(vi deep1)]) func44 ntmps44 ?_
 obtain ⟨hs,hb⟩:=st0 w0
 refine eg (nw3 [(vi 0),(vi 0),(vi 0),(vu 0),ve,Sl.nil.v] 25 hs hb (jV (zeroValue25 _) rfl) fun p1 w1 H1 hs hb=>ln (jC (eg (q (ln (jP (eg (q (q (ln (cbr h ?_ ?_)))))))))))<;>intro h
 refine eg (q ?_)
 have ⟨h,hs⟩:=hs.hr (h H1 w1)
 refine sc call56 (h.mono fun e w2 ⟨r2,k,hk,h⟩=>have ⟨hs,hb⟩:=hk.hh hs hb;⟨_,k,?_⟩)
 refine q (zE (jF rfl) (xo p1 [(vi 1),(vi r2),(vi 0),(vu 0),ve,Sl.nil.v] (sizeOf25 _) (hb.k0 0 6 gZ)) ?_)
 intro w3 hn2
 obtain ⟨hs,hb⟩:=hb.st1 0 hs hn2 gZ
 refine ln (er (yK (kB ?_)))
 have ⟨h,hs⟩:=hs.hr (h w3)
 refine yW (.inl rfl) (vs:=[(.agg #[(vi 1),(vi r2),(vi 0),(vu 0),ve,Sl.nil.v])]) (v:=(.agg #[(vi 1),(vi r2),(vi 0),(vu 0),ve,Sl.nil.v])) results44 ⟨(rva (isAgg25 _) (sizeOf25 _) (hb.r0 0 6 gZ)),trivial⟩ (by kernel_rfl) ⟨1,r2,0,0,⟨#[]⟩,Sl.nil,rfl,h⟩
 refine eg (qb (ln (cbr h ?_ ?_)))<;>intro h
 refine eg (q ?_)
 have ⟨h,hs⟩:=hs.hr (h H1 w1)
 refine sc call56 (h.mono fun e w4 ⟨r3,k,hk,h⟩=>have ⟨hs,hb⟩:=hk.hh hs hb;⟨_,k,?_⟩)
 refine q (zE (jF rfl) (xo p1 [(vi 6),(vi r3),(vi 0),(vu 0),ve,Sl.nil.v] (sizeOf25 _) (hb.k0 0 6 gZ)) ?_)
 intro w5 hn3
 obtain ⟨hs,hb⟩:=hb.st1 0 hs hn3 gZ
 refine ln (er (yK (kB ?_)))
 have ⟨h,hs⟩:=hs.hr (h w5)
 refine yW (.inl rfl) (vs:=[(.agg #[(vi 6),(vi r3),(vi 0),(vu 0),ve,Sl.nil.v])]) (v:=(.agg #[(vi 6),(vi r3),(vi 0),(vu 0),ve,Sl.nil.v])) results44 ⟨(rva (isAgg25 _) (sizeOf25 _) (hb.r0 0 6 gZ)),trivial⟩ (by kernel_rfl) ⟨6,r3,0,0,⟨#[]⟩,Sl.nil,rfl,h⟩
 refine eg (qb (ln (cbr h ?_ ?_)))<;>intro h
 refine eg (q ?_)
 have ⟨h,hs⟩:=hs.hr (h H1 w1)
 refine sc call57 (h.mono fun e w6 ⟨r4,r5,k,hk,h⟩=>have ⟨hs,hb⟩:=hk.hh hs hb;⟨_,k,?_⟩)
 refine q (qd (ln (eg (qb (zE (jF rfl) (xo p1 [(vi 2),(vi 0),(vi 0),(vu r4),ve,Sl.nil.v] (sizeOf25 _) (hb.k0 0 6 gZ)) ?_)))))
 intro w7 hn4
 obtain ⟨hs,hb⟩:=hb.st1 0 hs hn4 gZ
 refine ln (er (yK (kB ?_)))
 have ⟨h,hs⟩:=hs.hr (h w7)
 refine yW (.inl rfl) (vs:=[(.agg #[(vi 2),(vi 0),(vi 0),(vu r4),ve,Sl.nil.v])]) (v:=(.agg #[(vi 2),(vi 0),(vi 0),(vu r4),ve,Sl.nil.v])) results44 ⟨(rva (isAgg25 _) (sizeOf25 _) (hb.r0 0 6 gZ)),trivial⟩ (by kernel_rfl) ⟨2,0,0,r4,⟨#[]⟩,Sl.nil,rfl,h⟩
 refine eg (qb (ln (cbr h ?_ ?_)))<;>intro h
 refine eg (q ?_)
 have ⟨h,hs⟩:=hs.hr (h H1 w1)
 refine sc call58 (h.mono fun e w8 ⟨r6,k,hk,h⟩=>have ⟨hs,hb⟩:=hk.hh hs hb;⟨_,k,?_⟩)
 refine q (zE (jF rfl) (xo p1 [(vi 3),(vi 0),(vi 0),(vu 0),(vs r6),Sl.nil.v] (sizeOf25 _) (hb.k0 0 6 gZ)) ?_)
 intro w9 hn5
 obtain ⟨hs,hb⟩:=hb.st1 0 hs hn5 gZ
 refine ln (er (yK (kB ?_)))
 have ⟨h,hs⟩:=hs.hr (h w9)
 refine yW (.inl rfl) (vs:=[(.agg #[(vi 3),(vi 0),(vi 0),(vu 0),(vs r6),Sl.nil.v])]) (v:=(.agg #[(vi 3),(vi 0),(vi 0),(vu 0),(vs r6),Sl.nil.v])) results44 ⟨(rva (isAgg25 _) (sizeOf25 _) (hb.r0 0 6 gZ)),trivial⟩ (by kernel_rfl) ⟨3,0,0,0,r6,Sl.nil,rfl,h⟩
 refine eg (qb (ln (cbr h ?_ ?_)))<;>intro h
 refine eg (qc ?_)
 have ⟨h,hs⟩:=hs.hr (h H1 w1)
 refine sc call25 (h.mono fun e w10 ⟨aA,aB,aC,aD,aE,aF,k,hk,h⟩=>have ⟨hs,hb⟩:=hk.hh hs hb;⟨_,k,?_⟩)
 refine nw3 [(vi 0),(vi 0),(vi 0),(vu 0),ve,Sl.nil.v] 25 hs hb (jV (zeroValue25 _) rfl) fun p2 w11 H2 hs hb=>sbx 0 (Aa aA aB aC aD aE aF) (sizeOf25 _) hs hb gZ fun w12 hs hb=>ln (eg (qc ?_))
 have ⟨h,hs⟩:=hs.hr (h H2 w12)
 refine sc call25 (h.mono fun e w13 ⟨aG,aH,aI,aJ,aK,aL,k,hk,h⟩=>have ⟨hs,hb⟩:=hk.hh hs hb;⟨_,k,?_⟩)
 refine nw3 [(vi 0),(vi 0),(vi 0),(vu 0),ve,Sl.nil.v] 25 hs hb (jV (zeroValue25 _) rfl) fun p3 w14 H3 hs hb=>sbx 0 (Aa aG aH aI aJ aK aL) (sizeOf25 _) hs hb gZ fun w15 hs hb=>ln (eg (q ?_))
 have ⟨h,hs⟩:=hs.hr (h H3 w15)
 refine sc call59 (h.mono fun e w16 ⟨k,hk,h⟩=>have ⟨hs,hb⟩:=hk.hh hs hb;⟨_,k,?_⟩)
 refine ln (eg (q2 (Ab aA aB aC aD aE aF) (xa p2 (Aa aA aB aC aD aE aF) (isAgg25 _) (sizeOf25 _) (hb.r0 1 6 (gS gZ))) (q2 (Ab aG aH aI aJ aK aL) (xa p3 (Aa aG aH aI aJ aK aL) (isAgg25 _) (sizeOf25 _) (hb.r0 0 6 gZ)) (nw5 (fun p=>(Sl.mk (some p) 2 2).v) hs hb h fun p4 w17 hs hb h=>q (zE (jF rfl) (xo p1 [(vi 4),(vi 0),(vi 0),(vu 0),ve,(Sl.mk (some p4) 2 2).v] (sizeOf25 _) (hb.k0 2 6 (gS (gS gZ)))) ?_)))))
 intro w18 hn10
 obtain ⟨hs,hb⟩:=hb.st1 2 hs hn10 (gS (gS gZ))
 refine ln (er (yK (kB ?_)))
 have ⟨h,hs⟩:=hs.hr (h w18)
 refine yW (.inl rfl) (vs:=[(.agg #[(vi 4),(vi 0),(vi 0),(vu 0),ve,(Sl.mk (some p4) 2 2).v])]) (v:=(.agg #[(vi 4),(vi 0),(vi 0),(vu 0),ve,(Sl.mk (some p4) 2 2).v])) results44 ⟨(rva (isAgg25 _) (sizeOf25 _) (hb.r0 2 6 (gS (gS gZ)))),trivial⟩ (by kernel_rfl) ⟨4,0,0,0,⟨#[]⟩,(Sl.mk (some p4) 2 2),rfl,h⟩
 refine eg (qb (ln (cbr h ?_ ?_)))<;>intro h
 refine eg (qc ?_)
 have ⟨h,hs⟩:=hs.hr (h H1 w1)
 refine sc call60 (h.mono fun e w19 ⟨aR,aS,aT,aU,aV,aW,k,hk,h⟩=>have ⟨hs,hb⟩:=hk.hh hs hb;⟨_,k,?_⟩)
 refine sbx 0 (Aa aR aS aT aU aV aW) (sizeOf25 _) hs hb gZ fun w20 hs hb=>ln (er (yK (kB ?_)))
 have ⟨h,hs⟩:=hs.hr (h w20)
 refine yW (.inl rfl) (vs:=[(Ab aR aS aT aU aV aW)]) (v:=(Ab aR aS aT aU aV aW)) results44 ⟨(rva (isAgg25 _) (sizeOf25 _) (hb.r0 0 6 gZ)),trivial⟩ (by kernel_rfl) ⟨aR,aS,aT,aU,aV,aW,rfl,h⟩
 refine eg (qb (ln (cbr h ?_ ?_)))<;>intro h
 refine eg (qb ?_)
 have ⟨h,hs⟩:=hs.hr (h H1 w1)
 refine sc call56 (h.mono fun e w21 ⟨r7,k,hk,h⟩=>have ⟨hs,hb⟩:=hk.hh hs hb;⟨_,k,?_⟩)
 refine qb (sc call60 (h.mono fun e w22 ⟨aX,aY,aZ,bA,bB,bC,k,hk,h⟩=>have ⟨hs,hb⟩:=hk.hh hs hb;⟨_,k,?_⟩))
 refine sbx 0 (Aa aX aY aZ bA bB bC) (sizeOf25 _) hs hb gZ fun w23 hs hb=>ln (er (yK (kB ?_)))
 have ⟨h,hs⟩:=hs.hr (h w23)
 refine yW (.inl rfl) (vs:=[(Ab aX aY aZ bA bB bC)]) (v:=(Ab aX aY aZ bA bB bC)) results44 ⟨(rva (isAgg25 _) (sizeOf25 _) (hb.r0 0 6 gZ)),trivial⟩ (by kernel_rfl) ⟨aX,aY,aZ,bA,bB,bC,rfl,h⟩
 refine jG (kY (jM (eg (q ?_))))
 have ⟨h,hs⟩:=hs.hr (h H1 w1)
 refine sc call56 (h.mono fun e w24 ⟨r8,k,hk,h⟩=>have ⟨hs,hb⟩:=hk.hh hs hb;⟨_,k,?_⟩)
 refine q (nw3 [(vi 0),(vi 0),(vi 0),(vu 0),ve,Sl.nil.v] 25 hs hb (jV (zeroValue25 _) rfl) fun p5 w25 H4 hs hb=>sbx 0 [(vi 8),(vi r8),(vi 0),(vu 0),ve,Sl.nil.v] (sizeOf25 _) hs hb gZ fun w26 hs hb=>ln (jC (eg (qb (ln (zW (fun ρ wJ=>∃b1'0:Bool,∃HJ:NP,((c1 == 102)=b1'0)∧Hst w0 H1 w24 HJ wJ∧HB HJ wJ [(p5,[(vi (cond b1'0 9 8)),(vi r8),(vi 0),(vu 0),ve,Sl.nil.v],25),(p1,[(vi 0),(vi 0),(vi 0),(vu 0),ve,Sl.nil.v],25)]∧Has ρ [(0,(vp r1)),(2,(vi deep1)),(6,(vp (some p1))),(11,(vp (some p5)))]) ?_ ?_))))))
 refine kG (t:=(c1 == 102)) (by kernel_rfl) (fun hc9=>?_) (fun hc9=>?_)
 refine rg (q (zE (jF rfl) (zN (a:=p5) (v:=(vi 9)) (by kernel_rfl) (by kernel_rfl) rfl (sizeOf3 _) (hb.canW0 0 gZ (by kernel_rfl))) ?_))
 intro w29 hn17
 have hsb:Hst w0 H1 w24 H4 w29∧HB H4 w29 [(p5,[(vi 9),(vi r8),(vi 0),(vu 0),ve,Sl.nil.v],25),(p1,[(vi 0),(vi 0),(vi 0),(vu 0),ve,Sl.nil.v],25)]:=by
  rw [hn17];exact hb.set0 (i:=0) (v:=(vi 9)) hs gZ (by kernel_rfl)
 obtain ⟨hs,hb⟩:=hsb
 refine ln ⟨true,_,hc9,hs,hb,hm⟩
 refine jG (jM ⟨false,_,hc9,hs,hb,hm⟩)
 rintro ρ w28 ⟨b1'0,H5,he0,hs,hb,hH⟩
 subst he0
 refine zL hH (jM (eg (q ?_)))
 have ⟨h,hs⟩:=hs.hr (h H5 w28)
 refine sc call59 (h.mono fun e w30 ⟨k,hk,h⟩=>have ⟨hs,hb⟩:=hk.hh hs hb;⟨_,k,?_⟩)
 refine ln (eg (qb (q3 (xl (isAgg3 _) (hb.d 0 1 gZ)) (sc call56 (h.mono fun e w31 ⟨r9,k,hk,h⟩=>have ⟨hs,hb⟩:=hk.hh hs hb;⟨_,k,?_⟩)))))
 refine q (zE (jF rfl) (zN (a:=(p5.add 2)) (v:=(vi r9)) (by kernel_rfl) (by kernel_rfl) rfl (sizeOf3 _) (hb.canW 0 2 gZ (by kernel_rfl))) ?_)
 intro w32 hn18
 have hsb:Hst w0 H5 w31 H5 w32∧HB H5 w32 [(p5,[(vi (cond (c1 == 102) 9 8)),(vi r8),(vi r9),(vu 0),ve,Sl.nil.v],25),(p1,[(vi 0),(vi 0),(vi 0),(vu 0),ve,Sl.nil.v],25)]:=by
  rw [hn18];exact hb.set (i:=0) 2 (v:=(vi r9)) hs gZ (by kernel_rfl)
 obtain ⟨hs,hb⟩:=hsb
 refine ln (eg (q (q2 (.agg #[(vi (cond (c1 == 102) 9 8)),(vi r8),(vi r9),(vu 0),ve,Sl.nil.v]) (xa p5 [(vi (cond (c1 == 102) 9 8)),(vi r8),(vi r9),(vu 0),ve,Sl.nil.v] (isAgg25 _) (sizeOf25 _) (hb.r0 0 6 gZ)) (q ?_))))
 have ⟨h,hs⟩:=hs.hr (h w32)
 refine sc call60 (h.mono fun e w33 ⟨bD,bE,bF,bG,bH,bI,k,hk,h⟩=>have ⟨hs,hb⟩:=hk.hh hs hb;⟨_,k,?_⟩)
 refine sbx 1 (Aa bD bE bF bG bH bI) (sizeOf25 _) hs hb (gS gZ) fun w34 hs hb=>ln (er ?_)
 have ⟨h,hs⟩:=hs.hr (h w34)
 refine yW (.inl rfl) (vs:=[(Ab bD bE bF bG bH bI)]) (v:=(Ab bD bE bF bG bH bI)) results44 ⟨(rva (isAgg25 _) (sizeOf25 _) (hb.r0 1 6 (gS gZ))),trivial⟩ (by kernel_rfl) ⟨bD,bE,bF,bG,bH,bI,rfl,h⟩
def m_T_j1 (r1:Option Addr) (deep1 e1:Int) (x1:Bool) (w0:World) (H:NP) (w:World) (K:Int→Int→Int→Int→ByteArray→Sl→WP):Prop :=Br x1 (∃a6,r1=some a6∧∃v6,w.cell? (a6.add 1)=some (vi v6)∧Calls prog 26 #[(vp r1),(vi 52),(vi v6)] w (fun e w27=>e=.returned (.tuple #[])∧Kept H w w27∧∀w28,Hst w0 H w27 H w28→K 0 0 0 0 ⟨#[]⟩ Sl.nil w28)) (∃a7,r1=some a7∧∃v7,w.cell? (a7.add 2)=some (vi v7)∧∃a8,r1=some a8∧kD w (a8.add 2)∧¬ H (a8.add 2).block∧∀w29,w29=w.setCell (a8.add 2) (vi (q6.wrap (v7+1)))→∃a9,r1=some a9∧∃v8,w29.cell? (a9.add 1)=some (vi v8)∧∃a10,r1=some a10∧kD w29 (a10.add 1)∧¬ H (a10.add 1).block∧∀w30,w30=w29.setCell (a10.add 1) (vi (q6.wrap (v8+1)))→Calls prog 44 #[(vp r1),(.int .u8 e1),(vi deep1)] w30 (fun e w31=>∃aA aB aC aD aE aF,e=.returned (Ab aA aB aC aD aE aF)∧Kept H w30 w31∧∀H19 w33,Hst w0 H w31 H19 w33→Calls prog 42 #[(vp r1)] w33 (fun e w34=>e=.returned (.tuple #[])∧Kept H19 w33 w34∧∀w35,Hst w0 H19 w34 H19 w35→K aA aB aC aD aE aF w35)))
def m_T (r1:Option Addr) (deep1:Int) (w0:World) (K:Int→Int→Int→Int→ByteArray→Sl→WP):Prop :=∃a1,r1=some a1∧∀H1 w1,Hst w0 None w0 H1 w1→∃v1,w1.cell? (a1.add 3)=some (vi v1)∧Br (v1 != 0) (∀w2,Hst w0 H1 w1 H1 w2→K 0 0 0 0 ⟨#[]⟩ Sl.nil w2) (Calls prog 42 #[(vp r1)] w1 (fun e w3=>e=.returned (.tuple #[])∧Kept H1 w1 w3∧∃a2,r1=some a2∧∀w4,Hst w0 H1 w3 H1 w4→∃v2,w4.cell? (a2.add 1)=some (vi v2)∧∃a3,r1=some a3∧∃v3,w4.cell? a3=some (vs v3)∧Br (decide (v2≥(v3.size:Int))) (Calls prog 43 #[(vp r1)] w4 (fun e w5=>e=.returned (.tuple #[])∧Kept H1 w4 w5∧∀w6,Hst w0 H1 w5 H1 w6→K 0 0 0 0 ⟨#[]⟩ Sl.nil w6)) (∃a4,r1=some a4∧∀w7,Hst w0 H1 w4 H1 w7→∃v4,w7.cell? a4=some (vs v4)∧∃a5,r1=some a5∧∃v5,w7.cell? (a5.add 1)=some (vi v5)∧∃e1:Int,(Instr.index 9 (vs v4) (vi v5)).run prog w7=.ok (.int .u8 e1) w7∧Br (!(((((((((e1 == 110) || (e1 == 35)) || (e1 == 107)) || (e1 == 34)) || (e1 == 40)) || (e1 == 104)) || (e1 == 115)) || (e1 == 112)) || (e1 == 102))) (∀H10 w16,Hst w0 H1 w7 H10 w16→Calls prog 43 #[(vp r1)] w16 (fun e w25=>e=.returned (.tuple #[])∧Kept H10 w16 w25∧∀w26,Hst w0 H10 w25 H10 w26→K 0 0 0 0 ⟨#[]⟩ Sl.nil w26)) (∃a11,r1=some a11∧∀H10 w16,Hst w0 H1 w7 H10 w16→∃v9,w16.cell? (a11.add 2)=some (vi v9)∧∀H20 w36,Hst w0 H10 w16 H20 w36→m_T_j1 r1 deep1 e1 ((decide (v9≥4096)) || (decide (deep1≥64))) w0 H20 w36 K))))
theorem w_T (r1 deep1 w0 K) (h:m_T r1 deep1 w0 K):
  Calls prog 25 #[(vp r1),(vi deep1)] w0 (fun e w'=>∃aG aH aI aJ aK aL,e=.returned (Ab aG aH aI aJ aK aL)∧K aG aH aI aJ aK aL w'):=by
 refine cw (args:=[(vp r1),(vi deep1)]) func25 ntmps25 ?_
 obtain ⟨hs,hb⟩:=st0 w0
 refine eg (nw3 [(vi 0),(vi 0),(vi 0),(vu 0),ve,Sl.nil.v] 25 hs hb (jV (zeroValue25 _) rfl) fun p1 w1 H1 hs hb=>ln (jC (eg (q (qm h fun a1 h=>q ?_)))))
 have ⟨h,hs⟩:=hs.hr (h H1 w1)
 refine ql (isAgg3 _) h fun v1 h=>q (ln (cbr h ?_ ?_))<;>intro h
 refine eg (q (zE (jF rfl) (xo p1 [(vi 0),(vi 0),(vi 0),(vu 0),ve,Sl.nil.v] (sizeOf25 _) (hb.k0 0 6 gZ)) ?_))
 intro w2 hn2
 obtain ⟨hs,hb⟩:=hb.st1 0 hs hn2 gZ
 refine ln (er (kB ?_))
 have ⟨h,hs⟩:=hs.hr (h w2)
 refine yW (.inl rfl) (vs:=[(.agg #[(vi 0),(vi 0),(vi 0),(vu 0),ve,Sl.nil.v])]) (v:=(.agg #[(vi 0),(vi 0),(vi 0),(vu 0),ve,Sl.nil.v])) results25 ⟨(rva (isAgg25 _) (sizeOf25 _) (hb.r0 0 6 gZ)),trivial⟩ (by kernel_rfl) ⟨0,0,0,0,⟨#[]⟩,Sl.nil,rfl,h⟩
 refine jG (jM (eg (q (sc call42 (h.mono fun e w3 ⟨k,hk,h⟩=>have ⟨hs,hb⟩:=hk.hh hs hb;⟨_,k,?_⟩)))))
 refine ln (jC (jC (zC (by kernel_rfl) (by kernel_rfl) (by kernel_rfl) (by kernel_rfl) ?_)))
 intro w4 hw4
 have hs:Hst w0 H1 w3 H1 w4:=by rw [hw4];exact hs.drew
 have hb:HB H1 w4 [(p1,[(vi 0),(vi 0),(vi 0),(vu 0),ve,Sl.nil.v],25)]:=by rw [hw4];exact hb.drew
 refine qq 0 (vp r1) Kp0 (qg 1 ?_)
 obtain ⟨a2,hp2,h⟩:=h
 refine sxQ Kp1 (jF rfl) rfl (xn hp2) (qq 2 (vp (some (a2.add 1))) Kp2 (qg 3 ?_))
 have ⟨h,hs⟩:=hs.hr (h w4)
 obtain ⟨v2,hv9,h⟩:=h
 refine sxQ Kp3 (jF rfl) rfl (xl (isAgg3 _) hv9) (qq 4 (vp r1) Kp4 (qg 5 ?_))
 obtain ⟨a3,hp3,h⟩:=h
 refine sxQ Kp5 (jF rfl) rfl (xn hp3) (qq 6 (vp (some a3)) Kp6 (qg 7 ?_))
 obtain ⟨v3,hv8,h⟩:=h
 refine sxQ Kp7 (jF rfl) rfl (xl (isAgg9 _) hv8) (qq 8 (vi (v3.size:Int)) Kp8 (qq 9 (vb (decide (v2≥(v3.size:Int)))) Kp9 (wn (jM (cbr h ?_ ?_)))))<;>intro h
 refine eg (q (sc call43 (h.mono fun e w5 ⟨k,hk,h⟩=>have ⟨hs,hb⟩:=hk.hh hs hb;⟨_,k,?_⟩)))
 refine ln (eg (q (zE (jF rfl) (xo p1 [(vi 0),(vi 0),(vi 0),(vu 0),ve,Sl.nil.v] (sizeOf25 _) (hb.k0 0 6 gZ)) ?_)))
 intro w6 hn3
 obtain ⟨hs,hb⟩:=hb.st1 0 hs hn3 gZ
 refine ln (er (kB ?_))
 have ⟨h,hs⟩:=hs.hr (h w6)
 refine yW (.inl rfl) (vs:=[(.agg #[(vi 0),(vi 0),(vi 0),(vu 0),ve,Sl.nil.v])]) (v:=(.agg #[(vi 0),(vi 0),(vi 0),(vu 0),ve,Sl.nil.v])) results25 ⟨(rva (isAgg25 _) (sizeOf25 _) (hb.r0 0 6 gZ)),trivial⟩ (by kernel_rfl) ⟨0,0,0,0,⟨#[]⟩,Sl.nil,rfl,h⟩
 refine jG (jM (jC (zC (by kernel_rfl) (by kernel_rfl) (by kernel_rfl) (by kernel_rfl) ?_)))
 intro w7 hw7
 have hs:Hst w0 H1 w4 H1 w7:=by rw [hw7];exact hs.drew
 have hb:HB H1 w7 [(p1,[(vi 0),(vi 0),(vi 0),(vu 0),ve,Sl.nil.v],25)]:=by rw [hw7];exact hb.drew
 refine qq 0 (vp r1) Kp0 (qg 1 ?_)
 obtain ⟨a4,hp4,h⟩:=h
 refine sxQ Kp1 (jF rfl) rfl (xn hp4) (qq 2 (vp (some a4)) Kp2 (qg 3 ?_))
 have ⟨h,hs⟩:=hs.hr (h w7)
 obtain ⟨v4,hv7,h⟩:=h
 refine sxQ Kp3 (jF rfl) rfl (xl (isAgg9 _) hv7) (qq 4 (vp r1) Kp4 (qg 5 ?_))
 obtain ⟨a5,hp5,h⟩:=h
 refine sxQ Kp5 (jF rfl) rfl (xn hp5) (qq 6 (vp (some (a5.add 1))) Kp6 (qg 7 ?_))
 obtain ⟨v5,hv6,h⟩:=h
 refine sxQ Kp7 (jF rfl) rfl (xl (isAgg3 _) hv6) (qg 8 ?_)
 obtain ⟨e1,hv5,h⟩:=h
 refine sxQ (v:=(.int .u8 e1)) Kp8 (jF rfl) rfl (zO (by kernel_rfl) (by kernel_rfl) hv5) (qq 9 (.int .u8 e1) Kp9 (wn (jM (jC (zW (fun ρ wJ=>∃HJ:NP,Hst w0 H1 w7 HJ wJ∧HB HJ wJ [(p1,[(vi 0),(vi 0),(vi 0),(vu 0),ve,Sl.nil.v],25)]∧Has ρ [(0,(vp r1)),(1,(vi deep1)),(4,(vp (some p1))),(5,(.int .u8 e1)),(6,(vb (((((((((e1 == 110) || (e1 == 35)) || (e1 == 107)) || (e1 == 34)) || (e1 == 40)) || (e1 == 104)) || (e1 == 115)) || (e1 == 112)) || (e1 == 102))))]) ?_ ?_)))))
 refine rg (qc (jN 3 (fun ρ wJ=>∃b10'0:Bool,∃HJ:NP,((e1 == 110)=b10'0)∧Hst w0 H1 w7 HJ wJ∧HB HJ wJ [(p1,[(vi 0),(vi 0),(vi 0),(vu 0),ve,Sl.nil.v],25)]∧Has ρ [(0,(vp r1)),(1,(vi deep1)),(4,(vp (some p1))),(5,(.int .u8 e1)),(43,(vb (b10'0 || (e1 == 35))))]) ?_ ?_))
 rintro ρ w17 ⟨b10'0,H11,he0,hs,hb,hH⟩
 subst he0
 refine jU hH (q (jN 3 (fun ρ wJ=>∃b11'0:Bool,∃HJ:NP,(((e1 == 110) || (e1 == 35))=b11'0)∧Hst w0 H1 w7 HJ wJ∧HB HJ wJ [(p1,[(vi 0),(vi 0),(vi 0),(vu 0),ve,Sl.nil.v],25)]∧Has ρ [(0,(vp r1)),(1,(vi deep1)),(4,(vp (some p1))),(5,(.int .u8 e1)),(47,(vb (b11'0 || (e1 == 107))))]) ?_ ?_))
 rintro ρ w18 ⟨b11'0,H12,he0,hs,hb,hH⟩
 subst he0
 refine jU hH (q (jN 3 (fun ρ wJ=>∃b12'0:Bool,∃HJ:NP,((((e1 == 110) || (e1 == 35)) || (e1 == 107))=b12'0)∧Hst w0 H1 w7 HJ wJ∧HB HJ wJ [(p1,[(vi 0),(vi 0),(vi 0),(vu 0),ve,Sl.nil.v],25)]∧Has ρ [(0,(vp r1)),(1,(vi deep1)),(4,(vp (some p1))),(5,(.int .u8 e1)),(51,(vb (b12'0 || (e1 == 34))))]) ?_ ?_))
 rintro ρ w19 ⟨b12'0,H13,he0,hs,hb,hH⟩
 subst he0
 refine jU hH (q (jN 3 (fun ρ wJ=>∃b13'0:Bool,∃HJ:NP,(((((e1 == 110) || (e1 == 35)) || (e1 == 107)) || (e1 == 34))=b13'0)∧Hst w0 H1 w7 HJ wJ∧HB HJ wJ [(p1,[(vi 0),(vi 0),(vi 0),(vu 0),ve,Sl.nil.v],25)]∧Has ρ [(0,(vp r1)),(1,(vi deep1)),(4,(vp (some p1))),(5,(.int .u8 e1)),(55,(vb (b13'0 || (e1 == 40))))]) ?_ ?_))
 rintro ρ w20 ⟨b13'0,H14,he0,hs,hb,hH⟩
 subst he0
 refine jU hH (q (jN 3 (fun ρ wJ=>∃b14'0:Bool,∃HJ:NP,((((((e1 == 110) || (e1 == 35)) || (e1 == 107)) || (e1 == 34)) || (e1 == 40))=b14'0)∧Hst w0 H1 w7 HJ wJ∧HB HJ wJ [(p1,[(vi 0),(vi 0),(vi 0),(vu 0),ve,Sl.nil.v],25)]∧Has ρ [(0,(vp r1)),(1,(vi deep1)),(4,(vp (some p1))),(5,(.int .u8 e1)),(59,(vb (b14'0 || (e1 == 104))))]) ?_ ?_))
 rintro ρ w21 ⟨b14'0,H15,he0,hs,hb,hH⟩
 subst he0
 refine jU hH (q (jN 3 (fun ρ wJ=>∃b15'0:Bool,∃HJ:NP,(((((((e1 == 110) || (e1 == 35)) || (e1 == 107)) || (e1 == 34)) || (e1 == 40)) || (e1 == 104))=b15'0)∧Hst w0 H1 w7 HJ wJ∧HB HJ wJ [(p1,[(vi 0),(vi 0),(vi 0),(vu 0),ve,Sl.nil.v],25)]∧Has ρ [(0,(vp r1)),(1,(vi deep1)),(4,(vp (some p1))),(5,(.int .u8 e1)),(63,(vb (b15'0 || (e1 == 115))))]) ?_ ?_))
 rintro ρ w22 ⟨b15'0,H16,he0,hs,hb,hH⟩
 subst he0
 refine jU hH (q (jN 3 (fun ρ wJ=>∃b16'0:Bool,∃HJ:NP,((((((((e1 == 110) || (e1 == 35)) || (e1 == 107)) || (e1 == 34)) || (e1 == 40)) || (e1 == 104)) || (e1 == 115))=b16'0)∧Hst w0 H1 w7 HJ wJ∧HB HJ wJ [(p1,[(vi 0),(vi 0),(vi 0),(vu 0),ve,Sl.nil.v],25)]∧Has ρ [(0,(vp r1)),(1,(vi deep1)),(4,(vp (some p1))),(5,(.int .u8 e1)),(67,(vb (b16'0 || (e1 == 112))))]) ?_ ?_))
 rintro ρ w23 ⟨b16'0,H17,he0,hs,hb,hH⟩
 subst he0
 refine jU hH (q (jN 3 (fun ρ wJ=>∃b17'0:Bool,∃HJ:NP,(((((((((e1 == 110) || (e1 == 35)) || (e1 == 107)) || (e1 == 34)) || (e1 == 40)) || (e1 == 104)) || (e1 == 115)) || (e1 == 112))=b17'0)∧Hst w0 H1 w7 HJ wJ∧HB HJ wJ [(p1,[(vi 0),(vi 0),(vi 0),(vu 0),ve,Sl.nil.v],25)]∧Has ρ [(0,(vp r1)),(1,(vi deep1)),(4,(vp (some p1))),(5,(.int .u8 e1)),(71,(vb (b17'0 || (e1 == 102))))]) ?_ ?_))
 rintro ρ w24 ⟨b17'0,H18,he0,hs,hb,hH⟩
 subst he0
 refine jU hH (q (ln ⟨_,hs,hb,hm⟩))
 rcases bte ((((((((e1 == 110) || (e1 == 35)) || (e1 == 107)) || (e1 == 34)) || (e1 == 40)) || (e1 == 104)) || (e1 == 115)) || (e1 == 112)) with hg32 | hg32
 refine sj2 68 hg32 (q2 (vb true) (xT hg32) (jB ⟨true,_,hg32,hs,hb,hm⟩))
 refine qk 68 hg32 (qk 68 hg32 (q2 (vb (e1 == 102)) (xF hg32) (jB ⟨false,_,hg32,hs,hb,hm⟩)))
 rcases bte (((((((e1 == 110) || (e1 == 35)) || (e1 == 107)) || (e1 == 34)) || (e1 == 40)) || (e1 == 104)) || (e1 == 115)) with hg30 | hg30
 refine sj2 64 hg30 (q2 (vb true) (xT hg30) (jB ⟨true,_,hg30,hs,hb,hm⟩))
 refine qk 64 hg30 (qk 64 hg30 (q2 (vb (e1 == 112)) (xF hg30) (jB ⟨false,_,hg30,hs,hb,hm⟩)))
 rcases bte ((((((e1 == 110) || (e1 == 35)) || (e1 == 107)) || (e1 == 34)) || (e1 == 40)) || (e1 == 104)) with hg28 | hg28
 refine sj2 60 hg28 (q2 (vb true) (xT hg28) (jB ⟨true,_,hg28,hs,hb,hm⟩))
 refine qk 60 hg28 (qk 60 hg28 (q2 (vb (e1 == 115)) (xF hg28) (jB ⟨false,_,hg28,hs,hb,hm⟩)))
 rcases bte (((((e1 == 110) || (e1 == 35)) || (e1 == 107)) || (e1 == 34)) || (e1 == 40)) with hg26 | hg26
 refine sj2 56 hg26 (q2 (vb true) (xT hg26) (jB ⟨true,_,hg26,hs,hb,hm⟩))
 refine qk 56 hg26 (qk 56 hg26 (q2 (vb (e1 == 104)) (xF hg26) (jB ⟨false,_,hg26,hs,hb,hm⟩)))
 rcases bte ((((e1 == 110) || (e1 == 35)) || (e1 == 107)) || (e1 == 34)) with hg24 | hg24
 refine sj2 52 hg24 (q2 (vb true) (xT hg24) (jB ⟨true,_,hg24,hs,hb,hm⟩))
 refine qk 52 hg24 (qk 52 hg24 (q2 (vb (e1 == 40)) (xF hg24) (jB ⟨false,_,hg24,hs,hb,hm⟩)))
 rcases bte (((e1 == 110) || (e1 == 35)) || (e1 == 107)) with hg22 | hg22
 refine sj2 48 hg22 (q2 (vb true) (xT hg22) (jB ⟨true,_,hg22,hs,hb,hm⟩))
 refine qk 48 hg22 (qk 48 hg22 (q2 (vb (e1 == 34)) (xF hg22) (jB ⟨false,_,hg22,hs,hb,hm⟩)))
 rcases bte ((e1 == 110) || (e1 == 35)) with hg20 | hg20
 refine sj2 44 hg20 (q2 (vb true) (xT hg20) (jB ⟨true,_,hg20,hs,hb,hm⟩))
 refine qk 44 hg20 (qk 44 hg20 (q2 (vb (e1 == 107)) (xF hg20) (jB ⟨false,_,hg20,hs,hb,hm⟩)))
 rcases bte (e1 == 110) with hg18 | hg18
 refine sj2 40 hg18 (q2 (vb true) (xT hg18) (jB ⟨true,_,hg18,hs,hb,hm⟩))
 refine qk 40 hg18 (qk 40 hg18 (q2 (vb (e1 == 35)) (xF hg18) (jB ⟨false,_,hg18,hs,hb,hm⟩)))
 rintro ρ w16 ⟨H10,hs,hb,hH⟩
 refine zL hH (jM (jC (eg (qb (ln (cbr h ?_ ?_))))))<;>intro h
 refine eg (q ?_)
 have ⟨h,hs⟩:=hs.hr (h H10 w16)
 refine sc call43 (h.mono fun e w25 ⟨k,hk,h⟩=>have ⟨hs,hb⟩:=hk.hh hs hb;⟨_,k,?_⟩)
 refine ln (eg (q (zE (jF rfl) (xo p1 [(vi 0),(vi 0),(vi 0),(vu 0),ve,Sl.nil.v] (sizeOf25 _) (hb.k0 0 6 gZ)) ?_)))
 intro w26 hn4
 obtain ⟨hs,hb⟩:=hb.st1 0 hs hn4 gZ
 refine ln (er (kB ?_))
 have ⟨h,hs⟩:=hs.hr (h w26)
 refine yW (.inl rfl) (vs:=[(.agg #[(vi 0),(vi 0),(vi 0),(vu 0),ve,Sl.nil.v])]) (v:=(.agg #[(vi 0),(vi 0),(vi 0),(vu 0),ve,Sl.nil.v])) results25 ⟨(rva (isAgg25 _) (sizeOf25 _) (hb.r0 0 6 gZ)),trivial⟩ (by kernel_rfl) ⟨0,0,0,0,⟨#[]⟩,Sl.nil,rfl,h⟩
 refine jG (jM (jC (jC (zJ (fun ρ w=>∃x1,∃H:NP,Has ρ [(0,(vp r1)),(1,(vi deep1)),(4,(vp (some p1))),(5,(.int .u8 e1)),(85,(vb x1))]∧Hst w0 H w H w∧HB H w [(p1,[(vi 0),(vi 0),(vi 0),(vu 0),ve,Sl.nil.v],25)]∧m_T_j1 r1 deep1 e1 x1 w0 H w K) ?_ ?_))))
 rintro ρ w ⟨x1,H,hH,hs,hb,h⟩
 refine jZ hH (cbr h ?_ ?_)<;>intro h
 refine eg (qb (qm h fun a6 h=>q (ql (isAgg3 _) h fun v6 h=>sc call26 (h.mono fun e w27 ⟨k,hk,h⟩=>have ⟨hs,hb⟩:=hk.hh hs hb;⟨_,k,?_⟩))))
 refine ln (eg (q (zE (jF rfl) (xo p1 [(vi 0),(vi 0),(vi 0),(vu 0),ve,Sl.nil.v] (sizeOf25 _) (hb.k0 0 6 gZ)) ?_)))
 intro w28 hn5
 obtain ⟨hs,hb⟩:=hb.st1 0 hs hn5 gZ
 refine ln (er (kB ?_))
 have ⟨h,hs⟩:=hs.hr (h w28)
 refine yW (.inl rfl) (vs:=[(.agg #[(vi 0),(vi 0),(vi 0),(vu 0),ve,Sl.nil.v])]) (v:=(.agg #[(vi 0),(vi 0),(vi 0),(vu 0),ve,Sl.nil.v])) results25 ⟨(rva (isAgg25 _) (sizeOf25 _) (hb.r0 0 6 gZ)),trivial⟩ (by kernel_rfl) ⟨0,0,0,0,⟨#[]⟩,Sl.nil,rfl,h⟩
 refine jG (jM (eg (q (qm h fun a7 h=>q (ql (isAgg3 _) h fun v7 h=>q (qm h fun a8 h=>q (st2 (sizeOf3 _) hs hb h fun w29 hs hb h=>ln (eg (q (qm h fun a9 h=>q (ql (isAgg3 _) h fun v8 h=>q (qm h fun a10 h=>q (st2 (sizeOf3 _) hs hb h fun w30 hs hb h=>ln (eg (qc (sc call44 (h.mono fun e w31 ⟨aA,aB,aC,aD,aE,aF,k,hk,h⟩=>have ⟨hs,hb⟩:=hk.hh hs hb;⟨_,k,?_⟩)))))))))))))))))
 refine nw3 [(vi 0),(vi 0),(vi 0),(vu 0),ve,Sl.nil.v] 25 hs hb (jV (zeroValue25 _) rfl) fun p2 w32 H19 hs hb=>sbx 0 (Aa aA aB aC aD aE aF) (sizeOf25 _) hs hb gZ fun w33 hs hb=>ln (eg (q ?_))
 have ⟨h,hs⟩:=hs.hr (h H19 w33)
 refine sc call42 (h.mono fun e w34 ⟨k,hk,h⟩=>have ⟨hs,hb⟩:=hk.hh hs hb;⟨_,k,?_⟩)
 refine ln (eg (q2 (Ab aA aB aC aD aE aF) (xa p2 (Aa aA aB aC aD aE aF) (isAgg25 _) (sizeOf25 _) (hb.r0 0 6 gZ)) (zE (jF rfl) (xo p1 (Aa aA aB aC aD aE aF) (sizeOf25 _) (hb.k0 1 6 (gS gZ))) ?_)))
 intro w35 hn10
 obtain ⟨hs,hb⟩:=hb.st1 1 hs hn10 (gS gZ)
 refine ln (er ?_)
 have ⟨h,hs⟩:=hs.hr (h w35)
 refine yW (.inl rfl) (vs:=[(Ab aA aB aC aD aE aF)]) (v:=(Ab aA aB aC aD aE aF)) results25 ⟨(rva (isAgg25 _) (sizeOf25 _) (hb.r0 1 6 (gS gZ))),trivial⟩ (by kernel_rfl) ⟨aA,aB,aC,aD,aE,aF,rfl,h⟩
 refine rg (q (qm h fun a11 h=>q ?_))
 have ⟨h,hs⟩:=hs.hr (h H10 w16)
 refine ql (isAgg3 _) h fun v9 h=>qb (jN 3 (fun ρ wJ=>∃b18'0:Bool,∃HJ:NP,((decide (v9≥4096))=b18'0)∧Hst w0 H10 w16 HJ wJ∧HB HJ wJ [(p1,[(vi 0),(vi 0),(vi 0),(vu 0),ve,Sl.nil.v],25)]∧Has ρ [(0,(vp r1)),(1,(vi deep1)),(4,(vp (some p1))),(5,(.int .u8 e1)),(85,(vb (b18'0 || (decide (deep1≥64)))))]) ?_ ?_)
 rintro ρ w36 ⟨b18'0,H20,he0,hs,hb,hH⟩
 subst he0
 refine jU hH (jB ?_)
 have ⟨h,hs⟩:=hs.hr (h H20 w36)
 refine jM ⟨((decide (v9≥4096)) || (decide (deep1≥64))),H20,hm,hs,hb,h⟩
 rcases bte (decide (v9≥4096)) with hg34 | hg34
 refine sj2 82 hg34 (q2 (vb true) (xT hg34) (jB ⟨true,_,hg34,hs,hb,hm⟩))
 refine qk 82 hg34 (qk 82 hg34 (q2 (vb (decide (deep1≥64))) (xF hg34) (jB ⟨false,_,hg34,hs,hb,hm⟩)))
def m_J_j2 (p1 p2:Addr) (aA aB:Int) (aC aD:Int) (aE:ByteArray) (aF:Sl) (H:NP) (w:World) (K:Int→Int→Int→Int→ByteArray→Sl→Int→Int→WP):Prop :=∃v1,w.cell? (p2.add 3)=some (vi v1)∧Br (v1 != 0) (∃C1:WP,C1 w.drew∧∀w7,w7=w.drew→∃v2,(∀w',C1 w'→w'.cell? (p2.add 3)=some (vi v2))∧∃v3,(∀w',C1 w'→w'.cell? (p2.add 4)=some (vi v3))∧(∀j,j<6→kD w7 (p1.add j))∧¬ H p1.block∧∀w8,w8=storeRow w7 p1 [(vi 0),(vi 0),(vi 0),(vu 0),ve,Sl.nil.v]→C1 w8∧∃bJ bK bL bM bN bO,Row w8 p1 (Aa bJ bK bL bM bN bO)∧K bJ bK bL bM bN bO v2 v3 w8) ((∀j,j<6→kD w (p1.add j))∧¬ H p1.block∧∀w9,w9=storeRow w p1 (Aa aA aB aC aD aE aF)→∃bP bQ bR bS bT bU,Row w9 p1 (Aa bP bQ bR bS bT bU)∧K bP bQ bR bS bT bU 0 0 w9)
def m_J_j1 (p1 p2:Addr) (aA aB:Int) (aC aD:Int) (aE:ByteArray) (aF:Sl) (x1:Bool) (H:NP) (w:World) (K:Int→Int→Int→Int→ByteArray→Sl→Int→Int→WP):Prop :=Br x1 (∃v4,w.cell? (p2.add 1)=some (vi v4)∧Calls prog 26 #[(vp (some p2)),(vi 4),(vi v4)] w (fun e w10=>e=.returned (.tuple #[])∧Kept H w w10∧m_J_j2 p1 p2 aA aB aC aD aE aF H w10 K)) (m_J_j2 p1 p2 aA aB aC aD aE aF H w K)
def m_J (text1:ByteArray) (w0:World) (K:Int→Int→Int→Int→ByteArray→Sl→Int→Int→WP):Prop :=∀p1 w1,New w0 (.cells #[(vi 0),(vi 0),(vi 0),(vu 0),ve,Sl.nil.v] 25) p1 w1→Br (decide ((text1.size:Int)>1048576)) ((∀j,j<6→kD w1 (p1.add j))∧¬ None p1.block∧∀w2,w2=storeRow w1 p1 [(vi 0),(vi 0),(vi 0),(vu 0),ve,Sl.nil.v]→∃bV bW bX bY bZ cA,Row w2 p1 (Aa bV bW bX bY bZ cA)∧K bV bW bX bY bZ cA 1 0 w2) (∀p2 w3,New w1 (.cells #[(vs text1),(vi 0),(vi 0),(vi 0),(vi 0)] 61) p2 w3→Calls prog 25 #[(vp (some p2)),(vi 0)] w3 (fun e w4=>∃aA aB aC aD aE aF,e=.returned (Ab aA aB aC aD aE aF)∧Kept None w3 w4∧∀H1 w6,Hst w0 None w4 H1 w6→∃v5,w6.cell? (p2.add 3)=some (vi v5)∧Br (v5 == 0) (∃v6,w6.cell? (p2.add 1)=some (vi v6)∧m_J_j1 p1 p2 aA aB aC aD aE aF (decide (v6<(text1.size:Int))) H1 w6 K) (m_J_j1 p1 p2 aA aB aC aD aE aF false H1 w6 K)))
theorem w_J (text1 w0 K) (h:m_J text1 w0 K):
  Calls prog 13 #[(vs text1)] w0 (fun e w'=>∃aG aH aI aJ aK aL r1 r2,e=.returned (.tuple #[(Ab aG aH aI aJ aK aL),(vi r1),(vi r2)])∧K aG aH aI aJ aK aL r1 r2 w'):=by
 refine cw (args:=[(vs text1)]) func13 ntmps13 ?_
 obtain ⟨hs,hb⟩:=st0 w0
 refine eg (nw2 hs hb h (jV (zeroValue25 _) rfl) fun p1 w1 hs hb h=>qb (ln (jC (eg (qc (ln (cbr h ?_ ?_)))))))<;>intro h
 refine eg (q ?_)
 obtain ⟨hp1,hnh,h⟩:=h
 refine ss (xo p1 [(vi 0),(vi 0),(vi 0),(vu 0),ve,Sl.nil.v] (sizeOf25 _) hp1) ?_
 intro w2 hn1
 have h:=h w2 hn1
 have hk:Kept None w1 w2:=by rw [hn1];exact Kept.storeRow hnh
 obtain ⟨hs,hb⟩:=hk.hh hs hb
 refine qb (ln (er (kB ?_)))
 obtain ⟨bV,bW,bX,bY,bZ,cA,hv1,h⟩:=h
 refine yW (.inl rfl) (vs:=[(Ab bV bW bX bY bZ cA),(vi 1),(vi 0)]) (v:=(.tuple #[(Ab bV bW bX bY bZ cA),(vi 1),(vi 0)])) results13 ⟨(rva (isAgg25 _) (sizeOf25 _) hv1),(rvT (by kernel_rfl)),(rvT (by kernel_rfl)),trivial⟩ (by kernel_rfl) ⟨bV,bW,bX,bY,bZ,cA,1,0,rfl,h⟩
 refine jG (jM (eg (qb (nw2 hs hb h xb fun p2 w3 hs hb h=>q (ln (eg (q (sc call25 (h.mono fun e w4 ⟨aA,aB,aC,aD,aE,aF,k,hk,h⟩=>have ⟨hs,hb⟩:=hk.hh hs hb;⟨_,k,?_⟩)))))))))
 refine nw3 [(vi 0),(vi 0),(vi 0),(vu 0),ve,Sl.nil.v] 25 hs hb (jV (zeroValue25 _) rfl) fun p3 w5 H1 hs hb=>sbx 0 (Aa aA aB aC aD aE aF) (sizeOf25 _) hs hb gZ fun w6 hs hb=>ln (jC (jC (zJ (fun ρ w=>∃x1,∃H:NP,Has ρ [(2,(vp (some p1))),(5,(vp (some p2))),(6,(vp (some p3))),(29,(vb x1))]∧Hst w0 H w H w∧HB H w [(p3,(Aa aA aB aC aD aE aF),25)]∧m_J_j1 p1 p2 aA aB aC aD aE aF x1 H w K) ?_ ?_)))
 rintro ρ w ⟨x1,H,hH,hs,hb,h⟩
 refine jZ hH (zJ (fun ρ w=>∃H:NP,Has ρ [(2,(vp (some p1))),(5,(vp (some p2))),(6,(vp (some p3)))]∧Hst w0 H w H w∧HB H w [(p3,(Aa aA aB aC aD aE aF),25)]∧m_J_j2 p1 p2 aA aB aC aD aE aF H w K) ?_ ?_)
 rintro ρ w ⟨H,hH,hs,hb,h⟩
 refine jZ hH (jC (eg (qc (ql (isAgg3 _) h fun v1 h=>q (ln (cbr h ?_ ?_))))))<;>intro h
 refine jC ?_
 obtain ⟨C1,hC,h⟩:=h
 refine dr2 (fun x=>C1 x∧HB H x _) [9] [] ⟨hC,hb.drew⟩ h hs hb fun w7 hs hb h=>?_
 have hs:=hs.here
 refine qx 0 (.agg #[(vi 0),(vi 0),(vi 0),(vu 0),ve,Sl.nil.v]) Kp0 (qx 1 (vp (some p2)) Kp1 (qx 2 (vp (some p2)) Kp2 (qx 3 (vp (some (p2.add 3))) Kp3 (qg 4 ?_))))
 obtain ⟨v2,hv4,h⟩:=h
 refine sy Kp4 (fun _ k=>xl (isAgg3 _) (hv4 _ k.1)) (qx 5 (vp (some p2)) Kp5 (qx 6 (vp (some p2)) Kp6 (qx 7 (vp (some (p2.add 4))) Kp7 (qg 8 ?_))))
 obtain ⟨v3,hv3,h⟩:=h
 refine sy Kp8 (fun _ k=>xl (isAgg3 _) (hv3 _ k.1)) (lg 9 ?_)
 obtain ⟨hp2,hnh,h⟩:=h
 refine oA Kp9 (jF rfl) (by kernel_rfl) (xo p1 [(vi 0),(vi 0),(vi 0),(vu 0),ve,Sl.nil.v] (sizeOf25 _) hp2) ?_
 intro w8 hn4
 have h:=h w8 hn4
 refine ⟨.inr ⟨h.1,hb.kept (by rw [hn4];exact Kept.storeRow hnh)⟩,?_⟩
 have h:=h.2
 have hk:Kept H w7 w8:=by rw [hn4];exact Kept.storeRow hnh
 obtain ⟨hs,hb⟩:=hk.hh hs hb
 refine qx 10 (vi v2) (jE (S8 (jA (jA jD)))) (qx 11 (vi v3) (jE (S8 (jA (jA (jA jD))))) (wn (jM (er (kB ?_)))))
 obtain ⟨bJ,bK,bL,bM,bN,bO,hv2,h⟩:=h
 refine yW (.inl rfl) (vs:=[(Ab bJ bK bL bM bN bO),(vi v2),(vi v3)]) (v:=(.tuple #[(Ab bJ bK bL bM bN bO),(vi v2),(vi v3)])) results13 ⟨(rva (isAgg25 _) (sizeOf25 _) hv2),(rvT (by kernel_rfl)),(rvT (by kernel_rfl)),trivial⟩ (by kernel_rfl) ⟨bJ,bK,bL,bM,bN,bO,v2,v3,rfl,h⟩
 refine jG (jM (eg (q2 (Ab aA aB aC aD aE aF) (xa p3 (Aa aA aB aC aD aE aF) (isAgg25 _) (sizeOf25 _) (hb.r0 0 6 gZ)) ?_)))
 obtain ⟨hp3,hnh,h⟩:=h
 refine ss (xo p1 (Aa aA aB aC aD aE aF) (sizeOf25 _) hp3) ?_
 intro w9 hn5
 have h:=h w9 hn5
 have hk:Kept H w w9:=by rw [hn5];exact Kept.storeRow hnh
 obtain ⟨hs,hb⟩:=hk.hh hs hb
 refine qb (ln (er ?_))
 obtain ⟨bP,bQ,bR,bS,bT,bU,hv5,h⟩:=h
 refine yW (.inl rfl) (vs:=[(Ab bP bQ bR bS bT bU),(vi 0),(vi 0)]) (v:=(.tuple #[(Ab bP bQ bR bS bT bU),(vi 0),(vi 0)])) results13 ⟨(rva (isAgg25 _) (sizeOf25 _) hv5),(rvT (by kernel_rfl)),(rvT (by kernel_rfl)),trivial⟩ (by kernel_rfl) ⟨bP,bQ,bR,bS,bT,bU,0,0,rfl,h⟩
 refine cbr h ?_ ?_<;>intro h
 refine rg (qd (ql (isAgg3 _) h fun v4 h=>sc call26 (h.mono fun e w10 ⟨k,hk,h⟩=>have ⟨hs,hb⟩:=hk.hh hs hb;⟨_,k,?_⟩)))
 refine ln ⟨H,hm,hs,hb,h⟩
 refine jG (jM ⟨H,hm,hs,hb,h⟩)
 refine rg (qc ?_)
 have ⟨h,hs⟩:=hs.hr (h H1 w6)
 refine ql (isAgg3 _) h fun v5 h=>qb ?_
 obtain ⟨hg1,h⟩|⟨hg1,h⟩:=h.br
 refine qk 21 hg1 (qk 21 hg1 (qk 21 hg1 ?_))
 obtain ⟨v6,hv8,h⟩:=h
 refine q4 21 hg1 (xl (isAgg3 _) hv8) (qk 21 hg1 (qk 21 hg1 (qk 21 hg1 (q2 (vb (decide (v6<(text1.size:Int)))) (xT hg1) (ln ⟨(decide (v6<(text1.size:Int))),H1,hm,hs,hb,h⟩)))))
 refine sj2 21 hg1 (sj5 21 hg1 (q2 (vb false) (xF hg1) (ln ⟨false,H1,hm,hs,hb,h⟩)))
end Go.Proofs
end
section
open Go Go.SE
namespace Go.Proofs
attribute [local irreducible] Calls
end Go.Proofs
end
section
open Go Go.SE
namespace Go.Proofs
open Tryd
attribute [local irreducible] Calls
abbrev Rdr (w:World) (a:Addr) (x:ByteArray) (i n:Nat) (e k:Int):Prop:=Box w a [.string x,.int .i64 (i:Int),.int .i64 (n:Int),.int .i64 e,.int .i64 k] 61
def RSt (w:World) (a:Addr) (x:ByteArray):(Sp.Rr Nat)→Prop
 | .ok n i=>Rdr w a x i n 0 0∧i≤(bts x).length∧n≤4096
 | .no er k=>er≠0∧∃i n:Nat,i≤(bts x).length∧Rdr w a x i n er (k:Int)
section
variable {w w':World} {a:Addr} {x:ByteArray} {i n:Nat} {e k:Int} {q:Sp.Rr Nat}
theorem zD (h:Rdr w a x i n e k):w.cell? (a.add 1)=some (.int .i64 (i:Int)):=h.cell (i:=1) rfl
theorem rdr_n (h:Rdr w a x i n e k):w.cell? (a.add 2)=some (.int .i64 (n:Int)):=h.cell (i:=2) rfl
theorem vA (h:Rdr w a x i n e k):w.cell? (a.add 3)=some (.int .i64 e):=h.cell (i:=3) rfl
theorem rdr_k (h:Rdr w a x i n e k):w.cell? (a.add 4)=some (.int .i64 k):=h.cell (i:=4) rfl
theorem kM (h:Rdr w a x i n e k) (j:Nat):Rdr (w.setCell (a.add 1) (.int .i64 (j:Int))) a x j n e k:=h.set 1 _
theorem jEA (h:Rdr w a x i n e k) (m:Nat):Rdr (w.setCell (a.add 2) (.int .i64 (m:Int))) a x i m e k:=h.set 2 _
theorem RSt.ext {F:NP} (h:RSt w a x q) (E:Ext F w w') (hf:¬ F a.block):RSt w' a x q:=by
 cases q with
 | ok n i=>exact ⟨h.1.ext E hf,h.2⟩
 | no er k=>obtain ⟨h0,i,n,hi,h⟩:=h;exact ⟨h0,i,n,hi,h.ext E hf⟩
theorem RSt.pure (h:RSt w a x q) (E:Pure w w'):RSt w' a x q:=h.ext E id
theorem RSt.lt (h:RSt w a x q):a.block<w.heap.size:=by
 cases q with
 | ok n i=>exact h.1.lt
 | no er k=>obtain ⟨_,_,_,_,h⟩:=h;exact h.lt
end
structure DS (w0 w:World) (H:NP) (a:Addr) (x:ByteArray) (q:Sp.Rr Nat):Prop where
 st:RSt w a x q
 ext:Ext (·=a.block) w0 w
 la:a.block<w0.heap.size
 oH:∀b,H b→w0.heap.size≤b∧b<w.heap.size
 few:(bts x).length≤10000000
section
variable {w0 w w':World} {H H':NP} {a:Addr} {x:ByteArray} {q q':Sp.Rr Nat}
theorem DS.start (h:RSt w0 a x q) (hc:(bts x).length≤10000000):DS w0 w0 None a x q:=⟨h,Ext.refl _,h.lt,fun b hb=>hb.elim,hc⟩
theorem DS.nH (h:DS w0 w H a x q):¬ H a.block:=fun hh=>by have:=(h.oH _ hh).1;have:=h.la;omega
theorem DS.hst (h:DS w0 w H a x q) (hs:Hst w0 H w H' w'):DS w0 w' H' a x q :=
 ⟨h.st.ext hs.ext (fun hh=>by have:=hs.here.old _ hh;have:=h.la;omega),h.ext.trans' hs.ext (fun b hb hh=>by have:=hs.here.old b hh;omega),h.la,fun b hb=>⟨hs.here.old b hb,hs.here.lt b hb⟩,h.few⟩
theorem DS.to (h:DS w0 w H a x q) (hr:RSt w' a x q') (E:Ext (·=a.block) w w'):Kept H w w'∧DS w0 w' H a x q' :=
 ⟨E.kept (fun b hb e=>h.nH (e▸hb)),hr,h.ext.trans E,h.la,fun b hb=>⟨(h.oH b hb).1,by have:=(h.oH b hb).2;have:=E.size;omega⟩,h.few⟩
end
theorem vB (a:Addr) (x:ByteArray) (e:Int) (k:Nat) (he:e≠0) (q:Sp.Rr Nat) (w0:World) (h:RSt w0 a x q) :
  Calls prog 26 #[.pointer (some a),.int .i64 e,.int .i64 (k:Int)] w0 (fun r w'=>r=.returned (.tuple #[])∧(RSt w' a x (q.bind fun _ _=>.no e k)∧Ext (·=a.block) w0 w')):=by
 refine w_S1 (some a) e k w0 (fun w'=>RSt w' a x (q.bind fun _ _=>.no e k)∧Ext (·=a.block) w0 w') ?_
 unfold m_S1
 cases q with
 | ok n i =>
  obtain ⟨h1,h2,h3⟩:=h
  refine ⟨a,rfl,_,vA h1,Br.t rfl ⟨a,rfl,h1.canW (i:=3) (by simp),?_⟩⟩
  rintro w1 rfl
  have B1:Rdr (w0.setCell (a.add 3) (.int .i64 e)) a x i n e 0:=h1.set 3 _
  refine ⟨a,rfl,B1.canW (i:=4) (by simp),?_⟩
  rintro w2 rfl
  exact ⟨⟨he,i,n,h2,B1.set 4 _⟩,kP.trans kP⟩
 | no er m =>
  obtain ⟨h0,i,n,hi,h1⟩:=h
  exact ⟨a,rfl,_,vA h1,Br.f (by simpa using h0) ⟨⟨h0,i,n,hi,h1⟩,Ext.refl _⟩⟩
theorem yJ (a:Addr) (x:ByteArray) (i n:Nat) (w0:World) (h:RSt w0 a x (.ok n i)) :
  Calls prog 43 #[.pointer (some a)] w0 (fun r w'=>r=.returned (.tuple #[])∧(RSt w' a x (.no (if i=(bts x).length then 3 else 60) i)∧Ext (·=a.block) w0 w')):=by
 refine w_T1 (some a) w0 (fun w'=>RSt w' a x (.no (if i=(bts x).length then 3 else 60) i)∧Ext (·=a.block) w0 w') ?_
 unfold m_T1
 have hl:=kO x
 obtain ⟨h1,h2,h3⟩:=h
 refine ⟨a,rfl,fun w1 hs1=>?_⟩
 have E1:=hs1.first
 have r1:=h1.pure E1
 refine ⟨_,zD r1,a,rfl,_,r1.cell0,fun hc=>⟨a,rfl,_,r1.cell0,?_⟩,fun hc=>⟨a,rfl,_,zD r1,?_⟩⟩
 ·have hi:i=(bts x).length:=by have:=of_decide_eq_true hc;omega
  rw [if_pos hi,show (x.size:Int)=((i:Nat):Int) by omega]
  refine (vB a x 3 i (by decide) (.ok n i) w1 ⟨r1,h2,h3⟩).mono ?_
  rintro _ w2 ⟨rfl,h5,E⟩
  exact ⟨rfl,E.kept (fun b hb=>hb.elim),h5,E1.pure.trans E⟩
 ·have hi:i≠(bts x).length:=by have:=of_decide_eq_false hc;omega
  rw [if_neg hi]
  refine (vB a x 60 i (by decide) (.ok n i) w1 ⟨r1,h2,h3⟩).mono ?_
  rintro _ w2 ⟨rfl,h5,E⟩
  exact ⟨rfl,E.kept (fun b hb=>hb.elim),h5,E1.pure.trans E⟩
theorem xO (a:Addr) (x:ByteArray) (i n:Nat) (er k:Int) (w0:World) (h:Rdr w0 a x i n er k) (hi:i≤(bts x).length) (hc:(bts x).length≤10000000) :
  Calls prog 42 #[.pointer (some a)] w0 (fun e w'=>e=.returned (.tuple #[])∧Rdr w' a x (Sp.jQ (bts x) i) n er k∧Ext (·=a.block) w0 w'):=by
 refine w_X (some a) w0 (fun w'=>Rdr w' a x (Sp.jQ (bts x) i) n er k∧Ext (·=a.block) w0 w') ?_
 unfold m_X
 have hl:=kO x
 have hbb:=Sp.kH hi
 refine ⟨fun _ w=>∃j:Nat,i≤j∧j≤(bts x).length∧Sp.jQ (bts x) j=Sp.jQ (bts x) i∧Rdr w a x j n er k∧Ext (·=a.block) w0 w,fun w=>match w.cell? (a.add 1) with | some (.int _ k)=>((bts x).length - k.toNat) | _=>0,⟨i,Nat.le_refl _,hi,rfl,h,Ext.refl _⟩,?_⟩
 rintro Hl wl hsl ⟨j,hij,hj,he,hR,hE⟩
 unfold m_X_l1
 refine ⟨a,rfl,fun w1 hs1=>?_⟩
 have hna:¬ Hl a.block:=fun hb=>by have:=hsl.old _ hb;have:=h.lt;omega
 have hR1:=hR.ext hs1.ext hna
 have hE1:=hE.trans' hs1.ext (fun b hb hh=>by have:=hsl.old _ hh;omega)
 have done:Sp.jQ (bts x) j=j→Rdr w1 a x (Sp.jQ (bts x) i) n er k∧Ext (·=a.block) w0 w1:=fun e=>by
  rw [← he,e];exact ⟨hR1,hE1⟩
 refine ⟨_,zD hR1,a,rfl,x,hR1.cell0,fun hc=>?_,fun hc=>done (Sp.qB (by have:=of_decide_eq_false hc;omega))⟩
 have hlt:j<(bts x).length:=by have:=of_decide_eq_true hc;omega
 refine ⟨a,rfl,x,hR1.cell0,a,rfl,_,zD hR1,_,qP x j hlt w1,fun hb=>?_,fun hb=>done (Sp.uG hlt (by have:=beq_eq_false_iff_ne.1 hb;omega))⟩
 have hb:(bts x)[j].toNat=32:=by have:=beq_iff_eq.1 hb;omega
 refine ⟨a,rfl,_,zD hR1,a,rfl,hR1.canW (i:=1) (by simp),?_,?_⟩
 ·exact hna
 ·rintro w2 rfl
  rw [zV (show j≤(bts x).length by omega) (by omega)]
  refine ⟨⟨j+1,by omega,hlt,by rw [← he,Sp.uH hlt hb],kM hR1 (j+1),hE1.trans kP⟩,?_⟩
  show (match (w1.setCell (a.add 1) (.int .i64 ((j+1:Nat):Int))).cell? (a.add 1) with | some (.int _ k)=>((bts x).length - k.toNat) | _=>0)<(match wl.cell? (a.add 1) with | some (.int _ k)=>((bts x).length - k.toNat) | _=>0)
  rw [zD (kM hR1 (j+1)),zD hR]
  simp only
  omega
section
variable (a:Addr) (x:ByteArray) (q:Sp.Rr Nat) (w0:World) (h:RSt w0 a x q) (hc:(bts x).length≤10000000)
include h hc
theorem tA:Calls prog 42 #[.pointer (some a)] w0 (fun e w'=>e=.returned (.tuple #[])∧RSt w' a x (q.bind fun n i=>.ok n (Sp.jQ (bts x) i))∧Ext (·=a.block) w0 w'):=by
 cases q with
 | ok n i =>
  refine (xO a x i n 0 0 w0 h.1 h.2.1 hc).mono ?_
  rintro _ w' ⟨rfl,h1,E⟩
  exact ⟨rfl,⟨h1,(Sp.kH h.2.1).2,h.2.2⟩,E⟩
 | no er k =>
  obtain ⟨h0,i,n,hi,h⟩:=h
  refine (xO a x i n er k w0 h hi hc).mono ?_
  rintro _ w' ⟨rfl,h1,E⟩
  exact ⟨rfl,⟨h0,_,_,(Sp.kH hi).2,h1⟩,E⟩
theorem uW (c:Nat):Calls prog 59 #[.pointer (some a),.int .u8 (c:Int)] w0 (fun e w'=>e=.returned (.tuple #[])∧(RSt w' a x (q.bind fun n i=>(Sp.zU (bts x) c i).bind fun _ j=>.ok n j)∧Ext (·=a.block) w0 w')):=by
 refine w_L (some a) c w0 (fun w'=>RSt w' a x (q.bind fun n i=>(Sp.zU (bts x) c i).bind fun _ j=>.ok n j)∧Ext (·=a.block) w0 w') ?_;unfold m_L;have hl:=kO x;cases q with
 | no er k =>
  obtain ⟨h0,i,n,hi,h1⟩:=h
  exact ⟨a,rfl,_,vA h1,Br.t (by simpa using h0) ⟨⟨h0,i,n,hi,h1⟩,Ext.refl _⟩⟩
 | ok n i =>
  obtain ⟨h1,h2,h3⟩:=h
  refine ⟨a,rfl,_,vA h1,Br.f rfl ⟨a,rfl,fun w3 hs3=>?_⟩⟩
  have E3:=hs3.first
  have r3:=h1.pure E3
  have word:∀{R:Sp.Rr Unit},R=.no (if i=(bts x).length then 3 else 60) i→m_L_j1 (some a) false None w3 (fun w'=>RSt w' a x (R.bind fun _ j=>.ok n j)∧Ext (·=a.block) w0 w'):=fun e=>by
   subst e;unfold m_L_j1;refine Br.f rfl ?_;refine (yJ a x i n w3 ⟨r3,h2,h3⟩).mono ?_;rintro _ w4 ⟨rfl,h4,E4⟩;exact ⟨rfl,E4.kept (fun b hb=>hb.elim),h4,E3.pure.trans E4⟩
  refine ⟨_,zD r3,a,rfl,_,r3.cell0,fun hlt=>?_,fun hlt=>word ?_⟩
  ·have hlt:i<(bts x).length:=by have:=of_decide_eq_true hlt;omega
   refine ⟨a,rfl,_,r3.cell0,a,rfl,_,zD r3,_,qP x i hlt w3,?_⟩
   have hg:=List.getElem?_eq_getElem hlt
   by_cases hcc:(bts x)[i].toNat=c
   ·have hb:(((bts x)[i].toNat:Int) == (c:Int))=true:=by rw [hcc];simp
    rw [hb]
    unfold m_L_j1
    refine Br.t rfl ⟨a,rfl,_,zD r3,a,rfl,r3.canW (i:=1) (by simp),fun hh=>hh.elim,?_⟩
    rintro w4 rfl
    rw [zV (show i≤(bts x).length by omega) (by omega)]
    have hT:Sp.zU (bts x) c i=.ok () (i+1):=by
     unfold Sp.zU;rw [hg];simp only;rw [if_pos hcc]
    show RSt _ a x ((Sp.zU (bts x) c i).bind fun _ j=>.ok n j)∧_
    rw [hT]
    exact ⟨⟨kM r3 (i+1),hlt,h3⟩,E3.pure.trans kP⟩
   ·have hb:(((bts x)[i].toNat:Int) == (c:Int))=false:=beq_eq_false_iff_ne.2 (by omega)
    rw [hb]
    refine word ?_
    unfold Sp.zU
    rw [hg]
    simp only
    rw [if_neg hcc,if_neg (by omega)]
  ·have hi:i=(bts x).length:=by have:=of_decide_eq_false hlt;omega
   unfold Sp.zU
   rw [List.getElem?_eq_none (by omega),if_pos hi]
end
end Go.Proofs
end
section
open Go Go.SE
namespace Go.Sp
open Go.Proofs
abbrev noX:ByteArray:=⟨#[]⟩
inductive TG:Tree→Nat→NP
 | name {k:Int} {v:Nat} (hk:k=1∨k=6) (hv:v<16):TG (.mk k v 0 0 noX []) 1 1
 | num {u:Nat} (hu:u<18446744073709551616):TG (.mk 2 0 0 u noX []) 1 1
 | data {x:ByteArray} (hx:x.size≤64):TG (.mk 3 0 0 0 x []) 1 1
 | pair {a b:Tree} {sa da sb db:Nat} (ha:TG a sa da) (hb:TG b sb db):TG (.mk 4 0 0 0 noX [a,b]) (1+(sa+sb)) (max da db+1)
 | hash {a:Tree} {sa da:Nat} (ha:TG a sa da):TG (.mk 5 0 0 0 noX [a]) (1+sa) (da+1)
 | sign {v:Nat} {a:Tree} {sa da:Nat} (hv:v<16) (ha:TG a sa da):TG (.mk 7 v 0 0 noX [a]) (1+sa) (da+1)
 | prom {k:Int} {v u:Nat} {a:Tree} {sa da:Nat} (hk:k=8∨k=9) (hv:v<16) (hu:u<16) (hn:v≠u) (ha:TG a sa da):TG (.mk k v u 0 noX [a]) (1+sa) (da+1)
theorem yP {k f t u:Int} {x:ByteArray} {len:Nat} (h1:jY ⟨k,f,t,u,x,0,0⟩=0) (h2:(len:Int)=(jL k).kids) (h3:jT (jL k) ⟨k,f,t,u,x,0,0⟩=0):zZ ⟨k,f,t,u,x,0,0⟩ len=0:=by
 unfold zZ;simp only [h1];simp [h2,h3]
theorem jEI {k:Int} {v:Nat} (hk:k=1∨k=6) (hv:v<16):zZ ⟨k,v,0,0,noX,0,0⟩ 0=0:=by
 rcases hk with rfl | rfl <;> exact yP (by simp [jY,jL,vU]) (by simp [jL]) (by simp [jT,jL,qF,ByteArray.size];omega)
theorem jGJ (u:Nat):zZ ⟨2,0,0,u,noX,0,0⟩ 0=0 :=
 yP (by simp [jY,jL,vU]) (by simp [jL]) (by simp [jT,jL,qF,ByteArray.size])
theorem jEK {x:ByteArray} (hx:x.size≤64):zZ ⟨3,0,0,0,x,0,0⟩ 0=0 :=
 yP (by simp [jY,jL,vU]) (by simp [jL]) (by simp [jT,jL,qF];omega)
theorem jEH:zZ ⟨4,0,0,0,noX,0,0⟩ 2=0:=by kernel_rfl
theorem jEJ:zZ ⟨5,0,0,0,noX,0,0⟩ 1=0:=by kernel_rfl
theorem jEF {v:Nat} (hv:v<16):zZ ⟨7,v,0,0,noX,0,0⟩ 1=0 :=
 yP (by simp [jY,jL,vU]) (by simp [jL]) (by simp [jT,jL,qF,ByteArray.size];omega)
theorem jEG {k:Int} {v u:Nat} (hk:k=8∨k=9) (hv:v<16) (hu:u<16) (hn:v≠u):zZ ⟨k,v,u,0,noX,0,0⟩ 1=0:=by
 have:¬ (u:Int)=v:=by omega
 rcases hk with rfl | rfl <;> exact yP (by simp [jY,jL,vU]) (by simp [jL]) (by simp [jT,jL,qF,this,ByteArray.size];omega)
theorem TG.gp {t:Tree} {s d:Nat} (h:TG t s d):GP t s d:=by
 induction h with
 | name hk hv=>exact GP0 (jEI hk hv)
 | num hu=>exact GP0 (jGJ _)
 | data hx=>exact GP0 (jEK hx)
 | @pair a b sa da sb db _ _ h1 h2 =>
  have:=GP2 jEH h1 h2
  rw [show ((1+(sa+sb):Nat):Int)=1+((sa:Int)+(sb:Int)) by omega,show ((max da db+1:Nat):Int)=max (da:Int) (db:Int)+1 by omega]
  exact this
 | hash _ h=>simpa using GP1 jEJ h
 | sign hv _ h=>simpa using GP1 (jEF hv) h
 | prom hk hv hu hn _ h=>simpa using GP1 (jEG hk hv hu hn) h
theorem TG.cnt {t:Tree} {s d:Nat} (h:TG t s d):cnt t=s∧1≤d:=by
 induction h with
 | pair _ _ h1 h2=>simp [Sp.cnt,vM,h1.1,h2.1]
 | hash _ h=>simp [Sp.cnt,vM,h.1]
 | sign _ _ h=>simp [Sp.cnt,vM,h.1]
 | prom _ _ _ _ _ h=>simp [Sp.cnt,vM,h.1]
 | _=>simp [Sp.cnt,vM]
theorem TG.looks {t:Tree} {s d:Nat} (h:TG t s d) (hs:s≤4096) (hd:d≤64):(looks 0 0 t).1=0:=by
 rw [h.gp.yes 0 0 (by omega) (by omega) (by omega) (by omega)]
theorem TG.of {t:Tree} {s d:Nat} (h:TG t s d) (hs:s≤4096) (hd:d≤64):(of [] t).2.1=0:=by
 rcases h.gp.of (L:=[]) (by omega) (by omega) Wf.nil with h | ⟨_,h⟩
 ·exact h
 ·simp at h;omega
theorem jDE (l:List UInt8) (c:UInt8):decV (l++[c])=10*decV l+(c.toNat - 48):=by unfold decV;rw [List.foldl_append];rfl
section
variable {B:List UInt8}
end
end Go.Sp
end
section
open Go
namespace Go.Sp
def qQ (a b:Nat) (B:List UInt8):List UInt8:=List.replicate a 32++B++List.replicate b 32
section
variable {B:List UInt8} {a b:Nat}
theorem btw_in {i:Nat} (h:i<B.length):(qQ a b B)[i+a]?=B[i]?:=by
 unfold qQ;rw [List.append_assoc,List.getElem?_append_right (by simp),List.length_replicate,Nat.add_sub_cancel,List.getElem?_append_left h]
theorem jHD {j:Nat} (h:B.length+a≤j):(qQ a b B)[j]?=none∨(qQ a b B)[j]?=some 32:=by
 unfold qQ;rw [List.getElem?_append_right (by simp;omega)];by_cases hj:j - (List.replicate a 32++B).length<b
 ·right;rw [List.getElem?_replicate,if_pos hj]
 ·left;rw [List.getElem?_replicate,if_neg hj]
def Pos (a b:Nat) (B:List UInt8) (j j':Nat):Prop:=(j<B.length∧j'=j+a)∨(j=B.length∧B.length+a≤j'∧j'≤a+B.length+b)
def Sh {α:Type} (a b:Nat) (B:List UInt8):Rr α→Rr α→Prop
 | .ok t j,r'=>∃j',r'=.ok t j'∧Pos a b B j j'
 | .no e i,r'=>(e≠0)∧if e=3 then ∃e' i',r'=.no e' i'∧e'≠0 else r'=.no e (i+a)
theorem Sh.bind {α β:Type} {r r':Rr α} {f f':α→Nat→Rr β} (h:Sh a b B r r') (hf:∀t j j',r=.ok t j→Pos a b B j j'→Sh a b B (f t j) (f' t j')):Sh a b B (r.bind f) (r'.bind f'):=by
 cases r with
 | ok t j=>obtain ⟨j',rfl,hp⟩:=h;exact hf t j j' rfl hp
 | no e i =>
  obtain ⟨h0,h⟩:=h
  refine ⟨h0,?_⟩
  by_cases he:e=3
  ·rw [if_pos he] at h ⊢
   obtain ⟨e',i',rfl,h1⟩:=h
   exact ⟨e',i',rfl,h1⟩
  ·rw [if_neg he] at h ⊢
   subst h;rfl
theorem Sh.no {α:Type} {e:Int} {i:Nat} (h0:e≠0) (h:e≠3):Sh a b B (.no e i:Rr α) (.no e (i+a)):=⟨h0,by rw [if_neg h]⟩
theorem Sh.ok {α:Type} {t:α} {j:Nat} (hj:j≤B.length):Sh a b B (.ok t j:Rr α) (.ok t (j+a)):=⟨_,rfl,by
 by_cases h:j<B.length
 ·exact .inl ⟨h,rfl⟩
 ·exact .inr ⟨by omega,by omega,by omega⟩⟩
theorem Pos.look {j j':Nat} (h:Pos a b B j j'):(j<B.length∧j'=j+a∧(qQ a b B)[j']?=B[j]?)∨(B[j]?=none∧((qQ a b B)[j']?=none∨(qQ a b B)[j']?=some 32)):=by
 rcases h with ⟨h,rfl⟩ | ⟨rfl,h1,h2⟩
 ·exact .inl ⟨h,rfl,btw_in h⟩
 ·exact .inr ⟨List.getElem?_eq_none (Nat.le_refl _),jHD h1⟩
end
end Go.Sp
namespace Go.Sp
def RrN {α:Type} (B:List UInt8) (r:Rr α):Prop:=∀e i,r=.no e i→i≤B.length
section
variable {B:List UInt8}
theorem RrN.bind {α β:Type} {i:Nat} {r:Rr α} {f:α→Nat→Rr β} (h:RrN B r) (ho:uX B i r) (hf:∀a j,j≤B.length→RrN B (f a j)):RrN B (r.bind f):=by
 intro e k hb;cases r with
 | no e' j=>cases hb;exact h _ _ rfl
 | ok a j=>exact hf a j (ho a j rfl).2 e k hb
theorem RrN.no {α:Type} {e:Int} {i:Nat} (h:i≤B.length):RrN B (.no e i:Rr α):=fun _ _ e=>by cases e;exact h
theorem RrN.ok {α:Type} {a:α} {i:Nat}:RrN B (.ok a i):=fun _ _ e=>by cases e
end
end Go.Sp
end
section
open Go Go.SE
namespace Go.Sp
open Go.Proofs
theorem kF {α β:Type} {r:Rr α} {f:α→Nat→Rr β} {b:β} {k:Nat} (h:r.bind f=.ok b k):∃a j,r=.ok a j∧f a j=.ok b k:=by
 cases r with
 | ok a j=>exact ⟨a,j,rfl,h⟩
 | no e i=>cases h
section
variable {B:List UInt8}
end
end Go.Sp
end
