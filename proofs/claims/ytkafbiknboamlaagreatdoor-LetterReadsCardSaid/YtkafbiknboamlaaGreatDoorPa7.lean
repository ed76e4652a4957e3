import Derived.Test.YtkafbiknboamlaaGreatDoorPa6
import Derived.Test.YtkafbiknboamlaaGreatDoorPa3
import Derived.Test.YtkafbiknboamlaaGreatDoorPa2
import Derived.Test.YtkafbiknboamlaaGreatDoorPa4
import Derived.Test.YtkafbiknboamlaaGreatDoorPa5
import Derived.Shelf.Strconv.Itoa3
import Derived.Test.YtkafbiknboamlaaGreatDoorProg
import Derived.KernelRfl
import Derived.Test.YtkafbiknboamlaaGreatDoorPa1
import Derived.Test.YtkafbiknboamlaaGreatDoorPa0
import Derived.Laws.DeepStrings4
import Derived.ProofKit
import Derived.Carry
import Derived.OpenShut
import Derived.Stop.Joined
section
open Go Go.SE
namespace Go.Proofs
open Tryz
attribute [local irreducible] Calls CallsD
def Raw.cells (k:Nat) (x:Raw):List Value:=[.int .i64 k,.int .i64 0,.int .i64 0,.int .u64 x.num,.string ⟨x.text.toArray⟩,.int .i64 0,.int .i64 0,.int .u64 x.frm,.int .u64 x.to,.int .u64 x.a,.int .u64 x.b,.int .i64 x.kids]
theorem jOZ (bs:List UInt8) (r:Rd) (k:Nat) (x:Raw) (f:Fld):f.upd bs r (x.cells k)=(f.raw bs r x).cells k:=by cases f <;> rfl
theorem jNS (bs:List UInt8):∀(l1 l2:List Fld) (s:Raw×Rd),qE bs (l1++l2) s=qE bs l2 (qE bs l1 s):=by
 intro l1;induction l1 with
 | nil=>intro l2 s;rfl
 | cons f l1 ih=>intro l2 s;obtain ⟨x,r⟩:=s;rw [List.cons_append,qE,qE,ih]
theorem jKZ (bs:List UInt8) (fs:List Fld) (j:Nat) (hj:j<fs.length) (s:Raw×Rd):qE bs (fs.take (j+1)) s=(fs[j].raw bs (qE bs (fs.take j) s).2 (qE bs (fs.take j) s).1,fs[j].rd bs (qE bs (fs.take j) s).2):=by
 rw [List.take_succ_eq_append_getElem hj,jNS];obtain ⟨x,r⟩:=qE bs (fs.take j) s;rfl
theorem jTE (f:Fld):∀args w,(callFunc f.get args).run prog w=.ok (.enter f.get args) w:=by
 cases f
 ·exact call184
 ·exact call187
 ·exact call189
 ·exact call192
 ·exact call195
 ·exact call197
structure StAt (w:World) (q a:Addr) (s:Sl) (bs:List UInt8) (L:Sp.Pool) (r:Rd) (m:Nat) (S FP F:NP):Prop where
 pool:zT w q L FP
 rd:RdS S w a s bs r
 kinds:Kinds w m F
 lS:∀b,S b→b<w.heap.size
 la:a.block<w.heap.size
 dP:∀b,FP b→b≠a.block∧¬ S b∧¬ F b∧b≠m
 dF:∀b,F b→b≠a.block∧¬ S b
 dm:m≠a.block∧¬ S m
theorem StAt.ext {w w':World} {q a:Addr} {s:Sl} {bs:List UInt8} {L:Sp.Pool} {r:Rd} {m:Nat} {S FP F G:NP} (h:StAt w q a s bs L r m S FP F) (E:Ext G w w') (hG:∀b,b<w.heap.size→¬ G b):StAt w' q a s bs L r m S FP F :=
 ⟨h.pool.ext E (fun b hb=>hG b (h.pool.lt hb)),h.rd.ext E (fun b hb=>hG b (h.lS b hb)) (hG _ h.la),h.kinds.ext E (fun b hb=>hG b (hb.elim (h.kinds.lt b) (fun e=>e▸h.kinds.mlt))),fun b hb=>Nat.lt_of_lt_of_le (h.lS b hb) E.size,Nat.lt_of_lt_of_le h.la E.size,h.dP,h.dF,h.dm⟩
theorem StAt.pure {w w':World} {q a:Addr} {s:Sl} {bs:List UInt8} {L:Sp.Pool} {r:Rd} {m:Nat} {S FP F:NP} (h:StAt w q a s bs L r m S FP F) (E:Pure w w'):StAt w' q a s bs L r m S FP F:=h.ext E (fun _ _ h=>h)
theorem jKL {n:Nat} (h:n<9223372036854775808):IntKind.i64.wrap (n:Int)=(n:Int):=IntWalk.i64_in _ (by omega)
theorem jBN (n:Nat):s_P (n:Int)=if 2147483647<n then -1 else (n:Int):=by
 unfold s_P;by_cases h:2147483647<n
 ·rw [if_pos h,show decide ((n:Int)>2147483647)=true by simp;omega];rfl
 ·rw [if_neg h,show decide ((n:Int)>2147483647)=false by simp;omega];exact jKL (by omega)
theorem jNG (k f t:Nat) (u:Int) (x:ByteArray) (a b:Int):s_S (k:Int) (s_P (f:Int)) (s_P (t:Int)) u x a b=if 16≤f∨16≤t∨((k=8∨k=9)∧f=t) then 50 else 0:=by
 unfold s_S;rw [jBN,jBN];have key:((((decide ((if 2147483647<f then -1 else (f:Int))<0) || decide ((if 2147483647<f then -1 else (f:Int))≥16)) || decide ((if 2147483647<t then -1 else (t:Int))<0)) || decide ((if 2147483647<t then -1 else (t:Int))≥16)) || ((((k:Int) == 8) || ((k:Int) == 9)) && ((if 2147483647<f then -1 else (f:Int)) == (if 2147483647<t then -1 else (t:Int)))))=decide (16≤f∨16≤t∨((k=8∨k=9)∧f=t)):=by
  rw [Bool.eq_iff_iff];simp only [Bool.or_eq_true,Bool.and_eq_true,decide_eq_true_eq,beq_iff_eq];by_cases h1:2147483647<f
  ·rw [if_pos h1];exact ⟨fun _=>.inl (by omega),fun _=>.inl (.inl (.inl (.inl (by omega))))⟩
  ·by_cases h2:2147483647<t
   ·rw [if_pos h2];exact ⟨fun _=>.inr (.inl (by omega)),fun _=>.inl (.inl (.inr (by omega)))⟩
   ·rw [if_neg h1,if_neg h2];omega
 rw [key];by_cases h:16≤f∨16≤t∨((k=8∨k=9)∧f=t)
 ·rw [decide_eq_true h,if_pos h];rfl
 ·rw [decide_eq_false h,if_neg h];rfl
theorem jHJ {w:World} {p:Addr} {n:Sp.Node} {cs:List Value} {T:TypeId} (h:Box w p (tF n++cs) T):Row w p (tF n):=fun i hi=>by
 have:=h.row i (by rw [List.length_append];omega);rw [List.getElem?_append_left hi] at this;exact this
theorem c_sub4 (q a:Addr) (s:Sl) (bs:List UInt8) (r:Rd) (m:Nat) {S FP F:NP} {L:Sp.Pool} (p:Addr) (n:Sp.Node) (cs:List Value) {w:World} (h:StAt w q a s bs L r m S FP F) (hok:Sp.Ok L) (hB:Box w p (tF n++cs) 253) (hp:¬ FP p.block) (K:Int→WP)
  (hK:∀x w',x=(if (Sp.find L n).isSome=true then 72 else (Sp.make L n).2.1)→(∃F',zT w' q (if (Sp.find L n).isSome=true then L else (Sp.make L n).2.2) F'∧RdS S w' a s bs r∧Ext FP w w'∧∀b,F' b→FP b∨w.heap.size≤b)→K x w') :
  m_G_j4 (some q) p None w K:=by
 unfold m_G_j4
 refine ⟨n.kind,n.frm,n.to,n.num,n.text,n.a,n.b,jHJ hB,?_⟩
 refine (c_Has q n w h.pool hok).mono ?_
 rintro _ w1 ⟨x,ok,rfl,hf,E1⟩
 refine ⟨_,_,rfl,E1.keptP,fun hok1=>?_,fun hok1=>?_⟩
 ·have : (Sp.find L n).isSome = true := by
   cases hn:Sp.find L n with
   | some i=>rfl
   | none=>rw [hn] at hf;simp only at hf;rw [hf.2] at hok1;cases hok1
  rw [if_pos this,if_pos this] at hK
  exact hK _ _ rfl ⟨FP,h.pool.pure E1,h.rd.pure E1,Ext.pure E1,fun b hb=>.inl hb⟩
 ·have : ¬ (Sp.find L n).isSome = true := by
   cases hn:Sp.find L n with
   | some i=>rw [hn] at hf;simp only at hf;rw [hf.2] at hok1;cases hok1
   | none=>simp
  rw [if_neg this,if_neg this] at hK
  refine ⟨n.kind,n.frm,n.to,n.num,n.text,n.a,n.b,jHJ (hB.pure E1),?_⟩
  refine (jRJ q n.kind n.frm n.to n.num n.text n.a n.b w1 (h.pool.pure E1) hok).mono ?_
  rintro _ w2 ⟨x1,x2,rfl,he,F',hP,E2,hF'⟩
  have he2:=congrArg Prod.snd he
  simp only at he2
  refine ⟨x1,x2,rfl,E2.kept (fun b hb=>hb.elim),hK _ _ he2 ⟨F',hP,(h.rd.pure E1).ext E2 (fun b hb hh=>(h.dP b hh).2.1 hb) (fun hh=>(h.dP _ hh).1 rfl),(Ext.pure E1).trans E2,fun b hb=>(hF' b hb).elim .inl (fun hb=>.inr (by have:=E1.size;omega))⟩⟩
theorem jUQ (k:Nat) (x:Raw):(((x.cells k).set 1 (.int .i64 (s_P x.frm))).set 2 (.int .i64 (s_P x.to)))=tF ⟨k,s_P x.frm,s_P x.to,x.num,⟨x.text.toArray⟩,0,0⟩++[.int .u64 x.frm,.int .u64 x.to,.int .u64 x.a,.int .u64 x.b,.int .i64 x.kids]:=rfl
theorem jSG (n:Sp.Node) (cs:List Value) (v:Int):(tF n++cs).set 5 (.int .i64 v)=tF { n with a:=v }++cs:=rfl
theorem jSF (n:Sp.Node) (cs:List Value) (v:Int):(tF n++cs).set 6 (.int .i64 v)=tF { n with b:=v }++cs:=rfl
theorem c_sub3 (q a:Addr) (s:Sl) (bs:List UInt8) (r:Rd) (m:Nat) {S FP F:NP} {L:Sp.Pool} (p:Addr) (k:Nat) (x:Raw) {w:World} (h:StAt w q a s bs L r m S FP F) (hok:Sp.Ok L)
  (h1:x.frm<16) (h2:x.to<16) (ha:0<x.kids→x.a<L.length) (hb:1<x.kids→x.b<L.length)
  (hB:Box w p (tF ⟨k,s_P x.frm,s_P x.to,x.num,⟨x.text.toArray⟩,0,0⟩++[.int .u64 x.frm,.int .u64 x.to,.int .u64 x.a,.int .u64 x.b,.int .i64 x.kids]) 253) (hpS:p.block≠a.block∧¬ S p.block∧¬ FP p.block∧¬ F p.block∧p.block≠m) (K:Int→WP)
  (hK:∀y w',y=(if (Sp.find L (x.node k)).isSome=true then 72 else (Sp.make L (x.node k)).2.1)→(∃F',zT w' q (if (Sp.find L (x.node k)).isSome=true then L else (Sp.make L (x.node k)).2.2) F'∧RdS S w' a s bs r∧Ext (fun b=>FP b∨b=p.block) w w'∧∀b,F' b→FP b∨w.heap.size≤b)→K y w') :
  m_G_j2 (some q) p false None w K:=by
 have hok2:=hok.few
 have fs:s_P (x.frm:Int)=(x.frm:Int):=by rw [jBN,if_neg (by omega)]
 have ts:s_P (x.to:Int)=(x.to:Int):=by rw [jBN,if_neg (by omega)]
 rw [fs,ts] at hB
 have st5:∀{w w':World} {i:Nat} {v:Value},StAt w q a s bs L r m S FP F→w'=w.setCell (p.add i) v→StAt w' q a s bs L r m S FP F∧Ext (·=p.block) w w':=fun {w w' i v} h e=>by
  have E:Ext (·=p.block) w w':=by rw [e];exact qQ
  refine ⟨⟨h.pool.ext E (fun b hb e=>hpS.2.2.1 (e▸hb)),h.rd.ext E (fun b hb e=>hpS.2.1 (e▸hb)) (fun e=>hpS.1 e.symm),h.kinds.ext E (fun b hb e=>hb.elim (fun hb=>hpS.2.2.2.1 (e▸hb)) (fun hb=>hpS.2.2.2.2 (e.symm.trans hb))),fun b hb=>Nat.lt_of_lt_of_le (h.lS b hb) E.size,Nat.lt_of_lt_of_le h.la E.size,h.dP,h.dF,h.dm⟩,E⟩
 have wr:∀n:Nat,n<L.length→IntKind.i64.wrap (IntKind.u64.wrap ((n:Int)+1))=(n:Int)+1:=fun n hn=>by
  rw [show (n:Int)+1=((n+1:Nat):Int) by omega,qO (by omega),jKL (by omega)]
 have fin : ∀ (va vb : Int) (w1 : World), StAt w1 q a s bs L r m S FP F → Box w1 p (tF ⟨k, x.frm, x.to, x.num, ⟨x.text.toArray⟩, va, vb⟩ ++ [.int .u64 x.frm, .int .u64 x.to, .int .u64 x.a, .int .u64 x.b, .int .i64 x.kids]) 253 → Ext (· = p.block) w w1 →
   va=(if 0<x.kids then (x.a:Int)+1 else 0)→vb=(if 1<x.kids then (x.b:Int)+1 else 0)→m_G_j4 (some q) p None w1 K:=by
  intro va vb w1 h1 hB1 E1 hva hvb
  have hn:(⟨k,x.frm,x.to,x.num,⟨x.text.toArray⟩,va,vb⟩:Sp.Node)=x.node k:=by subst hva hvb;rfl
  rw [hn] at hB1
  refine c_sub4 q a s bs r m p (x.node k) _ h1 hok hB1 hpS.2.2.1 K (fun y w' hy ⟨F',g1,g2,g3,g4⟩=>hK y w' hy ⟨F',g1,g2,(E1.mono (fun b _ h=>.inr h)).trans (g3.mono (fun b _ h=>.inl h)),fun b hb=>(g4 b hb).imp id (fun h=>by have:=E1.size;omega)⟩)
 unfold m_G_j2
 refine ⟨fun hc=>(by cases hc),fun _=>⟨x.kids,hB.cell (i:=11) rfl,?_⟩⟩
 have j3 : ∀ (va : Int) (w1 : World), StAt w1 q a s bs L r m S FP F → Box w1 p (tF ⟨k, x.frm, x.to, x.num, ⟨x.text.toArray⟩, va, 0⟩ ++ [.int .u64 x.frm, .int .u64 x.to, .int .u64 x.a, .int .u64 x.b, .int .i64 x.kids]) 253 → Ext (· = p.block) w w1 →
   va=(if 0<x.kids then (x.a:Int)+1 else 0)→m_G_j3 (some q) p None w1 K:=by
  intro va w1 h1 hB1 E1 hva
  unfold m_G_j3
  refine ⟨x.kids,hB1.cell (i:=11) rfl,fun hc=>?_,fun hc=>?_⟩
  ·have hc:1<x.kids:=by have:=of_decide_eq_true hc;omega
   refine ⟨x.b,hB1.cell (i:=10) rfl,hB1.canW (i:=6) (by simp [tF]),id,?_⟩
   rintro w2 e2
   obtain ⟨h2,E2⟩:=st5 h1 e2
   have hB2:=hB1.set 6 (.int .i64 (IntKind.i64.wrap (IntKind.u64.wrap ((x.b:Int)+1))))
   rw [← e2,jSF,wr _ (hb hc)] at hB2
   exact fin va _ w2 h2 hB2 (E1.trans E2) hva (by rw [if_pos hc])
  ·have hc:¬ 1<x.kids:=by have:=of_decide_eq_false hc;omega
   exact fin va 0 w1 h1 hB1 E1 hva (by rw [if_neg hc])
 refine ⟨fun hc=>?_,fun hc=>?_⟩
 ·have hc:0<x.kids:=by have:=of_decide_eq_true hc;omega
  refine ⟨x.a,hB.cell (i:=9) rfl,hB.canW (i:=5) (by simp [tF]),id,?_⟩
  rintro w2 e2
  obtain ⟨h2,E2⟩:=st5 h e2
  have hB2:=hB.set 5 (.int .i64 (IntKind.i64.wrap (IntKind.u64.wrap ((x.a:Int)+1))))
  rw [← e2,jSG,wr _ (ha hc)] at hB2
  exact j3 _ w2 h2 hB2 E2 (by rw [if_pos hc])
 ·have hc:¬ 0<x.kids:=by have:=of_decide_eq_false hc;omega
  exact j3 0 w h hB (Ext.refl _) (by rw [if_neg hc])
theorem jQW (q a:Addr) (s:Sl) (bs:List UInt8) (r:Rd) (m:Nat) {S FP F:NP} {L:Sp.Pool} {w0:World} (h:StAt w0 q a s bs L r m S FP F) (hok:Sp.Ok L) (hlt:r.at_<bs.length) (he:r.err=0) :
  Calls prog 166 #[.pointer (some q),.pointer (some a),.map (some m)] w0 (fun e w'=>∃y:Int,e=.returned (.int .i64 y)∧(y=(vT bs L r).2.1∧∃F',zT w' q (vT bs L r).1 F'∧RdS S w' a s bs (vT bs L r).2.2∧Ext (fun b=>FP b∨b=a.block) w0 w'∧∀b,F' b→FP b∨w0.heap.size≤b)):=by
 refine w_G (some q) (some a) (some m) w0 (fun y w'=>y=(vT bs L r).2.1∧∃F',zT w' q (vT bs L r).1 F'∧RdS S w' a s bs (vT bs L r).2.2∧Ext (fun b=>FP b∨b=a.block) w0 w'∧∀b,F' b→FP b∨w0.heap.size≤b) ?_
 unfold m_G
 refine (c_Byte a s bs r w0 h.rd (Nat.le_of_lt hlt) h.lS).mono ?_
 rintro _ w1 ⟨_,rfl,rfl,hR1,E1⟩
 refine ⟨_,rfl,E1.kept (fun b hb=>hb.elim),?_⟩
 rw [jCC bs L r hlt he]
 rw [jMN bs r hlt he] at hR1 ⊢
 simp only at hR1 ⊢
 generalize hk:bs[r.at_].toNat=k at *
 have hk256:k<256:=by rw [← hk];exact bs[r.at_].toNat_lt
 have S1:StAt w1 q a s bs L ⟨r.at_+1,0,r.spot⟩ m S FP F:=⟨h.pool.ext E1 (fun b hb e=>(h.dP b hb).1 e),hR1,h.kinds.ext E1 (fun b hb e=>hb.elim (fun hb=>(h.dF b hb).1 e) (fun hb=>h.dm.1 (hb.symm.trans e))),fun b hb=>Nat.lt_of_lt_of_le (h.lS b hb) E1.size,Nat.lt_of_lt_of_le h.la E1.size,h.dP,h.dF,h.dm⟩
 intro p1 w2 n2
 rw [jKL (by omega)] at n2
 have E2:Pure w1 w2:=Ext.new n2
 have S2:=S1.pure E2
 have B2:Box w2 p1 (jBE.cells k) 253:=Box.of_newA n2
 have bp:=n2.at_size
 have z1:=E1.size
 have E02:Ext (·=a.block) w0 w2:=E1.thenPure E2
 refine ⟨k,B2.cell0,?_⟩
 by_cases hkk:jDC k=true
 ·have hk19:1≤k∧k≤9:=by unfold jDC at hkk;simpa using hkk
  obtain ⟨v2,hlook,hLst⟩:=S2.kinds.get (k:Int) (by omega) (by omega) true
  refine ⟨v2,true,hlook,fun hc=>(by cases hc),fun _=>?_⟩
  rw [if_pos hkk]
  generalize hfs:uI (k:Int)=fs at *
  have hf3:fs.length≤3:=by rw [← hfs];exact jHR _
  have hrat:∀j,(qE bs (fs.take j) (jBE,⟨r.at_+1,0,r.spot⟩)).2.at_≤bs.length:=fun j=>(jIY bs (fs.take j) jBE ⟨r.at_+1,0,r.spot⟩ (by simp only;omega)).2
  refine ⟨fun x1 Hl w=>∃j:Nat,x1=j∧j≤fs.length∧Hl=None∧StAt w q a s bs L (qE bs (fs.take j) (jBE,⟨r.at_+1,0,r.spot⟩)).2 m S FP F∧Box w p1 ((qE bs (fs.take j) (jBE,⟨r.at_+1,0,r.spot⟩)).1.cells k) 253∧Lst F w 2 v2 (fs.map Fld.row)∧Ext (·=a.block) w0 w,fun x1 _=>((fs.length:Int) - x1).toNat,⟨0,rfl,Nat.zero_le _,rfl,S2,B2,hLst,E02⟩,?_⟩
  rintro _ _ wl _ ⟨j,rfl,hj,rfl,hS,hB,hL,hE⟩
  unfold m_G_l1
  have hlen:v2.len=fs.length:=by rw [hL.len,List.length_map]
  have ple:p1.block<wl.heap.size:=hB.lt
  have zE:=hE.size
  have nS:¬ S p1.block:=fun hh=>by have:=h.lS _ hh;omega
  have nF:¬ F p1.block:=fun hh=>by have:=h.kinds.lt _ hh;omega
  have nP:¬ FP p1.block:=fun hh=>by have:=h.pool.lt hh;omega
  have na:p1.block≠a.block:=fun hh=>by have:=h.la;omega
  have nm:p1.block≠m:=fun hh=>by have:=h.kinds.mlt;omega
  refine ⟨fun hc=>?_,fun hc=>?_⟩
  ·have hc:=uC hlen hc
   obtain ⟨a1,hat,_,hrow⟩:=hL.nth hc
   refine ⟨a1,hat,_,_,hrow,?_⟩
   intro p2 w3 n3
   have E3:Pure wl w3:=Ext.new n3
   refine ⟨⟨rfl,fun i hi=>(Box.of_newA n3).canW (by simpa using hi)⟩,id,?_⟩
   rintro w4 e4
   have X4:Ext (·=p2.block) w3 w4:=by rw [e4];exact Ext.storeRow _ _ _
   have B4:Box w4 p2 [.func (.func fs[j].put) #[] #[],.func (.func fs[j].get) #[] #[]] 213:=by rw [e4];exact (Box.of_newA n3).store rfl
   have hp2:=n3.at_size
   have E34:Pure wl w4:=E3.own (by rw [hp2];exact Nat.le_refl _) X4
   have S4:=hS.pure E34
   refine ⟨_,B4.cell (i:=1) rfl,fs[j].get,#[],#[],rfl,jTE fs[j],?_⟩
   refine (c_get fs[j] a p1 s bs _ _ w4 S4.rd (hrat j) S4.lS (hB.pure E34) rfl (fun e=>na e.symm) (fun b hb e=>nS (e▸hb))).mono ?_
   rintro _ w5 ⟨rfl,hR5,hB5,E5⟩
   rw [jOZ] at hB5
   have hsn:=jKZ bs fs j hc (jBE,⟨r.at_+1,0,r.spot⟩)
   refine ⟨rfl,E5.kept (fun b hb=>hb.elim),⟨j+1,vE hc (by omega),hc,rfl,?_,?_,?_,?_⟩,by rw [vE hc (by omega)];exact jAU hc⟩
   ·rw [hsn]
    exact ⟨S4.pool.ext E5 (fun b hb e=>e.elim (fun e=>(h.dP b hb).1 e) (fun e=>nP (e▸hb))),hR5,S4.kinds.ext E5 (fun b hb e=>hb.elim (fun hb=>e.elim (fun e=>(h.dF b hb).1 e) (fun e=>nF (e▸hb))) (fun hb=>e.elim (fun e=>h.dm.1 (hb.symm.trans e)) (fun e=>nm (e.symm.trans hb)))),fun b hb=>Nat.lt_of_lt_of_le (S4.lS b hb) E5.size,Nat.lt_of_lt_of_le S4.la E5.size,h.dP,h.dF,h.dm⟩
   ·rw [hsn];exact hB5
   ·exact (hL.pure E34).ext E5 (fun b hb e=>e.elim (fun e=>(h.dF b hb).1 e) (fun e=>nF (e▸hb)))
   ·exact (hE.thenPure E34).trans' E5 (fun i hi e=>e.elim id (fun e=>by omega))
  ·have hc:=uS hlen hj hc
   subst hc
   rw [List.take_length] at hS hB
   have hkd:=(@Sp.jJK bs (k:Int) (by omega) (by omega) ⟨r.at_+1,0,r.spot⟩).1
   rw [hfs] at hkd
   generalize qE bs fs (jBE,⟨r.at_+1,0,r.spot⟩)=st at *
   obtain ⟨x,r'⟩:=st
   simp only at hS hB hkd
   have fin : ∀ (y : Int) (w : World) (F' : NP), zT w q (jCY L k (x, r')).1 F' → RdS S w a s bs (jCY L k (x, r')).2.2 → Ext (fun b => FP b ∨ b = a.block) w0 w → (∀ b, F' b → FP b ∨ w0.heap.size ≤ b) → y = (jCY L k (x, r')).2.1 →
     y=(jCY L k (x,r')).2.1∧∃F',zT w q (jCY L k (x,r')).1 F'∧RdS S w a s bs (jCY L k (x,r')).2.2∧Ext (fun b=>FP b∨b=a.block) w0 w∧∀b,F' b→FP b∨w0.heap.size≤b:=fun y w F' a1 a2 a3 a4 a5=>⟨a5,F',a1,a2,a3,a4⟩
   have hEo:Ext (fun b=>FP b∨b=a.block) w0 wl:=hE.mono (fun b _ h=>.inr h)
   have bad:∀(e:Nat) (w:World),nodeErr k L.length x r'.err=e→e≠0→Ext (·=p1.block) wl w→(((e:Nat):Int)=(jCY L k (x,r')).2.1∧∃F',zT w q (jCY L k (x,r')).1 F'∧RdS S w a s bs (jCY L k (x,r')).2.2∧Ext (fun b=>FP b∨b=a.block) w0 w∧∀b,F' b→FP b∨w0.heap.size≤b):=by
    intro e w hne h0 E;have hr:jCY L k (x,r')=(L,(e:Int),r'):=by
     unfold jCY;simp only;rw [if_pos (by rw [hne];exact h0),hne]
    rw [hr];exact ⟨rfl,FP,hS.pool.ext E (fun b hb e=>nP (e▸hb)),hS.rd.ext E (fun b hb e=>nS (e▸hb)) (fun e=>na e.symm),hEo.trans' E (fun i hi e=>by omega),fun b hb=>.inl hb⟩
   refine (c_Why a s bs r' wl hS.rd).mono ?_
   rintro _ w6 ⟨_,_,rfl,rfl,rfl,E6⟩
   have S6:=hS.pure E6
   have B6:=hB.pure E6
   refine ⟨_,_,rfl,E6.keptP,fun hc=>?_,fun hc=>?_⟩
   ·have hc:r'.err≠0:=by have:=bne_iff_ne.1 hc;omega
    exact bad r'.err w6 (by unfold nodeErr;rw [if_pos hc]) hc (Ext.pure E6)
   ·have hc : r'.err = 0 := by
     have:((r'.err:Int) != 0)=false:=hc;simpa using this
    refine ⟨fun w'=>w'.cell? (p1.add 8)=some (.int .u64 x.to),(B6.pure (Ext.drew w6)).cell (i:=8) rfl,?_⟩
    rintro w7 e7
    have E7:Pure w6 w7:=by rw [e7];exact Ext.drew w6
    have B7:=B6.pure E7
    refine ⟨x.frm,B7.cell (i:=7) rfl,x.to,fun w' hw'=>hw',?_⟩
    refine (p_P (x.frm:Int) w7).mono ?_
    rintro _ w8 ⟨rfl,E8⟩
    have B8:=B7.pure E8
    refine ⟨_,rfl,B8.cell (i:=8) rfl,E8.keptP,?_⟩
    refine (p_P (x.to:Int) w8).mono ?_
    rintro _ w9 ⟨rfl,E9⟩
    have B9:=B8.pure E9
    refine ⟨_,rfl,B9.cell (i:=8) rfl,E9.keptP,B9.canW (i:=1) (by simp [Raw.cells]),id,?_⟩
    rintro w10 e10
    have X10:Ext (·=p1.block) w9 w10:=by rw [e10];exact qQ
    have B10:=B9.set 1 (.int .i64 (s_P x.frm))
    rw [← e10] at B10
    refine ⟨B10.cell (i:=8) rfl,B10.canW (i:=2) (by simp [Raw.cells]),id,?_⟩
    rintro w11 e11
    have X11:Ext (·=p1.block) w10 w11:=by rw [e11];exact qQ
    have B11:=B10.set 2 (.int .i64 (s_P x.to))
    rw [← e11,jUQ] at B11
    have E11:Ext (·=p1.block) wl w11:=((Ext.pure (((E6.trans E7).trans E8).trans E9)).trans X10).trans X11
    have S11:StAt w11 q a s bs L r' m S FP F:=⟨hS.pool.ext E11 (fun b hb e=>nP (e▸hb)),hS.rd.ext E11 (fun b hb e=>nS (e▸hb)) (fun e=>na e.symm),hS.kinds.ext E11 (fun b hb e=>hb.elim (fun hb=>nF (e▸hb)) (fun hb=>nm (e.symm.trans hb))),fun b hb=>Nat.lt_of_lt_of_le (hS.lS b hb) E11.size,Nat.lt_of_lt_of_le hS.la E11.size,h.dP,h.dF,h.dm⟩
    refine ⟨k,s_P x.frm,s_P x.to,x.num,⟨x.text.toArray⟩,0,0,jHJ B11,?_⟩
    rw [jNG]
    by_cases hnm:16≤x.frm∨16≤x.to∨((k=8∨k=9)∧x.frm=x.to)
    ·rw [if_pos hnm]
     refine ⟨fun _ w12 hs12=>?_,fun hc=>(by cases hc)⟩
     exact bad 50 w12 (by unfold nodeErr;rw [if_neg (by omega),if_pos hnm]) (by decide) (E11.thenPure hs12.ext)
    ·rw [if_neg hnm]
     refine ⟨fun hc=>(by cases hc),fun _ w12 hs12=>?_⟩
     have E12:Pure w11 w12:=hs12.ext
     have S12:=S11.pure E12
     refine (jAO q w12 S12.pool).mono ?_
     rintro _ w13 ⟨_,rfl,rfl,rfl⟩
     have B12:=B11.pure E12
     have hLs:=hok.few
     refine ⟨_,rfl,Kept.refl _,x.kids,B12.cell (i:=11) rfl,?_⟩
     rw [qO (by omega)]
     have bad71:((0<x.kids∧L.length≤x.a)∨(1<x.kids∧L.length≤x.b))→((71:Int)=(jCY L k (x,r')).2.1∧∃F',zT w13 q (jCY L k (x,r')).1 F'∧RdS S w13 a s bs (jCY L k (x,r')).2.2∧Ext (fun b=>FP b∨b=a.block) w0 w13∧∀b,F' b→FP b∨w0.heap.size≤b):=fun hh =>
      bad 71 w13 (by unfold nodeErr;rw [if_neg (by omega),if_neg hnm,if_pos hh]) (by decide) (E11.thenPure E12)
     have good:¬ ((0<x.kids∧L.length≤x.a)∨(1<x.kids∧L.length≤x.b))→m_G_j2 (some q) p1 false None w13 (fun y w'=>y=(jCY L k (x,r')).2.1∧∃F',zT w' q (jCY L k (x,r')).1 F'∧RdS S w' a s bs (jCY L k (x,r')).2.2∧Ext (fun b=>FP b∨b=a.block) w0 w'∧∀b,F' b→FP b∨w0.heap.size≤b):=fun hh=>by
      have hr:jCY L k (x,r')=(if (Sp.find L (x.node k)).isSome=true then L else (Sp.make L (x.node k)).2.2,if (Sp.find L (x.node k)).isSome=true then 72 else (Sp.make L (x.node k)).2.1,r'):=by
       have hne:nodeErr k L.length x r'.err=0:=by unfold nodeErr;rw [if_neg (by omega),if_neg hnm,if_neg hh]
       unfold jCY;simp only;rw [if_neg (by rw [hne];simp)];split <;> rfl
      rw [hr];refine c_sub3 q a s bs r' m p1 k x S12 hok (by omega) (by omega) (by omega) (by omega) B12 ⟨na,nS,nP,nF,nm⟩ _ ?_;rintro y w' hy ⟨F',g1,g2,g3,g4⟩;exact ⟨hy,F',g1,g2,(hEo.trans' (E11.thenPure E12) (fun i hi e=>by omega)).trans' g3 (fun i hi e=>e.elim .inl (fun e=>by omega)),fun b hb=>(g4 b hb).imp id (fun hh=>by have:=E11.size;have:=E12.size;omega)⟩
     have j5:∀x3:Bool,x3=decide (0<x.kids∧L.length≤x.a)→m_G_j5 (some q) p1 (L.length:Int) x3 None w13 (fun y w'=>y=(jCY L k (x,r')).2.1∧∃F',zT w' q (jCY L k (x,r')).1 F'∧RdS S w' a s bs (jCY L k (x,r')).2.2∧Ext (fun b=>FP b∨b=a.block) w0 w'∧∀b,F' b→FP b∨w0.heap.size≤b):=by
      intro x3 h3;unfold m_G_j5;refine ⟨fun hc=>?_,fun hc=>?_⟩
      ·rw [hc] at h3;have h3:=of_decide_eq_true h3.symm;unfold m_G_j2;exact ⟨fun _=>bad71 (.inl h3),fun hc=>(by cases hc)⟩
      ·rw [hc] at h3;have h3:=of_decide_eq_false h3.symm;refine ⟨x.kids,B12.cell (i:=11) rfl,fun hc=>?_,fun hc=>?_⟩
       ·have hc:=of_decide_eq_true hc;refine ⟨x.b,B12.cell (i:=10) rfl,?_⟩;rw [qO (by omega)];by_cases hb:L.length≤x.b
        ·rw [decide_eq_true (show (x.b:Int)≥(L.length:Int) by omega)];unfold m_G_j2;exact ⟨fun _=>bad71 (.inr ⟨by omega,hb⟩),fun hc=>(by cases hc)⟩
        ·rw [decide_eq_false (show ¬ (x.b:Int)≥(L.length:Int) by omega)];exact good (by omega)
       ·have hc:=of_decide_eq_false hc;exact good (by omega)
     refine ⟨fun hc=>?_,fun hc=>?_⟩
     ·have hc:=of_decide_eq_true hc
      refine ⟨x.a,B12.cell (i:=9) rfl,j5 _ ?_⟩
      rw [decide_eq_decide];omega
     ·have hc:=of_decide_eq_false hc
      refine j5 _ ?_
      rw [decide_eq_false];omega
 ·have hnk:¬ (1≤(k:Int)∧(k:Int)≤9):=fun hh=>hkk (by unfold jDC;simp;omega)
  refine ⟨_,false,S2.kinds.none (k:Int) hnk,fun _=>?_,fun hc=>(by cases hc)⟩
  rw [if_neg hkk]
  exact ⟨rfl,FP,S2.pool,S2.rd,E02.mono (fun b _ h=>.inr h),fun b hb=>.inl hb⟩
def jRL (w0 w':World) (bs:List UInt8) (x:Option Addr):Prop :=
 (∀q,(qI bs).1=some q→∃p F,x=some p∧zT w' p q F∧∀b,F b→w0.heap.size≤b)∧((qI bs).1=none→x=none)
structure ReAt (w0 w:World) (q a:Addr) (s:Sl) (bs:List UInt8) (L:Sp.Pool) (r:Rd) (m:Nat) (S FP F:NP) (ps:List Nat) (pl:Sl):Prop where
 st:StAt w q a s bs L r m S FP F
 pure:Pure w0 w
 oP:∀b,FP b→w0.heap.size≤b
 oa:w0.heap.size≤a.block
 rows:Rws w 3 1 pl (tmr (ps.map Int.ofNat))
 own:∀b,pl.blk b→w0.heap.size≤b∧¬ FP b∧b≠a.block∧¬ S b∧¬ F b∧b≠m
theorem jOC:∀(l:List Int) (i:Nat) (z:Int),inRow i l=i+l.length→inRow i (l++[z])=if z=((i+l.length:Nat):Int)+1 then i+l.length+1 else i+l.length:=by
 intro l;induction l with
 | nil=>intro i z _;simp only [List.nil_append,inRow,List.length_nil,Nat.add_zero]
 | cons s l ih =>
  intro i z h
  rw [inRow] at h
  rw [List.cons_append,inRow]
  split
  ·rename_i hs
   rw [if_pos hs,List.length_cons] at h
   rw [ih (i+1) z (by omega),List.length_cons]
   rw [show i+1+l.length=i+(l.length+1) by omega]
  ·rename_i hs
   rw [if_neg hs,List.length_cons] at h;omega
theorem jOB:∀(l:List Int) (i:Nat) (z:Int) (post:List Int),inRow i l=i+l.length→z≠((i+l.length:Nat):Int)+1→inRow i (l++z :: post)=i+l.length:=by
 intro l;induction l with
 | nil=>intro i z post _ hz;simp only [List.nil_append,inRow,List.length_nil,Nat.add_zero] at *;rw [if_neg hz]
 | cons s l ih =>
  intro i z post h hz
  rw [inRow] at h
  rw [List.cons_append,inRow]
  split
  ·rename_i hs
   rw [if_pos hs,List.length_cons] at h
   rw [List.length_cons] at hz
   rw [ih (i+1) z post (by omega) (by rw [show i+1+l.length=i+(l.length+1) by omega];exact hz),List.length_cons];omega
  ·rename_i hs
   rw [if_neg hs,List.length_cons] at h;omega
theorem c_read {S0:NP} (sb:Sl) (bs:List UInt8) (w0:World) (hs:Lst S0 w0 1 sb (byr bs)) (hz:sb.a=none→sb=Sl.nil) :
  Calls prog 121 #[sb.v] w0 (fun e w'=>∃x:Option Addr,∃y z:Int,e=.returned (.tuple #[.pointer x,.int .i64 y,.int .i64 z])∧(y=(qI bs).2.1∧z=((qI bs).2.2:Int)∧jRL w0 w' bs x∧Pure w0 w')):=by
 refine w_R1 sb w0 (fun x y z w'=>y=(qI bs).2.1∧z=((qI bs).2.2:Int)∧jRL w0 w' bs x∧Pure w0 w') ?_
 unfold m_R1
 have hl:sb.len=bs.length:=by rw [hs.len,qA]
 have bad:∀(e:Int) (n:Nat) (w':World),qI bs=(none,e,n)→Pure w0 w'→e=(qI bs).2.1∧(n:Int)=((qI bs).2.2:Int)∧jRL w0 w' bs none∧Pure w0 w':=fun e n w' h E=>by
  rw [h];exact ⟨rfl,rfl,⟨fun q hq=>(by rw [h] at hq;cases hq),fun _=>rfl⟩,E⟩
 refine ⟨fun hc=>?_,fun hc=>?_⟩
 ·have hc:4096<bs.length:=by have:=of_decide_eq_true hc;omega
  exact bad 1 0 w0 (by unfold qI;rw [if_pos hc]) (Ext.refl _)
 have hc:bs.length≤4096:=by have:=of_decide_eq_false hc;omega
 refine ⟨fun hc2=>?_,fun hc2=>?_⟩
 ·have hc2:bs.length=0:=by have:=beq_iff_eq.1 hc2;omega
  exact bad 3 0 w0 (by unfold qI;rw [if_neg (by omega),if_pos hc2]) (Ext.refl _)
 have hc2:bs.length≠0:=by have:=beq_eq_false_iff_ne.1 hc2;omega
 have htxt:qI bs=jKY bs bs.length [] ⟨0,0,0⟩ []:=by unfold qI;rw [if_neg (by omega),if_neg hc2]
 refine (jRI w0).mono ?_
 rintro _ w1 ⟨_,rfl,q,rfl,E1,FP0,hP,hFP⟩
 refine ⟨_,rfl,E1.keptP,?_⟩
 refine (c_cNew sb bs w1 (hs.pure E1) hz (by omega)).mono ?_
 rintro _ w2 ⟨_,rfl,a,s,rfl,hR,E2,ha,hsb⟩
 refine ⟨_,rfl,E2.keptP,?_⟩
 refine (jRE w2).mono ?_
 rintro _ w3 ⟨_,rfl,m,F,rfl,hK,E3,hm,hF⟩
 refine ⟨_,rfl,E3.keptP,?_⟩
 have z1:=E1.size;have z2:=E2.size;have z3:=E3.size
 have la:a.block<w2.heap.size:=hR.box.lt
 have hnil:∀b,¬ Sl.nil.blk b:=fun b hb=>by obtain ⟨a,h,_⟩:=hb;cases h
 have R3:ReAt w0 w3 q a s bs [] ⟨0,0,0⟩ m s.blk FP0 F [] Sl.nil :=
  ⟨⟨(hP.pure E2).pure E3,hR.pure E3,hK,fun b hb=>by have:=hsb b hb;omega,by omega,fun b hb=>by have h1:=hP.lt hb;exact ⟨by omega,fun hh=>by have:=hsb b hh;omega,fun hh=>by have:=hF b hh;omega,by omega⟩,fun b hb=>by have:=hF b hb;exact ⟨by omega,fun hh=>by have:=hsb b hh;omega⟩,by omega,fun hh=>by have:=hsb _ hh;omega⟩,(E1.trans E2).trans E3,hFP,by omega,Rws.nil _ _ _,fun b hb=>(hnil b hb).elim⟩
 refine ⟨fun pl Hl w=>∃(L:Sp.Pool) (r:Rd) (ps:List Nat) (FP:NP) (n:Nat),Hl=None∧ReAt w0 w q a s bs L r m s.blk FP F ps pl∧Sp.Wf L∧ps.length=L.length∧ps.length≤r.at_∧r.at_≤bs.length∧r.err=0∧bs.length - r.at_≤n∧jKY bs n L r ps=qI bs,fun pl _=>bs.length+1 - pl.len,⟨[],⟨0,0,0⟩,[],FP0,bs.length,rfl,R3,Sp.Wf.nil,rfl,Nat.zero_le _,Nat.zero_le _,rfl,Nat.le_refl _,htxt.symm⟩,?_⟩
 rintro pl _ wl _ ⟨L,r,ps,FP,n,rfl,hRe,hW,hps,hpr,hra,hre,hn,hgo⟩
 unfold m_R1_l1
 have hpl:pl.len=ps.length:=by rw [hRe.rows.len,tR,List.length_map]
 refine (c_Left a s bs r wl hRe.st.rd hra).mono ?_
 rintro _ w4 ⟨_,rfl,rfl,E4⟩
 refine ⟨_,rfl,E4.keptP,fun hc3=>?_,fun hc3=>?_⟩
 ·have hlt:r.at_<bs.length:=by have:=of_decide_eq_true hc3;omega
  obtain ⟨n,rfl⟩:∃k,n=k+1:=⟨n - 1,by omega⟩
  rw [jKY,if_pos hlt] at hgo
  have S4:=hRe.st.pure E4
  refine (c_At a s bs r w4 S4.rd).mono ?_
  rintro _ _ ⟨_,rfl,rfl,rfl⟩
  refine ⟨_,rfl,Kept.refl _,?_⟩
  refine (jQW q a s bs r m S4 hW.ok hlt hre).mono ?_
  rintro _ w6 ⟨_,rfl,rfl,F',hP6,hR6,E6,hF6⟩
  have z4:=E4.size;have z6:=E6.size
  have E06:Pure w0 w6:=(hRe.pure.trans E4).trans' E6 (fun i hi hh=>hh.elim (fun hh=>by have:=hRe.oP i hh;omega) (fun hh=>by have:=hRe.oa;omega))
  refine ⟨_,rfl,E6.kept (fun b hb=>hb.elim),fun hc4=>?_,fun hc4=>?_⟩
  ·have h0:(vT bs L r).2.1≠0:=bne_iff_ne.1 hc4
   rw [if_pos h0] at hgo
   exact bad _ _ _ hgo.symm E06
  ·have h0:(vT bs L r).2.1=0:=by simpa using hc4
   rw [if_neg (by simpa using h0)] at hgo
   obtain ⟨a1,a2,a3⟩:=jIU bs L r hlt hre h0
   have hw6:Sp.Wf (vT bs L r).1∧(vT bs L r).1.length=L.length+1:=by
    rw [jCC bs L r hlt hre] at h0 ⊢;split at h0
    ·rename_i hk;rw [if_pos hk];obtain ⟨_,_,e3,e4,e5⟩:=jFG h0;rw [e5];simp only;refine ⟨Sp.jFL hW _,?_⟩;have hc:=(Sp.jCH e4).2.2;unfold Sp.make at e4 ⊢;simp only [e3] at e4 ⊢;rw [if_neg (by rw [hc];simp)] at e4 ⊢;split at e4
     ·simp at e4
     ·rename_i hf;rw [if_neg hf];simp
    ·simp at h0
   intro p1 w7 n7
   have E7:Pure w6 w7:=Ext.new n7
   have z7:=E7.size
   have R7:Rws w7 3 1 pl (tmr (ps.map Int.ofNat)):=((hRe.rows.pure E4).ext E6 (fun b hb hh=>hh.elim (hRe.own b hb).2.1 (hRe.own b hb).2.2.1)).pure E7
   obtain ⟨s1,w8,hr8,hR8,hE8,hb8⟩:=R7.append (P:=prog) (ty:=50) (c:=1) jEW (Box.of_newA n7).row rfl rfl (by rw [tR,List.length_map];omega) (by rw [tR,List.length_map];simp only [maxLen];omega)
   have hpw:∀b,pl.blk b→b<wl.heap.size:=fun b hb=>hRe.rows.lt hb
   have z8:=hE8.size
   have E08:Pure w0 w8:=(E06.trans E7).trans' hE8 (fun i hi hh=>by have:=(hRe.own i hh).1;omega)
   have hnew:∀b,F' b→¬ pl.blk b:=fun b hb hh=>(hF6 b hb).elim (fun h=>(hRe.own b hh).2.1 h) (fun h=>by have:=hpw b hh;omega)
   have S0:=S4
   have S8:StAt w8 q a s bs (vT bs L r).1 (vT bs L r).2.2 m s.blk F' F:=by
    refine ⟨(hP6.pure E7).ext hE8 hnew,(hR6.pure E7).ext hE8 (fun b hb hh=>(hRe.own b hh).2.2.2.1 hb) (fun hh=>(hRe.own _ hh).2.2.1 rfl),((S0.kinds.ext E6 (fun b hb hh=>?_)).pure E7).ext hE8 (fun b hb hh=>?_),fun b hb=>by have:=S0.lS b hb;omega,by have:=S0.la;omega,fun b hb=>?_,S0.dF,S0.dm⟩
    ·rcases hb with hb | rfl
     ·exact hh.elim (fun hh=>(S0.dP b hh).2.2.1 hb) (fun hh=>(S0.dF b hb).1 hh)
     ·exact hh.elim (fun hh=>(S0.dP _ hh).2.2.2 rfl) (fun hh=>S0.dm.1 hh)
    ·rcases hb with hb | rfl
     ·exact (hRe.own b hh).2.2.2.2.1 hb
     ·exact (hRe.own _ hh).2.2.2.2.2 rfl
    ·rcases hF6 b hb with h | h
     ·exact S0.dP b h
     ·exact ⟨by have:=S0.la;omega,fun hh=>by have:=S0.lS b hh;omega,fun hh=>by have:=S0.kinds.lt b hh;omega,by have:=S0.kinds.mlt;omega⟩
   refine ⟨s1,w8,hr8,hE8.kept (fun b hb=>hb.elim),⟨(vT bs L r).1,(vT bs L r).2.2,ps++[r.at_],F',n,rfl,⟨S8,E08,fun b hb=>(hF6 b hb).elim (hRe.oP b) (fun h=>by have:=hRe.pure.size;omega),hRe.oa,?_,fun b hb=>?_⟩,hw6.1,by rw [List.length_append,List.length_singleton,hw6.2];omega,by rw [List.length_append,List.length_singleton];omega,a2,a3,by omega,hgo⟩,?_⟩
   ·have:tmr ((ps++[r.at_]).map Int.ofNat)=tmr (ps.map Int.ofNat)++[[.int .i64 (r.at_:Int)]]:=by simp [tmr]
    rw [this];exact hR8
   ·rcases hb8 b hb with h | h
    ·have:=hRe.own b h
     exact ⟨this.1,fun hh=>hnew b hh h,this.2.2⟩
    ·have h1:=hRe.pure.size
     exact ⟨by omega,fun hh=>by have:=hP6.lt hh;omega,by have:=S0.la;omega,fun hh=>by have:=S0.lS b hh;omega,fun hh=>by have:=S0.kinds.lt b hh;omega,by have:=S0.kinds.mlt;omega⟩
   ·have h1:s1.len=ps.length+1:=by rw [hR8.len,List.length_append,tR,List.length_map];rfl
    show bs.length+1 - s1.len<bs.length+1 - pl.len
    omega
 ·have hge:¬ r.at_<bs.length:=by have:=of_decide_eq_false hc3;omega
  rw [jMM hge] at hgo
  intro p2 w9 n9
  have E9:Pure w4 w9:=Ext.new n9
  have B9:=Box.of_newA n9
  have b9:=n9.at_size
  refine ⟨B9.canW0 (by simp),id,?_⟩
  rintro w10 e10
  have X10:Ext (·=p2.block) w9 w10:=by rw [e10];exact Ext.setCell _ _
  have B10:Box w10 p2 [.int .i64 0] 3:=by rw [e10];exact B9.set0
  have z4:=E4.size;have z9:=E9.size;have z10:=X10.size
  have E4':Pure wl w10:=(E4.trans E9).own (by omega) X10
  have zw:=hRe.pure.size
  have P10:=hRe.st.pool.pure E4'
  have R10:=hRe.rows.pure E4'
  refine (jAO q w10 P10).mono ?_
  rintro _ w10 ⟨_,rfl,rfl,rfl⟩
  refine ⟨_,rfl,Kept.refl _,?_⟩
  refine (jRH q L.length w10).mono ?_
  rintro _ w12 ⟨_,rfl,q2,q3,rfl,Bq2,Bq3,E12⟩
  have z12:=E12.size
  refine ⟨_,rfl,E12.keptP,_,_,rfl,call198,_,_,jLL hW (P10.pure E12) Bq2 Bq3,?_⟩
  have hfew:=Sp.jBW hW L.length
  have hlf:=hW.ok.few
  unfold jDV at hgo
  simp only at hgo
  generalize hxs:Sp.subs L L.length=xs at *
  have E012:Pure w0 w12:=(hRe.pure.trans E4').trans E12
  have vb:∀b,(b=p2.block∨FP b∨pl.blk b)→w0.heap.size≤b:=fun b hb=>hb.elim (fun h=>by omega) (fun hb=>hb.elim (hRe.oP b) (fun h=>(hRe.own b h).1))
  have dP2:¬ FP p2.block∧¬ pl.blk p2.block:=⟨fun hh=>by have:=hRe.st.pool.lt hh;omega,fun hh=>by have:=hRe.rows.lt hh;omega⟩
  refine ⟨fun pre Y A=>Box A p2 [.int .i64 (pre.length:Int)] 3∧inRow 0 pre=pre.length∧zT A q L FP∧Rws A 3 1 pl (tmr (ps.map Int.ofNat))∧(∀b,(b=p2.block∨FP b∨pl.blk b)→¬ Y b)∧Pure w0 A,
   fun pre Y A=>Box A p2 [.int .i64 (inRow 0 xs:Int)] 3∧zT A q L FP∧Rws A 3 1 pl (tmr (ps.map Int.ofNat))∧(∀b,(b=p2.block∨FP b∨pl.blk b)→¬ Y b)∧Pure w0 A,⟨fun _ _ _ _=>trivial,?_,?_,fun _ _ _ _ _ h=>h.elim⟩,?_,?_,?_⟩
  ·rintro pre Y A Y' A' ⟨g1,g2,g3,g4,g5,g6⟩ hst
   have hv:∀b,(b=p2.block∨FP b∨pl.blk b)→¬ Y' b:=hst.disj (fun b hb=>⟨hb.elim (fun e=>e▸g1.lt) (fun hb=>hb.elim (fun h=>g3.lt h) (fun h=>g4.lt h)),g5 b hb⟩)
   exact ⟨g1.ext hst.ext (hv _ (.inl rfl)),g2,g3.ext hst.ext (fun b hb=>hv b (.inr (.inl hb))),g4.ext hst.ext (fun b hb=>hv b (.inr (.inr hb))),hv,g6.hst hst⟩
  ·rintro pre Y A Y' A' ⟨g1,g3,g4,g5,g6⟩ hst
   have hv:∀b,(b=p2.block∨FP b∨pl.blk b)→¬ Y' b:=hst.disj (fun b hb=>⟨hb.elim (fun e=>e▸g1.lt) (fun hb=>hb.elim (fun h=>g3.lt h) (fun h=>g4.lt h)),g5 b hb⟩)
   exact ⟨g1.ext hst.ext (hv _ (.inl rfl)),g3.ext hst.ext (fun b hb=>hv b (.inr (.inl hb))),g4.ext hst.ext (fun b hb=>hv b (.inr (.inr hb))),hv,g6.hst hst⟩
  ·exact ⟨B10.pure E12,rfl,P10.pure E12,R10.pure E12,fun _ _ h=>h,E012⟩
  ·rintro pre z Y A ⟨g1,g2,g3,g4,g5,g6⟩ hsA ⟨post,hpost⟩
   have hpl2:pre.length<65536:=by have:=congrArg List.length hpost;simp only [List.length_append,List.length_cons] at this;omega
   have hw:IntKind.i64.wrap ((pre.length:Int)+1)=((pre.length+1:Nat):Int):=vE (n:=pre.length+1) (by omega) (by omega)
   refine ⟨_,g1.cell0,fun hc=>?_,fun hc=>?_⟩
   ·have hc:z≠((pre.length+1:Nat):Int):=by rw [hw] at hc;exact bne_iff_ne.1 hc
    have hst:=jOB pre 0 z post (by omega) (by omega)
    rw [← hpost,Nat.zero_add] at hst
    exact ⟨Kept.refl _,by rw [hst];exact g1,g3,g4,g5,g6⟩
   ·have hc:z=((pre.length+1:Nat):Int):=by rw [hw] at hc;simpa using hc
    have hsn:=jOC pre 0 z (by omega)
    rw [if_pos (by omega)] at hsn
    refine ⟨_,g1.cell0,g1.canW0 (by simp),id,?_⟩
    rintro w13 e13
    have X13:Ext (·=p2.block) A w13:=by rw [e13];exact Ext.setCell _ _
    have B13:Box w13 p2 [.int .i64 ((pre++[z]).length:Int)] 3:=by
     rw [e13,List.length_append,List.length_singleton,← hw];exact g1.set0
    exact ⟨X13.kept (fun b hb e=>g5 b (.inl e) hb),B13,by rw [hsn,List.length_append,List.length_singleton];omega,g3.ext X13 (fun b hb e=>dP2.1 (e▸hb)),g4.ext X13 (fun b hb e=>dP2.2 (e▸hb)),g5,g6.trans' X13 (fun i hi e=>by omega)⟩
  ·rintro H1 w14 hs14 _ _ hI
   have hI:Box w14 p2 [.int .i64 (inRow 0 xs:Int)] 3∧zT w14 q L FP∧Rws w14 3 1 pl (tmr (ps.map Int.ofNat))∧(∀b,(b=p2.block∨FP b∨pl.blk b)→¬ H1 b)∧Pure w0 w14:=by
    rcases hI with ⟨g1,g2,g3,g4,g5,g6⟩ | ⟨_,g1,g3,g4,g5,g6⟩
    ·exact ⟨by rw [g2];exact g1,g3,g4,g5,g6⟩
    ·exact ⟨g1,g3,g4,g5,g6⟩
   obtain ⟨g1,g3,g4,g5,g6⟩:=hI
   refine ⟨_,g1.cell0,fun hc=>?_,fun hc=>?_⟩
   ·have hc:=uC hpl hc
    rw [dif_pos hc] at hgo
    intro w15 hs15
    have hv15:∀b,(b=p2.block∨FP b∨pl.blk b)→¬ H1 b:=g5
    have g1':=g1.ext hs15.ext (hv15 _ (.inl rfl))
    have g4':=g4.ext hs15.ext (fun b hb=>hv15 b (.inr (.inr hb)))
    obtain ⟨a1,hat,_,hv5⟩:=jPF g4'.lst (j:=inRow 0 xs) (by simpa using hc)
    refine ⟨_,g1'.cell0,a1,hat,_,hv5,fun w16 hs16=>?_⟩
    have:=bad _ _ w16 hgo.symm ((g6.hst hs15).hst hs16)
    rw [List.getElem_map]
    exact this
   ·have hc:¬ inRow 0 xs<ps.length:=by have:=of_decide_eq_false hc;omega
    rw [dif_neg hc] at hgo
    intro w17 hs17
    have hF17:zT w17 q L FP:=g3.ext hs17.ext (fun b hb=>g5 b (.inr (.inl hb)))
    rw [← hgo]
    exact ⟨rfl,rfl,⟨fun q' hq'=>by rw [← hgo] at hq';cases hq';exact ⟨q,FP,rfl,hF17,hRe.oP⟩,fun hn=>by rw [← hgo] at hn;cases hn⟩,g6.hst hs17⟩
theorem jRL.pool {w0 w':World} {bs:List UInt8} {x:Option Addr} (h:jRL w0 w' bs x) {q:Sp.Pool} (hq:(qI bs).1=some q):∃p F,x=some p∧zT w' p q F∧∀b,F b→w0.heap.size≤b:=h.1 q hq
end Go.Proofs
end
section
open Go Go.SE
namespace Go.Sp
open Go.Proofs
theorem jGV (Lq:Pool):∀(l1 l2:List Int) (L:Pool) (own:Int→Int),vK Lq (l1++l2) L own=if (vK Lq l1 L own).2.1≠0 then vK Lq l1 L own else vK Lq l2 (vK Lq l1 L own).1 (vK Lq l1 L own).2.2:=by
 intro l1;induction l1 with
 | nil=>intro l2 L own;rw [List.nil_append];exact (if_neg (fun h=>h rfl)).symm
 | cons z l1 ih =>
  intro l2 L own
  obtain ⟨x,e,L',hm⟩:∃x e L',make L { nodeOf Lq z with a:=own (nodeOf Lq z).a,b:=own (nodeOf Lq z).b }=(x,e,L'):=⟨_,_,_,rfl⟩
  rw [List.cons_append,yX Lq z (l1++l2) L own rfl hm,yX Lq z l1 L own rfl hm]
  by_cases he:e≠0
  ·rw [if_pos he,if_pos he,if_pos he]
  ·rw [if_neg he,if_neg he,ih]
theorem jJQ (Lq:Pool):∀(l:List Int) (L:Pool) (own:Int→Int),∃M,(vK Lq l L own).1=L++M:=by
 intro l;induction l with
 | nil=>intro L own;exact ⟨[],(List.append_nil L).symm⟩
 | cons z l ih =>
  intro L own
  obtain ⟨x,e,L',hm⟩:∃x e L',make L { nodeOf Lq z with a:=own (nodeOf Lq z).a,b:=own (nodeOf Lq z).b }=(x,e,L'):=⟨_,_,_,rfl⟩
  rw [yX Lq z l L own rfl hm]
  split
  ·exact ⟨[],by simp⟩
  ·obtain ⟨M1,e1⟩:=jEI L { nodeOf Lq z with a:=own (nodeOf Lq z).a,b:=own (nodeOf Lq z).b }
   rw [hm] at e1
   obtain ⟨M2,e2⟩:=ih L' (fun y=>if y=z then x else own y)
   simp only at e1
   exact ⟨M1++M2,by rw [e2,e1,List.append_assoc]⟩
theorem jQR {Lq:Pool}:∀(l:List Int) (L:Pool) (own:Int→Int),Wf L→Wf (vK Lq l L own).1:=by
 intro l;induction l with
 | nil=>intro L own h;exact h
 | cons z l ih =>
  intro L own h
  obtain ⟨x,e,L',hm⟩:∃x e L',make L { nodeOf Lq z with a:=own (nodeOf Lq z).a,b:=own (nodeOf Lq z).b }=(x,e,L'):=⟨_,_,_,rfl⟩
  have hw:=jFL h { nodeOf Lq z with a:=own (nodeOf Lq z).a,b:=own (nodeOf Lq z).b }
  rw [yX Lq z l L own rfl hm]
  rw [hm] at hw
  split
  ·exact h
  ·exact ih _ _ hw
theorem jLR {Lq:Pool} {l post:List Int} {z:Int} {L:Pool} {own:Int→Int} (h0:(vK Lq l L own).2.1=0) {n:Node} (hn:{ nodeOf Lq z with a:=(vK Lq l L own).2.2 (nodeOf Lq z).a,b:=(vK Lq l L own).2.2 (nodeOf Lq z).b }=n) (he:(make (vK Lq l L own).1 n).2.1≠0) :
  (vK Lq (l++z :: post) L own).2.1=(make (vK Lq l L own).1 n).2.1:=by
 obtain ⟨x,e,L',hm⟩:∃x e L',make (vK Lq l L own).1 n=(x,e,L'):=⟨_,_,_,rfl⟩
 rw [hm] at he ⊢
 rw [jGV,if_neg (by rw [h0];exact fun h=>h rfl),yX Lq z post _ _ hn hm,if_pos he]
theorem jLQ {Lq:Pool} {l:List Int} {z:Int} {L:Pool} {own:Int→Int} (h0:(vK Lq l L own).2.1=0) {n:Node} (hn:{ nodeOf Lq z with a:=(vK Lq l L own).2.2 (nodeOf Lq z).a,b:=(vK Lq l L own).2.2 (nodeOf Lq z).b }=n) (he:(make (vK Lq l L own).1 n).2.1=0) :
  vK Lq (l++[z]) L own=((make (vK Lq l L own).1 n).2.2,0,fun x=>if x=z then (make (vK Lq l L own).1 n).1 else (vK Lq l L own).2.2 x):=by
 obtain ⟨x,e,L',hm⟩:∃x e L',make (vK Lq l L own).1 n=(x,e,L'):=⟨_,_,_,rfl⟩
 rw [hm] at he ⊢
 rw [jGV,if_neg (by rw [h0];exact fun h=>h rfl),yX Lq z [] _ _ hn hm,if_neg (fun h=>h he)]
 rfl
end Go.Sp
namespace Go.Proofs
open Tryz
attribute [local irreducible] Calls CallsD
theorem jMW {w:World} {a:Addr} {k:Nat} {v:Value}:Ext (·=a.block) w (w.setCell (a.add k) v):=(Ext.setCell _ _).mono (fun i _ e=>by rw [zU] at e;exact e)
def ownM (M:List (Int×Int)) (x:Int):Int:=(SE.look M x).getD 0
def CoV (p2 p3 p4 p5 p6 p8:Addr) (mb:Nat) (F' FQ:NP) (b:Nat):Prop:=b=p2.block∨b=p3.block∨b=p4.block∨b=p5.block∨b=p6.block∨b=p8.block∨b=mb∨F' b∨FQ b
structure CoB (A:World) (p q p2 p3 p4 p5 p6 p8:Addr) (mb n:Nat):Prop where
 b2:Box A p2 [.pointer (some p)] 29
 b3:Box A p3 [.pointer (some q)] 29
 b4:Box A p4 [.int .i64 0] 23
 b5:Box A p5 [.int .i64 0] 33
 b6:Box A p6 [.int .i64 (n:Int)] 3
 b8:Box A p8 [.map (some mb)] 233
theorem CoB.ext {A A':World} {p q p2 p3 p4 p5 p6 p8:Addr} {mb n:Nat} {F' FQ G:NP} (h:CoB A p q p2 p3 p4 p5 p6 p8 mb n) (E:Ext G A A') (hG:∀b,(b=p2.block∨b=p3.block∨b=p4.block∨b=p5.block∨b=p6.block∨b=p8.block)→¬ G b):CoB A' p q p2 p3 p4 p5 p6 p8 mb n :=
 ⟨h.b2.ext E (hG _ (.inl rfl)),h.b3.ext E (hG _ (.inr (.inl rfl))),h.b4.ext E (hG _ (.inr (.inr (.inl rfl)))),h.b5.ext E (hG _ (.inr (.inr (.inr (.inl rfl))))),h.b6.ext E (hG _ (.inr (.inr (.inr (.inr (.inl rfl)))))),h.b8.ext E (hG _ (.inr (.inr (.inr (.inr (.inr rfl))))))⟩
theorem CoB.pure {A A':World} {p q p2 p3 p4 p5 p6 p8:Addr} {mb n:Nat} (h:CoB A p q p2 p3 p4 p5 p6 p8 mb n) (E:Pure A A'):CoB A' p q p2 p3 p4 p5 p6 p8 mb n:=h.ext (F':=None) (FQ:=None) E (fun _ _ h=>h)
theorem CoB.lt {A:World} {p q p2 p3 p4 p5 p6 p8:Addr} {mb n b:Nat} (h:CoB A p q p2 p3 p4 p5 p6 p8 mb n) (hb:b=p2.block∨b=p3.block∨b=p4.block∨b=p5.block∨b=p6.block∨b=p8.block):b<A.heap.size:=by
 rcases hb with rfl | rfl | rfl | rfl | rfl | rfl
 ·exact h.b2.lt
 ·exact h.b3.lt
 ·exact h.b4.lt
 ·exact h.b5.lt
 ·exact h.b6.lt
 ·exact h.b8.lt
theorem c_Copy (p q:Addr) (t:Int) (w0:World) {L Lq:Sp.Pool} {FP FQ:NP} (hW:Sp.Wf L) (hQ:Sp.Wf Lq) (hP:zT w0 p L FP) (hPQ:zT w0 q Lq FQ) (hd:∀b,FP b→¬ FQ b) :
  Calls prog 122 #[.pointer (some p),.pointer (some q),.int .i64 t] w0 (fun e w'=>∃r1 r2:Int,e=.returned (.tuple #[.int .i64 r1,.int .i64 r2])∧(r1=(uG L Lq t).1∧r2=(uG L Lq t).2.1∧∃F',zT w' p (uG L Lq t).2.2 F'∧Ext FP w0 w'∧∀b,F' b→FP b∨w0.heap.size≤b)):=by
 refine w_U4 _ _ _ w0 (fun r1 r2 w'=>r1=(uG L Lq t).1∧r2=(uG L Lq t).2.1∧∃F',zT w' p (uG L Lq t).2.2 F'∧Ext FP w0 w'∧∀b,F' b→FP b∨w0.heap.size≤b) ?_
 unfold m_U4
 intro p2 w1 n2 p3 w2 n3 p4 w3 n4 p5 w4 n5
 have E1:Pure w0 w1:=Ext.new n2
 have E2:Pure w1 w2:=Ext.new n3
 have E3:Pure w2 w3:=Ext.new n4
 have E4:Pure w3 w4:=Ext.new n5
 have B2:=(((Box.of_newA n2).pure E2).pure E3).pure E4
 have B3:=((Box.of_newA n3).pure E3).pure E4
 have B4:=(Box.of_newA n4).pure E4
 have B5:=Box.of_newA n5
 have b2:=n2.at_size;have b3:=n3.at_size;have b4:=n4.at_size;have b5:=n5.at_size
 have z1:=E1.size;have z2:=E2.size;have z3:=E3.size;have z4:=E4.size
 have l1:=(Box.of_newA n2).lt;have l2:=(Box.of_newA n3).lt;have l3:=(Box.of_newA n4).lt;have l4:=B5.lt
 have E04:Pure w0 w4:=((E1.trans E2).trans E3).trans E4
 refine ⟨some p,B2.cell0,fun hc=>(by cases hc),fun _=>⟨some q,B3.cell0,?_⟩⟩
 refine (c_in q t w4 (hPQ.pure E04)).mono ?_
 rintro _ _ ⟨_,rfl,rfl,rfl⟩
 refine ⟨_,rfl,Kept.refl _,fun hc=>?_,fun hc=>?_⟩
 ·have hin:Sp.inP Lq t=false:=by simpa using hc
  have e:uG L Lq t=(0,51,L):=by unfold uG;rw [if_neg (by rw [hin];simp)]
  rw [e]
  refine ⟨B4.canW0 (by simp),id,?_⟩
  rintro w8 e8
  have X8:Ext (·=p4.block) w4 w8:=by rw [e8];exact Ext.setCell _ _
  have B48:Box w8 p4 [.int .i64 0] 23:=by rw [e8];exact B4.set0
  have B58:=B5.ext X8 (by omega)
  refine ⟨B58.canW0 (by simp),id,?_⟩
  rintro w9 e9
  have X9:Ext (·=p5.block) w8 w9:=by rw [e9];exact Ext.setCell _ _
  have B59:Box w9 p5 [.int .i64 51] 33:=by rw [e9];exact B58.set0
  have B49:=B48.ext X9 (by omega)
  refine ⟨_,B49.cell0,_,B59.cell0,rfl,rfl,FP,((hP.pure E04).ext X8 (fun b hb e=>by have:=hP.lt hb;omega)).ext X9 (fun b hb e=>by have:=hP.lt hb;omega),Ext.pure ((E04.own (by omega) X8).own (by omega) X9),fun b hb=>.inl hb⟩
 have hin:Sp.inP Lq t=true:=by simpa using hc
 obtain ⟨sl,hsl,hsll⟩:∃v4:Sl,w4.cell? p=some v4.v∧v4.len=L.length:=by
  obtain ⟨s,m,h,_⟩:=hP.pure E04;exact ⟨s,h.box.cell0,by rw [h.rows.len,List.length_map]⟩
 refine ⟨some p,B2.cell0,p,rfl,sl,hsl,?_⟩
 rw [hsll]
 intro p6 w10 n6
 have E10:Pure w4 w10:=Ext.new n6
 have B6:=Box.of_newA n6
 have b6:=n6.at_size
 refine ⟨B6.canW0 (by simp),id,?_⟩
 rintro w11 e11
 have X11:Ext (·=p6.block) w10 w11:=by rw [e11];exact Ext.setCell _ _
 have B6':Box w11 p6 [.int .i64 (L.length:Int)] 3:=by rw [e11];exact B6.set0
 intro p7 w12 n7
 have E12:Pure w11 w12:=Ext.new n7
 have M7:=IMap.of_new (f:=fun i:Int=>.int .i64 i) n7
 have b7:=n7.at_size
 intro p8 w13 n8
 have E13:Pure w12 w13:=Ext.new n8
 have B8:=Box.of_newA n8
 have b8:=n8.at_size
 refine ⟨B8.canW0 (by simp),id,?_⟩
 rintro w14 e14
 have X14:Ext (·=p8.block) w13 w14:=by rw [e14];exact Ext.setCell _ _
 have B8':Box w14 p8 [.map (some p7.block)] 233:=by rw [e14];exact B8.set0
 have z10:=E10.size;have z11:=X11.size;have z12:=E12.size;have z13:=E13.size;have z14:=X14.size
 have l6:=B6'.lt;have l7:=M7.lt;have l8:=B8.lt
 have E07:Pure w0 w14:=((((E04.trans E10).own (by omega) X11).trans E12).trans E13).own (by omega) X14
 have up:∀{T:TypeId} {c:Addr} {vs:List Value},Box w4 c vs T→c.block≠p6.block→c.block≠p8.block→Box w14 c vs T:=fun h h1 h2=>((((h.pure E10).ext X11 h1).pure E12).pure E13).ext X14 h2
 have C14:CoB w14 p q p2 p3 p4 p5 p6 p8 p7.block L.length:=⟨up B2 (by omega) (by omega),up B3 (by omega) (by omega),up B4 (by omega) (by omega),up B5 (by omega) (by omega),((B6'.pure E12).pure E13).ext X14 (by omega),B8'⟩
 have M14:=(M7.pure E13).ext X14 (by omega)
 refine ⟨some q,C14.b3.cell0,?_⟩
 refine (jRH q t w14).mono ?_
 rintro _ w15 ⟨_,rfl,q2,q3,rfl,Bq2,Bq3,E15⟩
 have E015:=E07.trans E15
 have z15:=E15.size
 refine ⟨_,rfl,E15.keptP,_,_,rfl,call198,_,_,jLL hQ (hPQ.pure E015) Bq2 Bq3,?_⟩
 have hfew:=Sp.jBW hQ t
 have hlq:=hQ.ok.few
 have hsub:∀u∈Sp.subs Lq t,Sp.inP Lq u=true:=fun u hu=>jPG hQ hu
 have hnd:=Sp.jGM hQ t
 generalize hcs:uG L Lq t=cs at *
 have hcs':cs=if (vK Lq (Sp.subs Lq t) L (fun _=>0)).2.1≠0 then (0,(vK Lq (Sp.subs Lq t) L (fun _=>0)).2.1,L) else ((vK Lq (Sp.subs Lq t) L (fun _=>0)).2.2 t,0,(vK Lq (Sp.subs Lq t) L (fun _=>0)).1):=by rw [← hcs];unfold uG;rw [if_pos hin]
 have htin:t∈Sp.subs Lq t:=jMD hQ hin
 generalize Sp.subs Lq t=xs at *
 have C15:=C14.pure E15
 have M15:=M14.pure E15
 have o2:w0.heap.size≤p2.block:=by omega
 have o3:w0.heap.size≤p3.block:=by omega
 have o4:w0.heap.size≤p4.block:=by omega
 have o5:w0.heap.size≤p5.block:=by omega
 have o6:w0.heap.size≤p6.block:=by omega
 have o8:w0.heap.size≤p8.block:=by omega
 have om:w0.heap.size≤p7.block:=by omega
 have d45:p4.block≠p5.block:=by omega
 have dm:∀b,(b=p2.block∨b=p3.block∨b=p4.block∨b=p5.block∨b=p6.block∨b=p8.block)→b≠p7.block:=fun b hb=>by rcases hb with rfl | rfl | rfl | rfl | rfl | rfl <;> omega
 have ob:∀b,(b=p2.block∨b=p3.block∨b=p4.block∨b=p5.block∨b=p6.block∨b=p8.block∨b=p7.block)→w0.heap.size≤b∧b<w15.heap.size:=fun b hb=>by rcases hb with rfl | rfl | rfl | rfl | rfl | rfl | rfl <;> omega
 generalize p7.block=mb at *
 clear up B2 B3 B4 B5 B6 B6' B8 B8' M7 M14 C14 n2 n3 n4 n5 n6 n7 n8 X11 X14 E10 E12 E13 e11 e14 Bq2 Bq3 hsl
 have hPq:∀b,FQ b→b<w0.heap.size:=fun b hb=>hPQ.lt hb
 refine ⟨fun pre Y A=>∃(F':NP) (M:List (Int×Int)),(vK Lq pre L (fun _=>0)).2.1=0∧zT A p (vK Lq pre L (fun _=>0)).1 F'∧IMap (fun i:Int=>.int .i64 i) A mb M∧M.map Prod.fst=pre∧(∀x,(vK Lq pre L (fun _=>0)).2.2 x=ownM M x)∧CoB A p q p2 p3 p4 p5 p6 p8 mb L.length∧zT A q Lq FQ∧(∀b,F' b→FP b∨(w0.heap.size≤b∧¬ (b=p2.block∨b=p3.block∨b=p4.block∨b=p5.block∨b=p6.block∨b=p8.block∨b=mb)))∧(∀b,CoV p2 p3 p4 p5 p6 p8 mb F' FQ b→¬ Y b)∧Ext FP w0 A∧w15.heap.size≤A.heap.size,
  fun pre Y A=>∃(F':NP) (e:Int),cs=(0,e,L)∧zT A p L F'∧Box A p4 [.int .i64 0] 23∧Box A p5 [.int .i64 e] 33∧(∀b,F' b→FP b∨w0.heap.size≤b)∧(∀b,(b=p4.block∨b=p5.block∨F' b)→¬ Y b)∧Ext FP w0 A,⟨fun _ _ _ _=>trivial,?_,fun _ _ _ _ _ h=>h.elim,?_⟩,?_,?_,?_,?_⟩
 ·rintro pre Y A Y' A' ⟨F',M,g1,g2,g3,g4,g5,g6,g7,g8,g9,g10,g11⟩ hst
  have hv:∀b,CoV p2 p3 p4 p5 p6 p8 mb F' FQ b→¬ Y' b:=hst.disj (fun b hb=>⟨by
   rcases hb with hb | hb | hb | hb | hb | hb | hb | hb | hb
   ·exact g6.lt (.inl hb)
   ·exact g6.lt (.inr (.inl hb))
   ·exact g6.lt (.inr (.inr (.inl hb)))
   ·exact g6.lt (.inr (.inr (.inr (.inl hb))))
   ·exact g6.lt (.inr (.inr (.inr (.inr (.inl hb)))))
   ·exact g6.lt (.inr (.inr (.inr (.inr (.inr hb)))))
   ·exact hb▸g3.lt
   ·exact g2.lt hb
   ·exact g7.lt hb,g9 b hb⟩)
  exact ⟨F',M,g1,g2.ext hst.ext (fun b hb=>hv b (.inr (.inr (.inr (.inr (.inr (.inr (.inr (.inl hb))))))))),g3.ext hst.ext (hv _ (.inr (.inr (.inr (.inr (.inr (.inr (.inl rfl)))))))),g4,g5,g6.ext (F':=F') (FQ:=FQ) hst.ext (fun b hb=>hv b (by rcases hb with h | h | h | h | h | h <;> simp only [CoV,h,true_or,or_true])),g7.ext hst.ext (fun b hb=>hv b (.inr (.inr (.inr (.inr (.inr (.inr (.inr (.inr hb))))))))),g8,hv,g10.hst hst,Nat.le_trans g11 hst.ext.size⟩
 ·rintro pre Y A Y' A' ⟨F',e,g1,g2,g3,g4,g5,g6,g7⟩ hst
  have hv:∀b,(b=p4.block∨b=p5.block∨F' b)→¬ Y' b:=hst.disj (fun b hb=>⟨by
   rcases hb with hb | hb | hb
   ·exact hb▸g3.lt
   ·exact hb▸g4.lt
   ·exact g2.lt hb,g6 b hb⟩)
  exact ⟨F',e,g1,g2.ext hst.ext (fun b hb=>hv b (.inr (.inr hb))),g3.ext hst.ext (hv _ (.inl rfl)),g4.ext hst.ext (hv _ (.inr (.inl rfl))),g5,hv,g7.hst hst⟩
 ·exact ⟨FP,[],rfl,hP.pure E015,M15,rfl,fun _=>rfl,C15,hPQ.pure E015,fun b hb=>.inl hb,fun _ _ h=>h,Ext.pure E015,Nat.le_refl _⟩
 ·rintro pre z Y A ⟨F',M,g1,g2,g3,g4,g5,g6,g7,g8,g9,g10,g11⟩ hsA ⟨post,hpost⟩
  have hzin:Sp.inP Lq z=true:=hsub z (by rw [hpost];simp)
  have hzn:z ∉ pre:=by
   rw [hpost] at hnd;have:=(List.nodup_append.1 hnd).2.2;exact fun h=>this z h z (by simp) rfl
  generalize hcg:vK Lq pre L (fun _=>0)=cg at *
  have hok:Sp.Ok cg.1:=by rw [← hcg];exact (Sp.jQR pre L _ hW).ok
  have hA0:=hsA.lt
  refine ⟨some q,g6.b3.cell0,?_⟩
  refine (jKF q z A g7 hQ.ok).mono ?_
  rintro _ w16 ⟨k,f,t',u,x,a,b,r3,rfl,⟨hn,_⟩,E16⟩
  have z16:=E16.size
  refine ⟨_,_,_,_,_,_,_,_,rfl,E16.kept (fun b hb=>hb.elim),?_⟩
  intro p9 w17 n9
  have E17:Pure w16 w17:=Ext.new n9
  have B9:=Box.of_newA n9
  have b9:=n9.at_size
  have z17:=E17.size
  refine ⟨B9.canWs (by simp),id,?_⟩
  rintro w18 e18
  have X18:Ext (·=p9.block) w17 w18:=by rw [e18];exact Ext.storeRow _ _ _
  have B18:Box w18 p9 (tF ⟨k,f,t',u,x,a,b⟩) 103:=by rw [e18];exact B9.store rfl
  have z18:=X18.size
  have l9:=B18.lt
  have keep:∀{G:NP} {w':World},Ext G A w'→(∀b,b<A.heap.size→¬ G b)→IMap (fun i:Int=>.int .i64 i) w' mb M∧CoB w' p q p2 p3 p4 p5 p6 p8 mb L.length∧zT w' q Lq FQ∧zT w' p cg.1 F':=fun {G w'} E hG =>
   ⟨g3.ext E (hG _ g3.lt),g6.ext (F':=F') (FQ:=FQ) E (fun b hb=>hG b (g6.lt hb)),g7.ext E (fun b hb=>hG b (g7.lt hb)),g2.ext E (fun b hb=>hG b (g2.lt hb))⟩
  have E18:Ext (·=p9.block) A w18:=(Ext.pure (E16.trans E17)).trans X18
  have hg9:∀b,b<A.heap.size→¬ (b=p9.block):=fun b hb e=>by omega
  have look:∀{w':World},IMap (fun i:Int=>.int .i64 i) w' mb M→∀y,(Instr.lookup 233 (.map (some mb)) (.int .i64 y) false).run prog w'=.ok (.int .i64 (cg.2.2 y)) w':=fun {w'} h y=>by
   rw [g5 y];rcases h.get (P:=prog) (T:=233) underlying233 underlying23 (zeroValue23 _) y false with ⟨hn,hr⟩ | ⟨v,hv,hr⟩
   ·unfold ownM;rw [hn];exact hr
   ·unfold ownM;rw [hv];exact hr
  refine ⟨fun w'=>w'.cell? p8=some (.map (some mb))∧IMap (fun i:Int=>.int .i64 i) w' mb M,?_,?_⟩
  ·obtain ⟨k1,k2,_,_⟩:=keep (E18.thenPure (Ext.drew w18)) hg9
   exact ⟨k2.b8.cell0,k1⟩
  rintro w19 e19
  have E19:Ext (·=p9.block) A w19:=by rw [e19];exact E18.thenPure (Ext.drew w18)
  have B19:Box w19 p9 (tF ⟨k,f,t',u,x,a,b⟩) 103:=by rw [e19];exact B18.pure (Ext.drew w18)
  obtain ⟨k1,k2,k3,k4⟩:=keep E19 hg9
  refine ⟨some mb,k2.b8.cell0,a,B19.cell (i:=5) rfl,_,look k1 a,some mb,fun w' h=>h.1,b,B19.cell (i:=6) rfl,_,fun w' h=>look h.2 b,B19.canW (i:=5) (by simp [tF]),id,?_⟩
  rintro w20 e20
  have X20:Ext (·=p9.block) w19 w20:=by rw [e20];exact jMW
  have B20:Box w20 p9 (tF ⟨k,f,t',u,x,cg.2.2 a,b⟩) 103:=by rw [e20];exact B19.set 5 _
  have E20:=E19.trans X20
  obtain ⟨k1',k2',_,_⟩:=keep E20 hg9
  refine ⟨⟨k2'.b8.cell0,k1'⟩,B20.canW (i:=6) (by simp [tF]),id,?_⟩
  rintro w21 e21
  have X21:Ext (·=p9.block) w20 w21:=by rw [e21];exact jMW
  have B21:Box w21 p9 (tF ⟨k,f,t',u,x,cg.2.2 a,cg.2.2 b⟩) 103:=by rw [e21];exact B20.set 6 _
  have E21:=E20.trans X21
  obtain ⟨m1,m2,m3,m4⟩:=keep E21 hg9
  have z21:=E21.size
  refine ⟨some p,m2.b2.cell0,k,f,t',u,x,cg.2.2 a,cg.2.2 b,B21.row,?_⟩
  have hnn:({ Sp.nodeOf Lq z with a:=cg.2.2 (Sp.nodeOf Lq z).a,b:=cg.2.2 (Sp.nodeOf Lq z).b }:Sp.Node)=⟨k,f,t',u,x,cg.2.2 a,cg.2.2 b⟩:=by rw [← hn]
  refine (jRJ p k f t' u x (cg.2.2 a) (cg.2.2 b) w21 m4 hok).mono ?_
  rintro _ w22 ⟨r4,r5,rfl,he,F2,hP2,E22,hF2⟩
  have he1:=congrArg Prod.fst he
  have he2:=congrArg Prod.snd he
  simp only at he1 he2
  have z22:=E22.size
  have hF'o:∀b,F' b→¬ (b=p2.block∨b=p3.block∨b=p4.block∨b=p5.block∨b=p6.block∨b=p8.block∨b=mb):=fun b hb hh=>(g8 b hb).elim (fun h=>by have:=hP.lt h;have:=(ob b hh).1;omega) (fun h=>h.2 hh)
  have n22:CoB w22 p q p2 p3 p4 p5 p6 p8 mb L.length:=m2.ext (F':=F') (FQ:=FQ) E22 (fun b hb hh=>hF'o b hh (by rcases hb with h | h | h | h | h | h <;> simp only [h,true_or,or_true]))
  have M22:=m1.ext E22 (fun hh=>hF'o _ hh (by simp))
  have Q22:=m3.ext E22 (fun b hb hh=>(g8 b hh).elim (fun h=>hd b h hb) (fun h=>by have:=hPq b hb;omega))
  have kY:Kept Y A w22:=(E21.kept (fun b hb e=>by have:=hA0 b hb;omega)).trans (E22.kept (fun b hb hh=>g9 b (.inr (.inr (.inr (.inr (.inr (.inr (.inr (.inl hh)))))))) hb))
  have E022:Ext FP w0 w22:=(g10.trans' E21 (fun i hi e=>by have:=g10.size;omega)).trans' E22 (fun i hi hh=>(g8 i hh).elim id (fun h=>by omega))
  have hF2o:∀b,F2 b→FP b∨(w0.heap.size≤b∧¬ (b=p2.block∨b=p3.block∨b=p4.block∨b=p5.block∨b=p6.block∨b=p8.block∨b=mb)):=fun b hb=>(hF2 b hb).elim (g8 b) (fun h=>.inr ⟨by have:=g10.size;omega,fun hh=>by have:=(ob b hh).2;omega⟩)
  have hF2Y:∀b,F2 b→¬ Y b:=fun b hb hY=>(hF2 b hb).elim (fun h=>g9 b (.inr (.inr (.inr (.inr (.inr (.inr (.inr (.inl h)))))))) hY) (fun h=>by have:=hA0 b hY;omega)
  refine ⟨r4,r5,rfl,E22.kept (fun b hb=>hb.elim),fun hc=>?_,fun hc=>?_⟩
  ·have h5:(Sp.make cg.1 ⟨k,f,t',u,x,cg.2.2 a,cg.2.2 b⟩).2.1≠0:=by rw [← he2];exact bne_iff_ne.1 hc
   have hfail:=@Sp.jLR Lq pre post z L (fun _=>0) (by rw [hcg];exact g1) ⟨k,f,t',u,x,cg.2.2 a,cg.2.2 b⟩ (by rw [hcg];exact hnn) (by rw [hcg];exact h5)
   rw [← hpost,hcg,← he2] at hfail
   have hcs2:cs=(0,r5,L):=by rw [hcs',hfail,if_pos (by rw [he2];exact h5)]
   refine ⟨some p,n22.b2.cell0,_,n22.b6.cell0,?_⟩
   obtain ⟨Mg,hMg⟩:=Sp.jJQ Lq pre L (fun _=>0)
   rw [hcg] at hMg
   have hmk:∃M2,(Sp.make cg.1 ⟨k,f,t',u,x,cg.2.2 a,cg.2.2 b⟩).2.2=cg.1++M2:=Sp.jEI _ _
   obtain ⟨M2,hM2⟩:=hmk
   rw [hM2,hMg,List.append_assoc] at hP2
   have hok2:Sp.Ok (L++(Mg++M2)):=by rw [← List.append_assoc,← hMg,← hM2];exact Sp.jLG hok _
   refine (c_cut p L.length w22 hP2 hok2 (by rw [List.length_append];omega)).mono ?_
   rintro _ w23 ⟨rfl,hP3,E23⟩
   rw [List.take_left] at hP3
   have n23:CoB w23 p q p2 p3 p4 p5 p6 p8 mb L.length:=n22.ext (F':=F') (FQ:=FQ) E23 (fun b hb hh=>(hF2o b hh).elim (fun h=>by have:=hP.lt h;have:=(ob b (by rcases hb with h | h | h | h | h | h <;> simp only [h,true_or,or_true])).1;omega) (fun h=>h.2 (by rcases hb with h | h | h | h | h | h <;> simp only [h,true_or,or_true])))
   refine ⟨rfl,E23.kept (fun b hb=>hb.elim),n23.b4.canW0 (by simp),id,?_⟩
   rintro w24 e24
   have X24:Ext (·=p4.block) w23 w24:=by rw [e24];exact Ext.setCell _ _
   have B24:Box w24 p4 [.int .i64 0] 23:=by rw [e24];exact n23.b4.set0
   have B25:=n23.b5.ext X24 (fun e=>d45 e.symm)
   refine ⟨B25.canW0 (by simp),id,?_⟩
   rintro w25 e25
   have X25:Ext (·=p5.block) w24 w25:=by rw [e25];exact Ext.setCell _ _
   have B25':Box w25 p5 [.int .i64 r5] 33:=by rw [e25];exact B25.set0
   have nF:∀b,F2 b→b≠p4.block∧b≠p5.block:=fun b hb=>(hF2o b hb).elim (fun h=>by have:=hP.lt h;omega) (fun h=>⟨fun e=>h.2 (.inr (.inr (.inl e))),fun e=>h.2 (.inr (.inr (.inr (.inl e))))⟩)
   have nY4:¬ Y p4.block:=g9 _ (.inr (.inr (.inl rfl)))
   have nY5:¬ Y p5.block:=g9 _ (.inr (.inr (.inr (.inl rfl))))
   refine ⟨((kY.trans (E23.kept (fun b hb hh=>hF2Y b hh hb))).trans (X24.kept (fun b hb e=>nY4 (e▸hb)))).trans (X25.kept (fun b hb e=>nY5 (e▸hb))),F2,r5,hcs2,(hP3.ext X24 (fun b hb e=>(nF b hb).1 e)).ext X25 (fun b hb e=>(nF b hb).2 e),B24.ext X25 d45,B25',fun b hb=>(hF2o b hb).imp id (fun h=>h.1),?_,((E022.trans' E23 (fun i hi hh=>(hF2o i hh).elim id (fun h=>by omega))).trans' X24 (fun i hi e=>by omega)).trans' X25 (fun i hi e=>by omega)⟩
   rintro b (rfl | rfl | hb)
   ·exact nY4
   ·exact nY5
   ·exact hF2Y b hb
  ·have h5:(Sp.make cg.1 ⟨k,f,t',u,x,cg.2.2 a,cg.2.2 b⟩).2.1=0:=by rw [← he2];simpa using hc
   have hnext:=@Sp.jLQ Lq pre z L (fun _=>0) (by rw [hcg];exact g1) ⟨k,f,t',u,x,cg.2.2 a,cg.2.2 b⟩ (by rw [hcg];exact hnn) (by rw [hcg];exact h5)
   rw [hcg,← he1] at hnext
   have hlk:SE.look M z=none:=tN.2 (by rw [g4];exact hzn)
   obtain ⟨w26,hr26,hM26,X26⟩:=M22.put (P:=prog) (T:=233) underlying233 underlying23 hlk r4
   have nm:∀b,F2 b→b≠mb:=fun b hb=>(hF2o b hb).elim (fun h=>by have:=hP.lt h;have:=(ob mb (by simp)).1;omega) (fun h e=>h.2 (by simp [e]))
   have nYm:¬ Y mb:=g9 _ (.inr (.inr (.inr (.inr (.inr (.inr (.inl rfl)))))))
   have hmbo:=(ob mb (by simp)).1
   refine ⟨some mb,n22.b8.cell0,w26,hr26,X26.kept (fun b hb=>hb.elim),kY.trans (X26.kept (fun b hb e=>nYm (e▸hb))),F2,M++[(z,r4)],by rw [hnext],by rw [hnext];exact hP2.ext X26 (fun b hb e=>nm b hb e),hM26,by simp [g4],?_,n22.ext (F':=F') (FQ:=FQ) X26 (fun b hb e=>dm b hb e),Q22.ext X26 (fun b hb e=>by have:=hPq b hb;omega),hF2o,?_,E022.trans' X26 (fun i hi e=>by omega),by have:=X26.size;omega⟩
   ·intro y
    rw [hnext]
    simp only
    unfold ownM
    rw [jQB (by rw [g4];exact hzn)]
    by_cases e:y=z
    ·rw [if_pos e,if_pos e.symm];rfl
    ·rw [if_neg e,if_neg (fun h=>e h.symm)];exact g5 y
   ·rintro b (hb | hb | hb | hb | hb | hb | hb | hb | hb)
    ·exact g9 b (.inl hb)
    ·exact g9 b (.inr (.inl hb))
    ·exact g9 b (.inr (.inr (.inl hb)))
    ·exact g9 b (.inr (.inr (.inr (.inl hb))))
    ·exact g9 b (.inr (.inr (.inr (.inr (.inl hb)))))
    ·exact g9 b (.inr (.inr (.inr (.inr (.inr (.inl hb))))))
    ·exact g9 b (.inr (.inr (.inr (.inr (.inr (.inr (.inl hb)))))))
    ·exact hF2Y b hb
    ·exact g9 b (.inr (.inr (.inr (.inr (.inr (.inr (.inr (.inr hb))))))))
 ·rintro H1 w27 hs27 _ _ ⟨F',M,g1,g2,g3,g4,g5,g6,g7,g8,g9,g10,g11⟩
  have hcs2:cs=((vK Lq xs L (fun _=>0)).2.2 t,0,(vK Lq xs L (fun _=>0)).1):=by rw [hcs',if_neg (by simpa using g1)]
  have hlk:(Instr.lookup 233 (.map (some mb)) (.int .i64 t) false).run prog w27=.ok (.int .i64 ((vK Lq xs L (fun _=>0)).2.2 t)) w27:=by
   rw [g5 t];rcases g3.get (P:=prog) (T:=233) underlying233 underlying23 (zeroValue23 _) t false with ⟨hn,hr⟩ | ⟨v,hv,hr⟩
   ·unfold ownM;rw [hn];exact hr
   ·unfold ownM;rw [hv];exact hr
  generalize hcg:vK Lq xs L (fun _=>0)=cg at *
  have nY4:¬ H1 p4.block:=g9 _ (.inr (.inr (.inl rfl)))
  have nY5:¬ H1 p5.block:=g9 _ (.inr (.inr (.inr (.inl rfl))))
  refine ⟨some mb,g6.b8.cell0,_,hlk,g6.b4.canW0 (by simp),nY4,?_⟩
  rintro w28 e28
  have X28:Ext (·=p4.block) w27 w28:=by rw [e28];exact Ext.setCell _ _
  have B28:Box w28 p4 [.int .i64 (cg.2.2 t)] 23:=by rw [e28];exact g6.b4.set0
  have B28':=g6.b5.ext X28 (fun e=>d45 e.symm)
  refine ⟨B28'.canW0 (by simp),nY5,?_⟩
  rintro w29 e29
  have X29:Ext (·=p5.block) w28 w29:=by rw [e29];exact Ext.setCell _ _
  have B29:Box w29 p5 [.int .i64 0] 33:=by rw [e29];exact B28'.set0
  have B29':=B28.ext X29 d45
  intro w30 hs30
  have nF:∀b,F' b→b≠p4.block∧b≠p5.block:=fun b hb=>(g8 b hb).elim (fun h=>by have:=hP.lt h;omega) (fun h=>⟨fun e=>h.2 (.inr (.inr (.inl e))),fun e=>h.2 (.inr (.inr (.inr (.inl e))))⟩)
  refine ⟨_,(B29'.ext hs30.ext nY4).cell0,_,(B29.ext hs30.ext nY5).cell0,?_⟩
  rw [hcs2]
  refine ⟨rfl,rfl,F',((g2.ext X28 (fun b hb e=>(nF b hb).1 e)).ext X29 (fun b hb e=>(nF b hb).2 e)).ext hs30.ext (fun b hb=>g9 b (.inr (.inr (.inr (.inr (.inr (.inr (.inr (.inl hb))))))))),((g10.trans' X28 (fun i hi e=>by omega)).trans' X29 (fun i hi e=>by omega)).hst hs30,fun b hb=>(g8 b hb).imp id (fun h=>h.1)⟩
 ·rintro pre H2 w32 hs32 ⟨F',e,g1,g2,g3,g4,g5,g6,g7⟩
  refine ⟨_,g3.cell0,_,g4.cell0,?_⟩
  rw [g1]
  exact ⟨rfl,rfl,F',g2,g7,g5⟩
end Go.Proofs
end
section
open Go Go.SE
namespace Go.Proofs
open Tryz
attribute [local irreducible] Calls CallsD
theorem jTL {S0:NP} (p:Addr) (sb:Sl) (bs:List UInt8) (w0:World) {L:Sp.Pool} {FP:NP} (hW:Sp.Wf L) (hP:zT w0 p L FP) (hs:Lst S0 w0 1 sb (byr bs)) (hz:sb.a=none→sb=Sl.nil) :
  Calls prog 68 #[.pointer (some p),sb.v] w0 (fun e w'=>∃t x y:Int,e=.returned (.tuple #[.int .i64 t,.int .i64 x,.int .i64 y])∧(t=(jIB L bs).1∧x=(jIB L bs).2.1∧y=((jIB L bs).2.2.1:Int)∧∃F',zT w' p (jIB L bs).2.2.2 F'∧Ext FP w0 w'∧∀b,F' b→FP b∨w0.heap.size≤b)):=by
 refine w_B4 _ _ w0 (fun t x y w'=>t=(jIB L bs).1∧x=(jIB L bs).2.1∧y=((jIB L bs).2.2.1:Int)∧∃F',zT w' p (jIB L bs).2.2.2 F'∧Ext FP w0 w'∧∀b,F' b→FP b∨w0.heap.size≤b) ?_
 unfold m_B4
 refine ⟨fun hc=>(by cases hc),fun _=>?_⟩
 refine (c_read sb bs w0 hs hz).mono ?_
 rintro _ w1 ⟨x,y,z,rfl,hy,hz',hout,E1⟩
 refine ⟨_,_,_,rfl,?_⟩
 cases hq:(qI bs).1 with
 | none =>
  have hd:jIB L bs=(0,(qI bs).2.1,(qI bs).2.2,L):=by unfold jIB;rw [hq]
  have he:y≠0:=by rw [hy];exact Sp.jNP hq
  refine ⟨fun _=>?_,fun hc=>absurd (by simpa using hc) he⟩
  rw [hd]
  exact ⟨rfl,hy,hz',FP,hP.pure E1,Ext.pure E1,fun b hb=>.inl hb⟩
 | some q =>
  obtain ⟨a,F,rfl,hPq,hF⟩:=hout.pool hq
  obtain ⟨g1,_,g3,_⟩:=Sp.jGP hq
  have h0:=Sp.jPP hq
  have hd:jIB L bs=((uG L q q.length).1,(uG L q q.length).2.1,0,(uG L q q.length).2.2):=by unfold jIB;rw [hq]
  rw [h0] at hy
  refine ⟨fun hc=>absurd hy (by simpa using hc),fun _=>?_⟩
  refine (jAO a w1 hPq).mono ?_
  rintro _ w2 ⟨_,rfl,rfl,rfl⟩
  refine ⟨_,rfl,?_⟩
  refine (c_Copy p a q.length w2 hW g1 (hP.pure E1) hPq (fun b hb hh=>by have:=hP.lt hb;have:=hF b hh;omega)).mono ?_
  rintro _ w3 ⟨r1,r2,rfl,h1,h2,F',hP',E3,hF'⟩
  refine ⟨_,_,rfl,?_⟩
  rw [hd]
  exact ⟨h1,h2,rfl,F',hP',(Ext.pure E1).trans E3,fun b hb=>(hF' b hb).imp id (fun h=>by have:=E1.size;omega)⟩
end Go.Proofs
end
section
open Go Go.SE
namespace Go.Sp
open Go.Proofs
end Go.Sp
namespace Go.Proofs
attribute [local irreducible] Calls CallsD
end Go.Proofs
end
section
open Go Go.SE
namespace Go.Proofs
open Tryz
attribute [local irreducible] Calls CallsD
structure RfS (S:NP) (w:World) (a:Addr) (s:Sl) (bs:List UInt8) (r:Rd):Prop where
 box:Box w a [s.v,.int .i64 (r.at_:Int),.int .i64 (r.err:Int),.int .i64 (r.spot:Int)] 237
 lst:Lst S w 1 s (byr bs)
 apart:∀b,S b→b≠a.block
 small:bs.length≤100000000
 room:s.len≤s.cap
section
variable {S:NP} {w w':World} {a:Addr} {s:Sl} {bs:List UInt8} {r:Rd}
theorem RfS.ext {F:NP} (h:RfS S w a s bs r) (E:Ext F w w') (hF:∀b,(b=a.block∨S b)→¬ F b):RfS S w' a s bs r :=
 ⟨h.box.ext E (hF _ (.inl rfl)),h.lst.ext E (fun b hb=>hF b (.inr hb)),h.apart,h.small,h.room⟩
theorem RfS.pure (h:RfS S w a s bs r) (E:Pure w w'):RfS S w' a s bs r:=h.ext E (fun _ _ h=>h)
theorem RfS.atC (h:RfS S w a s bs r):w.cell? (a.add 1)=some (.int .i64 (r.at_:Int)):=h.box.cell (i:=1) rfl
theorem RfS.errC (h:RfS S w a s bs r):w.cell? (a.add 2)=some (.int .i64 (r.err:Int)):=h.box.cell (i:=2) rfl
theorem RfS.len (h:RfS S w a s bs r):s.len=bs.length:=by rw [h.lst.len,qA]
theorem RfS.setAt (h:RfS S w a s bs r) (k:Nat):RfS S (w.setCell (a.add 1) (.int .i64 (k:Int))) a s bs ⟨k,r.err,r.spot⟩ :=
 ⟨h.box.set 1 _,h.lst.ext (Ext.setCell _ _) (fun b hb e=>h.apart b hb (by rw [zU] at e;exact e)),h.apart,h.small,h.room⟩
theorem RfS.setErr (h:RfS S w a s bs r) (k:Nat):RfS S (w.setCell (a.add 2) (.int .i64 (k:Int))) a s bs ⟨r.at_,k,r.spot⟩ :=
 ⟨h.box.set 2 _,h.lst.ext (Ext.setCell _ _) (fun b hb e=>h.apart b hb (by rw [zU] at e;exact e)),h.apart,h.small,h.room⟩
theorem RfS.setSpot (h:RfS S w a s bs r) (k:Nat):RfS S (w.setCell (a.add 3) (.int .i64 (k:Int))) a s bs ⟨r.at_,r.err,k⟩ :=
 ⟨h.box.set 3 _,h.lst.ext (Ext.setCell _ _) (fun b hb e=>h.apart b hb (by rw [zU] at e;exact e)),h.apart,h.small,h.room⟩
end
section
variable {S:NP} (a:Addr) (s:Sl) (bs:List UInt8) (r:Rd) (w0:World)
theorem jVK (h:RfS S w0 a s bs r) (he:r.err=0) (e x:Nat) :
  Calls prog 242 #[.pointer (some a),.int .i64 e,.int .i64 x] w0 (fun en w'=>en=.returned (.tuple #[])∧(RfS S w' a s bs ⟨r.at_,e,x⟩∧Ext (·=a.block) w0 w')):=by
 refine w_C4 (some a) _ _ w0 (fun w'=>RfS S w' a s bs ⟨r.at_,e,x⟩∧Ext (·=a.block) w0 w') ?_
 unfold m_C4
 refine ⟨a,rfl,_,h.errC,fun _=>⟨a,rfl,h.box.canW (i:=2) (by simp),?_⟩,fun hc=>absurd (by rw [he];rfl) (beq_eq_false_iff_ne.1 hc)⟩
 rintro w1 rfl
 have h1:=h.setErr e
 refine ⟨a,rfl,h1.box.canW (i:=3) (by simp),?_⟩
 rintro w2 rfl
 exact ⟨h1.setSpot x,qQ.trans qQ⟩
theorem jRY {P:Program} {t:TypeId} {w:World} (x k:Nat) (hk:k<64) (h:x*2 ^ k<18446744073709551616):(Go.binOp .shl t (.int .u64 (x:Int)) (.int .u64 (k:Int))).run P w=.ok (.int .u64 ((x*2 ^ k:Nat):Int)) w:=by
 have hr:IntKind.u64.wrap ((x:Int)*2 ^ min (k:Int).toNat IntKind.u64.bits)=((x*2 ^ k:Nat):Int):=by
  have:min (k:Int).toNat IntKind.u64.bits=k:=by simp [IntKind.bits];omega
  rw [this,← qO h];simp
 have h0:¬ ((k:Int)<0):=by omega
 show (Op.shift .shl .u64 (x:Int) .u64 (k:Int)).run P w=_;unfold Op.shift;rw [if_neg h0];show ((pure (Value.int .u64 (IntKind.u64.wrap ((x:Int)*2 ^ min (k:Int).toNat IntKind.u64.bits))):Sem Value)).run P w=_;rw [hr];rfl
theorem jRZ {P:Program} {t:TypeId} {w:World} (c:Nat) (h:c<256):(Go.binOp .rem t (.int .u8 (c:Int)) (.int .u8 128)).run P w=.ok (.int .u8 ((c % 128:Nat):Int)) w:=by
 have e1:((c:Int).tmod 128)=((c % 128:Nat):Int):=by rw [Int.tmod_eq_emod_of_nonneg (by omega)];omega
 simp [Go.binOp,Op.intDiv,e1]
theorem c_rNum (h:RfS S w0 a s bs r) (hat:r.at_≤bs.length) (hS:∀b,(b=a.block∨S b)→b<w0.heap.size) :
  Calls prog 219 #[.pointer (some a)] w0 (fun e w'=>∃x:Int,e=.returned (.int .u64 x)∧(x=((qN bs r).1:Int)∧RfS S w' a s bs (qN bs r).2∧Ext (·=a.block) w0 w')):=by
 refine w_S1 (some a) w0 (fun x w'=>x=((qN bs r).1:Int)∧RfS S w' a s bs (qN bs r).2∧Ext (·=a.block) w0 w') ?_
 unfold m_S1
 have hsm:=h.small
 refine ⟨a,rfl,_,h.errC,fun hc=>?_,fun hc=>?_⟩
 ·have he:r.err≠0:=by have:=bne_iff_ne.1 hc;omega
  have hr:qN bs r=(0,r):=by unfold qN;rw [if_neg he]
  rw [hr];exact ⟨rfl,h,Ext.refl _⟩
 have he:r.err=0:=by
  have:((r.err:Int) != 0)=false:=hc;simpa using this
 have bad : ∀ (x : Nat) (H : NP) (w : World), (∀ b, (b = a.block ∨ S b) → ¬ H b) → RfS S w a s bs r → Ext (· = a.block) w0 w → xK 0 0 (bs.drop r.at_) = .error x →
   Calls prog 242 #[.pointer (some a),.int .i64 x,.int .i64 (r.at_:Int)] w (fun e w'=>e=.returned (.tuple #[])∧Kept H w w'∧((0:Int)=((qN bs r).1:Int)∧RfS S w' a s bs (qN bs r).2∧Ext (·=a.block) w0 w')):=by
  intro x H w hv hR hE hrd
  have hr:qN bs r=(0,⟨r.at_,x,r.at_⟩):=by unfold qN;rw [if_pos he,hrd]
  refine (jVK a s bs r w hR he x r.at_).mono ?_
  rintro _ w' ⟨rfl,hR',X⟩
  rw [hr]
  exact ⟨rfl,X.kept (fun b hb e=>hv _ (.inl rfl) (e▸hb)),rfl,hR',hE.trans X⟩
 refine ⟨fun n i Hl w=>∃acc k:Nat,n=(acc:Int)∧i=(k:Int)∧k≤9∧acc<2 ^ (7*k)∧r.at_+k≤bs.length∧xK k acc (bs.drop (r.at_+k))=xK 0 0 (bs.drop r.at_)∧RfS S w a s bs r∧(∀b,(b=a.block∨S b)→¬ Hl b)∧Pure w0 w,fun _ i _=>(10 - i).toNat,⟨0,0,rfl,rfl,by omega,by simp,by simpa using hat,rfl,h,fun _ _ h=>h,Ext.refl _⟩,?_⟩
 rintro _ _ Hl wl hl ⟨acc,k,rfl,rfl,hk,hacc,hle,hrd,hR,hv,hE⟩
 unfold m_S1_l1
 have hSl:∀{w:World},Pure w0 w→∀b,(b=a.block∨S b)→b<w.heap.size:=fun E b hb=>by have:=hS b hb;have:=E.size;omega
 refine ⟨a,rfl,fun w1 hs1=>?_⟩
 have R1:=hR.ext hs1.ext (hs1.disj (fun b hb=>⟨hSl hE b hb,hv b hb⟩))
 have E1:=hE.hst hs1
 have hwk:IntKind.i64.wrap ((r.at_:Int)+(k:Int))=((r.at_+k:Nat):Int):=by rw [IntWalk.i64_in _ (by omega)];omega
 refine ⟨_,R1.atC,a,rfl,s,R1.box.cell0,fun hc=>?_,fun hc=>?_⟩
 ·have hge:r.at_+k=bs.length:=by rw [hwk] at hc;have:=of_decide_eq_true hc;have:=R1.len;omega
  refine ⟨a,rfl,_,R1.atC,?_⟩
  exact bad 3 Hl w1 hv R1 (Ext.pure E1) (by rw [← hrd,hge,List.drop_length];rfl)
 ·have hlt:r.at_+k<bs.length:=by rw [hwk] at hc;have:=of_decide_eq_false hc;have:=R1.len;omega
  refine ⟨a,rfl,fun w3 hs3=>?_⟩
  have R3:=R1.ext hs3.ext (hs3.disj (fun b hb=>⟨hSl E1 b hb,hv b hb⟩))
  have E3:=E1.hst hs3
  obtain ⟨a7,hat7,_,hv7⟩:=jNC R3.lst hlt
  have hdrop:bs.drop (r.at_+k)=bs[r.at_+k] :: bs.drop (r.at_+k+1):=List.drop_eq_getElem_cons hlt
  refine ⟨s,R3.box.cell0,a,rfl,_,R3.atC,a7,by rw [hwk];exact hat7,_,hv7,?_⟩
  generalize bs[r.at_+k]=c at *
  have hc256:=c.toNat_lt
  rw [hdrop,tM] at hrd
  have visH:∀{H H':NP} {w w':World},Pure w0 w→(∀b,(b=a.block∨S b)→¬ H b)→Hst w0 H w H' w'→∀b,(b=a.block∨S b)→¬ H' b:=fun E hv hs=>hs.disj (fun b hb=>⟨hSl E b hb,hv b hb⟩)
  refine ⟨fun hb=>⟨a,rfl,fun H1 w4 hs4=>?_⟩,fun hb H1 w4 hs4=>?_⟩
  ·have hv4:=visH E3 hv hs4
   have R4:=R3.ext hs4.ext hv4
   have hb':k=9∧1<c.toNat:=by simp at hb;omega
   rw [if_pos hb'] at hrd
   exact ⟨_,R4.atC,bad 11 H1 w4 hv4 R4 (Ext.pure (E3.hst hs4)) hrd.symm⟩
  ·have hv4:=visH E3 hv hs4
   have R4:=R3.ext hs4.ext hv4
   have E4:=E3.hst hs4
   have hb':¬ (k=9∧1<c.toNat):=by intro hh;simp at hb;omega
   rw [if_neg hb'] at hrd
   have hpw:c.toNat % 128*2 ^ (7*k)<18446744073709551616:=by
    by_cases h9:k=9
    ·subst h9;omega
    ·have h8:2 ^ (7*k)≤2 ^ 56:=Nat.pow_le_pow_right (by omega) (by omega);have h127:c.toNat % 128≤127:=by omega
     calc c.toNat % 128*2 ^ (7*k)≤127*2 ^ 56:=Nat.mul_le_mul h127 h8
      _<18446744073709551616:=by decide
   have hac:acc<18446744073709551616:=Nat.lt_of_lt_of_le hacc (by
    calc 2 ^ (7*k)≤2 ^ 63:=Nat.pow_le_pow_right (by omega) (by omega)
     _≤18446744073709551616:=by decide)
   have h7:IntKind.u64.wrap (IntKind.i64.wrap (7*(k:Int)))=((7*k:Nat):Int):=by
    rw [IntWalk.i64_in _ (by omega),show (7*(k:Int))=((7*k:Nat):Int) by omega,qO (by omega)]
   have h128:128 ^ k=2 ^ (7*k):=by rw [Nat.pow_mul]
   have hsum:acc ||| (c.toNat % 128*2 ^ (7*k))=acc+c.toNat % 128*2 ^ (7*k):=jTP hacc
   have hsl:acc+c.toNat % 128*2 ^ (7*k)<18446744073709551616:=by rw [← hsum];exact Nat.or_lt_two_pow (n:=64) hac hpw
   have hwn:IntKind.u64.wrap ((acc:Int)+((c.toNat % 128*2 ^ (7*k):Nat):Int))=((acc+c.toNat % 128*2 ^ (7*k):Nat):Int):=by
    rw [show ((acc:Int)+((c.toNat % 128*2 ^ (7*k):Nat):Int))=((acc+c.toNat % 128*2 ^ (7*k):Nat):Int) by omega,qO hsl]
   refine ⟨_,jRZ c.toNat hc256,((c.toNat % 128*2 ^ (7*k):Nat):Int),by rw [h7,qO (by omega)];exact jRY _ _ (by omega) hpw,?_⟩
   rw [hwn]
   refine ⟨fun hs=>?_,fun hs=>⟨fun hz=>⟨a,rfl,fun H2 w6 hs6=>?_⟩,fun hz=>⟨a,rfl,fun H2 w6 hs6=>?_⟩⟩⟩
   ·have hs':¬ c.toNat<128:=by have:=of_decide_eq_true hs;omega
    rw [if_neg hs',h128] at hrd
    have hk9:k≠9:=by omega
    rw [vE (n:=10) (by omega) (by omega)]
    refine ⟨⟨_,k+1,rfl,rfl,by omega,?_,by omega,hrd,R4,hv4,E4⟩,by show (10 - ((k+1:Nat):Int)).toNat<(10 - (k:Int)).toNat;omega⟩
    have:2 ^ (7*(k+1))=128*2 ^ (7*k):=by rw [Nat.mul_add,Nat.pow_add];omega
    rw [this]
    have h127:c.toNat % 128*2 ^ (7*k)≤127*2 ^ (7*k):=Nat.mul_le_mul_right _ (by omega)
    omega
   ·have hs':c.toNat<128:=by have:=of_decide_eq_false hs;omega
    rw [if_pos hs'] at hrd
    have hv6:=visH E4 hv4 hs6
    have R6:=R4.ext hs6.ext hv6
    have hz':c.toNat=0∧0<k:=by simp at hz;omega
    rw [if_pos hz'] at hrd
    exact ⟨_,R6.atC,bad 10 H2 w6 hv6 R6 (Ext.pure (E4.hst hs6)) hrd.symm⟩
   ·have hs':c.toNat<128:=by have:=of_decide_eq_false hs;omega
    rw [if_pos hs'] at hrd
    have hv6:=visH E4 hv4 hs6
    have R6:=R4.ext hs6.ext hv6
    have hz':¬ (c.toNat=0∧0<k):=by intro hh;simp at hz;omega
    rw [if_neg hz',h128] at hrd
    have hr:qN bs r=(acc+c.toNat*2 ^ (7*k),⟨r.at_+(k+1),0,r.spot⟩):=by unfold qN;rw [if_pos he,← hrd]
    rw [hr]
    have hwa:IntKind.i64.wrap (IntKind.i64.wrap ((r.at_:Int)+(k:Int))+1)=((r.at_+(k+1):Nat):Int):=by
     rw [hwk,IntWalk.i64_in _ (by omega)];omega
    refine ⟨_,R6.atC,a,rfl,R6.box.canW (i:=1) (by simp),by rw [zU];exact hv6 _ (.inl rfl),?_⟩
    rintro w8 e8
    rw [hwa] at e8
    have R8:=R6.setAt (r.at_+(k+1))
    rw [← e8,he] at R8
    refine ⟨by rw [Nat.mod_eq_of_lt hs'],R8,?_⟩
    rw [e8]
    exact (Ext.pure (E4.hst hs6)).trans qQ
end
def stp (bs:List UInt8) (c:Bool) (f:Fld) (s:Raw×Rd):Raw×Rd:=if c then (f.raw bs s.2 s.1,f.rd bs s.2) else s
def zNode:List Value:=[.int .i64 0,.int .i64 0,.int .i64 0,.int .u64 0,.string ⟨#[]⟩,.int .i64 0,.int .i64 0]
structure NdAt (S:NP) (w0:World) (H:NP) (w:World) (p1 a:Addr) (s:Sl) (bs:List UInt8) (r:Rd):Prop where
 rd:RfS S w a s bs r
 box:Box w p1 zNode 103
 vis:∀b,(b=a.block∨S b∨b=p1.block)→¬ H b∧b<w.heap.size
 ext:Ext (·=a.block) w0 w
 at_:r.at_≤bs.length
 o1:w0.heap.size≤p1.block
 d1:p1.block≠a.block∧¬ S p1.block
section
variable {S:NP} {w0 w w':World} {H H':NP} {p1 a:Addr} {s:Sl} {bs:List UInt8} {r:Rd}
theorem NdAt.hst (h:NdAt S w0 H w p1 a s bs r) (hs:Hst w0 H w H' w'):NdAt S w0 H' w' p1 a s bs r:=by
 have d:∀b,(b=a.block∨S b∨b=p1.block)→¬ H' b:=hs.disj (fun b hb=>⟨(h.vis b hb).2,(h.vis b hb).1⟩);exact ⟨h.rd.ext hs.ext (fun b hb=>d b (hb.elim .inl (fun h=>.inr (.inl h)))),h.box.ext hs.ext (d _ (.inr (.inr rfl))),fun b hb=>⟨d b hb,by have:=(h.vis b hb).2;have:=hs.ext.size;omega⟩,h.ext.hst hs,h.at_,h.o1,h.d1⟩
theorem NdAt.hS (h:NdAt S w0 H w p1 a s bs r):∀b,(b=a.block∨S b)→b<w.heap.size:=fun b hb=>(h.vis b (hb.elim .inl (fun h=>.inr (.inl h)))).2
theorem NdAt.next {r':Rd} (h:NdAt S w0 H w p1 a s bs r) (hR:RfS S w' a s bs r') (E:Ext (·=a.block) w w') (hat:r'.at_≤bs.length):NdAt S w0 H w' p1 a s bs r'∧Kept H w w' :=
 ⟨⟨hR,h.box.ext E h.d1.1,fun b hb=>⟨(h.vis b hb).1,by have:=(h.vis b hb).2;have:=E.size;omega⟩,h.ext.trans E,hat,h.o1,h.d1⟩,E.kept (fun b hb e=>(h.vis _ (.inl rfl)).1 (e▸hb))⟩
theorem NdAt.num (h:NdAt S w0 H w p1 a s bs r) {R:Int→WP} (hR:∀w',NdAt S w0 H w' p1 a s bs (qN bs r).2→R ((qN bs r).1:Int) w') :
  Calls prog 219 #[.pointer (some a)] w (fun e w'=>∃x:Int,e=.returned (.int .u64 x)∧Kept H w w'∧R x w'):=by
 refine (c_rNum a s bs r w h.rd h.at_ h.hS).mono ?_
 rintro _ w' ⟨_,rfl,rfl,hR',E⟩
 obtain ⟨g1,g2⟩:=h.next hR' E (jLB bs r h.at_).2
 exact ⟨_,rfl,g2,hR w' g1⟩
variable (k i:Nat) (hk:1≤k∧k≤9) (hi:i≤100000) {K:Int→Int→Int→Int→ByteArray→Int→Int→Int→WP}
include hk hi
end
end Go.Proofs
end
section
open Go Go.SE
namespace Go.Sp
open Go.Proofs
theorem make_new {L:Pool} {n:Node} (h:find L n=none) (h0:(make L n).2.1=0):(make L n).2.2.length=L.length+1:=by
 have hc:=(jCH h0).2.2;unfold make at h0 ⊢;simp only [h] at h0 ⊢;rw [if_neg (by rw [hc];simp)] at h0 ⊢;split at h0
 ·simp at h0
 ·rename_i hf;rw [if_neg hf];simp
end Go.Sp
namespace Go.Proofs
attribute [local irreducible] Calls CallsD
def RrV (a:Addr) (S FR:NP) (pl:Sl) (b:Nat):Prop:=FR b∨b=a.block∨S b∨pl.blk b
structure RrAt (w0:World) (H:NP) (w:World) (q a:Addr) (s:Sl) (bs:List UInt8) (L:Sp.Pool) (r:Rd) (S FR:NP) (ps:List Nat) (pl:Sl):Prop where
 pool:qY w q L FR
 rd:RfS S w a s bs r
 rows:Rws w 3 1 pl (tmr (ps.map Int.ofNat))
 pure:Pure w0 w
 own:∀b,RrV a S FR pl b→w0.heap.size≤b∧¬ H b
 lt:∀b,(b=a.block∨S b)→b<w.heap.size
 dR:∀b,FR b→b≠a.block∧¬ S b∧¬ pl.blk b
 dp:∀b,pl.blk b→b≠a.block∧¬ S b
theorem RrAt.vlt {w0 w:World} {H:NP} {q a:Addr} {s:Sl} {bs:List UInt8} {L:Sp.Pool} {r:Rd} {S FR:NP} {ps:List Nat} {pl:Sl} (h:RrAt w0 H w q a s bs L r S FR ps pl):∀b,RrV a S FR pl b→b<w.heap.size:=by
 rintro b (hb | hb | hb | hb)
 ·exact h.pool.lt hb
 ·exact h.lt b (.inl hb)
 ·exact h.lt b (.inr hb)
 ·exact h.rows.lt hb
theorem RrAt.hst {w0 w w':World} {H H':NP} {q a:Addr} {s:Sl} {bs:List UInt8} {L:Sp.Pool} {r:Rd} {S FR:NP} {ps:List Nat} {pl:Sl} (h:RrAt w0 H w q a s bs L r S FR ps pl) (hs:Hst w0 H w H' w'):RrAt w0 H' w' q a s bs L r S FR ps pl:=by
 have d:∀b,RrV a S FR pl b→¬ H' b:=hs.disj (fun b hb=>⟨h.vlt b hb,(h.own b hb).2⟩);exact ⟨h.pool.ext hs.ext (fun b hb=>d b (.inl hb)),h.rd.ext hs.ext (fun b hb=>d b (hb.elim (fun h=>.inr (.inl h)) (fun h=>.inr (.inr (.inl h))))),h.rows.ext hs.ext (fun b hb=>d b (.inr (.inr (.inr hb)))),h.pure.hst hs,fun b hb=>⟨(h.own b hb).1,d b hb⟩,fun b hb=>by have:=h.lt b hb;have:=hs.ext.size;omega,h.dR,h.dp⟩
theorem RrAt.pureE {w0 w w':World} {H:NP} {q a:Addr} {s:Sl} {bs:List UInt8} {L:Sp.Pool} {r:Rd} {S FR:NP} {ps:List Nat} {pl:Sl} (h:RrAt w0 H w q a s bs L r S FR ps pl) (E:Pure w w'):RrAt w0 H w' q a s bs L r S FR ps pl :=
 ⟨h.pool.pure E,h.rd.pure E,h.rows.pure E,h.pure.trans E,h.own,fun b hb=>by have:=h.lt b hb;have:=E.size;omega,h.dR,h.dp⟩
end Go.Proofs
end
section
open Go Go.SE
namespace Go.Sp
open Go.Proofs
end Go.Sp
namespace Go.Proofs
attribute [local irreducible] Calls CallsD
structure CrAt (w0:World) (H:NP) (w:World) (p q:Addr) (Lc Lq:Sp.Pool) (s1 r2:Sl) (A xs:List Int) (FP F' FQ:NP):Prop where
 pp:qY w p Lc F'
 pq:qY w q Lq FQ
 at_:Rws w 23 1 s1 (tmr A)
 subs:Rws w 23 1 r2 (tmr xs)
 ext:Ext FP w0 w
 own:∀b,(F' b∨FQ b∨s1.blk b∨r2.blk b)→¬ H b
 oF:∀b,F' b→FP b∨w0.heap.size≤b
 oS:∀b,(s1.blk b∨r2.blk b)→w0.heap.size≤b
 dis:∀b,F' b→¬ FQ b∧¬ s1.blk b∧¬ r2.blk b
 dS:∀b,s1.blk b→¬ FQ b∧¬ r2.blk b
section
variable {w0 w w':World} {H H':NP} {p q:Addr} {Lc Lq:Sp.Pool} {s1 r2:Sl} {A xs:List Int} {FP F' FQ:NP}
theorem CrAt.vlt (h:CrAt w0 H w p q Lc Lq s1 r2 A xs FP F' FQ):∀b,(F' b∨FQ b∨s1.blk b∨r2.blk b)→b<w.heap.size:=by
 rintro b (hb | hb | hb | hb)
 ·exact h.pp.lt hb
 ·exact h.pq.lt hb
 ·exact h.at_.lt hb
 ·exact h.subs.lt hb
theorem CrAt.hst (h:CrAt w0 H w p q Lc Lq s1 r2 A xs FP F' FQ) (hs:Hst w0 H w H' w'):CrAt w0 H' w' p q Lc Lq s1 r2 A xs FP F' FQ:=by
 have d:=hs.disj (fun b hb=>⟨h.vlt b hb,h.own b hb⟩);exact ⟨h.pp.ext hs.ext (fun b hb=>d b (.inl hb)),h.pq.ext hs.ext (fun b hb=>d b (.inr (.inl hb))),h.at_.ext hs.ext (fun b hb=>d b (.inr (.inr (.inl hb)))),h.subs.ext hs.ext (fun b hb=>d b (.inr (.inr (.inr hb)))),h.ext.hst hs,d,h.oF,h.oS,h.dis,h.dS⟩
end
end Go.Proofs
end
section
namespace Go.Sp
end Go.Sp
end
section
open Go Go.SE
namespace Go.Sp
end Go.Sp
namespace Go.Proofs
attribute [local irreducible] Calls
structure Pl2 (w0:World) (H:NP) (w:World) (p q:Addr) (L1 L2:Sp.Pool) (F1 F2:NP):Prop where
 pure:Pure w0 w
 pool:zT w p L1 F1
 ref:qY w q L2 F2
 o1:∀b,F1 b→w0.heap.size≤b∧¬ H b∧¬ F2 b
 o2:∀b,F2 b→w0.heap.size≤b∧¬ H b
section
variable {w0 w w':World} {H H':NP} {p q:Addr} {L1 L2:Sp.Pool} {F1 F2:NP}
theorem Pl2.pureE (h:Pl2 w0 H w p q L1 L2 F1 F2) (E:Pure w w'):Pl2 w0 H w' p q L1 L2 F1 F2:=⟨h.pure.trans E,h.pool.pure E,h.ref.pure E,h.o1,h.o2⟩
theorem Pl2.first (h:Pl2 w H w' p q L1 L2 F1 F2) (E:Pure w0 w):Pl2 w0 H w' p q L1 L2 F1 F2 :=
 ⟨E.trans h.pure,h.pool,h.ref,fun b hb=>⟨Nat.le_trans E.size (h.o1 b hb).1,(h.o1 b hb).2⟩,fun b hb=>⟨Nat.le_trans E.size (h.o2 b hb).1,(h.o2 b hb).2⟩⟩
theorem Pl2.hst (h:Pl2 w0 H w p q L1 L2 F1 F2) (hs:Hst w0 H w H' w'):Pl2 w0 H' w' p q L1 L2 F1 F2:=by
 have d:∀b,b<w.heap.size→¬ H b→¬ H' b:=fun b h1 h2=>hs.disj (G:=(·=b)) (fun c e=>by subst e;exact ⟨h1,h2⟩) b rfl;have d1:∀b,F1 b→¬ H' b:=fun b hb=>d b (h.pool.lt hb) (h.o1 b hb).2.1;have d2:∀b,F2 b→¬ H' b:=fun b hb=>d b (h.ref.lt hb) (h.o2 b hb).2;exact ⟨h.pure.hst hs,h.pool.ext hs.ext d1,h.ref.ext hs.ext d2,fun b hb=>⟨(h.o1 b hb).1,d1 b hb,(h.o1 b hb).2.2⟩,fun b hb=>⟨(h.o2 b hb).1,d2 b hb⟩⟩
theorem Pl2.of1 (h:Pl2 w0 H w p q L1 L2 F1 F2) (hH:∀b,H b→b<w.heap.size) {L:Sp.Pool} {F:NP} (hP:zT w' p L F) (hE:Ext F1 w w') (hF:∀b,F b→F1 b∨w.heap.size≤b):Pl2 w0 H w' p q L L2 F F2:=by
 refine ⟨h.pure.trans' hE (fun i hi hb=>by have:=(h.o1 i hb).1;omega),hP,h.ref.ext hE (fun b hb h1=>(h.o1 b h1).2.2 hb),fun b hb=>?_,h.o2⟩;rcases hF b hb with h1 | h1
 ·exact h.o1 b h1
 ·exact ⟨by have:=h.pure.size;omega,fun hh=>by have:=hH b hh;omega,fun hh=>by have:=h.ref.lt hh;omega⟩
theorem Pl2.of2 (h:Pl2 w0 H w p q L1 L2 F1 F2) (hH:∀b,H b→b<w.heap.size) {L:Sp.Pool} {F:NP} (hP:qY w' q L F) (hE:Ext F2 w w') (hF:∀b,F b→F2 b∨w.heap.size≤b):Pl2 w0 H w' p q L1 L F1 F:=by
 refine ⟨h.pure.trans' hE (fun i hi hb=>by have:=(h.o2 i hb).1;omega),h.pool.ext hE (fun b hb h1=>(h.o1 b hb).2.2 h1),hP,fun b hb=>⟨(h.o1 b hb).1,(h.o1 b hb).2.1,fun hh=>?_⟩,fun b hb=>?_⟩
 ·rcases hF b hh with h1 | h1
  ·exact (h.o1 b hb).2.2 h1
  ·have:=h.pool.lt hb;omega
 ·rcases hF b hb with h1 | h1
  ·exact h.o2 b h1
  ·exact ⟨by have:=h.pure.size;omega,fun hh=>by have:=hH b hh;omega⟩
end
end Go.Proofs
end
section
open Go Go.SE
namespace Go.Sp
open Go.Proofs
end Go.Sp
namespace Go.Proofs
attribute [local irreducible] Calls CallsD
end Go.Proofs
end
section
open Go Go.SE
namespace Go.Proofs
open Tryz
attribute [local irreducible] Calls
theorem jDR (p:Addr) {L:Sp.Pool} (hW:Sp.Wf L):∀(n:Nat) (t:Int) (w0:World) (F:NP),t.toNat=n→qY w0 p L F →
  Calls prog 20 #[.pointer (some p),.int .i64 t] w0 (RetT w0.heap.size w0 (Sp.zI L t)):=by
 intro n
 induction n using Nat.strongRecOn with
 | _ n ih =>
 intro t w0 F hn hP
 suffices key:∀K:Int→Int→Int→Int→ByteArray→Sl→WP,(∀k f t' u x s' w' ks,Sp.zI L t=.mk k f t' u x ks→TreeAt (w0.heap.size≤·) w' s' (.mk k f t' u x ks)→Pure w0 w'→K k f t' u x s' w')→m_B1 (some p) t w0 K by
  refine (w_B1 _ _ w0 (fun k f t' u x s' w'=>∃ks,Sp.zI L t=.mk k f t' u x ks∧TreeAt (w0.heap.size≤·) w' s' (.mk k f t' u x ks)∧Pure w0 w') (key _ (fun k f t' u x s' w' ks h1 h2 h3=>⟨ks,h1,h2,h3⟩))).mono ?_;rintro _ w' ⟨k,f,t',u,x,s',rfl,ks,h1,h2,h3⟩;rw [h1];exact ⟨s',rfl,h2,h3⟩
 intro K hK
 have hok:=hW.ok
 have hnil:∀b,¬ Sl.nil.blk b:=fun b hb=>by obtain ⟨a,h,_⟩:=hb;cases h
 unfold m_B1
 intro H1 w1 hs1
 have E1:=hs1.first
 refine (jJY p t w1 (hP.pure E1) hok).mono ?_
 rintro _ w2 ⟨k,f,t',u,x,a,b,r,rfl,⟨hnd,hr⟩,E2⟩
 have E02:=E1.trans E2
 have hs2:=hs1.again E2.keptP
 refine ⟨_,_,_,_,_,_,_,_,rfl,E2.keptP,fun h=>?_,fun h=>?_⟩
 ·intro H2 w5 hs5
  have hin:Sp.inP L t=false:=by rw [← hr];simpa using h
  exact hK _ _ _ _ _ _ _ [] (by rw [Sp.jKP hin];rfl) TreeAt.leaf (E02.hst hs5)
 ·have hin:Sp.inP L t=true:=by rw [← hr];simpa using h
  have htr:=Sp.qB hW hin
  have hnode:=hW.node hin
  rw [← hnd] at htr hnode
  simp only at htr hnode
  obtain ⟨_,_,_,_,hkid,_,_⟩:=hnode
  have hpos:=Sp.vF.1 hin
  rw [tL]
  have J1 : ∀ (xs : Sl) (H : NP) (w : World) (ps : List (Sp.Tree × Sl)) (S' : NP), Hst w0 H w H w → Pure w0 w → Own H w 28 6 xs (ps.map jMO) → ps.length ≤ 1 → (∀ p ∈ ps, TreeAt S' w p.2 p.1) → (∀ b, S' b → w0.heap.size ≤ b ∧ b < w.heap.size ∧ ¬ H b ∧ ¬ xs.blk b) → (∀ b, xs.blk b → w0.heap.size ≤ b) →
    ((Sp.shapeOf k).kids=2→ps.map Prod.fst=[Sp.zI L a])→((Sp.shapeOf k).kids≠2→ps.map Prod.fst=(Sp.zM ⟨k,f,t',u,x,a,b⟩).map (Sp.zI L)) →
    m_B1_j1 (some p) k b k f t' u x xs w0 H w K:=by
   intro xs H w ps S' hs E O hpl hkids hS' hxs h2 h1
   unfold m_B1_j1
   rw [tL]
   refine ⟨fun h=>?_,fun h=>?_⟩
   ·have hk2:(Sp.shapeOf k).kids=2:=by simpa using h
    have hps:=h2 hk2
    intro w9 hs9
    have E9:=E.hst hs9
    have O9:=O.hst hs9
    have E10:Pure w9 w9.drew:=Ext.drew w9
    refine ⟨fun _=>True,trivial,?_⟩
    rintro _ rfl
    have hb:=hkid b (by simp [Sp.zM,hk2])
    have hbp:=Sp.vF.1 hb.1
    refine (ih b.toNat (by omega) b w9.drew F rfl (hP.pure (E9.trans E10))).mono ?_
    rintro _ w11 ⟨s',rfl,hTb,E11⟩
    generalize hTt:Sp.zI L b=tb at *
    obtain ⟨k2,f2,t2,u2,x2,ks2⟩:=tb
    refine ⟨_,_,_,_,_,s',rfl,trivial,E11.keptP,?_⟩
    intro p5 w12 h12
    have E12:Pure w11 w12:=Ext.new h12
    refine ⟨trivial,?_⟩
    have hs12:Hst w0 H w12 H w12:=(hs9.again E10.keptP).again (E11.trans E12).keptP
    obtain ⟨s1,w13,hr13,hO13,hE13,hk13,hb13⟩:=(O9.pure ((E10.trans E11).trans E12)).append (P:=prog) (ty:=22) (c:=1) jBY hs12 (r:=qX (.mk k2 f2 t2 u2 x2 ks2) s') (Box.of_new h12).row rfl (jEC _ _) (by simp;omega) (by simp [maxLen];omega)
    refine ⟨s1,w13,hr13,trivial,hk13,?_⟩
    intro w15 hs15
    have zd:w9.drew.heap.size=w9.heap.size:=rfl
    have z9:=hs9.ext.size
    have z11:=E11.size
    have z12:=E12.size
    have z13:=hE13.size
    have hS9:∀b,S' b→w0.heap.size≤b∧b<w9.heap.size∧¬ H b∧¬ xs.blk b:=fun b hb=>⟨(hS' b hb).1,by have:=(hS' b hb).2.1;omega,(hS' b hb).2.2.1,(hS' b hb).2.2.2⟩
    have hvs:∀b,s1.blk b→b<w13.heap.size∧¬ H b:=fun b hb=>⟨hO13.rows.lt hb,hO13.vis b hb⟩
    have hR15:=hO13.rows.ext hs15.ext (hs15.disj (G:=s1.blk) hvs)
    have e1:ps.map jMO++[qX (.mk k2 f2 t2 u2 x2 ks2) s']=(ps++[((.mk k2 f2 t2 u2 x2 ks2:Sp.Tree),s')]).map jMO:=by simp [jMO]
    rw [e1] at hR15
    have hT:=TreeAt.of_pairs (S:=fun b=>w0.heap.size≤b) (k:=k) (f:=f) (t:=t') (u:=u) (x:=x) hR15 (fun b hb=>(hb13 b hb).elim (hxs b) (fun h=>by have:=E9.size;omega)) (fun q hq=>?_) (by simp;omega)
    ·have e2 : (ps ++ [((.mk k2 f2 t2 u2 x2 ks2 : Sp.Tree), s')]).map Prod.fst = (Sp.zM ⟨k, f, t', u, x, a, b⟩).map (Sp.zI L) := by
      rw [List.map_append,hps];simp [Sp.zM,hk2,hTt]
     rw [e2] at hT
     exact hK _ _ _ _ _ _ _ _ htr hT ((((E9.trans E10).trans E11).trans E12).trans' hE13 (fun i hi hb=>by have:=hxs i hb;omega) |>.hst hs15)
    ·rcases List.mem_append.1 hq with h | h
     ·have q1:=(hkids q h).hst hs9 (fun b hb=>⟨(hS' b hb).2.1,(hS' b hb).2.2.1⟩)
      have q2:=(q1.pure ((E10.trans E11).trans E12)).ext hE13 (fun b hb hy=>(hS' b hb).2.2.2 hy)
      exact (q2.hst hs15 (fun b hb=>⟨by have:=(hS9 b hb).2.1;omega,(hS' b hb).2.2.1⟩)).mono (fun b hb=>(hS' b hb).1)
     ·simp only [List.mem_singleton] at h;subst h
      have q1:=(hTb.lt.pure E12).ext hE13 (fun b hb hy=>by have:=O9.rows.lt hy;have:=hb.1;omega)
      exact (q1.hst hs15 (fun b hb=>⟨by have:=hb.2;omega,fun hh=>by have:=hs9.lt b hh;have:=hb.1;omega⟩)).mono (fun b hb=>by have:=hb.1;have:=E9.size;omega)
   ·have hk2:(Sp.shapeOf k).kids≠2:=by simpa using h
    intro w16 hs16
    have O16:=O.hst hs16
    have hT:=TreeAt.of_pairs (S:=fun b=>w0.heap.size≤b) (k:=k) (f:=f) (t:=t') (u:=u) (x:=x) O16.rows hxs (fun q hq=>((hkids q hq).hst hs16 (fun b hb=>⟨(hS' b hb).2.1,(hS' b hb).2.2.1⟩)).mono (fun b hb=>(hS' b hb).1)) (by omega)
    rw [h1 hk2] at hT
    exact hK _ _ _ _ _ _ _ _ htr hT (E.hst hs16)
  have hkk:=Sp.uL k
  refine ⟨fun h=>?_,fun h=>?_⟩
  ·have hk1:1≤(Sp.shapeOf k).kids:=by have:=of_decide_eq_true h;omega
   intro H3 w8 hs8
   have E8:=E02.hst hs8
   have E17:Pure w8 w8.drew:=Ext.drew w8
   refine ⟨fun _=>True,trivial,?_⟩
   rintro _ rfl
   have ha:=hkid a (by rcases hkk with h | h | h <;> simp [Sp.zM,h] <;> omega)
   have hap:=Sp.vF.1 ha.1
   refine (ih a.toNat (by omega) a w8.drew F rfl (hP.pure (E8.trans E17))).mono ?_
   rintro _ w18 ⟨s',rfl,hTa,E18⟩
   generalize hTt:Sp.zI L a=ta at *
   obtain ⟨k2,f2,t2,u2,x2,ks2⟩:=ta
   refine ⟨_,_,_,_,_,s',rfl,trivial,E18.keptP,?_⟩
   intro p6 w19 h19
   have E19:Pure w18 w19:=Ext.new h19
   refine ⟨trivial,?_⟩
   have hs19:Hst w0 H3 w19 H3 w19:=(hs8.again E17.keptP).again (E18.trans E19).keptP
   obtain ⟨s2,w20,hr20,hO20,hE20,hk20,hb20⟩:=(Own.nil (sz:=6) (e:=28) H3 w19).append (P:=prog) (ty:=22) (c:=1) jBY hs19 (r:=qX (.mk k2 f2 t2 u2 x2 ks2) s') (Box.of_new h19).row rfl (jEC _ _) (by simp) (by simp [maxLen])
   refine ⟨s2,w20,hr20,trivial,hk20,?_⟩
   intro w21 hs21
   have zd:w8.drew.heap.size=w8.heap.size:=rfl
   have z18:=E18.size
   have z19:=E19.size
   have z20:=hE20.size
   have z21:=hs21.ext.size
   have E20:Pure w19 w20:=hE20.mono (fun b _ hb=>hnil b hb)
   have hs2n:∀b,s2.blk b→w19.heap.size≤b:=fun b hb=>(hb20 b hb).elim (fun h=>(hnil b h).elim) id
   refine J1 s2 H3 w21 [((.mk k2 f2 t2 u2 x2 ks2:Sp.Tree),s')] (fun b=>w8.heap.size≤b∧b<w18.heap.size) hs21.here ((((E8.trans E17).trans E18).trans E19).trans E20 |>.hst hs21) ?_ (by simp) ?_ ?_ (fun b hb=>by have:=hs2n b hb;have:=E8.size;omega) (fun _=>by simp) (fun hne=>?_)
   ·have:=hO20.hst hs21;simpa [jMO] using this
   ·intro q hq
    simp only [List.mem_singleton] at hq;subst hq
    exact ((hTa.lt.pure E19).pure E20).hst hs21 (fun b hb=>⟨by have:=hb.2;omega,fun hh=>by have:=hs8.lt b hh;have:=hb.1;omega⟩)
   ·rintro b ⟨h1,h2⟩
    exact ⟨by have:=E8.size;omega,by omega,fun hh=>by have:=hs8.lt b hh;omega,fun hh=>by have:=hs2n b hh;omega⟩
   ·rcases hkk with h | h | h
    ·omega
    ·simp [Sp.zM,h,hTt]
    ·exact absurd h hne
  ·have hk0:(Sp.shapeOf k).kids=0:=by have:=of_decide_eq_false h;omega
   intro H3 w8 hs8
   exact J1 Sl.nil H3 w8 [] (fun _=>False) hs8.here (E02.hst hs8) (Own.nil _ _) (by simp) (by simp) (fun b h=>h.elim) (fun b h=>(hnil b h).elim) (fun h=>by omega) (fun _=>by simp [Sp.zM,hk0])
end Go.Proofs
end
section
open Go Go.SE
namespace Go.Proofs
attribute [local irreducible] Calls CallsD
end Go.Proofs
end
section
open Go Go.SE
namespace Go.Proofs
open Tryz
attribute [local irreducible] Calls
theorem jKU (l:Sp.Letter):s_V1 l.kind l.frm l.c l.text l.fake=Sp.qJ l:=by
 obtain ⟨k,f,c,x,g⟩:=l;unfold s_V1 Sp.qJ;have e1:s_B k=Sp.isSigned k:=rfl;rw [e1];have e2:(Sp.isSigned k || k == 6)=Sp.isTexted k:=rfl;rw [e2];have e3:decide (((x.size:Int))>64)=decide (x.size>64):=decide_eq_decide.2 (by omega);rw [e3];generalize Sp.isSigned k=a;generalize Sp.isTexted k=b;have hc:((((((decide (k<1)) || (decide (k>7))) || (((f:Int) != 0) && ((f:Int) != 1))) || ((!a) && ((f:Int) != 0))) || ((!b) && (!(decide (x=(⟨#[]⟩:ByteArray)))))) || ((g && ((k:Int) != 1)) && ((k:Int) != 4)))=decide (k<1∨k>7∨(f≠0∧f≠1)∨(a=false∧f≠0)∨(b=false∧x≠⟨#[]⟩)∨(g=true∧k≠1∧k≠4)):=by
  rw [Bool.eq_iff_iff];simp only [Bool.or_eq_true,Bool.and_eq_true,decide_eq_true_eq,bne_iff_ne,Bool.not_eq_true',decide_eq_false_iff_not];simp only [or_assoc,and_assoc]
 rw [hc];by_cases h:(k<1∨k>7∨(f≠0∧f≠1)∨(a=false∧f≠0)∨(b=false∧x≠⟨#[]⟩)∨(g=true∧k≠1∧k≠4))
 ·rw [decide_eq_true h,if_pos h];rfl
 ·rw [decide_eq_false h,if_neg h];by_cases h2:x.size>64
  ·rw [decide_eq_true h2,if_pos h2];rfl
  ·rw [decide_eq_false h2,if_neg h2];rfl
def jRO (p:List Nat):List (List Value):=p.map fun i:Nat=>[Value.int .i64 (i:Int)]
theorem xR {S S2:NP} (x:Sp.Tree) (s sp:Sl) (p:List Nat) (w0:World) (hT:TreeAt S w0 s x) (hSw:∀b,S b→b<w0.heap.size) (hp:Lst S2 w0 1 sp (jRO p)) (hS2:∀b,S2 b→b<w0.heap.size) (hpl:p.length≤100) :
  Calls prog 92 #[.agg (qX x s).toArray,sp.v] w0 (fun e w'=>∃s',e=.returned (.agg (qX (Sp.jAE x p) s').toArray)∧TreeAt S w0 s' (Sp.jAE x p)∧Pure w0 w'):=by
 obtain ⟨k,f,t,u,tx,ks⟩:=x
 suffices key:∀K:Int→Int→Int→Int→ByteArray→Sl→WP,(∀k' f' t' u' x' s' w' ks',Sp.jAE (.mk k f t u tx ks) p=.mk k' f' t' u' x' ks'→TreeAt S w0 s' (.mk k' f' t' u' x' ks')→Pure w0 w'→K k' f' t' u' x' s' w')→m_G1 k f t u tx s sp w0 K by
  refine (w_G1 _ _ _ _ _ _ _ w0 (fun k' f' t' u' x' s' w'=>∃ks',Sp.jAE (.mk k f t u tx ks) p=.mk k' f' t' u' x' ks'∧TreeAt S w0 s' (.mk k' f' t' u' x' ks')∧Pure w0 w') (key _ (fun k' f' t' u' x' s' w' ks' h1 h2 h3=>⟨ks',h1,h2,h3⟩))).mono ?_;rintro _ w' ⟨k',f',t',u',x',s',rfl,ks',h1,h2,h3⟩;rw [h1];exact ⟨s',rfl,h2,h3⟩
 intro K hK
 have hlen:sp.len=p.length:=by rw [hp.len];simp [jRO]
 unfold m_G1
 intro H2 w2 hs2
 refine ⟨fun i _ _ _ _ _ _ k' f' t' u' x' s' H w'=>∃j:Nat,i=j∧j≤p.length∧Pure w0 w'∧∃ks',TreeAt S w0 s' (.mk k' f' t' u' x' ks')∧Sp.jAE (.mk k f t u tx ks) p=Sp.jAE (.mk k' f' t' u' x' ks') (p.drop j),fun i _ _ _ _ _ _ _ _ _ _ _ _ _=>((p.length:Int) - i).toNat,
  ⟨0,rfl,Nat.zero_le _,hs2.first,ks,hT,rfl⟩,?_⟩
 rintro _ _ _ _ _ _ _ k' f' t' u' x' s' Hl wl hl ⟨j,rfl,hj,El,ks',hT',heq⟩
 unfold m_G1_l1
 refine ⟨fun hc=>?_,fun hc=>?_⟩
 ·have hlt:=uC hlen hc
  rw [List.drop_eq_getElem_cons hlt,Sp.jAE] at heq
  have hpp:∀w',Pure w0 w'→∃a,At sp j 1 a∧S2 a.block∧w'.cell? a=some (.int .i64 (p[j]:Int)):=by
   intro w' E;obtain ⟨a,h1,h2,h3⟩:=(hp.pure E).nth (f:=fun i:Nat=>[Value.int .i64 (i:Int)]) (xs:=p) hlt;exact ⟨a,h1,h2,jCB h3⟩
  obtain ⟨a,hat,_,_⟩:=hpp wl El
  refine ⟨a,hat,?_⟩
  intro w3 hs3
  have E3:=El.hst hs3
  have hs3':=hs3.here
  obtain ⟨a1,hat1,hS1,hc1⟩:=hpp w3 E3
  have haa:a1=a:=by
   obtain ⟨_,_,x,hx,rfl⟩:=hat;obtain ⟨_,_,y,hy,rfl⟩:=hat1;rw [hx] at hy;cases hy;rfl
  subst haa
  have hl':s'.len=ks'.length:=by cases hT';assumption
  refine ⟨_,hc1,fun h=>?_,fun h=>?_⟩
  ·have : ks'[p[j]]? = none := by
    have h:=of_decide_eq_true h;exact List.getElem?_eq_none (by omega)
   rw [show (Sp.Tree.mk k' f' t' u' x' ks').kids=ks' from rfl,this] at heq
   intro w4 hs4
   exact hK _ _ _ _ _ _ _ _ heq TreeAt.leaf (E3.hst hs4)
  ·have hlt2:p[j]<ks'.length:=by have h:=of_decide_eq_false h;omega
   rw [show (Sp.Tree.mk k' f' t' u' x' ks').kids=ks' from rfl,List.getElem?_eq_getElem hlt2] at heq
   have hd:∀b,S b→¬ Hl b:=fun b hb hh=>by have:=hl.old b hh;have:=hSw b hb;omega
   have hd2:∀b,S2 b→¬ Hl b:=fun b hb hh=>by have:=hl.old b hh;have:=hS2 b hb;omega
   cases hT' with
   | mk _ _ _ _ _ _ _ rs len fit row kid =>
   obtain ⟨a3,hat3,hS3,hr3⟩:=row _ hlt2
   refine ⟨a1,hat1,_,hc1,hd2 _ hS1,a3,hat3,_,_,_,_,_,rs p[j],E3.row hr3 id,hd _ hS3,?_⟩
   intro H3 w7 hs7
   rw [vE hlt (by omega)]
   refine ⟨⟨j+1,rfl,hlt,E3.hst hs7,ks'[p[j]].kids,?_,?_⟩,jAU hlt⟩
   ·have:=kid _ hlt2
    generalize ks'[p[j]]=y at *
    obtain ⟨_,_,_,_,_,_⟩:=y
    exact this
   ·rw [heq]
    generalize ks'[p[j]]=y
    obtain ⟨_,_,_,_,_,_⟩:=y
    rfl
 ·have hge:=uS hlen hj hc
  subst hge
  rw [List.drop_length] at heq
  intro w9 hs9
  exact hK _ _ _ _ _ _ _ _ heq hT' (El.hst hs9)
theorem jMG:∀j:Nat,j<4→∀w,(Go.binOp .rem 3 (.int .i64 (j:Int)) (.int .i64 2)).run prog w=.ok (.int .i64 ((j % 2:Nat):Int)) w
 | 0,_,w=>by kernel_rfl
 | 1,_,w=>by kernel_rfl
 | 2,_,w=>by kernel_rfl
 | 3,_,w=>by kernel_rfl
 | n+4,h,_=>by omega
theorem jMH:∀j:Nat,j<4→∀w,(Go.binOp .quo 3 (.int .i64 (j:Int)) (.int .i64 2)).run prog w=.ok (.int .i64 ((j / 2:Nat):Int)) w
 | 0,_,w=>by kernel_rfl
 | 1,_,w=>by kernel_rfl
 | 2,_,w=>by kernel_rfl
 | 3,_,w=>by kernel_rfl
 | n+4,h,_=>by omega
theorem Lst.of_path {w:World} {p:Addr} {T:TypeId} (ts:List Nat) (h:Box w p (ts.map fun t:Nat=>Value.int .i64 (t:Int)) T):Lst (·=p.block) w 1 ⟨some p,ts.length,ts.length⟩ (jRO ts):=by
 refine ⟨by simp [jRO],fun i hi=>?_⟩;have hi':i<ts.length:=by simpa [jRO] using hi
 refine ⟨p.add (i*1),⟨by omega,by simpa using hi',p,rfl,by simp⟩,by rw [zU],fun j hj=>?_⟩;have hj0:j=0:=by simpa [jRO] using hj
 subst hj0;have:=h.cell (i:=i) (v:=.int .i64 (ts[i]:Int)) (by simp [hi']);rw [uV,Nat.mul_one,Nat.add_zero,this];simp [jRO]
theorem TreeAt.back {S:NP} {w w':World} {s:Sl} {t:Sp.Tree} (h:TreeAt S w' s t) (hE:Pure w w') (hd:∀b,S b→b<w.heap.size):TreeAt S w s t:=by
 induction h with
 | mk k f t u x ks s rs len fit row kid ih =>
  refine .mk k f t u x ks s rs len fit (fun i h=>let ⟨a,h1,h2,h3⟩:=row i h;⟨a,h1,h2,fun j hj=>?_⟩) ih
  rw [← h3 j hj]
  unfold World.cell?
  rw [zU,hE.keep _ (hd _ h2) (fun h=>h)]
theorem jDY {S:NP} (x:Sp.Tree) (s:Sl) (w0:World) (hT:TreeAt S w0 s x) (hSw:∀b,S b→b<w0.heap.size) :
  Calls prog 90 #[.agg (qX x s).toArray] w0 (fun e w'=>∃k f c:Int,∃t:ByteArray,∃g r:Bool,e=.returned (.tuple #[.agg #[.int .i64 k,.int .i64 f,.int .u64 c,.string t,.bool g],.bool r])∧(((⟨k,f,c,t,g⟩:Sp.Letter),r)=Sp.qK x∧Pure w0 w')):=by
 obtain ⟨xk,xf,xt,xu,xx,ks⟩:=x
 generalize hx:Sp.Tree.mk xk xf xt xu xx ks=x at *
 have hxr:qX x s=[.int .i64 xk,.int .i64 xf,.int .i64 xt,.int .u64 xu,.string xx,s.v]:=by rw [← hx];rfl
 have hxn:x.node.frm=xf:=by rw [← hx];rfl
 rw [hxr]
 suffices key:∀K:Int→Int→Int→ByteArray→Bool→Bool→WP,(∀k f c t g r w',(((⟨k,f,c,t,g⟩:Sp.Letter),r)=Sp.qK x∧Pure w0 w')→K k f c t g r w')→m_I xk xf xt xu xx s w0 K from
  w_I _ _ _ _ _ _ w0 _ (key _ (fun _ _ _ _ _ _ _ h=>h))
 intro K hK
 have hxv:(Value.agg #[.int .i64 xk,.int .i64 xf,.int .i64 xt,.int .u64 xu,.string xx,s.v])=.agg (qX x s).toArray:=by rw [hxr]
 have tS:∀{w},Pure w0 w→TreeAt S w s x∧∀b,S b→b<w.heap.size:=fun E=>⟨hT.pure E,fun b hb=>by have:=hSw b hb;have:=E.size;omega⟩
 unfold m_I
 intro H2 w2 hs2 p3 w3 h3 p4 w4 h4 p5 w5 h5 p6 w6 h6
 have E2:=hs2.first
 have b3:=(((Box.of_new h3).pure (Ext.new h4)).pure (Ext.new h5)).pure (Ext.new h6)
 have b4:=((Box.of_new h4).pure (Ext.new h5)).pure (Ext.new h6)
 have b5:=(Box.of_new h5).pure (Ext.new h6)
 have b6:=Box.of_new h6
 have E6:Pure w2 w6:=(((Ext.new h3:Pure w2 w3).trans (Ext.new h4)).trans (Ext.new h5)).trans (Ext.new h6)
 have hs6:=hs2.again E6.keptP
 have v3:w2.heap.size≤p3.block:=by have:=h3.at_size;omega
 have v4:w2.heap.size≤p4.block:=by have:=h4.at_size;have:=(Ext.new (F:=None) h3).size;omega
 have v5:w2.heap.size≤p5.block:=by have:=h5.at_size;have:=(Ext.new (F:=None) h3).size;have:=(Ext.new (F:=None) h4).size;omega
 have v6:w2.heap.size≤p6.block:=by have:=h6.at_size;have:=(Ext.new (F:=None) h3).size;have:=(Ext.new (F:=None) h4).size;have:=(Ext.new (F:=None) h5).size;omega
 let B:WP:=fun w=>Box w p3 [.int .i64 0] 3∧Box w p4 [.int .i64 0,.int .i64 1,.int .i64 0,.int .i64 0] 3∧Box w p5 [.int .i64 0,.int .i64 1] 3∧Box w p6 [(Sl.mk (some p3) 1 1).v,(Sl.mk (some p4) 4 4).v,(Sl.mk (some p5) 2 2).v] 50
 let V:NP→Prop:=fun H=>¬ H p3.block∧¬ H p4.block∧¬ H p5.block∧¬ H p6.block
 have B6:B w6:=⟨b3,b4,b5,b6⟩
 have V6:V H2:=⟨fun h=>by have:=hs2.lt _ h;omega,fun h=>by have:=hs2.lt _ h;omega,fun h=>by have:=hs2.lt _ h;omega,fun h=>by have:=hs2.lt _ h;omega⟩
 have Bp:∀{w w'},B w→Pure w w'→B w':=fun h E=>⟨h.1.pure E,h.2.1.pure E,h.2.2.1.pure E,h.2.2.2.pure E⟩
 have BV:∀{H w H' w'},B w∧V H→Hst w0 H w H' w'→B w'∧V H':=by
  rintro H w H' w' ⟨⟨q3,q4,q5,q6⟩,⟨n3,n4,n5,n6⟩⟩ hs;have d:∀(p:Addr),p.block<w.heap.size→¬ H p.block→¬ H' p.block:=fun p h1 h2=>hs.disj (G:=(·=p.block)) (fun b e=>by subst e;exact ⟨h1,h2⟩) _ rfl;have m3:=d p3 q3.lt n3;have m4:=d p4 q4.lt n4;have m5:=d p5 q5.lt n5;have m6:=d p6 q6.lt n6;exact ⟨⟨q3.ext hs.ext m3,q4.ext hs.ext m4,q5.ext hs.ext m5,q6.ext hs.ext m6⟩,⟨m3,m4,m5,m6⟩⟩
 refine ⟨fun kd _ _ _ _ _ H w'=>∃q:Nat,kd=(q:Int)+1∧q≤7∧Pure w0 w'∧(B w'∧V H)∧Sp.yR x 7 1=Sp.yR x (7 - q) ((q:Int)+1),fun kd _ _ _ _ _ _=>(8 - kd).toNat,⟨0,rfl,by omega,E2.trans E6,⟨B6,V6⟩,rfl⟩,?_⟩
 rintro _ d1 d2 d3 d4 d5 Hl wl hl ⟨q,rfl,hq,El,BVl,heq⟩
 unfold m_I_l1
 refine ⟨fun hc=>?_,fun hc=>?_⟩
 ·have hq7:q<7:=by have:=of_decide_eq_true hc;omega
  obtain ⟨n,hn⟩:∃n,7 - q=n+1:=⟨7 - q - 1,by omega⟩
  have hstep:Sp.yR x (n+1) ((q:Int)+1)=(match Sp.qP x ((q:Int)+1) Sp.deals with | some l=>some l | none=>Sp.yR x n ((q:Int)+1+1)):=rfl
  rw [hn,hstep] at heq
  clear hstep
  generalize hkd:((q:Int)+1)=kd at *
  refine ⟨fun i _ _ _ _ _ H w'=>∃j:Nat,i=j∧j≤3∧Pure w0 w'∧(B w'∧V H)∧Sp.qP x kd Sp.deals=Sp.qP x kd (Sp.deals.drop j),fun i _ _ _ _ _ _=>(3 - i).toNat,⟨0,rfl,by omega,El,BVl,rfl⟩,?_⟩
  rintro _ d1 d2 d3 d4 d5 Hm wm hm ⟨j,rfl,hj,Em,BVm,heqd⟩
  unfold m_I_l2
  refine ⟨fun hc2=>?_,fun hc2=>?_⟩
  ·have hj3:j<3:=by have:=of_decide_eq_true hc2;simp only at this;omega
   have hjd:j<Sp.deals.length:=hj3
   have hstep:Sp.qP x kd (Sp.deals[j] :: Sp.deals.drop (j+1))=(match Sp.yB x (Sp.jKJ x kd Sp.deals[j]) 4 0 with | some l=>some l | none=>Sp.qP x kd (Sp.deals.drop (j+1))):=rfl
   rw [List.drop_eq_getElem_cons hjd,hstep] at heqd
   clear hstep
   generalize hpp:Sp.deals[j]=pp at *
   have hpath:∃a:Addr,∃sl:Sl,At (Sl.mk (some p6) 3 3) (j:Int) 1 a∧(∀w,B w→w.cell? a=some sl.v∧∃S2:NP,Lst S2 w 1 sl (jRO pp)∧∀b,S2 b→b<w.heap.size):=by
    have hj':j=0∨j=1∨j=2:=by omega
    rcases hj' with rfl | rfl | rfl
    ·have:pp=[0]:=hpp.symm;subst this;refine ⟨p6,⟨some p3,1,1⟩,⟨by omega,by simp,p6,rfl,by simp [Addr.add]⟩,fun w h=>⟨h.2.2.2.cell0,_,Lst.of_path [0] h.1,fun b e=>by subst e;exact h.1.lt⟩⟩
    ·have:pp=[0,1,0,0]:=hpp.symm;subst this;refine ⟨p6.add 1,⟨some p4,4,4⟩,⟨by omega,by simp,p6,rfl,rfl⟩,fun w h=>⟨h.2.2.2.cell rfl,_,Lst.of_path [0,1,0,0] h.2.1,fun b e=>by subst e;exact h.2.1.lt⟩⟩
    ·have:pp=[0,1]:=hpp.symm;subst this;refine ⟨p6.add 2,⟨some p5,2,2⟩,⟨by omega,by simp,p6,rfl,rfl⟩,fun w h=>⟨h.2.2.2.cell rfl,_,Lst.of_path [0,1] h.2.2.1,fun b e=>by subst e;exact h.2.2.1.lt⟩⟩
   obtain ⟨a,sl,hat,hcell⟩:=hpath
   have hppl:pp.length≤100:=by
    have hj':j=0∨j=1∨j=2:=by omega
    rcases hj' with rfl | rfl | rfl <;> (rw [← hpp];simp [Sp.deals])
   have J3 : ∀ (a1 : Addr) (w : World) (sd : Sl) (Td : TypeId), Hst w0 Hm w Hm w → Pure w0 w → (B w ∧ V Hm) → Box w a1 (qX (Sp.jAE x pp) sd) Td → ¬ Hm a1.block → TreeAt S w0 sd (Sp.jAE x pp) →
     m_I_j3 xk xf xt xu xx s kd j d1 d2 d3 d4 d5 a1 w0 Hm w (fun y'0 y'1 y'2 y'3 y'4 y'5 H' w'=>(∃j:Nat,y'0=j∧j≤3∧Pure w0 w'∧(B w'∧V H')∧Sp.qP x kd Sp.deals=Sp.qP x kd (Sp.deals.drop j))∧(3 - y'0).toNat<(3 - (j:Int)).toNat) K:=by
    intro a1 w sd Td hs E hBV hB1 hv1 hTd
    unfold m_I_j3
    have J4 : ∀ (c : Int) (t : ByteArray) (H : NP) (w : World), Hst w0 H w H w → Pure w0 w → (B w ∧ V H) → (⟨kd, cond (s_B kd) xf 0, c, t, false⟩ : Sp.Letter) = Sp.jKJ x kd pp →
      m_I_j4 xk xf xt xu xx s kd j d1 d2 d3 d4 d5 kd (cond (s_B kd) xf 0) c t false w0 H w (fun y'0 y'1 y'2 y'3 y'4 y'5 H' w'=>(∃j:Nat,y'0=j∧j≤3∧Pure w0 w'∧(B w'∧V H')∧Sp.qP x kd Sp.deals=Sp.qP x kd (Sp.deals.drop j))∧(3 - y'0).toNat<(3 - (j:Int)).toNat) K:=by
     intro c t H w hs E hBV hcand
     generalize hlf:cond (s_B kd) xf 0=lf at *
     rw [← hcand] at heqd
     unfold m_I_j4
     refine ⟨fun fk lk lf' lc lt lg _ _ _ _ _ H w'=>(kd=lk∧lf=lf'∧c=lc∧t=lt)∧∃f:Nat,fk=f∧f≤4∧Pure w0 w'∧(B w'∧V H)∧Sp.yB x ⟨kd,lf,c,t,false⟩ 4 0=Sp.yB x ⟨kd,lf,c,t,false⟩ (4 - f) f,fun fk _ _ _ _ _ _ _ _ _ _ _=>(4 - fk).toNat,⟨⟨rfl,rfl,rfl,rfl⟩,0,rfl,by omega,E,hBV,rfl⟩,?_⟩
     rintro _ _ _ _ _ lg e1 e2 e3 e4 e5 Hf wf hsf ⟨⟨rfl,rfl,rfl,rfl⟩,f,rfl,hf4,Ef,BVf,heqf⟩
     unfold m_I_l5
     refine ⟨fun hc3=>?_,fun hc3=>?_⟩
     ·have hf:f<4:=by have:=of_decide_eq_true hc3;omega
      obtain ⟨m,hm'⟩:∃m,4 - f=m+1:=⟨4 - f - 1,by omega⟩
      have hstep:Sp.yB x ⟨kd,lf,c,t,false⟩ (m+1) f=(if Sp.jIA x ⟨kd,lf,c,t,false⟩ f then some (Sp.uB ⟨kd,lf,c,t,false⟩ f) else Sp.yB x ⟨kd,lf,c,t,false⟩ m (f+1)):=rfl
      rw [hm',hstep] at heqf
      clear hstep
      intro w14 hs14
      have E14:=Ef.hst hs14
      have BV14:=BV BVf hs14
      have hd14:Pure w14 w14.drew:=Ext.drew w14
      refine ⟨fun w'=>Pure w14 w',hd14,?_⟩
      rintro _ rfl
      have hfd:decide ((f:Int)>0)=decide (f>0):=decide_eq_decide.2 (by omega)
      rw [hfd]
      refine (p_V1 kd lf c t (decide (f>0)) w14.drew).mono ?_
      rintro _ w16 ⟨rfl,E16⟩
      rw [jKU ⟨kd,lf,c,t,decide (f>0)⟩]
      have Ed:=hd14.trans E16
      refine ⟨_,rfl,Ed,E16.keptP,?_⟩
      have hwf:Sp.uB ⟨kd,lf,c,t,false⟩ f=⟨kd,lf,c,t,decide (f>0)⟩:=rfl
      have next:∀w',Pure w14 w'→Sp.jIA x ⟨kd,lf,c,t,false⟩ f=false→((((kd=kd∧lf=lf∧c=c∧t=t)∧∃f':Nat,IntKind.i64.wrap ((f:Int)+1)=f'∧f'≤4∧Pure w0 w'∧(B w'∧V Hf)∧Sp.yB x ⟨kd,lf,c,t,false⟩ 4 0=Sp.yB x ⟨kd,lf,c,t,false⟩ (4 - f') f'))∧(4 - IntKind.i64.wrap ((f:Int)+1)).toNat<(4 - (f:Int)).toNat):=by
       intro w' E' hno;rw [hno,if_neg (by simp)] at heqf;rw [vE hf (by omega)];exact ⟨⟨⟨rfl,rfl,rfl,rfl⟩,f+1,rfl,hf,E14.trans E',⟨Bp BV14.1 E',BV14.2⟩,by rw [heqf,show m=4 - (f+1) from by omega]⟩,by omega⟩
      have found:∀w',Pure w0 w'→Sp.jIA x ⟨kd,lf,c,t,false⟩ f=true→K kd lf c t (decide (f>0)) true w':=by
       intro w' E' hyes;rw [hyes,if_pos rfl,hwf] at heqf;rw [heqf] at heqd;rw [heqd] at heq;exact hK _ _ _ _ _ _ _ ⟨by unfold Sp.qK;rw [heq],E'⟩
      have cmp : ∀ w, Pure w14 w → Sp.qJ ⟨kd, lf, c, t, decide (f > 0)⟩ = 0 → (kd == 4 || decide (f ≠ 2)) = true →
        Calls prog 71 #[.agg #[.int .i64 kd,.int .i64 lf,.int .u64 c,.string t,.bool (decide (f>0))],.bool (((f % 2:Nat):Int) == 1),.bool (((f / 2:Nat):Int) == 1)] w (fun e w17=>∃rKind1:Int,∃rFrom1:Int,∃rTo1:Int,∃rNum1:Int,∃rText1:ByteArray,∃rKids1:Sl,e=.returned (.agg #[(.int .i64 rKind1),(.int .i64 rFrom1),(.int .i64 rTo1),(.int .u64 rNum1),(.string rText1),rKids1.v])∧Pure w14 w17∧Kept Hf w w17 ∧
         Calls prog 37 #[.agg #[(.int .i64 rKind1),(.int .i64 rFrom1),(.int .i64 rTo1),(.int .u64 rNum1),(.string rText1),rKids1.v],.agg #[.int .i64 xk,.int .i64 xf,.int .i64 xt,.int .u64 xu,.string xx,s.v]] w17 (fun e w18=>∃r2:Bool,e=.returned (.bool r2)∧Pure w14 w18∧Kept Hf w17 w18∧r2=Sp.jIA x ⟨kd,lf,c,t,false⟩ f)):=by
       intro w Ew herr hk4
       have hfr:lf=0∨lf=1:=by
        unfold Sp.qJ at herr;simp only at herr;split at herr
        ·cases herr
        ·rename_i h;simp only [not_or,not_and] at h;have:=h.2.2.1;by_cases h0:lf=0
         ·exact .inl h0
         ·exact .inr (Classical.not_not.1 (this h0))
       have hb1:(((f % 2:Nat):Int) == 1)=(f % 2 == 1):=by rw [Bool.eq_iff_iff];simp;omega
       have hb2:(((f / 2:Nat):Int) == 1)=(f / 2 == 1):=by rw [Bool.eq_iff_iff];simp;omega
       rw [hb1,hb2]
       refine (jJV w.heap.size kd lf c t (decide (f>0)) (f % 2 == 1) (f / 2 == 1) w (Nat.le_refl _) hfr).mono ?_
       rintro _ w17 ⟨s',rfl,hT',E17⟩
       generalize hLT:Sp.vQ ⟨kd,lf,c,t,decide (f>0)⟩ (f % 2 == 1) (f / 2 == 1)=LT at *
       obtain ⟨lk,lff,lt,lu,lx,lks⟩:=LT
       refine ⟨_,_,_,_,_,s',rfl,Ew.trans E17,E17.keptP,?_⟩
       rw [hxv]
       have E017:=(E14.trans Ew).trans E17
       refine (jDS (S:=fun b=>b<w17.heap.size) (.mk lk lff lt lu lx lks) x s' s w17 (hT'.lt.mono (fun b hb=>hb.2)) ((tS E017).1.mono (tS E017).2) (fun b hb=>hb)).mono ?_
       rintro _ w18 ⟨r,rfl,hr,E18⟩
       refine ⟨_,rfl,(Ew.trans E17).trans E18,E18.keptP,?_⟩
       unfold Sp.jIA
       rw [hwf,hLT,hr]
       simp [herr]
       intro _
       simpa using hk4
      refine ⟨fun h1=>⟨fun h2=>?_,fun h2=>⟨fun h3=>?_,fun h3=>?_⟩⟩,fun h1=>?_⟩
      ·refine ⟨_,fun w' _=>jMG f hf w',_,fun w' _=>jMH f hf w',?_⟩
       refine (cmp w16 Ed (by simpa using h1) (by rw [h2];rfl)).mono ?_
       rintro _ w17 ⟨_,_,_,_,_,s',rfl,E17,K17,h17⟩
       refine ⟨_,_,_,_,_,s',rfl,E17,K17,?_⟩
       refine h17.mono ?_
       rintro _ w18 ⟨r,rfl,E18,K18,hr⟩
       refine ⟨_,rfl,E18,K18,fun h=>?_,fun h=>next _ E18 (by rw [← hr];exact h)⟩
       intro w19 hs19
       exact found _ ((E14.trans E18).hst hs19) (by rw [← hr];exact h)
      ·refine ⟨_,fun w' _=>jMG f hf w',_,fun w' _=>jMH f hf w',?_⟩
       have hf2:decide (f≠2)=true:=decide_eq_true (fun e=>by subst e;simp at h3)
       refine (cmp w16 Ed (by simpa using h1) (by rw [hf2];simp)).mono ?_
       rintro _ w17 ⟨_,_,_,_,_,s',rfl,E17,K17,h17⟩
       refine ⟨_,_,_,_,_,s',rfl,E17,K17,?_⟩
       refine h17.mono ?_
       rintro _ w18 ⟨r,rfl,E18,K18,hr⟩
       refine ⟨_,rfl,E18,K18,fun h=>?_,fun h=>next _ E18 (by rw [← hr];exact h)⟩
       intro w19 hs19
       exact found _ ((E14.trans E18).hst hs19) (by rw [← hr];exact h)
      ·refine next _ Ed ?_
       have hf2 : f = 2 := by have : (f : Int) = 2 := by simpa using h3
                              omega
       unfold Sp.jIA
       simp only
       rw [h2,hf2];simp
      ·refine next _ Ed ?_
       unfold Sp.jIA
       rw [hwf]
       have:decide (Sp.qJ ⟨kd,lf,c,t,decide (f>0)⟩=0)=false:=decide_eq_false (by simpa using h1)
       rw [this];rfl
     ·have hf:f=4:=by have:=of_decide_eq_false hc3;omega
      subst hf
      rw [Nat.sub_self,Sp.yB] at heqf
      rw [heqf] at heqd
      simp only at heqd
      rw [vE hj3 (by omega)]
      exact ⟨⟨j+1,rfl,hj3,Ef,BVf,heqd⟩,by omega⟩
    have hsg:s_B kd=Sp.isSigned kd:=rfl
    have hcf:cond (s_B kd) xf 0=(Sp.jKJ x kd pp).frm:=by
     rw [hsg];unfold Sp.jKJ;simp only;rw [hxn];cases Sp.isSigned kd <;> rfl
    have place : ∀ (y : Sp.Tree) (sy : Sl) (pth : List Nat) (w : World) (p8 : Addr) (w23 : World), Pure w0 w → TreeAt S w0 sy y → New w (.cells (pth.map fun t : Nat => Value.int .i64 (t : Int)).toArray 3) p8 w23 → pth.length ≤ 100 →
      Calls prog 92 #[.agg (qX y sy).toArray,(Sl.mk (some p8) pth.length pth.length).v] w23 (fun e w'=>∃s',e=.returned (.agg (qX (Sp.jAE y pth) s').toArray)∧TreeAt S w23 s' (Sp.jAE y pth)∧Pure w23 w'):=by
     intro y sy pth w p8 w23 E hTy h8 hpl
     have E23:Pure w0 w23:=E.trans (Ext.new h8)
     exact xR (S2:=(·=p8.block)) y sy _ pth w23 (hTy.pure E23) (tS E23).2 (Lst.of_path pth (Box.of_new h8)) (fun b e=>by subst e;exact (Box.of_new h8).lt) hpl
    refine ⟨fun htx=>?_,fun htx=>⟨fun h7=>?_,fun h7=>?_⟩⟩
    ·have htx':Sp.isTexted kd=true:=htx
     intro H4 w13 hs13
     have E13:=E.hst hs13
     have BV13:=BV hBV hs13
     have hv13:¬ H4 a1.block:=hs13.disj (G:=(·=a1.block)) (fun b e=>by subst e;exact ⟨hB1.lt,hv1⟩) _ rfl
     have B13:=hB1.ext hs13.ext hv13
     generalize hD:Sp.jAE x pp=D at *
     obtain ⟨dk,df,dt,du,dx,dks⟩:=D
     refine ⟨_,_,_,_,_,sd,B13.row,?_⟩
     intro p8 w23 h8
     have E23:Pure w13 w23:=Ext.new h8
     refine (place (.mk dk df dt du dx dks) sd [1,0] w13 p8 w23 E13 hTd h8 (by simp)).mono ?_
     rintro _ w24 ⟨s1,rfl,_,E24⟩
     generalize hk1:Sp.jAE (.mk dk df dt du dx dks) [1,0]=y1 at *
     obtain ⟨y1k,y1f,y1t,y1u,y1x,y1s⟩:=y1
     refine ⟨_,_,_,_,_,s1,rfl,E24.keptP,?_⟩
     intro w25 hs25
     have E1324:=E23.trans E24
     have B24:=B13.pure E1324
     have hv25:¬ H4 a1.block:=hv13
     have B25:=B24.ext hs25.ext hv25
     refine ⟨_,_,_,_,_,sd,B25.row,?_⟩
     have E25:=(E13.trans E1324).hst hs25
     have BV25:=BV ⟨Bp BV13.1 E1324,BV13.2⟩ hs25
     intro p9 w26 h9
     have E26:Pure w25 w26:=Ext.new h9
     refine (place (.mk dk df dt du dx dks) sd [1,1] w25 p9 w26 E25 hTd h9 (by simp)).mono ?_
     rintro _ w27 ⟨s2,rfl,_,E27⟩
     generalize hk2:Sp.jAE (.mk dk df dt du dx dks) [1,1]=y2 at *
     obtain ⟨y2k,y2f,y2t,y2u,y2x,y2s⟩:=y2
     refine ⟨_,_,_,_,_,s2,rfl,E27.keptP,?_⟩
     intro w28 hs28
     have E2527:=E26.trans E27
     refine J4 y1u y2x H4 w28 hs28.here ((E25.trans E2527).hst hs28) (BV ⟨Bp BV25.1 E2527,BV25.2⟩ hs28) ?_
     rw [hcf]
     unfold Sp.jKJ
     simp only [htx',if_true,hD,hk1,hk2]
     rfl
    ·have h7:kd=7:=by simpa using h7
     intro H4 w13 hs13
     have E13:=E.hst hs13
     have BV13:=BV hBV hs13
     intro p10 w29 h10
     have E29:Pure w13 w29:=Ext.new h10
     rw [hxv]
     refine (place x s [1] w13 p10 w29 E13 hT h10 (by simp)).mono ?_
     rintro _ w30 ⟨s1,rfl,_,E30⟩
     generalize hk1:Sp.jAE x [1]=y1 at *
     obtain ⟨y1k,y1f,y1t,y1u,y1x,y1s⟩:=y1
     refine ⟨_,_,_,_,_,s1,rfl,E30.keptP,?_⟩
     intro w31 hs31
     have E1330:=E29.trans E30
     refine J4 y1u ⟨#[]⟩ H4 w31 hs31.here ((E13.trans E1330).hst hs31) (BV ⟨Bp BV13.1 E1330,BV13.2⟩ hs31) ?_
     rw [hcf]
     unfold Sp.jKJ
     subst h7
     simp only [hk1]
     rfl
    ·have h7:kd≠7:=by simpa using h7
     have htx':Sp.isTexted kd=false:=htx
     intro H4 w13 hs13
     have E13:=E.hst hs13
     have BV13:=BV hBV hs13
     intro p11 w32 h11
     have E32:Pure w13 w32:=Ext.new h11
     rw [hxv]
     refine (place x s [0,1] w13 p11 w32 E13 hT h11 (by simp)).mono ?_
     rintro _ w33 ⟨s1,rfl,_,E33⟩
     generalize hk1:Sp.jAE x [0,1]=y1 at *
     obtain ⟨y1k,y1f,y1t,y1u,y1x,y1s⟩:=y1
     refine ⟨_,_,_,_,_,s1,rfl,E33.keptP,?_⟩
     intro w34 hs34
     have E1333:=E32.trans E33
     refine J4 y1u ⟨#[]⟩ H4 w34 hs34.here ((E13.trans E1333).hst hs34) (BV ⟨Bp BV13.1 E1333,BV13.2⟩ hs34) ?_
     rw [hcf]
     unfold Sp.jKJ
     have h7b:(kd == 7)=false:=by simpa using h7
     simp only [htx',h7b,hk1,Bool.false_eq_true,if_false]
     rfl
   have Edr:Pure wm wm.drew:=Ext.drew wm
   have Emd:=Em.trans Edr
   have Bmd:=Bp BVm.1 Edr
   refine ⟨fun w'=>B w',Bmd,?_⟩
   rintro _ rfl
   refine ⟨a,hat,sl,fun w' h=>(hcell w' h).1,?_,?_⟩
   ·rw [hxv]
    obtain ⟨_,S2,hL,hS2⟩:=hcell _ Bmd
    refine (xR x s sl pp wm.drew (tS Emd).1 (tS Emd).2 hL hS2 hppl).mono ?_
    rintro _ w36 ⟨sd,rfl,hTd,E36⟩
    generalize hD:Sp.jAE x pp=D at *
    obtain ⟨dk,df,dt,du,dx,dks⟩:=D
    refine ⟨_,_,_,_,_,sd,rfl,E36.keptP,?_⟩
    intro p12 w37 h12
    have E37:=E36.trans (Ext.new h12)
    have b12:=Box.of_new h12
    have hnh:¬ Hm p12.block:=by intro hh;have:=hm.lt _ hh;have:=h12.at_size;have:=(Edr.trans E36).size;omega
    have B36:=Bp Bmd E36
    have B37:=Bp Bmd E37
    have hTd0:TreeAt S w0 sd (Sp.Tree.mk dk df dt du dx dks):=hTd.back Emd hSw
    refine ⟨B37,b12.canWs (n:=6) (by simp),hnh,?_⟩
    rintro _ rfl
    have E38:=Ext.storeRow w37 p12 [(.int .i64 dk),(.int .i64 df),(.int .i64 dt),(.int .u64 du),(.string dx),sd.v]
    have b38:=b12.store (vs:=[(.int .i64 dk),(.int .i64 df),(.int .i64 dt),(.int .u64 du),(.string dx),sd.v]) rfl
    exact J3 p12 _ sd _ ((hm.again (Edr.trans E37).keptP).again (E38.kept (fun b hb e=>hnh (e▸hb)))) ((Emd.trans E37).own (by have:=h12.at_size;have:=(Emd.trans E36).size;omega) E38) ⟨⟨B37.1.ext E38 (New.ne h12 B36.1.blk),B37.2.1.ext E38 (New.ne h12 B36.2.1.blk),B37.2.2.1.ext E38 (New.ne h12 B36.2.2.1.blk),B37.2.2.2.ext E38 (New.ne h12 B36.2.2.2.blk)⟩,BVm.2⟩ b38 hnh hTd0
   ·rw [hxv]
    intro p13 w39 h13
    have E39:Pure wm.drew w39:=Ext.new h13
    have B39:=Bp Bmd E39
    have Em39:=Emd.trans E39
    have b13:=Box.of_new h13
    have hnh:¬ Hm p13.block:=by intro hh;have:=hm.lt _ hh;have:=h13.at_size;have:=Edr.size;omega
    obtain ⟨_,S2,hL,hS2⟩:=hcell _ B39
    refine ⟨B39,(xR x s sl pp w39 (tS Em39).1 (tS Em39).2 hL hS2 hppl).mono ?_⟩
    rintro _ w40 ⟨sd,rfl,hTd,E40⟩
    generalize hD:Sp.jAE x pp=D at *
    obtain ⟨dk,df,dt,du,dx,dks⟩:=D
    have hTd0:TreeAt S w0 sd (Sp.Tree.mk dk df dt du dx dks):=hTd.back Em39 hSw
    have B40:=Bp B39 E40
    have b40:=b13.pure E40
    refine ⟨_,_,_,_,_,sd,rfl,E40.keptP,b40.canWs (n:=6) (by simp),hnh,?_⟩
    rintro _ rfl
    have E41:=Ext.storeRow w40 p13 [(.int .i64 dk),(.int .i64 df),(.int .i64 dt),(.int .u64 du),(.string dx),sd.v]
    have b41:=b40.store (vs:=[(.int .i64 dk),(.int .i64 df),(.int .i64 dt),(.int .u64 du),(.string dx),sd.v]) rfl
    exact J3 p13 _ sd _ ((hm.again ((Edr.trans E39).trans E40).keptP).again (E41.kept (fun b hb e=>hnh (e▸hb)))) ((Em39.trans E40).own (by have:=h13.at_size;have:=Emd.size;omega) E41) ⟨⟨B40.1.ext E41 (New.ne h13 Bmd.1.blk),B40.2.1.ext E41 (New.ne h13 Bmd.2.1.blk),B40.2.2.1.ext E41 (New.ne h13 Bmd.2.2.1.blk),B40.2.2.2.ext E41 (New.ne h13 Bmd.2.2.2.blk)⟩,BVm.2⟩ b41 hnh hTd0
  ·have hj3:j=3:=by have:=of_decide_eq_false hc2;simp only at this;omega
   subst hj3
   have:Sp.deals.drop 3=[]:=rfl
   rw [this,Sp.qP] at heqd
   rw [heqd] at heq
   simp only at heq
   have hkw:IntKind.i64.wrap (kd+1)=((q+1:Nat):Int)+1:=by rw [IntWalk.i64_in _ (by omega)];omega
   rw [hkw]
   exact ⟨⟨q+1,rfl,hq7,Em,BVm,by rw [heq];congr 1 <;> omega⟩,by show (8 - _:Int).toNat<(8 - _:Int).toNat;omega⟩
 ·have hq7:q=7:=by have:=of_decide_eq_false hc;omega
  subst hq7
  rw [Nat.sub_self,Sp.yR] at heq
  intro w42 hs42
  exact hK _ _ _ _ _ _ _ ⟨by unfold Sp.qK;rw [heq];rfl,El.hst hs42⟩
theorem jJW (p:Addr) {L:Sp.Pool} (hW:Sp.Wf L) (t:Int) (w0:World) (F:NP) (hP:qY w0 p L F) :
  Calls prog 41 #[.pointer (some p),.int .i64 t] w0 (fun e w'=>∃k f c:Int,∃t':ByteArray,∃g r:Bool,e=.returned (.tuple #[.agg #[.int .i64 k,.int .i64 f,.int .u64 c,.string t',.bool g],.bool r])∧(((⟨k,f,c,t',g⟩:Sp.Letter),r)=Sp.tU L t∧Pure w0 w')):=by
 suffices key:∀K:Int→Int→Int→ByteArray→Bool→Bool→WP,(∀k f c t' g r w',(((⟨k,f,c,t',g⟩:Sp.Letter),r)=Sp.tU L t∧Pure w0 w')→K k f c t' g r w')→m_A2 (some p) t w0 K from
  w_A2 _ _ w0 _ (key _ (fun _ _ _ _ _ _ _ h=>h))
 intro K hK
 have hok:=hW.ok
 unfold m_A2
 intro H1 w1 hs1
 have E1:=hs1.first
 refine (uM p t w1 (hP.pure E1)).mono ?_
 rintro _ w2 ⟨r,rfl,hr,rfl⟩
 refine ⟨_,rfl,(Ext.refl _:Pure w2 w2).keptP,fun h=>?_,fun h=>?_⟩
 ·intro w3 hs3
  refine hK _ _ _ _ _ _ _ ⟨?_,E1.hst hs3⟩
  unfold Sp.tU
  rw [if_neg (fun hh=>by rw [hr,hh.1] at h;cases h)]
  rfl
 ·have hin:Sp.inP L t=true:=by rw [← hr];simpa using h
  refine (xZ p t w2 (hP.pure E1) hok).mono ?_
  rintro _ w4 ⟨z,rfl,hz,rfl⟩
  refine ⟨_,rfl,(Ext.refl _:Pure w4 w4).keptP,fun h2=>?_,fun h2=>?_⟩
  ·intro w5 hs5
   refine hK _ _ _ _ _ _ _ ⟨?_,E1.hst hs5⟩
   have h2:=of_decide_eq_true h2
   unfold Sp.tU
   rw [if_neg (fun hh=>hh.2 (hz▸h2))]
   rfl
  ·have h2:=of_decide_eq_false h2
   refine (jDR p hW _ t w4 F rfl (hP.pure E1)).mono ?_
   rintro _ w6 ⟨s',rfl,hT,E6⟩
   generalize hD:Sp.zI L t=D at *
   obtain ⟨dk,df,dt,du,dx,dks⟩:=D
   refine ⟨_,_,_,_,_,s',rfl,E6.keptP,?_⟩
   refine (jDY _ s' w6 hT.lt (fun b hb=>hb.2)).mono ?_
   rintro _ w7 ⟨k,f,c,t',g,r,rfl,hrd,E7⟩
   refine ⟨_,_,_,_,_,_,rfl,E7.keptP,?_⟩
   intro w8 hs8
   refine hK _ _ _ _ _ _ _ ⟨?_,((E1.trans E6).trans E7).hst hs8⟩
   unfold Sp.tU
   rw [if_pos ⟨hin,hz▸h2⟩,hD,hrd]
end Go.Proofs
end
section
namespace Go.Sp
theorem jMC {L:Pool} (hW:Wf L):∀(n:Nat) (t:Int),t.toNat=n→inP L t=true→sizeOf L t=cnt (zI L t):=by
 intro n;induction n using Nat.strongRecOn with
 | _ n ih =>
 intro t hn ht;have h:=hW.node ht;rw [qB hW ht,h.2.2.2.2.2.1,cnt];have:∀l:List Int,(∀k∈l,sizeOf L k=cnt (zI L k))→(l.map (sizeOf L)).sum=(cntAll (l.map (zI L)):Int):=by
  intro l;induction l with
  | nil=>intro _;rfl
  | cons a l ihl=>intro hh;simp only [List.map_cons,List.sum_cons,cntAll,hh a (by simp),ihl (fun k hk=>hh k (by simp [hk]))];omega
 rw [this _ (fun k hk=>?_)]
 ·omega
 ·have hk2:=h.2.2.2.2.1 k hk;have:=vF.1 hk2.1;exact ih k.toNat (by omega) k rfl hk2.1
theorem xL {L:Pool} {t k:Int} (h:(zY L t k).2=false):inP L t=true∧(nodeOf L t).kind=k∧zY L t k=(nodeOf L t,false):=by
 unfold zY at h ⊢;split at h
 ·rename_i hh;exact ⟨hh.1,hh.2,by rw [if_pos hh]⟩
 ·cases h
theorem xM {L:Pool} {t k:Int} (h:inP L t=true) (hk:(nodeOf L t).kind=k):zY L t k=(nodeOf L t,false):=by unfold zY;rw [if_pos ⟨h,hk⟩]
section
variable {L:Pool} (hW:Wf L) {t:Int} (ht:inP L t=true)
include hW ht
theorem jUV:(nodeOf L t).text.size≤64:=by
 have:=(hW.node ht).2.2.2.1;unfold zX at this;split at this
 ·cases this
 split at this
 ·cases this
 ·omega
theorem nd3 (hk:(nodeOf L t).kind=3):zI L t=qF (nodeOf L t).text:=by
 have h:=(hW.node ht).1;rw [qB hW ht,hk,qF];have hkk:zM (nodeOf L t)=[]:=by unfold zM;rw [hk];rfl
 rw [hkk];unfold zZ at h;rw [hk] at h;simp [shapeOf,isKind] at h;simp [h]
theorem nd2 (hk:(nodeOf L t).kind=2):zI L t=jBJ (nodeOf L t).num:=by
 have h:=(hW.node ht).1;rw [qB hW ht,hk,jBJ];have hkk:zM (nodeOf L t)=[]:=by unfold zM;rw [hk];rfl
 rw [hkk];unfold zZ at h;rw [hk] at h;simp [shapeOf,isKind] at h;simp [h]
theorem nd4 (hk:(nodeOf L t).kind=4):inP L (nodeOf L t).a=true∧inP L (nodeOf L t).b=true∧zI L t=qS (zI L (nodeOf L t).a) (zI L (nodeOf L t).b):=by
 have h:=(hW.node ht).1;have hp:=(hW.node ht).2.2.2.2.1;have hkk:zM (nodeOf L t)=[(nodeOf L t).a,(nodeOf L t).b]:=by unfold zM;rw [hk];rfl
 rw [hkk] at hp;refine ⟨(hp _ (by simp)).1,(hp _ (by simp)).1,?_⟩;rw [qB hW ht,hk,qS,hkk];unfold zZ at h;rw [hk] at h;simp [shapeOf,isKind] at h;simp [h]
theorem nd7 (hk:(nodeOf L t).kind=7):inP L (nodeOf L t).a=true∧0≤(nodeOf L t).frm∧zI L t=tC (nodeOf L t).frm (zI L (nodeOf L t).a):=by
 have h:=(hW.node ht).1;have hf:=(hW.node ht).2.2.2.1;have hp:=(hW.node ht).2.2.2.2.1;have hkk:zM (nodeOf L t)=[(nodeOf L t).a]:=by unfold zM;rw [hk];rfl
 rw [hkk] at hp;refine ⟨(hp _ (by simp)).1,?_,?_⟩
 ·unfold zX at hf;rw [hk] at hf;split at hf
  ·cases hf
  ·rename_i hh;simp [shapeOf,xY] at hh;omega
 rw [qB hW ht,hk,tC,hkk];unfold zZ at h;rw [hk] at h;simp [shapeOf,isKind] at h;simp [h]
theorem nd89 (hk:(nodeOf L t).kind=8∨(nodeOf L t).kind=9):inP L (nodeOf L t).a=true∧0≤(nodeOf L t).frm∧(nodeOf L t).frm<16∧((nodeOf L t).to=1 - (nodeOf L t).frm→zI L t=yV (nodeOf L t).frm (zI L (nodeOf L t).a) ((nodeOf L t).kind == 9)):=by
 have h:=(hW.node ht).1;have hf:=(hW.node ht).2.2.2.1;have hp:=(hW.node ht).2.2.2.2.1;have hkk:zM (nodeOf L t)=[(nodeOf L t).a]:=by unfold zM;rcases hk with hk | hk <;> (rw [hk];rfl)
 rw [hkk] at hp;have hff:0≤(nodeOf L t).frm∧(nodeOf L t).frm<16:=by
  unfold zX at hf;rcases hk with hk | hk <;>
  ·rw [hk] at hf;split at hf
   ·cases hf
   ·rename_i hh;simp [shapeOf,xY] at hh;omega
 refine ⟨(hp _ (by simp)).1,hff.1,hff.2,fun hto=>?_⟩;rw [qB hW ht,yV,hkk,← hto];unfold zZ at h;rcases hk with hk | hk <;>
 ·rw [hk] at h ⊢;simp [shapeOf,isKind] at h;simp [h]
theorem xN {k f t' u:Int} {x:ByteArray} {ks:List Tree} (h:zI L t=.mk k f t' u x ks):(nodeOf L t).kind=k∧(nodeOf L t).frm=f∧(nodeOf L t).to=t'∧(nodeOf L t).num=u∧(nodeOf L t).text=x:=by
 rw [qB hW ht] at h;injection h with h1 h2 h3 h4 h5 h6;exact ⟨h1,h2,h3,h4,h5⟩
end
theorem jGI {n:Int} (h:0≤n∧n<16):IntKind.i64.wrap (1 - n)=1 - n:=IntWalk.i64_in _ (by omega)
section
variable {L:Pool} (hW:Wf L) {t:Int}
include hW
theorem uK (h:(zV L t).2=false):inP L t=true∧inP L (zV L t).1.2=true∧zI L t=qS (qF (zV L t).1.1) (zI L (zV L t).1.2):=by
 unfold zV at h ⊢;simp only [Bool.or_eq_false_iff] at h;obtain ⟨ht,hk,e1⟩:=xL h.1;rw [e1] at h ⊢;simp only at h ⊢;obtain ⟨ha,hka,e2⟩:=xL h.2;rw [e2];obtain ⟨_,h2,h3⟩:=nd4 hW ht hk;exact ⟨ht,h2,by rw [h3,nd3 hW ha hka]⟩
theorem jBC (ht:inP L t=true) {g:ByteArray} {y:Tree} (h:zI L t=qS (qF g) y):∃n,zV L t=((g,n),false)∧inP L n=true∧zI L n=y:=by
 have hk:=(xN hW ht (h.trans rfl)).1;obtain ⟨h1,h2,h3⟩:=nd4 hW ht hk;rw [h] at h3;have e1:qF g=zI L (nodeOf L t).a:=by simpa [qS] using (Tree.mk.inj h3).2.2.2.2.2 |> fun e=>(List.cons.inj e).1
 have e2:y=zI L (nodeOf L t).b:=by have:=(Tree.mk.inj h3).2.2.2.2.2;exact (List.cons.inj (List.cons.inj this).2).1
 have hka:=xN hW h1 (e1.symm.trans rfl);refine ⟨(nodeOf L t).b,?_,h2,e2.symm⟩;unfold zV;rw [xM ht hk];simp only;rw [xM h1 hka.1];simp [hka.2.2.2.2]
theorem jCD (h:(vH L t).2=false):inP L t=true∧zI L t=vM (vH L t).1.1 (vH L t).1.2∧(vH L t).1.2.size≤64:=by
 unfold vH at h ⊢;simp only [Bool.or_eq_false_iff,Bool.not_eq_false',decide_eq_true_eq] at h;obtain ⟨⟨⟨⟨h1,h2⟩,h3⟩,h4⟩,h5⟩:=h;obtain ⟨ht,_,e⟩:=uK hW h1;obtain ⟨hp,hpk,e2⟩:=xL h2;simp only at h3 ⊢;rw [e2] at h4 h5 ⊢;simp only at h4 h5 ⊢;obtain ⟨ha,hak,e4⟩:=xL h4;obtain ⟨hb,hbk,e5⟩:=xL h5;rw [e4,e5];refine ⟨ht,?_,jUV hW hb⟩;rw [e,h3,(nd4 hW hp hpk).2.2,nd2 hW ha hak,nd3 hW hb hbk];rfl
theorem jCE (ht:inP L t=true) {c:Int} {x:ByteArray} (h:zI L t=vM c x):vH L t=((c,x),false):=by
 obtain ⟨n,e1,hn,e⟩:=jBC hW ht h;have hk:=(xN hW hn (e.trans rfl)).1;obtain ⟨h1,h2,h3⟩:=nd4 hW hn hk;rw [e] at h3;have q1:jBJ c=zI L (nodeOf L n).a:=(List.cons.inj (Tree.mk.inj h3).2.2.2.2.2).1;have q2:qF x=zI L (nodeOf L n).b:=(List.cons.inj (List.cons.inj (Tree.mk.inj h3).2.2.2.2.2).2).1;have k1:=xN hW h1 (q1.symm.trans rfl);have k2:=xN hW h2 (q2.symm.trans rfl);unfold vH;rw [e1];simp only;rw [xM hn hk];simp only;rw [xM h1 k1.1,xM h2 k2.1];simp [k1.2.2.2.1,k2.2.2.2.2]
theorem jHL (ht:inP L t=true) {c:Int} (h:zI L t=jBJ c):(zY L t 2).1.num=c∧(zY L t 2).2=false:=by
 have k:=xN hW ht (h.trans rfl);rw [xM ht k.1];exact ⟨k.2.2.2.1,rfl⟩
theorem jHK (h:(zY L t 2).2=false):inP L t=true∧zI L t=jBJ (zY L t 2).1.num:=by
 obtain ⟨h1,h2,e⟩:=xL h;rw [e];exact ⟨h1,nd2 hW h1 h2⟩
theorem jAB (ht:inP L t=true) (h:(zS L t).2=false):(zS L t).1.kind=1∧((zS L t).1.frm=0∨(zS L t).1.frm=1)∧zI L t=yV (zS L t).1.frm (vM (zS L t).1.c (zS L t).1.text) (zS L t).1.fake∧(zS L t).1.text.size≤64:=by
 unfold zS at h ⊢;simp only at h ⊢;split at h
 ·cases h
 rename_i hh;rw [if_neg hh];simp only [not_or,not_and,Classical.not_not] at hh;have hk:(nodeOf L t).kind=8∨(nodeOf L t).kind=9:=by
  by_cases h8:(nodeOf L t).kind=8
  ·exact .inl h8
  ·exact .inr (hh.1 h8)
 obtain ⟨ha,h0,h16,hT⟩:=nd89 hW ht hk;have hto:=hh.2.2;rw [jGI ⟨h0,h16⟩] at hto;obtain ⟨_,e,hx⟩:=jCD hW h;simp only;refine ⟨trivial,by have:=hh.2.1;omega,by rw [hT hto,e],hx⟩
theorem jAC (ht:inP L t=true) {n c:Int} {x:ByteArray} {g:Bool} (hn:n=0∨n=1) (h:zI L t=yV n (vM c x) g):zS L t=(⟨1,n,c,x,g⟩,false):=by
 have k:=xN hW ht (h.trans rfl);have hk:(nodeOf L t).kind=8∨(nodeOf L t).kind=9:=by rw [k.1];cases g <;> simp
 obtain ⟨ha,h0,h16,hT⟩:=nd89 hW ht hk;have:=hT (by rw [k.2.2.1,k.2.1]);rw [h,k.2.1] at this;have q1:vM c x=zI L (nodeOf L t).a:=(List.cons.inj (Tree.mk.inj this).2.2.2.2.2).1;unfold zS;simp only;rw [if_neg,jCE hW ha q1.symm,k.1,k.2.1]
 ·cases g <;> rfl
 ·simp only [not_or,not_and,Classical.not_not];refine ⟨fun h8=>hk.resolve_left h8,by rw [k.2.1];omega,?_⟩;rw [k.2.2.1,jGI ⟨h0,h16⟩,k.2.1]
end
def IsL (x:Tree) (l:Letter):Prop:=qJ l=0∧∃a b:Bool,(l.kind=4→l.fake=(a || b))∧x=vQ l a b
theorem jDB {k f c:Int} {x:ByteArray} {g:Bool} (h:qJ ⟨k,f,c,x,g⟩=0):(k=1∨k=2∨k=3∨k=4∨k=5∨k=6∨k=7)∧(f=0∨f=1)∧(isSigned k=false→f=0)∧(isTexted k=false→x=⟨#[]⟩)∧(g=true→k=1∨k=4)∧x.size≤64:=by
 unfold qJ at h;simp only at h;split at h
 ·cases h
 rename_i hh;split at h
 ·cases h
 simp only [not_or,not_and,Classical.not_not] at hh;obtain ⟨h1,h2,h3,h4,h5,h6⟩:=hh;refine ⟨by omega,?_,h4,h5,?_,by omega⟩
 ·by_cases h0:f=0
  ·exact .inl h0
  ·exact .inr (h3 h0)
 ·intro hg;by_cases h1:k=1
  ·exact .inl h1
  ·exact .inr (h6 hg h1)
theorem xO {k f c:Int} {x:ByteArray} {g:Bool} (hk:1≤k∧k≤7) (hf:f=0∨f=1) (h1:isSigned k=false→f=0) (h2:isTexted k=false→x=⟨#[]⟩) (h3:g=true→k=1∨k=4) (hx:x.size≤64):qJ ⟨k,f,c,x,g⟩=0:=by
 unfold qJ;simp only;rw [if_neg,if_neg (by omega)];simp only [not_or,not_and,Classical.not_not];refine ⟨by omega,by omega,fun h0=>hf.resolve_left h0,h1,h2,fun hg h1=>(h3 hg).resolve_left h1⟩
section
variable {L:Pool} (hW:Wf L) {t:Int}
include hW
theorem jIV {who:Int} (h:(vU L who t).2=false):∃c x a b,(vU L who t).1=⟨4,who,c,x,a || b⟩∧x.size≤64∧zI L t=qS (yV 0 (vM c x) a) (yV 1 (vM c x) b):=by
 unfold vU at h ⊢;simp only [Bool.or_eq_false_iff,Bool.not_eq_false',decide_eq_true_eq,bne_eq_false_iff_eq] at h;obtain ⟨⟨⟨⟨⟨⟨h1,h2⟩,h3⟩,h4⟩,h5⟩,h6⟩,h7⟩:=h;obtain ⟨ht,hk,e⟩:=xL h1;simp only;rw [e] at h2 h3 h4 h5 h6 h7 ⊢;simp only at h2 h3 h4 h5 h6 h7 ⊢;obtain ⟨ha,hb,hT⟩:=nd4 hW ht hk;obtain ⟨_,_,ea,hx⟩:=jAB hW ha h2;obtain ⟨_,_,eb,_⟩:=jAB hW hb h3;refine ⟨_,_,_,_,rfl,hx,?_⟩;rw [hT,ea,eb,h4,h5,h6,h7]
theorem jIW (ht:inP L t=true) {who c:Int} {x:ByteArray} {a b:Bool} (h:zI L t=qS (yV 0 (vM c x) a) (yV 1 (vM c x) b)):vU L who t=(⟨4,who,c,x,a || b⟩,false):=by
 have hk:=(xN hW ht (h.trans rfl)).1;obtain ⟨h1,h2,h3⟩:=nd4 hW ht hk;rw [h] at h3;have q1:=(List.cons.inj (Tree.mk.inj h3).2.2.2.2.2).1;have q2:=(List.cons.inj (List.cons.inj (Tree.mk.inj h3).2.2.2.2.2).2).1;unfold vU;simp only;rw [xM ht hk];simp only;rw [jAC hW h1 (.inl rfl) q1.symm,jAC hW h2 (.inr rfl) q2.symm];simp
theorem jKX {who:Int} (hw:0≤who) (h:(vZ L who t).2=false):IsL (tC who (zI L t)) (vZ L who t).1:=by
 unfold vZ at h ⊢;simp only at h ⊢;by_cases c1:(zV L t).1.1=uW∧who=0
 ·rw [if_pos c1] at h ⊢;simp only [Bool.or_eq_false_iff] at h;obtain ⟨ht,hn,e⟩:=uK hW h.1;show IsL _ ⟨3,0,_,⟨#[]⟩,false⟩;refine ⟨xO (by omega) (.inl rfl) (fun _=>rfl) (fun _=>rfl) (fun h=>nomatch h) (Nat.zero_le _),false,false,by simp,?_⟩;rw [e,c1.1,c1.2,(jHK hW h.2).2];rfl
 rw [if_neg c1] at h ⊢;by_cases c2:(zV L t).1.1=qW∧who=2
 ·rw [if_pos c2] at h ⊢;simp only [Bool.or_eq_false_iff] at h;obtain ⟨ht,hn,e⟩:=uK hW h.1;show IsL _ ⟨5,0,_,⟨#[]⟩,false⟩;refine ⟨xO (by omega) (.inl rfl) (fun _=>rfl) (fun _=>rfl) (fun h=>nomatch h) (Nat.zero_le _),false,false,by simp,?_⟩;rw [e,c2.1,c2.2,(jHK hW h.2).2];rfl
 rw [if_neg c2] at h ⊢;by_cases c3:(zV L t).1.1=yA∧who=2
 ·rw [if_pos c3] at h ⊢;simp only [Bool.or_eq_false_iff] at h;obtain ⟨ht,hn,e⟩:=uK hW h.1;obtain ⟨_,e2,hx⟩:=jCD hW h.2;refine ⟨xO (by omega) (.inl rfl) (fun _=>rfl) (by simp [isTexted]) (by simp) hx,false,false,by simp,?_⟩;rw [e,c3.1,c3.2,e2];rfl
 rw [if_neg c3] at h ⊢;by_cases c4:(zV L t).1.1=jAS∧who≤1
 ·rw [if_pos c4] at h ⊢;simp only [Bool.or_eq_false_iff] at h;obtain ⟨_,e2,hx⟩:=jCD hW h.2;refine ⟨xO (by omega) (by omega) (by simp [isSigned]) (by simp [isTexted,isSigned]) (by simp) hx,false,false,by simp,?_⟩;rw [e2];rfl
 rw [if_neg c4] at h ⊢;by_cases c5:(zV L t).1.1=qZ∧who≤1
 ·rw [if_pos c5] at h ⊢;simp only [Bool.or_eq_false_iff] at h;obtain ⟨ht,hn,e⟩:=uK hW h.1;obtain ⟨c,x,a,b,e2,hx,e3⟩:=jIV hW h.2;rw [e2];refine ⟨xO (by omega) (by omega) (by simp [isSigned]) (by simp [isTexted,isSigned]) (by simp) hx,a,b,by simp,?_⟩;rw [e,c5.1,e3];cases a <;> cases b <;> rfl
 rw [if_neg c5] at h;cases h
theorem jSD (ht:inP L t=true) (h:(tD L t).2=false):IsL (zI L t) (tD L t).1:=by
 unfold tD at h ⊢;simp only at h ⊢;by_cases c1:(nodeOf L t).kind=7
 ·rw [if_pos c1] at h ⊢;obtain ⟨h1,h2,h3⟩:=nd7 hW ht c1;rw [h3];exact jKX hW h2 h
 rw [if_neg c1] at h ⊢;by_cases c2:(nodeOf L t).kind=8∨(nodeOf L t).kind=9
 ·rw [if_pos c2] at h ⊢;obtain ⟨h1,h2,h3,h4⟩:=jAB hW ht h;generalize zS L t=r at *;obtain ⟨⟨k,f,c,x,g⟩,b⟩:=r;simp only at h1 h2 h3 h4 ⊢;subst h1;exact ⟨xO (by omega) h2 (by simp [isSigned]) (by simp [isTexted,isSigned]) (by simp) h4,false,false,by simp,h3⟩
 rw [if_neg c2] at h ⊢;split at h
 ·cases h
 rename_i c3;rw [if_neg c3];simp only [Bool.or_eq_true,Bool.not_eq_true',decide_eq_false_iff_not,not_or,Classical.not_not,Bool.not_eq_true] at c3;obtain ⟨_,hn,e⟩:=uK hW c3.1;show IsL _ ⟨7,0,_,⟨#[]⟩,false⟩;refine ⟨xO (by omega) (.inl rfl) (fun _=>rfl) (fun _=>rfl) (fun h=>nomatch h) (Nat.zero_le _),false,false,by simp,?_⟩;rw [e,c3.2,(jHK hW h).2];rfl
theorem jML (ht:inP L t=true) {l:Letter} (h:IsL (zI L t) l):tD L t=(l,false):=by
 obtain ⟨k,f,c,x,g⟩:=l;obtain ⟨h1,a,b,h4,hT⟩:=h;obtain ⟨hk,hf,hs,hx,hg,_⟩:=jDB h1;have tagged:∀{who:Int} {gg:ByteArray} {y:Tree},zI L t=tC who (qS (qF gg) y)→(nodeOf L t).kind=7∧(nodeOf L t).frm=who∧inP L (nodeOf L t).a=true∧zI L (nodeOf L t).a=qS (qF gg) y∧∃n,zV L (nodeOf L t).a=((gg,n),false)∧inP L n=true∧zI L n=y:=by
  intro who gg y e;have k:=xN hW ht (e.trans rfl);obtain ⟨q1,_,q3⟩:=nd7 hW ht k.1;rw [e] at q3;have q:=(List.cons.inj (Tree.mk.inj q3).2.2.2.2.2).1;exact ⟨k.1,k.2.1,q1,q.symm,jBC hW q1 q.symm⟩
 rcases hk with rfl | rfl | rfl | rfl | rfl | rfl | rfl
 ·have e:zI L t=yV f (vM c x) g:=hT;have k:=xN hW ht (e.trans rfl);unfold tD;simp only;rw [if_neg (by rw [k.1];cases g <;> decide),if_pos (by rw [k.1];cases g <;> decide),jAC hW ht hf e]
 ·have e:zI L t=tC f (vM c x):=hT;have:g=false:=by cases g with
   | false=>rfl
   | true=>exact absurd (hg rfl) (by omega)
  subst this;obtain ⟨k,kf,h1,h2,n,e1,hn,e2⟩:=tagged e;unfold tD vZ;simp only;rw [if_pos k,e1,kf];simp only;rw [if_neg (fun q=>absurd q.1 (by decide)),if_neg (fun q=>absurd q.1 (by decide)),if_neg (fun q=>absurd q.1 (by decide)),if_pos ⟨trivial,by omega⟩,jCE hW h1 h2];rfl
 ·obtain rfl:f=0:=hs rfl;obtain rfl:x=⟨#[]⟩:=hx rfl;have:g=false:=by cases g with
   | false=>rfl
   | true=>exact absurd (hg rfl) (by omega)
  subst this;have e:zI L t=tC 0 (qS (qF uW) (jBJ c)):=hT;obtain ⟨k,kf,h1,h2,n,e1,hn,e2⟩:=tagged e;obtain ⟨u1,u2⟩:=jHL hW hn e2;unfold tD vZ;simp only;rw [if_pos k,e1,kf];simp only;rw [if_pos ⟨trivial,trivial⟩,u1,u2];rfl
 ·have e:zI L t=tC f (qS (qF qZ) (qS (yV 0 (vM c x) (g && a)) (yV 1 (vM c x) (g && b)))):=hT;obtain ⟨k,kf,h1,h2,n,e1,hn,e2⟩:=tagged e;have hgg:((g && a) || (g && b))=g:=by
   have:=h4 rfl;simp only at this;subst this;cases a <;> cases b <;> rfl
  unfold tD vZ;simp only;rw [if_pos k,e1,kf];simp only;rw [if_neg (fun q=>absurd q.1 (by decide)),if_neg (fun q=>absurd q.1 (by decide)),if_neg (fun q=>absurd q.1 (by decide)),if_neg (fun q=>absurd q.1 (by decide)),if_pos ⟨trivial,by omega⟩,jIW hW hn e2,hgg];rfl
 ·obtain rfl:f=0:=hs rfl;obtain rfl:x=⟨#[]⟩:=hx rfl;have:g=false:=by cases g with
   | false=>rfl
   | true=>exact absurd (hg rfl) (by omega)
  subst this;have e:zI L t=tC 2 (qS (qF qW) (jBJ c)):=hT;obtain ⟨k,kf,h1,h2,n,e1,hn,e2⟩:=tagged e;obtain ⟨u1,u2⟩:=jHL hW hn e2;unfold tD vZ;simp only;rw [if_pos k,e1,kf];simp only;rw [if_neg (fun q=>absurd q.1 (by decide)),if_pos ⟨trivial,trivial⟩,u1,u2];rfl
 ·obtain rfl:f=0:=hs rfl;have:g=false:=by cases g with
   | false=>rfl
   | true=>exact absurd (hg rfl) (by omega)
  subst this;have e:zI L t=tC 2 (qS (qF yA) (vM c x)):=hT;obtain ⟨k,kf,h1,h2,n,e1,hn,e2⟩:=tagged e;unfold tD vZ;simp only;rw [if_pos k,e1,kf];simp only;rw [if_neg (fun q=>absurd q.1 (by decide)),if_neg (fun q=>absurd q.1 (by decide)),if_pos ⟨trivial,trivial⟩,jCE hW hn e2];rfl
 ·obtain rfl:f=0:=hs rfl;obtain rfl:x=⟨#[]⟩:=hx rfl;have:g=false:=by cases g with
   | false=>rfl
   | true=>exact absurd (hg rfl) (by omega)
  subst this;have e:zI L t=qS (qF jIJ) (jBJ c):=hT;have k:=xN hW ht (e.trans rfl);obtain ⟨n,e1,hn,e2⟩:=jBC hW ht e;obtain ⟨u1,u2⟩:=jHL hW hn e2;unfold tD;simp only;rw [if_neg (by rw [k.1];decide),if_neg (by rw [k.1];decide),e1];simp only;rw [if_neg (by simp),u1,u2]
end
theorem jOH (l:Letter) (a b:Bool):cnt (vQ l a b)≤40:=by
 unfold vQ;simp only [yV,vM,tC,qS,qF,jBJ];split
 ·simp [cnt,cntAll]
 split
 ·simp [cnt,cntAll]
 split
 ·simp [cnt,cntAll]
 split
 ·simp [cnt,cntAll]
 split
 ·simp [cnt,cntAll]
 split
 ·simp [cnt,cntAll]
 ·simp [cnt,cntAll]
theorem jBQ {x:Tree} {l:Letter}:∀{n i:Nat} {l':Letter},yB x l n i=some l'→∃f,i≤f∧f<i+n∧jIA x l f=true∧l'=uB l f
 | 0,i,l',h=>by cases h
 | n+1,i,l',h=>by
  unfold yB at h;split at h
  ·rename_i hf;cases h;exact ⟨i,by omega,by omega,hf,rfl⟩
  ·obtain ⟨f,h1,h2,h3,h4⟩:=jBQ h;exact ⟨f,by omega,by omega,h3,h4⟩
theorem jER {x:Tree} {l:Letter} {f:Nat} (hf:jIA x l f=true):∀{n i:Nat},i≤f→f<i+n→yB x l n i≠none
 | 0,i,h1,h2=>by omega
 | n+1,i,h1,h2=>by
  unfold yB;split
  ·simp
  ·rename_i h;by_cases e:i=f
   ·subst e;exact absurd hf h
   ·exact jER hf (by omega) (by omega)
theorem jBR {x:Tree} {k:Int}:∀{ps:List (List Nat)} {l:Letter},qP x k ps=some l→∃p∈ps,∃f,f<4∧jIA x (jKJ x k p) f=true∧l=uB (jKJ x k p) f
 | [],l,h=>by cases h
 | p :: ps,l,h=>by
  unfold qP at h;split at h
  ·rename_i l' he;cases h;obtain ⟨f,_,h2,h3,h4⟩:=jBQ he;exact ⟨p,by simp,f,by omega,h3,h4⟩
  ·obtain ⟨p',h1,h2⟩:=jBR h;exact ⟨p',by simp [h1],h2⟩
theorem jES {x:Tree} {k:Int} {p:List Nat} {f:Nat} (hf:f<4) (h:jIA x (jKJ x k p) f=true):∀{ps:List (List Nat)},p∈ps→qP x k ps≠none
 | [],hp=>by cases hp
 | q :: ps,hp=>by
  unfold qP;split
  ·simp
  ·rename_i he;rcases List.mem_cons.1 hp with e | e
   ·subst e;exact absurd he (jER h (Nat.zero_le _) (by omega))
   ·exact jES hf h e
theorem jBP {x:Tree}:∀{n:Nat} {i:Int} {l:Letter},yR x n i=some l→∃k p f,i≤k∧k<i+n∧f<4∧jIA x (jKJ x k p) f=true∧l=uB (jKJ x k p) f
 | 0,i,l,h=>by cases h
 | n+1,i,l,h=>by
  unfold yR at h;split at h
  ·rename_i l' he;cases h;obtain ⟨p,_,f,h1,h2,h3⟩:=jBR he;exact ⟨i,p,f,by omega,by omega,h1,h2,h3⟩
  ·obtain ⟨k,p,f,h1,h2,h3⟩:=jBP h;exact ⟨k,p,f,by omega,by omega,h3⟩
theorem jEQ {x:Tree} {k:Int} {p:List Nat} {f:Nat} (hp:p∈deals) (hf:f<4) (h:jIA x (jKJ x k p) f=true):∀{n:Nat} {i:Int},i≤k→k<i+n→yR x n i≠none
 | 0,i,h1,h2=>by omega
 | n+1,i,h1,h2=>by
  unfold yR;split
  ·simp
  ·rename_i he;by_cases e:i=k
   ·subst e;exact absurd he (jES hf h hp)
   ·exact jEQ hp hf h (by omega) (by omega)
theorem jVF {x:Tree} {l:Letter} {f:Nat} (hf:f<4) (h:jIA x l f=true):IsL x (uB l f):=by
 unfold jIA at h;simp only [Bool.and_eq_true,decide_eq_true_eq] at h;obtain ⟨⟨h1,h2⟩,h3⟩:=h;refine ⟨h1,f % 2 == 1,f / 2 == 1,fun _=>?_,((jED _ _).1 h3).symm⟩;have:f=0∨f=1∨f=2∨f=3:=by omega
 rcases this with rfl | rfl | rfl | rfl <;> rfl
theorem jFE {x:Tree} {l:Letter} (h:qK x=(l,true)):IsL x l:=by
 unfold qK at h;split at h
 ·rename_i l' he;cases h;obtain ⟨k,p,f,_,_,h1,h2,rfl⟩:=jBP he;exact jVF h1 h2
 ·cases h
theorem jFF {x:Tree} (h:(qK x).2=false):qK x=(yU,false)∧yR x 7 1=none:=by
 unfold qK at h ⊢;split at h
 ·cases h
 ·rename_i he;simp only [he];exact ⟨trivial,trivial⟩
theorem jVG {x:Tree} {l l0:Letter} {f:Nat} (hl:qJ l=0) (h1:uB l0 f=l) (h2:l0.kind=4∨f≠2) (h3:vQ l (f % 2 == 1) (f / 2 == 1)=x):jIA x l0 f=true:=by
 unfold jIA;rw [h1,(jED _ _).2 h3];simp [hl];exact h2
theorem jKW {x:Tree} {l:Letter} (h:IsL x l):(qK x).2=true:=by
 cases hr:(qK x).2 with
 | true=>rfl
 | false =>
  exfalso
  have hno:=(jFF hr).2
  obtain ⟨k,f,c,tx,g⟩:=l
  obtain ⟨h1,a,b,h4,hT⟩:=h
  obtain ⟨hk,hf,hs,hx,hg,_⟩:=jDB h1
  have go:∀(p:List Nat) (fk:Nat),p∈deals→fk<4→uB (jKJ x k p) fk=⟨k,f,c,tx,g⟩→(k=4∨fk≠2)→vQ ⟨k,f,c,tx,g⟩ (fk % 2 == 1) (fk / 2 == 1)=x→False:=by
   intro p fk hp hfk e1 e2 e3;exact jEQ (x:=x) (k:=k) hp hfk (jVG h1 e1 (by simpa [jKJ] using e2) e3) (n:=7) (i:=1) (by omega) (by omega) hno
  have nog:k≠1→k≠4→g=false:=by
   intro n1 n4;cases g with
   | false=>rfl
   | true=>exact absurd (hg rfl) (by omega)
  rcases hk with rfl | rfl | rfl | rfl | rfl | rfl | rfl
  ·subst hT
   cases g with
   | false=>exact go [0] 0 (by simp [deals]) (by omega) rfl (by omega) rfl
   | true=>exact go [0] 1 (by simp [deals]) (by omega) rfl (by omega) rfl
  ·obtain rfl:=nog (by omega) (by omega)
   subst hT
   exact go [0] 0 (by simp [deals]) (by omega) rfl (by omega) rfl
  ·obtain rfl:=nog (by omega) (by omega)
   obtain rfl:f=0:=hs rfl
   obtain rfl:tx=⟨#[]⟩:=hx rfl
   subst hT
   exact go [0] 0 (by simp [deals]) (by omega) rfl (by omega) rfl
  ·have:=h4 rfl
   simp only at this
   subst this
   subst hT
   cases a <;> cases b
   ·exact go [0,1,0,0] 0 (by simp [deals]) (by omega) rfl (by omega) rfl
   ·exact go [0,1,0,0] 2 (by simp [deals]) (by omega) rfl (by omega) rfl
   ·exact go [0,1,0,0] 1 (by simp [deals]) (by omega) rfl (by omega) rfl
   ·exact go [0,1,0,0] 3 (by simp [deals]) (by omega) rfl (by omega) rfl
  ·obtain rfl:=nog (by omega) (by omega)
   obtain rfl:f=0:=hs rfl
   obtain rfl:tx=⟨#[]⟩:=hx rfl
   subst hT
   exact go [0] 0 (by simp [deals]) (by omega) rfl (by omega) rfl
  ·obtain rfl:=nog (by omega) (by omega)
   obtain rfl:f=0:=hs rfl
   subst hT
   exact go [0,1] 0 (by simp [deals]) (by omega) rfl (by omega) rfl
  ·obtain rfl:=nog (by omega) (by omega)
   obtain rfl:f=0:=hs rfl
   obtain rfl:tx=⟨#[]⟩:=hx rfl
   subst hT
   exact go [0] 0 (by simp [deals]) (by omega) rfl (by omega) rfl
theorem jSC {L:Pool} {t:Int} (h:inP L t=false):jNO L t=(yU,false):=by
 have e:nodeOf L t=jDM:=by simp [nodeOf,uN h]
 have e2:zV L t=((⟨#[]⟩,0),true)∨(zV L t).2=true:=by
  right;unfold zV;have:zY L t 4=(jDM,true):=by unfold zY;rw [if_neg (by rw [h];simp)]
  rw [this];rfl
 have e3:(zV L t).2=true:=by rcases e2 with e2 | e2 <;> simp [e2]
 have:(tD L t).2=true:=by
  unfold tD;simp only;rw [e,if_neg (by decide),if_neg (by decide),if_pos (by simp [e3])]
 unfold jNO;rw [if_pos this]
theorem jSB {L:Pool} (hW:Wf L) (t:Int):jNO L t=tU L t:=by
 cases hi:inP L t with
 | false =>
  rw [jSC hi]
  unfold tU
  rw [if_neg (by simp [hi])]
 | true =>
  have hsz:=jMC hW _ t rfl hi
  cases hq:(tD L t).2 with
  | false =>
   have h:=jSD hW hi hq
   have hle:¬ sizeOf L t>40:=by
    obtain ⟨_,a,b,_,e⟩:=h;have:=jOH (tD L t).1 a b;rw [← e] at this;omega
   have hr:=jKW h
   have e:qK (zI L t)=((qK (zI L t)).1,true):=Prod.ext rfl hr
   have:=jML hW hi (jFE e)
   unfold jNO tU
   rw [if_neg (by simp [hq]),if_pos ⟨hi,hle⟩,e,this]
  | true =>
   unfold jNO
   rw [if_pos hq]
   unfold tU
   split
   ·cases hr:(qK (zI L t)).2 with
    | false=>exact (jFF hr).1.symm
    | true =>
     have e:qK (zI L t)=((qK (zI L t)).1,true):=Prod.ext rfl hr
     have:=jML hW hi (jFE e)
     rw [this] at hq;cases hq
   ·rfl
end Go.Sp
end
section
open Go Go.SE
namespace Go.Sp
open Go.Proofs
def toS (l:Letter):Int:=if qJ l≠0 then -1 else if l.kind=1∨l.kind=2 then IntKind.i64.wrap (1 - l.frm) else if l.kind=3∨l.kind=4 then 2 else -1
def jQE (bs:List UInt8):Letter×Bool:=if (jIB [] bs).2.1≠0 then (yU,false) else jNO (jIB [] bs).2.2.2 (jIB [] bs).1
end Go.Sp
namespace Go.Proofs
open Tryz
attribute [local irreducible] Calls
theorem c_ltTo (l:Sp.Letter) (w0:World):Calls prog 33 #[.agg #[.int .i64 l.kind,.int .i64 l.frm,.int .u64 l.c,.string l.text,.bool l.fake]] w0 (fun e w'=>∃r:Int,e=.returned (.int .i64 r)∧(r=Sp.toS l∧Pure w0 w')):=by
 refine w_L3 _ _ _ _ _ w0 (fun r w'=>r=Sp.toS l∧Pure w0 w') ?_;unfold m_L3;intro H1 w1 hs;have E1:=hs.first;refine (jFV l w1).mono ?_;rintro _ w2 ⟨r1,rfl,hr,E2⟩;have E02:=E1.trans E2;have fin:∀{H3 w3},Hst w0 H1 w2 H3 w3→Pure w0 w3:=fun h=>E02.hst h;refine ⟨_,rfl,E2.keptP,fun h=>⟨?_,E02⟩,fun h=>⟨fun h2=>?_,fun h2=>⟨fun h3=>?_,fun h3=>?_⟩⟩⟩
 ·unfold Sp.toS;rw [if_pos (by rw [← hr];exact bne_iff_ne.1 h)]
 ·intro H2 w3 hs2;refine ⟨?_,fin hs2⟩;unfold Sp.toS;rw [if_neg (by rw [← hr];simpa using h),if_pos (by cases hk:l.kind == 1 <;> simp [hk] at h2 <;> simp at hk <;> omega)]
 ·intro H2 w3 hs2;refine ⟨?_,fin hs2⟩;unfold Sp.toS;rw [if_neg (by rw [← hr];simpa using h),if_neg (by cases hk:l.kind == 1 <;> simp [hk] at h2 <;> simp at hk <;> omega),if_pos (by cases hk:l.kind == 3 <;> simp [hk] at h3 <;> simp at hk <;> omega)]
 ·intro H2 w3 hs2;refine ⟨?_,fin hs2⟩;unfold Sp.toS;rw [if_neg (by rw [← hr];simpa using h),if_neg (by cases hk:l.kind == 1 <;> simp [hk] at h2 <;> simp at hk <;> omega),if_neg (by cases hk:l.kind == 3 <;> simp [hk] at h3 <;> simp at hk <;> omega)]
theorem jOK (l:Sp.Letter) (hl:Sp.tX l.c) (w0:World) :
  Calls prog 28 #[.agg #[.int .i64 l.kind,.int .i64 l.frm,.int .u64 l.c,.string l.text,.bool l.fake]] w0 (fun e w'=>∃r:Sl,∃n:Int,e=.returned (.tuple #[r.v,.int .i64 n])∧(n=(Sp.jGB l).2∧RetO w0 5 1 (byr (Sp.jGB l).1) r w')):=by
 refine w_K2 _ _ _ _ _ w0 (fun r n w'=>n=(Sp.jGB l).2∧RetO w0 5 1 (byr (Sp.jGB l).1) r w') ?_
 unfold m_K2
 intro H1 w1 hs
 have E1:=hs.first
 refine (jRI w1).mono ?_
 rintro _ w2 ⟨_,rfl,p,rfl,E2,F,hP,hF⟩
 refine ⟨_,rfl,E2.keptP,?_⟩
 refine (jRK p l w2 hP Sp.Wf.nil.ok).mono ?_
 rintro _ w3 ⟨r2,r3,rfl,e2,e3,F3,hP3,E3,hF3⟩
 have E02:=E1.trans E2
 have E03:Pure w0 w3:=E02.trans' E3 (fun i hi hf=>by have:=hF i hf;have:=E1.size;omega)
 refine ⟨_,_,rfl,E3.kept (fun b hb hf=>by have:=hs.lt b hb;have:=hF b hf;omega),fun hc=>?_,fun hc=>?_⟩
 ·have hc:=bne_iff_ne.1 hc
  have e:Sp.jGB l=([],(qL [] l).2.1):=by unfold Sp.jGB;rw [if_pos (by rw [← e3];exact hc)]
  rw [e]
  exact ⟨e3,Rws.nil _ _ _,fun b hb=>(by obtain ⟨a,ha,_⟩:=hb;cases ha),E03⟩
 ·have hc:r3=0:=by simpa using hc
  have e:Sp.jGB l=jOQ (qL [] l).2.2 (qL [] l).1:=by unfold Sp.jGB;rw [if_neg (by rw [← e3];simpa using hc)]
  rw [e,← e2]
  refine (jTK p r2 w3 (Sp.jKH Sp.Wf.nil l) (Sp.jFX Sp.jAQ.nil hl) hP3).mono ?_
  rintro _ w4 ⟨r4,r5,rfl,e5,hR⟩
  exact ⟨_,_,rfl,hR.pure.keptP,e5,hR.rows,fun b hb=>by have:=hR.own b hb;have:=E03.size;omega,E03.trans hR.pure⟩
theorem jOL {S0:NP} (sb:Sl) (bs:List UInt8) (w0:World) (hs:Lst S0 w0 1 sb (byr bs)) (hz:sb.a=none→sb=Sl.nil) :
  Calls prog 24 #[sb.v] w0 (fun e w'=>∃k f c:Int,∃x:ByteArray,∃g ok:Bool,e=.returned (.tuple #[.agg #[.int .i64 k,.int .i64 f,.int .u64 c,.string x,.bool g],.bool ok])∧(((⟨k,f,c,x,g⟩:Sp.Letter),ok)=Sp.jQE bs∧Pure w0 w')):=by
 refine w_J2 _ w0 (fun k f c x g ok w'=>((⟨k,f,c,x,g⟩:Sp.Letter),ok)=Sp.jQE bs∧Pure w0 w') ?_
 unfold m_J2
 intro H1 w1 hs1
 have E1:=hs1.first
 refine (jRI w1).mono ?_
 rintro _ w2 ⟨_,rfl,p,rfl,E2,F,hP,hF⟩
 refine ⟨_,rfl,E2.keptP,?_⟩
 have E02:=E1.trans E2
 refine (jTL p sb bs w2 Sp.Wf.nil hP (hs.pure E02) hz).mono ?_
 rintro _ w3 ⟨t,x,y,rfl,rfl,rfl,rfl,F3,hP3,E3,hF3⟩
 have E03:Pure w0 w3:=E02.trans' E3 (fun i hi hf=>by have:=hF i hf;have:=E1.size;omega)
 refine ⟨_,_,_,rfl,E3.kept (fun b hb hf=>by have:=hs1.lt b hb;have:=hF b hf;omega),fun hc=>?_,fun hc=>?_⟩
 ·intro w4 hs4
  refine ⟨?_,E03.hst hs4⟩
  unfold Sp.jQE;rw [if_pos (bne_iff_ne.1 hc)];rfl
 ·refine (xA p (jIB [] bs).1 w3 hP3 (Sp.jVH Sp.Wf.nil bs).ok).mono ?_
  rintro _ w5 ⟨k,f,c,x,g,ok,rfl,hr,E5⟩
  refine ⟨_,_,_,_,_,_,rfl,E5.keptP,fun w6 hs6=>⟨?_,(E03.trans E5).hst hs6⟩⟩
  unfold Sp.jQE;rw [if_neg (by simpa using hc),hr]
end Go.Proofs
end
section
open Go Go.SE
namespace Go.Sp
open Go.Proofs
def hexT:ByteArray:=⟨#[48,49,50,51,52,53,54,55,56,57,97,98,99,100,101,102]⟩
def jVC (n:Nat):UInt8:=(hexT.data.toList[n]?).getD 0
def jOF (c:UInt8):List UInt8:=if c.toNat=34∨c.toNat=92 then [92,c] else if c.toNat=10 then [92,110] else if 32≤c.toNat∧c.toNat≤126 then [c] else [92,120,jVC (c.toNat / 16),jVC (c.toNat % 16)]
def jCU (k:Int):List UInt8 :=
 if k=1 then [112,114,111,109,105,115,101] else if k=2 then [115,105,103,110] else if k=3 then [97,98,111,114,116] else if k=4 then [114,101,115,111,108,118,101]
 else if k=5 then [116,111,107,101,110] else if k=6 then [105,110,115,116,101,97,100] else if k=7 then [102,117,108,108] else []
def jLC (x:ByteArray):List UInt8:=34 :: (x.data.toList.flatMap jOF++[34])
def jJF (l:Letter):List UInt8 :=
 if qJ l≠0 then [] else
 jCU l.kind++(if l.fake=true then [33] else [])++(if isSigned l.kind=true then 32 :: Lib.decDigits l.frm.toNat else [])++(32 :: Lib.decDigits l.c.toNat)++(if isTexted l.kind=true then 32 :: jLC l.text else [])
theorem jMX (c:UInt8):(jOF c).length≤4:=by
 unfold jOF;repeat' split
 all_goals simp
theorem jQO:∀l:List UInt8,(l.flatMap jOF).length≤4*l.length
 | []=>by simp
 | c :: l=>by
  have:=jMX c;have:=jQO l;rw [List.flatMap_cons,List.length_append,List.length_cons];omega
theorem jOW (k:Int):(jCU k).length≤7:=by
 unfold jCU;repeat' split
 all_goals simp
end Go.Sp
end
section
open Go Go.SE
namespace Go.Proofs
open Tryz
set_option maxRecDepth 100000
set_option maxHeartbeats 4000000
attribute [local irreducible] wpL wpX opE wpE Calls
def m_V4 (b1:Option Addr) (s1:ByteArray) (w0:World) (K:Int→Value→WP):Prop :=Calls prog 133 #[(vp b1)] w0 (fun e w1=>e=.returned (.tuple #[])∧∃a1,b1=some a1∧∃v1:Sl,w1.cell? (a1.add 1)=some v1.v∧∃s2:Sl,∃w2:World,(Builtin.append_ #[54,9] 54 #[v1.v,(vs s1)]).run prog w1=.ok s2.v w2∧∃a2,b1=some a2∧zW w2 (a2.add 1)∧∀w3,w3=w2.setCell (a2.add 1) s2.v→K (s1.size:Int) (.nilIface:Value) w3)
theorem w_V4 (b1 s1 w0 K) (h:m_V4 b1 s1 w0 K):
  Calls prog 76 #[(vp b1),(vs s1)] w0 (fun e w'=>∃r1,∃r2:Value,e=.returned (.tuple #[(vi r1),r2])∧K r1 r2 w'):=by
 refine cw (args:=[(vp b1),(vs s1)]) func76 ntmps76 (eg (q0 (vi 0) (q0 (.nilIface:Value) (ln (eg (q0 (vp b1) ?_))))))
 refine sc call133 (h.mono fun e w1 ⟨k,h⟩=>⟨_,k,?_⟩)
 refine ln (eg (qb (qm h fun a1 h=>q (ql (isAgg54 _) h fun v1 h=>q ?_))))
 obtain ⟨s2,w2,hv1,h⟩:=h
 refine st (v:=s2.v) (zJ rfl) (vL (args:=#[v1.v,(vs s1)]) (by kernel_rfl) (fun _=>rfl) hv1) (qm h fun a2 h=>q (st1 (sizeOf54 _) h fun w3 h=>ln (eg (qd (ln (er (tE (.inl rfl) results76 (v:=(vi (s1.size:Int))) (by kernel_rfl) (v':=(.nilIface:Value)) (by kernel_rfl) ⟨(s1.size:Int),(.nilIface:Value),rfl,h⟩)))))))
def m_W4 (b1:Option Addr) (c1:Int) (w0:World) (K:Value→WP):Prop :=Calls prog 133 #[(vp b1)] w0 (fun e w1=>e=.returned (.tuple #[])∧∃a1,b1=some a1∧∃v1:Sl,w1.cell? (a1.add 1)=some v1.v∧∀p1 w2,New w1 (.cells #[(.int .u8 c1)] 5) p1 w2→∃s1:Sl,∃w3:World,(Builtin.append_ #[54,54] 54 #[v1.v,(Sl.mk (some p1) 1 1).v]).run prog w2=.ok s1.v w3∧∃a2,b1=some a2∧zW w3 (a2.add 1)∧∀w4,w4=w3.setCell (a2.add 1) s1.v→K (.nilIface:Value) w4)
theorem w_W4 (b1 c1 w0 K) (h:m_W4 b1 c1 w0 K):
  Calls prog 77 #[(vp b1),(.int .u8 c1)] w0 (fun e w'=>∃r1:Value,e=.returned r1∧K r1 w'):=by
 refine cw (args:=[(vp b1),(.int .u8 c1)]) func77 ntmps77 (eg (q0 (.nilIface:Value) (ln (eg (q0 (vp b1) ?_)))))
 refine sc call133 (h.mono fun e w1 ⟨k,h⟩=>⟨_,k,?_⟩)
 refine ln (eg (qb (qm h fun a1 h=>q (ql (isAgg54 _) h fun v1 h=>q (xI (O:=(.cells #[(.int .u8 c1)] 5)) (fun p=>(Sl.mk (some p) 1 1).v) (zJ rfl) (vI (vs:=#[(0,(.int .u8 c1))]) (by kernel_rfl) (by kernel_rfl)) ?_)))))
 intro p1 w2 hn2
 have h:=h p1 w2 hn2
 obtain ⟨s1,w3,hv1,h⟩:=h
 refine st (v:=s1.v) (zJ rfl) (vL (args:=#[v1.v,(Sl.mk (some p1) 1 1).v]) (by kernel_rfl) (fun _=>rfl) hv1) (qm h fun a2 h=>q (st1 (sizeOf54 _) h fun w4 h=>ln (eg (q (ln (er (rs1 results77 ⟨(.nilIface:Value),rfl,h⟩)))))))
end Go.Proofs
end
section
open Go Go.SE
namespace Go.SE
theorem jQN {B:Nat} {w w':World} (h:RowKit.Below B w w'):Ext (fun b=>B≤b) w w':=⟨h.os,h.tape,h.output,(by first | exact Nat.le_refl _),h.size,fun b _ hf=>h.block b (by omega)⟩
end Go.SE
namespace Go.Proofs
open Tryz
attribute [local irreducible] Calls
def Bld (w:World) (p:Addr) (l:List UInt8):Prop :=
 ∃(q:Value) (s:Sl),Box w p [q,s.v] 126∧(q=.pointer none∨q=.pointer (some p))∧Rws w 5 1 s (byr l)∧∀b,s.blk b→p.block<b
abbrev From (p:Addr) (b:Nat):Prop:=p.block≤b
section
variable {w w':World} {p:Addr} {l:List UInt8}
theorem Bld.pure (h:Bld w p l) (E:Pure w w'):Bld w' p l:=by
 obtain ⟨q,s,hB,hq,hR,hb⟩:=h;exact ⟨q,s,hB.pure E,hq,hR.pure E,hb⟩
theorem Bld.lt (h:Bld w p l):p.block<w.heap.size:=by obtain ⟨q,s,hB,_⟩:=h;exact hB.lt
theorem Bld.new (h:New w (.cells #[.pointer none,Sl.nil.v] 126) p w'):Bld w' p [] :=
 ⟨_,Sl.nil,Box.of_newA h,.inl rfl,Rws.nil _ _ _,fun b hb=>(by obtain ⟨a,h,_⟩:=hb;cases h)⟩
theorem jFW {q:Value} {s:Sl} (hB:Box w p [q,s.v] 126) (hq:q=.pointer none∨q=.pointer (some p)) :
  Calls prog 133 #[.pointer (some p)] w (fun e w'=>e=.returned (.tuple #[])∧Box w' p [.pointer (some p),s.v] 126∧Ext (·=p.block) w w'):=by
 have hp:=hB.addr
 have h0:w.cell? ⟨p.block,0,none⟩=some q:=by have:=hB.cell0;rwa [hp] at this
 rcases hq with rfl | rfl
 ·have h1:=jTC p.block w h0 (by simp [World.shape?,hB.blk]) (by simp [World.frozen?,hB.blk])
  rw [← hp] at h1
  refine h1.mono ?_
  rintro _ w' ⟨rfl,rfl⟩
  exact ⟨rfl,hB.set0,Ext.setCell _ _⟩
 ·rw [hp] at h0
  have h1:=jVJ p.block w h0
  rw [← hp] at h1
  refine h1.mono ?_
  rintro _ w' ⟨rfl,rfl⟩
  exact ⟨rfl,hB,Ext.refl _⟩
theorem jJT (h:Bld w p l) (s:ByteArray) (hl:l.length+s.size≤100000000) :
  Calls prog 76 #[.pointer (some p),.string s] w (fun e w'=>∃r1:Int,∃r2:Value,e=.returned (.tuple #[.int .i64 r1,r2])∧(Bld w' p (l++s.data.toList)∧Ext (From p) w w')):=by
 refine w_V4 (some p) s w (fun r1 r2 w'=>Bld w' p (l++s.data.toList)∧Ext (From p) w w') ?_
 unfold m_V4
 obtain ⟨q,sl,hB,hq,hR,hb⟩:=h
 refine (jFW hB hq).mono ?_
 rintro _ w1 ⟨rfl,hB1,E1⟩
 have hR1:=hR.ext E1 (fun b hs e=>by have:=hb b hs;omega)
 obtain ⟨s',w2,hrun,hR2,E2,hn⟩:=hR1.appendStr (P:=prog) (ty:=54) jEY underlying9 s (by rw [qA];omega) (by rw [qA];simp only [maxLen];omega)
 have z1:=E1.size;have hlt:=hB.lt
 have hB2:=hB1.ext E2 (fun hs=>by have:=hb _ hs;omega)
 refine ⟨rfl,p,rfl,sl,hB1.cell rfl,s',w2,hrun,p,rfl,hB2.canW (by simp),?_⟩
 rintro _ rfl
 have E3:Ext (·=p.block) w2 (w2.setCell (p.add 1) s'.v):=by have:=Ext.setCell (w:=w2) (p.add 1) s'.v;rw [zU] at this;exact this
 have hb':∀b,s'.blk b→p.block<b:=fun b hs=>(hn b hs).elim (hb b) (fun h=>by omega)
 refine ⟨⟨_,s',hB2.set 1 _,.inr rfl,?_,hb'⟩,?_⟩
 ·have e:byr l++byr s.data.toList=byr (l++s.data.toList):=by simp [byr]
  rw [← e]
  exact hR2.ext E3 (fun b hs e=>by have:=hb' b hs;omega)
 ·exact ((E1.mono (fun b _ e=>by show p.block≤b;omega)).trans (E2.mono (fun b _ hs=>by have:=hb b hs;show p.block≤b;omega))).trans (E3.mono (fun b _ e=>by show p.block≤b;omega))
theorem jQV (h:Bld w p l) (c:UInt8) (hl:l.length+1≤100000000) :
  Calls prog 77 #[.pointer (some p),.int .u8 (c.toNat:Int)] w (fun e w'=>∃r:Value,e=.returned r∧(Bld w' p (l++[c])∧Ext (From p) w w')):=by
 refine w_W4 (some p) (c.toNat:Int) w (fun r w'=>Bld w' p (l++[c])∧Ext (From p) w w') ?_
 unfold m_W4
 obtain ⟨q,sl,hB,hq,hR,hb⟩:=h
 refine (jFW hB hq).mono ?_
 rintro _ w1 ⟨rfl,hB1,E1⟩
 have hR1:=hR.ext E1 (fun b hs e=>by have:=hb b hs;omega)
 refine ⟨rfl,p,rfl,sl,hB1.cell rfl,fun p1 w2 n2=>?_⟩
 have En:Pure w1 w2:=Ext.new n2
 obtain ⟨s',w3,hrun,hR2,E2,hn⟩:=(hR1.pure En).append (P:=prog) (ty:=54) (c:=1) jEY (p:=p1) (r:=[.int .u8 (c.toNat:Int)]) (Box.of_newA n2).row rfl rfl (by rw [qA];omega) (by rw [qA];simp only [maxLen];omega)
 have z1:=E1.size;have hlt:=hB.lt;have zn:=En.size
 have hB2:=(hB1.pure En).ext E2 (fun hs=>by have:=hb _ hs;omega)
 refine ⟨s',w3,hrun,p,rfl,hB2.canW (by simp),?_⟩
 rintro _ rfl
 have E3:Ext (·=p.block) w3 (w3.setCell (p.add 1) s'.v):=by have:=Ext.setCell (w:=w3) (p.add 1) s'.v;rw [zU] at this;exact this
 have hb':∀b,s'.blk b→p.block<b:=fun b hs=>(hn b hs).elim (hb b) (fun h=>by omega)
 refine ⟨⟨_,s',hB2.set 1 _,.inr rfl,?_,hb'⟩,?_⟩
 ·have e:byr l++[[.int .u8 (c.toNat:Int)]]=byr (l++[c]):=by simp [byr]
  rw [← e]
  exact hR2.ext E3 (fun b hs e=>by have:=hb' b hs;omega)
 ·exact (((E1.mono (fun b _ e=>by show p.block≤b;omega)).thenPure En).trans (E2.mono (fun b _ hs=>by have:=hb b hs;show p.block≤b;omega))).trans (E3.mono (fun b _ e=>by show p.block≤b;omega))
theorem jTY (h:Bld w p l) :
  Calls prog 81 #[.pointer (some p)] w (fun e w'=>∃r:ByteArray,e=.returned (.string r)∧(r=⟨l.toArray⟩∧Ext (From p) w w')):=by
 obtain ⟨q,s,hB,hq,hR,hb⟩:=h
 have hp:=hB.addr
 have hown:w.ownsRow p.block 5 1 s.v (Lib.byteCells l).length (Lib.byteCells l):=by
  have hf:(byr l).flatten=Lib.byteCells l:=by
   unfold byr Lib.byteCells;have:∀l:List UInt8,(l.map fun b=>[Value.int .u8 (b.toNat:Int)]).flatten=l.map fun b=>Value.int .u8 (b.toNat:Int):=fun l=>by
    induction l with
    | nil=>rfl
    | cons a t ih=>rw [List.map_cons,List.flatten_cons,ih];rfl
   exact this l
  have hl:(Lib.byteCells l).length=l.length:=Lib.byteCells_length l;refine ⟨by omega,?_⟩;rcases hR.own with ⟨rfl,hnil⟩ | ⟨g,cur,ha,hg,hc,hm,hs,ht⟩
  ·have:l=[]:=by cases l with | nil=>rfl | cons a t=>simp [byr] at hnil
   subst this;exact .inl ⟨rfl,rfl⟩
  ·refine .inr ⟨g,s.cap,cur,?_,?_,hg,by rw [hl];rw [qA] at hc;exact hc,hm,hs,?_⟩
   ·unfold Sl.v;rw [ha,hR.len,qA,hl]
   ·exact Nat.le_of_lt (hb g ⟨_,ha,rfl⟩)
   ·rw [hl,← hf,← ht,qA]
 have hat:Lib.IsBuilder 126 5 p.block p.block (Lib.byteCells l) w:=by
  have hA:∀q',q=q'→Lib.BuilderAt 126 5 p.block p.block q' (Lib.byteCells l) w:=by
   rintro _ rfl;refine ⟨Nat.le_refl _,s.v,hB.blk,hown,?_⟩;intro e;unfold Value.ownBlock Sl.v at e;cases ha:s.a with
   | none=>rw [ha] at e;cases e
   | some a =>
    rw [ha] at e
    simp at e
    have:=hb a.block ⟨a,ha,rfl⟩
    omega
  rcases hq with h | h
  ·exact .inl (hA _ h)
  ·refine .inr ?_;have:=hA _ h;rwa [hp] at this
 have hlt:=hB.lt
 have:=jSP p.block p.block l w hat (by omega)
 rw [← hp] at this
 refine this.mono ?_
 rintro _ w' ⟨rfl,h2⟩
 exact ⟨_,rfl,rfl,jQN h2⟩
end
end Go.Proofs
end
section
open Go Go.SE
open Go.IntKind renaming i64 → q6
namespace Go.Proofs
open Tryz
set_option maxRecDepth 100000
set_option maxHeartbeats 4000000
attribute [local irreducible] wpL wpX opE wpE Calls
def m_X4 (i1 base1:Int) (w0:World) (K:ByteArray→WP):Prop :=Br (base1 == 10) (Br (decide (i1<100)) (Calls prog 176 #[(vi (q6.wrap i1))] w0 (fun e w1=>∃r1,e=.returned (vs r1)∧K r1 w1)) (∀p1 w2,New w0 (.cells #[(.int .u8 0),(.int .u8 0),(.int .u8 0),(.int .u8 0),(.int .u8 0),(.int .u8 0),(.int .u8 0),(.int .u8 0),(.int .u8 0),(.int .u8 0),(.int .u8 0),(.int .u8 0),(.int .u8 0),(.int .u8 0),(.int .u8 0),(.int .u8 0),(.int .u8 0),(.int .u8 0),(.int .u8 0),(.int .u8 0),(.int .u8 0),(.int .u8 0),(.int .u8 0),(.int .u8 0)] 244) p1 w2→Calls prog 177 #[(vu i1)] w2 (fun e w3=>∃r2,e=.returned (vi r2)∧∃s1:Sl,(Instr.sliceAt 244 (vp (some p1)) none (some (vi r2)) none).run prog w3=.ok s1.v w3∧Calls prog 178 #[s1.v,(vu i1)] w3 (fun e w4=>e=.returned (.tuple #[])∧∃s2:Sl,(Instr.sliceAt 244 (vp (some p1)) none (some (vi r2)) none).run prog w4=.ok s2.v w4∧∃c1,(convert 54 9 s2.v).run prog w4=.ok (vs c1) w4∧K c1 w4)))) (Calls prog 179 #[Sl.nil.v,(vu i1),(vi base1),(vb false),(vb false)] w0 (fun e w5=>∃r3:Sl,∃r4,e=.returned (.tuple #[r3.v,(vs r4)])∧K r4 w5))
theorem w_X4 (i1 base1 w0 K) (h:m_X4 i1 base1 w0 K):
  Calls prog 135 #[(vu i1),(vi base1)] w0 (fun e w'=>∃r5,e=.returned (vs r5)∧K r5 w'):=by
 refine cw (args:=[(vu i1),(vi base1)]) func135 ntmps135 (eg (q0 ve (ln (zA (eg (q0 (vi base1) (q0 (vb (base1 == 10)) (zC ?_))))))))
 refine zN (cbr h ?_ ?_)<;>intro h
 refine zA (eg (qb (ln (cbr h ?_ ?_))))<;>intro h
 refine eg (qb (sc call176 (h.mono fun e w1 ⟨r1,k,h⟩=>⟨_,k,?_⟩)))
 refine q (ln (er (vA (vA (rs1 results135 ⟨r1,rfl,h⟩)))))
 refine zD (zN (eg (nw1 h (zH (zeroValue244 _) rfl) fun p1 w2 h=>ln (eg (q (sc call177 (h.mono fun e w3 ⟨r2,k,h⟩=>⟨_,k,?_⟩)))))))
 refine q (ln (eg (q ?_)))
 obtain ⟨s1,hv3,h⟩:=h
 refine q2 s1.v (uJ (by kernel_rfl) (by kernel_rfl) (by kernel_rfl) (by kernel_rfl) hv3) (q (sc call178 (h.mono fun e w4 ⟨k,h⟩=>⟨_,k,?_⟩)))
 refine ln (eg (q ?_))
 obtain ⟨s2,hv2,h⟩:=h
 refine q2 s2.v (uJ (by kernel_rfl) (by kernel_rfl) (by kernel_rfl) (by kernel_rfl) hv2) ?_
 obtain ⟨c1,hv1,h⟩:=h
 refine q2 (vs c1) (jBK (by kernel_rfl) hv1) (q (ln (er (vA (rs1 results135 ⟨c1,rfl,h⟩)))))
 refine zD (zN (eg (qb (sc call179 (h.mono fun e w5 ⟨r3,r4,k,h⟩=>⟨_,k,?_⟩)))))
 refine q (qd (ln (eg (qb (zC (zN (er (rs1 results135 ⟨r4,rfl,h⟩))))))))
def m_Y4 (i1 base1:Int) (w0:World) (K:ByteArray→WP):Prop :=Calls prog 135 #[(vu i1),(vi base1)] w0 (fun e w1=>∃r1,e=.returned (vs r1)∧K r1 w1)
theorem w_Y4 (i1 base1 w0 K) (h:m_Y4 i1 base1 w0 K):
  Calls prog 79 #[(vu i1),(vi base1)] w0 (fun e w'=>∃r2,e=.returned (vs r2)∧K r2 w'):=by
 refine cw (args:=[(vu i1),(vi base1)]) func79 ntmps79 (eg (q0 ve (ln (eg (q0 (vu i1) (q0 (vi base1) ?_))))))
 refine sc call135 (h.mono fun e w1 ⟨r1,k,h⟩=>⟨_,k,?_⟩)
 refine q (ln (er (rs1 results79 ⟨r1,rfl,h⟩)))
end Go.Proofs
end
section
open Go Go.SE
namespace Go.SE
theorem jDI {w:World} {k:Nat} {os:Array Obj}:Pure w (Sort.grow (w.drewN k) os):=by
 refine ⟨rfl,rfl,rfl,(by first | exact Nat.le_add_right _ _ | exact Nat.le_refl _),by simp [Sort.grow,World.drewN],fun b hb _=>?_⟩;show (w.heap++os)[b]?=w.heap[b]?;exact Array.getElem?_append_left hb
theorem jAJ {P:Program} {w w':World} {name:String} {k:IntKind} {zs:List Int} (h:Lib.TabIs P w name k zs) (E:Pure w w'):Lib.TabIs P w' name k zs:=by
 unfold Lib.TabIs World.var? at *;cases hg:P.globalNamed name with
 | none=>simp [hg] at h
 | some g =>
  simp only [hg,Option.bind_some] at h ⊢
  have hlt:g<w.heap.size:=by
   rcases Nat.lt_or_ge g w.heap.size with h' | h'
   ·exact h'
   ·rw [Array.getElem?_eq_none h'] at h;simp at h
  rw [E.keep g hlt id]
  exact h
theorem jLM (w:World) (T:TypeId) (nd:Nat) (hs:nd≤24):Sort.Holds (fun (b:UInt8)=>Value.int .u8 (b.toNat:Int)) (w.alloc (.cells Lib.zeros24 T)) w.heap.size 0 (Array.replicate nd (0:UInt8)):=fun j hj=>by
 have hj':j<nd:=by simpa using hj
 refine ⟨?_,World.frozen?_alloc_new _ _ _ _⟩;rw [World.cell?_alloc_new,Lib.zeros24_at _ (by omega),getElem!_pos _ j hj];simp
theorem jSX (w:World) (o:Obj) (dk:Array UInt8) (k:Nat):∃os,(Sort.putRow (fun (b:UInt8)=>Value.int .u8 (b.toNat:Int)) (w.alloc o) w.heap.size 0 dk).drewN k=Sort.grow (w.drewN k) os:=by
 rw [Sort.alloc_eq_grow];obtain ⟨os',_,e⟩:=Sort.putRow_grow_new (fun (b:UInt8)=>Value.int .u8 (b.toNat:Int)) w #[o] w.heap.size 0 dk (Nat.le_refl _);exact ⟨os',by rw [e];rfl⟩
end Go.SE
namespace Go.Proofs
open Tryz
attribute [local irreducible] Calls
abbrev Pow (w : World) : Prop := Lib.TabIs prog w "internal/strconv.uint64pow10" .u64 Lib.pow10Tab
theorem jKG (n:Nat) (hn:n<18446744073709551616) (w0:World) (ht:Pow w0) :
  Calls prog 79 #[.int .u64 (n:Int),.int .i64 10] w0 (fun e w'=>∃r:ByteArray,e=.returned (.string r)∧r=⟨(Lib.decDigits n).toArray⟩∧Pure w0 w'):=by
 refine w_Y4 _ _ w0 (fun r w'=>r=⟨(Lib.decDigits n).toArray⟩∧Pure w0 w') ?_
 unfold m_Y4
 refine w_X4 _ _ w0 (fun r w'=>r=⟨(Lib.decDigits n).toArray⟩∧Pure w0 w') ?_
 unfold m_X4
 refine ⟨fun _=>⟨fun h=>?_,fun h=>?_⟩,fun h=>absurd h (by decide)⟩
 ·have h:=of_decide_eq_true h
  have hw:IntKind.i64.wrap (n:Int)=(n:Int):=IntWalk.i64_in _ ⟨by omega,by omega⟩
  rw [hw]
  refine (jQF n (by omega) w0).mono ?_
  rintro _ w1 ⟨rfl,rfl⟩
  exact ⟨_,rfl,rfl,Ext.refl _⟩
 ·have h:¬ (n:Int)<100:=of_decide_eq_false h
  intro p1 w2 h2
  obtain ⟨hp,hw⟩:=h2
  subst hp;subst hw
  have hnd:=Lib.numDigits_eq n (by omega) hn
  have hnd20:Lib.nDigits n≤20:=by split at hnd <;> omega
  refine (jHO n (by omega) hn _ (Lib.tabIs_alloc ht _)).mono ?_
  rintro _ w3 ⟨rfl,rfl⟩
  have hal:prog.arrayLen 244=24:=by simp [Program.arrayLen,underlying244]
  have hsl:∀W,(Instr.sliceAt 244 (.pointer (some ⟨w0.heap.size,0,none⟩)) none (some (.int .i64 (Lib.nDigits n:Int))) none).run prog W=.ok (Sl.mk (some ⟨w0.heap.size,0,none⟩) (Lib.nDigits n) 24).v W:=fun W=>by
   rw [run_sliceAt_array_h W 244 ⟨w0.heap.size,0,none⟩ (by simp [Program.arrayLen,Program.elem,underlying244]) .i64 (Lib.nDigits n:Int) (by omega) (by rw [hal];omega)];go_simp;unfold Sl.v;simp
  refine ⟨_,rfl,Sl.mk (some ⟨w0.heap.size,0,none⟩) (Lib.nDigits n) 24,hsl _,?_⟩
  have hH0:=jLM w0 244 (Lib.nDigits n) (by omega)
  have hf:=jNZ w0.heap.size 0 24 n (Array.replicate (Lib.nDigits n) 0) _ hH0 (by rw [Array.size_replicate];exact Lib.lt_pow_nDigits n) hn (by rw [Array.size_replicate];omega)
  rw [Array.size_replicate] at hf
  have hH1:=Lib.hid hH0
  refine Calls.mono hf ?_
  rintro _ w4 ⟨rfl,k,v',dk,rfl,hF⟩
  refine ⟨rfl,Sl.mk (some ⟨w0.heap.size,0,none⟩) (Lib.nDigits n) 24,hsl _,⟨(Lib.decDigits n).toArray⟩,?_,rfl,?_⟩
  ·have h := run_convert_bytes_back (P := prog) ((Sort.putRow (fun (b : UInt8) => Value.int .u8 (b.toNat : Int)) (w0.alloc (.cells Lib.zeros24 244)) w0.heap.size 0 dk).drewN k) 54 9 5 ⟨w0.heap.size, 0, none⟩ 24 (Lib.decDigits n) underlying54 underlying5 underlying9 (fun j hj => by
    rw [Lib.row_is_numeral hF j hj,Lib.add_plain,World.cell?_drewN];exact Sort.cell?_putRow (fun (b:UInt8)=>Value.int .u8 (b.toNat:Int)) _ w0.heap.size 0 _ dk hH1.out (by rw [hF.size,Array.size_replicate]) j (by rw [hF.size];rw [Lib.decDigits_length] at hj;exact hj))
   rw [Lib.decDigits_length] at h
   exact h
  ·obtain ⟨os,eo⟩:=jSX w0 (.cells Lib.zeros24 244) dk k
   have E:Pure w0 (Sort.grow (w0.drewN k) os):=jDI
   rw [← eo] at E
   exact E
theorem c_Itoa (n:Int) (h0:-9223372036854775808≤n) (h1:n≤9223372036854775807) (w0:World) (ht:Pow w0) :
  Calls prog 78 #[.int .i64 n] w0 (fun e w'=>∃r:ByteArray,e=.returned (.string r)∧r=⟨(Lib.itoa n).toArray⟩∧Pure w0 w'):=by
 refine (jSQ n h0 h1 w0 ht).mono ?_
 rintro _ w1 ⟨rfl,k,os,rfl⟩
 exact ⟨_,rfl,rfl,jDI⟩
theorem nd20 {n:Nat} (h:n<18446744073709551616):(Lib.decDigits n).length≤20:=by
 rw [Lib.decDigits_length];by_cases h0:n<10
 ·rw [Lib.nDigits_small h0];omega
 ·have:=Lib.numDigits_eq n (by omega) h;split at this <;> omega
end Go.Proofs
end
section
open Go Go.SE
namespace Go.Proofs
open Tryz
attribute [local irreducible] Calls
theorem jOY:∀n:Fin 128,Utf8.encode (n.val:Int)=⟨#[UInt8.ofNat n.val]⟩:=by decide +kernel
theorem jMF (n:Nat) (h:n<128) (w:World):(convert 21 9 (.int .i32 (IntKind.i32.wrap (n:Int)))).run prog w=.ok (.string ⟨#[UInt8.ofNat n]⟩) w:=by
 have hw:IntKind.i32.wrap (n:Int)=(n:Int):=by simp [IntKind.wrap,IntKind.bits,IntKind.signed];omega
 rw [hw];have:=jOY ⟨n,h⟩;simp only at this;simp [convert,run_underlying underlying21,run_underlying underlying9,Conv.intToString,this]
theorem jTU (n:Nat) (h:n<16) (w:World):(Instr.sliceAt 9 (.string Sp.hexT) (some (.int .u8 (n:Int))) (some (.int .u8 (IntKind.u8.wrap ((n:Int)+1)))) none).run prog w=.ok (.string ⟨#[Sp.jVC n]⟩) w:=by
 have hw:IntKind.u8.wrap ((n:Int)+1)=((n+1:Nat):Int):=by simp [IntKind.wrap,IntKind.bits,IntKind.signed];omega
 rw [hw,run_sliceAt_string _ _ _ _ _ _ underlying9,run_slice_string_if _ _ _ _ _ _ _ underlying9,if_pos ⟨by omega,by show ((n+1:Nat):Int)≤16;omega⟩,if_pos ⟨by omega,by omega⟩];have he:∀m:Fin 16,Sp.hexT.extract m.val (m.val+1)=⟨#[Sp.jVC m.val]⟩:=by decide +kernel
 have:=he ⟨n,h⟩;simp only [Int.toNat_natCast] at this ⊢;rw [this]
theorem jME {P:Program} {t:TypeId} (n:Nat) (w:World):(Go.binOp .shr t (.int .u8 (n:Int)) (.int .u64 4)).run P w=.ok (.int .u8 ((n / 16:Nat):Int)) w:=by
 simp [Go.binOp,go_sem,IntKind.bits]
theorem jIR {P:Program} {t:TypeId} (c:Nat) (h:c<256) (w:World):(Go.binOp .and t (.int .u8 (c:Int)) (.int .u8 15)).run P w=.ok (.int .u8 ((c % 16:Nat):Int)) w:=by
 have hr:IntKind.u8.wrap ((BitVec.ofInt IntKind.u8.bits (c:Int) &&& BitVec.ofInt IntKind.u8.bits 15).toNat:Int)=((c % 16:Nat):Int):=by
  have e1:(BitVec.ofInt IntKind.u8.bits (c:Int)).toNat=c:=by
   rw [BitVec.toNat_ofInt];simp [IntKind.bits];omega
  have e2:(BitVec.ofInt IntKind.u8.bits 15).toNat=2 ^ 4 - 1:=by decide
  rw [BitVec.toNat_and,e1,e2,Nat.and_two_pow_sub_one_eq_mod,jCT];simp only [UInt8.toNat_ofNat'];omega
 show ((pure (Value.int .u8 _):Sem Value)).run P w=_;rw [hr];rfl
theorem jCA {P:Program} {t:TypeId} (w:World) (x y:List UInt8) (hx:x.length≤100000) (hy:y.length≤100000) :
  (Go.binOp .add t (.string ⟨x.toArray⟩) (.string ⟨y.toArray⟩)).run P w=.ok (.string ⟨(x++y).toArray⟩) w:=by
 rw [binOp_string_add]
 exact run_string_add_lists w x y (by omega) (by omega)
theorem jOM (c:UInt8) (w0:World):Calls prog 80 #[.int .u8 (c.toNat:Int)] w0 (fun e w'=>∃r:ByteArray,e=.returned (.string r)∧(r=⟨(Sp.jOF c).toArray⟩∧Pure w0 w')):=by
 refine w_F1 _ w0 (fun r w'=>r=⟨(Sp.jOF c).toArray⟩∧Pure w0 w') ?_;unfold m_F1;have hc:c.toNat<256:=c.toNat_lt;have ofN:UInt8.ofNat c.toNat=c:=by simp
 refine ⟨fun h=>?_,fun h=>⟨fun h2=>?_,fun h2=>⟨fun h3=>?_,fun h3=>?_⟩⟩⟩
 ·intro H2 w3 hs;have h:c.toNat=34∨c.toNat=92:=by simp at h;omega
  refine ⟨_,jMF c.toNat (by omega) w3,_,jCA w3 [92] [c] (by simp) (by simp) |> (fun h=>by rw [ofN];exact h),?_,hs.first⟩;unfold Sp.jOF;rw [if_pos h];rfl
 ·intro H2 w3 hs;have h:¬ (c.toNat=34∨c.toNat=92):=by simp at h;omega
  have h2:c.toNat=10:=by simp at h2;omega
  refine ⟨?_,hs.first⟩;unfold Sp.jOF;rw [if_neg h,if_pos h2]
 ·intro H5 w6 hs;have h:¬ (c.toNat=34∨c.toNat=92):=by simp at h;omega
  have h2:¬ c.toNat=10:=by simp at h2;omega
  have h3:32≤c.toNat∧c.toNat≤126:=by simp at h3;omega
  refine ⟨_,jMF c.toNat (by omega) w6,?_,hs.first⟩;unfold Sp.jOF;rw [if_neg h,if_neg h2,if_pos h3,ofN]
 ·intro H5 w6 hs;have h:¬ (c.toNat=34∨c.toNat=92):=by simp at h;omega
  have h2:¬ c.toNat=10:=by simp at h2;omega
  have h3:¬ (32≤c.toNat∧c.toNat≤126):=by simp at h3;omega
  unfold m_F1_j1;intro w1 hs1;refine ⟨_,jME c.toNat w1,_,jME c.toNat w1,_,jTU (c.toNat / 16) (by omega) w1,_,jCA w1 [92,120] [Sp.jVC (c.toNat / 16)] (by simp) (by simp),_,jIR c.toNat hc w1,_,jIR c.toNat hc w1,_,jTU (c.toNat % 16) (by omega) w1,_,jCA w1 [92,120,Sp.jVC (c.toNat / 16)] [Sp.jVC (c.toNat % 16)] (by simp) (by simp),?_,hs.first.hst hs1⟩;unfold Sp.jOF;rw [if_neg h,if_neg h2,if_neg h3];rfl
end Go.Proofs
namespace Go.Proofs
open Tryz
attribute [local irreducible] Calls
theorem jVB (x:ByteArray) (n:Nat) (h:n<x.data.toList.length) (w:World):(Instr.index 9 (.string x) (.int .i64 (n:Int))).run prog w=.ok (.int .u8 ((x.data.toList[n]).toNat:Int)) w:=by
 have hs:x.size=x.data.toList.length:=by rw [Array.length_toList];rfl
 have hn:n<x.size:=by omega
 rw [run_index_string w _ _ _ _ underlying9,dif_pos ⟨by omega,by omega⟩];rfl
theorem From.own {p2:Addr} {w0 w w':World} (h2:w0.heap.size≤p2.block) (hE:Pure w0 w) (E:Ext (From p2) w w'):Pure w0 w':=hE.trans' E (fun i hi hf=>by have:p2.block≤i:=hf;omega)
theorem From.kept {p2:Addr} {H:NP} {w w':World} (hH:∀b,H b→b<p2.block) (E:Ext (From p2) w w'):Kept H w w':=E.kept (fun b hb hf=>by have:=hH b hb;have:p2.block≤b:=hf;omega)
abbrev kbox (k:Int) (wd:ByteArray):List Value:=[.bool (Sp.isSigned k),.bool (Sp.isTexted k),.bool (k == 1 || k == 4),.string wd]
theorem jTV (k:Int) (c:Nat) (hc:c<18446744073709551616) (x:ByteArray) (hx:x.size≤64) (wd:ByteArray) (p p2:Addr) {w0 w:World} {H:NP} {T:TypeId} (acc:List UInt8) (ha:acc.length≤1000)
  (hB:Box w p (kbox k wd) T) (hp:p.block<p2.block) (hH:∀b,H b→b<p2.block) (h2:w0.heap.size≤p2.block) (hb:Bld w p2 acc) (hE:Pure w0 w) (ht:Pow w0) :
  m_K_j3 (c:Int) x p p2 w0 H w (fun r w'=>r=⟨(acc++(32 :: Lib.decDigits c)++(if Sp.isTexted k=true then 32 :: Sp.jLC x else [])).toArray⟩∧Pure w0 w'):=by
 unfold m_K_j3
 have hd:=nd20 hc
 have hxl:x.data.toList.length=x.size:=by rw [Array.length_toList];rfl
 refine (jKG c hc w (jAJ ht hE)).mono ?_
 rintro _ w5 ⟨r4,rfl,rfl,E5⟩
 refine ⟨_,rfl,E5.keptP,_,jCA w5 [32] _ (by simp) (by omega),?_⟩
 have hE5:=hE.trans E5
 refine (jJT (hb.pure E5) ⟨([32]++Lib.decDigits c).toArray⟩ (by simp [ByteArray.size];omega)).mono ?_
 rintro _ w6 ⟨r5,r6,rfl,b6,E6⟩
 have hE6:=From.own h2 hE5 E6
 have B6:=(hB.pure E5).ext E6 (fun hf=>by have:p2.block≤p.block:=hf;omega)
 have ea:acc++(ByteArray.mk ([32]++Lib.decDigits c).toArray).data.toList=acc++(32 :: Lib.decDigits c):=by simp
 rw [ea] at b6
 generalize hacc:acc++(32 :: Lib.decDigits c)=acc2 at *
 have ha2:acc2.length≤1100:=by rw [← hacc];simp;omega
 refine ⟨_,_,rfl,From.kept hH E6,_,B6.cell (i:=1) rfl,fun ht'=>?_,fun ht'=>?_⟩
 ·rw [if_pos ht']
  refine (jJT b6 ⟨#[32,34]⟩ (by simp [ByteArray.size];omega)).mono ?_
  rintro _ w7 ⟨r7,r8,rfl,b7,E7⟩
  have hE7:=From.own h2 hE6 E7
  refine ⟨_,_,rfl,From.kept hH E7,fun i H' w'=>∃n:Nat,i=n∧n≤x.data.toList.length∧(∀b,H' b→b<p2.block)∧Bld w' p2 (acc2++[32,34]++(x.data.toList.take n).flatMap Sp.jOF)∧Pure w0 w',fun i _=>((x.data.toList.length:Int) - i).toNat,⟨0,rfl,Nat.zero_le _,hH,by simpa using b7,hE7⟩,?_⟩
  rintro _ Hl wl hsl ⟨n,rfl,hn,hHl,bl,El⟩
  unfold m_K_l4
  have hfl:((x.data.toList.take n).flatMap Sp.jOF).length≤256:=by
   have:=Sp.jQO (x.data.toList.take n);rw [List.length_take] at this;omega
  refine ⟨fun hlt=>?_,fun hlt=>?_⟩
  ·have hlt:n<x.data.toList.length:=by have:=of_decide_eq_true hlt;omega
   refine ⟨_,jVB x n hlt wl,?_⟩
   refine (jOM x.data.toList[n] wl).mono ?_
   rintro _ w8 ⟨r9,rfl,rfl,E8⟩
   refine ⟨_,rfl,E8.keptP,?_⟩
   have he:=Sp.jMX x.data.toList[n]
   refine (jJT (bl.pure E8) ⟨(Sp.jOF x.data.toList[n]).toArray⟩ (by rw [List.length_append,List.length_append];simp only [ByteArray.size,List.size_toArray,List.length_cons,List.length_nil];omega)).mono ?_
   rintro _ w9 ⟨r10,r11,rfl,b9,E9⟩
   refine ⟨_,_,rfl,From.kept hHl E9,?_⟩
   rw [vE hlt (by omega)]
   refine ⟨⟨n+1,rfl,hlt,hHl,?_,From.own h2 (El.trans E8) E9⟩,jAU hlt⟩
   rw [List.take_succ_eq_append_getElem hlt,List.flatMap_append,← List.append_assoc]
   simpa using b9
  ·have:n=x.data.toList.length:=by have:=of_decide_eq_false hlt;omega
   subst this
   rw [List.take_length] at bl
   refine (jQV bl 34 (by rw [List.take_length] at hfl;rw [List.length_append,List.length_append];simp only [List.length_cons,List.length_nil];omega)).mono ?_
   rintro _ w10 ⟨r12,rfl,b10,E10⟩
   refine ⟨_,rfl,From.kept hHl E10,?_⟩
   refine (jTY b10).mono ?_
   rintro _ w11 ⟨r13,rfl,rfl,E11⟩
   refine ⟨_,rfl,From.kept hHl E11,?_,From.own h2 (From.own h2 El E10) E11⟩
   simp [Sp.jLC]
 ·rw [if_neg (by rw [ht'];decide),List.append_nil]
  refine (jTY b6).mono ?_
  rintro _ w12 ⟨r14,rfl,rfl,E12⟩
  exact ⟨_,rfl,From.kept hH E12,rfl,From.own h2 hE6 E12⟩
theorem jOA {n:Int} (h:n=0∨n=1):Lib.itoa n=Lib.decDigits n.toNat:=by rcases h with rfl | rfl <;> kernel_rfl
theorem jTW (k f:Int) (hf:f=0∨f=1) (c:Nat) (hc:c<18446744073709551616) (x:ByteArray) (hx:x.size≤64) (g:Bool) (p:Addr) {w0 w:World} {H:NP} {T:TypeId}
  (hB:Box w p (kbox k ⟨(Sp.jCU k).toArray⟩) T) (hH:∀b,H b→b<w.heap.size) (hE:Pure w0 w) (ht:Pow w0) :
  m_K_j1 f (c:Int) x g p w0 H w (fun r w'=>r=⟨(Sp.jCU k++(if g=true then [33] else [])++(if Sp.isSigned k=true then 32 :: Lib.decDigits f.toNat else [])++(32 :: Lib.decDigits c)++(if Sp.isTexted k=true then 32 :: Sp.jLC x else [])).toArray⟩∧Pure w0 w'):=by
 unfold m_K_j1
 intro p2 w3 n2
 have hp2:=n2.at_size
 have E3:Pure w w3:=Ext.new n2
 have B3:=hB.pure E3
 have hpl:=hB.lt
 have h2:w0.heap.size≤p2.block:=by have:=hE.size;omega
 have hH2:∀b,H b→b<p2.block:=fun b hb=>by have:=hH b hb;omega
 have hE3:=hE.trans E3
 have hw:=Sp.jOW k
 refine ⟨_,B3.cell (i:=3) rfl,?_⟩
 refine (jJT (Bld.new n2) ⟨(Sp.jCU k).toArray⟩ (by simp [ByteArray.size];omega)).mono ?_
 rintro _ w4 ⟨r2,r3,rfl,b4,E4⟩
 have B4:=B3.ext E4 (fun hf=>by have:p2.block≤p.block:=hf;omega)
 have hE4:=From.own h2 hE3 E4
 rw [show []++(ByteArray.mk (Sp.jCU k).toArray).data.toList=Sp.jCU k by simp] at b4
 have j2:∀acc w,acc.length≤20→Box w p (kbox k ⟨(Sp.jCU k).toArray⟩) T→Bld w p2 acc→Pure w0 w→m_K_j2 f (c:Int) x p p2 w0 H w (fun r w'=>r=⟨(acc++(if Sp.isSigned k=true then 32 :: Lib.decDigits f.toNat else [])++(32 :: Lib.decDigits c)++(if Sp.isTexted k=true then 32 :: Sp.jLC x else [])).toArray⟩∧Pure w0 w'):=by
  intro acc w ha B b E;unfold m_K_j2;refine ⟨_,B.cell0,fun hs=>?_,fun hs=>?_⟩
  ·rw [if_pos hs];refine (c_Itoa f (by omega) (by omega) w (jAJ ht E)).mono ?_;rintro _ w13 ⟨r15,rfl,rfl,E13⟩;rw [jOA hf];have hd:=nd20 (n:=f.toNat) (by omega);refine ⟨_,rfl,E13.keptP,_,jCA w13 [32] _ (by simp) (by omega),?_⟩;refine (jJT (b.pure E13) ⟨([32]++Lib.decDigits f.toNat).toArray⟩ (by simp [ByteArray.size];omega)).mono ?_;rintro _ w14 ⟨r16,r17,rfl,b14,E14⟩;replace b14:Bld w14 p2 (acc++(32 :: Lib.decDigits f.toNat)):=by simpa using b14
   have B14:=(B.pure E13).ext E14 (fun hf=>by have:p2.block≤p.block:=hf;omega);exact ⟨_,_,rfl,From.kept hH2 E14,jTV k c hc x hx _ p p2 _ (by simp;omega) B14 (by omega) hH2 h2 b14 (From.own h2 (E.trans E13) E14) ht⟩
  ·rw [if_neg (by rw [hs];decide),List.append_nil];exact jTV k c hc x hx _ p p2 _ (by omega) B (by omega) hH2 h2 b E ht
 refine ⟨_,_,rfl,From.kept hH2 E4,fun hg=>?_,fun hg=>?_⟩
 ·rw [if_pos hg]
  refine (jQV b4 33 (by omega)).mono ?_
  rintro _ w15 ⟨r18,rfl,b15,E15⟩
  exact ⟨_,rfl,From.kept hH2 E15,j2 _ w15 (by simp;omega) (B4.ext E15 (fun hf=>by have:p2.block≤p.block:=hf;omega)) b15 (From.own h2 hE4 E15)⟩
 ·rw [if_neg (by rw [hg];decide),List.append_nil]
  exact j2 _ w4 (by omega) B4 b4 hE4
set_option maxRecDepth 100000 in
theorem jRC (l:Sp.Letter) (hc:Sp.tX l.c) (w0:World) (ht:Pow w0):Calls prog 35 #[.agg #[.int .i64 l.kind,.int .i64 l.frm,.int .u64 l.c,.string l.text,.bool l.fake]] w0 (fun e w'=>∃r:ByteArray,e=.returned (.string r)∧(r=⟨(Sp.jJF l).toArray⟩∧Pure w0 w')):=by
 refine w_K _ _ _ _ _ w0 (fun r w'=>r=⟨(Sp.jJF l).toArray⟩∧Pure w0 w') ?_;unfold m_K;intro H1 w1 hs;have E1:=hs.first;refine (jFV l w1).mono ?_;rintro _ w2 ⟨r1,rfl,hr,E2⟩;have E02:=E1.trans E2;refine ⟨_,rfl,E2.keptP,fun h=>⟨?_,E02⟩,fun h=>?_⟩
 ·unfold Sp.jJF;rw [if_pos (by rw [← hr];exact bne_iff_ne.1 h)]
 have h0:Sp.qJ l=0:=by rw [← hr];simpa using h
 obtain ⟨k,f,c,x,g⟩:=l;obtain ⟨hk,hf,_,_,_,hx⟩:=Sp.jDB h0;obtain ⟨c,rfl⟩:∃n:Nat,c=(n:Int):=⟨c.toNat,by have:=hc.1;simp only at this;omega⟩;have hc':c<18446744073709551616:=by have:=hc.2;simp only at this;omega
 have e:Sp.jJF ⟨k,f,(c:Int),x,g⟩=Sp.jCU k++(if g=true then [33] else [])++(if Sp.isSigned k=true then 32 :: Lib.decDigits f.toNat else [])++(32 :: Lib.decDigits c)++(if Sp.isTexted k=true then 32 :: Sp.jLC x else []):=by
  unfold Sp.jJF;rw [if_neg (by simpa using h0)];rfl
 rw [e];simp only;have idx:∀w':World,(Instr.index 121 (.agg jJI) (.int .i64 k)).run prog w'=.ok (.agg #[.bool (Sp.isSigned k),.bool (Sp.isTexted k),.bool (k == 1 || k == 4),.string ⟨(Sp.jCU k).toArray⟩]) w':=by
  rcases hk with rfl | rfl | rfl | rfl | rfl | rfl | rfl <;> exact fun w'=>by kernel_rfl
 refine ⟨fun _=>True,trivial,?_⟩;rintro w9 e9;have E9:Pure w2 w9:=by rw [e9];exact Ext.drew w2
 have hH:∀b,H1 b→b<w9.heap.size:=fun b hb=>by have:=hs.lt b hb;have:=E9.size;have:=E2.size;omega
 refine ⟨?_,?_⟩
 ·refine (jCP w9).mono ?_;rintro _ w10 ⟨_,rfl,rfl,E10⟩;refine ⟨_,rfl,trivial,E10.keptP,_,_,_,_,fun w' _=>idx w',?_⟩;intro p2 w11 n11;have b11:=n11.at_size;have z10:=E10.size;refine ⟨trivial,(Box.of_newA n11).canWs (by simp),fun hh=>by have:=hH _ hh;omega,?_⟩;rintro w12 e12;have X:Ext (·=p2.block) w11 w12:=by rw [e12];exact Ext.storeRow _ _ _
  have B:Box w12 p2 (kbox k ⟨(Sp.jCU k).toArray⟩) 120:=by rw [e12];exact (Box.of_newA n11).store rfl
  have z2:=E02.size;have z9:=E9.size;have z11:w11.heap.size≤w12.heap.size:=X.size;have zn:w10.heap.size≤w11.heap.size:=(Ext.new n11:Pure w10 w11).size;exact jTW k f hf c hc' x hx g p2 B (fun b hb=>by have:=hH b hb;omega) ((((E02.trans E9).trans E10).trans (Ext.new n11)).own (by omega) X) ht
 ·intro p3 w13 n13;refine ⟨trivial,?_⟩;have b13:=n13.at_size;have E13:Pure w9 w13:=Ext.new n13;refine (jCP w13).mono ?_;rintro _ w14 ⟨_,rfl,rfl,E14⟩;have B14:=(Box.of_newA n13).pure E14;refine ⟨_,rfl,trivial,E14.keptP,_,_,_,_,fun w' _=>idx w',B14.canWs (by simp),fun hh=>by have:=hH _ hh;omega,?_⟩;rintro w15 e15;have X:Ext (·=p3.block) w14 w15:=by rw [e15];exact Ext.storeRow _ _ _
  have B:Box w15 p3 (kbox k ⟨(Sp.jCU k).toArray⟩) 120:=by rw [e15];exact B14.store rfl
  have z2:=E02.size;have z9:=E9.size;have z13:=E13.size;have z14:=E14.size;have z15:w14.heap.size≤w15.heap.size:=X.size;exact jTW k f hf c hc' x hx g p3 B (fun b hb=>by have:=hH b hb;omega) ((((E02.trans E9).trans E13).trans E14).own (by omega) X) ht
end Go.Proofs
end
section
open Go Go.SE
namespace Go.Proofs
open Tryz
set_option maxRecDepth 100000
set_option maxHeartbeats 4000000
attribute [local irreducible] wpL wpX opE wpE Calls
def s_Y1 (e1:Int):Int :=e1
theorem pw_Y1 (e1:Int) (w0:World) :
  Calls prog 30 #[(vi e1)] w0 (fun e w'=>(e=.returned (vi e1))∧Pure w0 w'):=by
 refine cw (args:=[(vi e1)]) func30 ntmps30 (eg (q0 (vi 0) (ln (eg (q0 (vi e1) (q0 (vi e1) (ln ?_)))))))
 refine er (rs1 results30 (v:=(vi e1)) ⟨by kernel_rfl,Ext.refl _⟩)
theorem p_Y1 (e1:Int) (w0:World):Calls prog 30 #[(.int .i64 e1)] w0 (fun e w'=>e=.returned (.int .i64 (s_Y1 e1))∧Pure w0 w'):=pw_Y1 e1 w0
theorem uR (a0 a1 a2:Int) (a3:ByteArray) (a4:Bool) (b0 b1 b2:Int) (b3:ByteArray) (b4:Bool) (w:World):(Go.binOp .eql 56 (.agg #[(.int .i64 a0),(.int .i64 a1),(.int .u64 a2),(.string a3),(.bool a4)]) (.agg #[(.int .i64 b0),(.int .i64 b1),(.int .u64 b2),(.string b3),(.bool b4)])).run prog w=.ok (.bool ((a0 == b0) && ((a1 == b1) && ((a2 == b2) && ((decide (a3=b3)) && (a4 == b4)))))) w:=by
 simp [Go.binOp,Op.equal,Op.maxDepth,go_sem,jKQ,bne]
 repeat' split
 all_goals simp_all
def m_T_j2 (r1:Option Addr) (r2:Int) (x2:Bool) (H:NP) (w:World) (K:Bool→WP):Prop :=Br x2 (Calls prog 67 #[(vp r1),(vi r2)] w (fun e w24=>∃r9,e=.returned (vi r9)∧Kept H w w24∧K (r9 == 6) w24)) (K false w)
def m_T_j1 (r1:Option Addr) (r2:Int) (x1:Bool) (H:NP) (w:World) (K:Bool→WP):Prop :=Br x1 (Calls prog 33 #[(.agg #[(vi 1),(vi 0),(vu 7),(vs (⟨#[97]⟩:ByteArray)),(vb false)])] w (fun e w25=>∃r10,e=.returned (vi r10)∧Kept H w w25∧m_T_j2 r1 r2 (r10 == 1) H w25 K)) (m_T_j2 r1 r2 false H w K)
def m_T  (w0:World) (K:Bool→WP):Prop :=Calls prog 11 #[] w0 (fun e w1=>∃r1,e=.returned (vp r1)∧Kept None w0 w1∧∀H1 w3,Hst w0 None w1 H1 w3→Calls prog 26 #[(vp r1),(.agg #[(vi 1),(vi 0),(vu 7),(vs (⟨#[97]⟩:ByteArray)),(vb false)])] w3 (fun e w4=>∃r2 r3,e=.returned (.tuple #[(vi r2),(vi r3)])∧Kept H1 w3 w4∧Calls prog 40 #[(vp r1),(vi r2)] w4 (fun e w5=>∃aH aI aA aJ aB r4,e=.returned (.tuple #[(Af aH aI aA aJ aB),(vb r4)])∧Kept H1 w4 w5∧∀H2 w7,Hst w0 H1 w5 H2 w7→Calls prog 28 #[(.agg #[(vi 1),(vi 0),(vu 7),(vs (⟨#[97]⟩:ByteArray)),(vb false)])] w7 (fun e w8=>∃r5:Sl,∃r6,e=.returned (.tuple #[r5.v,(vi r6)])∧Kept H2 w7 w8∧Calls prog 24 #[r5.v] w8 (fun e w9=>∃aC aD aF aE aG r7,e=.returned (.tuple #[(Af aC aD aF aE aG),(vb r7)])∧Kept H2 w8 w9∧∀H3 w11,Hst w0 H2 w9 H3 w11→Calls prog 40 #[(vp r1),(vi 1)] w11 (fun e w12=>∃aK aL aT aM aU r8,e=.returned (.tuple #[(Af aK aL aT aM aU),(vb r8)])∧Kept H3 w11 w12∧∀y1:Bool,y1=(((r3 == 0) && r4) && ((aH == 1) && ((aI == 0) && ((aA == 7) && ((decide (aJ=(⟨#[97]⟩:ByteArray))) && (aB == false))))))→∀y2:Bool,y2=(((y1 && (r6 == 0)) && r7) && ((aC == 1) && ((aD == 0) && ((aF == 7) && ((decide (aE=(⟨#[97]⟩:ByteArray))) && (aG == false))))))→Br (y2 && (!r8)) (∀H10 w23,Hst w0 H3 w12 H10 w23→Calls prog 35 #[(.agg #[(vi 1),(vi 0),(vu 7),(vs (⟨#[97]⟩:ByteArray)),(vb false)])] w23 (fun e w26=>∃r11,e=.returned (vs r11)∧Kept H10 w23 w26∧m_T_j1 r1 r2 (decide (r11=(⟨#[112,114,111,109,105,115,101,32,48,32,55,32,34,97,34]⟩:ByteArray))) H10 w26 K)) (∀H10 w23,Hst w0 H3 w12 H10 w23→m_T_j1 r1 r2 false H10 w23 K)))))))
theorem w_T  (w0:World) (K:Bool→WP) (h:m_T  w0 K) :
  Calls prog 23 #[] w0 (fun e w'=>∃r12,e=.returned (vb r12)∧K r12 w'):=by
 refine cw (args:=[]) func23 ntmps23 ?_
 obtain ⟨hs,hb⟩:=st0 w0
 refine eg (q (ln (eg (sc call11 (h.mono fun e w1 ⟨r1,k,hk,h⟩=>have ⟨hs,hb⟩:=hk.hh hs hb;⟨_,k,?_⟩)))))
 refine q (ln (eg (q (nw3 (Ag 0 0 0 false) 56 hs hb (zH (zeroValue56 _) rfl) fun p1 w2 H1 hs hb=>sbx 0 (Ac 1 0 7 (⟨#[97]⟩:ByteArray) false) (sizeOf56 _) hs hb gZ fun w3 hs hb=>ln (eg (q (q2 (Af 1 0 7 (⟨#[97]⟩:ByteArray) false) (xa p1 (Ac 1 0 7 (⟨#[97]⟩:ByteArray) false) (isAgg56 _) (sizeOf56 _) (hb.r0 0 5 gZ)) ?_)))))))
 have ⟨h,hs⟩:=hs.hr (h H1 w3)
 refine sc call26 (h.mono fun e w4 ⟨r2,r3,k,hk,h⟩=>have ⟨hs,hb⟩:=hk.hh hs hb;⟨_,k,?_⟩)
 refine q (qd (ln (eg (qb (sc call40 (h.mono fun e w5 ⟨aH,aI,aA,aJ,aB,r4,k,hk,h⟩=>have ⟨hs,hb⟩:=hk.hh hs hb;⟨_,k,?_⟩))))))
 refine qc (nw3 (Ag 0 0 0 false) 56 hs hb (zH (zeroValue56 _) rfl) fun p2 w6 H2 hs hb=>sbx 0 (Ac aH aI aA aJ aB) (sizeOf56 _) hs hb gZ fun w7 hs hb=>q (ln (eg (q2 (Af 1 0 7 (⟨#[97]⟩:ByteArray) false) (xa p1 (Ac 1 0 7 (⟨#[97]⟩:ByteArray) false) (isAgg56 _) (sizeOf56 _) (hb.r0 1 5 (gS gZ))) ?_))))
 have ⟨h,hs⟩:=hs.hr (h H2 w7)
 refine sc call28 (h.mono fun e w8 ⟨r5,r6,k,hk,h⟩=>have ⟨hs,hb⟩:=hk.hh hs hb;⟨_,k,?_⟩)
 refine q (qd (ln (eg (q (sc call24 (h.mono fun e w9 ⟨aC,aD,aF,aE,aG,r7,k,hk,h⟩=>have ⟨hs,hb⟩:=hk.hh hs hb;⟨_,k,?_⟩))))))
 refine qc (nw3 (Ag 0 0 0 false) 56 hs hb (zH (zeroValue56 _) rfl) fun p3 w10 H3 hs hb=>sbx 0 (Ac aC aD aF aE aG) (sizeOf56 _) hs hb gZ fun w11 hs hb=>q (ln (eg (q ?_))))
 have ⟨h,hs⟩:=hs.hr (h H3 w11)
 refine sc call40 (h.mono fun e w12 ⟨aK,aL,aT,aM,aU,r8,k,hk,h⟩=>have ⟨hs,hb⟩:=hk.hh hs hb;⟨_,k,?_⟩)
 refine qc (nw3 (Ag 0 0 0 false) 56 hs hb (zH (zeroValue56 _) rfl) fun p4 w13 H4 hs hb=>sbx 0 (Ac aK aL aT aM aU) (sizeOf56 _) hs hb gZ fun w14 hs hb=>q (ln (eg (q (sc call30 ((p_Y1 r3 w14).mono ?_))))))
 rintro e w15 ⟨he,hE⟩
 refine ⟨_,he,?_⟩
 obtain ⟨hs,hb⟩:=hs.pp hb hE
 refine qb (zK 2 (fun ρ wJ=>∃b1'0:Bool,∃HJ:NP,((r3 == 0)=b1'0)∧Hst w0 H3 w12 HJ wJ∧HB HJ wJ [(p4,(Ac aK aL aT aM aU),56),(p3,(Ac aC aD aF aE aG),56),(p2,(Ac aH aI aA aJ aB),56),(p1,(Ac 1 0 7 (⟨#[97]⟩:ByteArray) false),56)]∧Has ρ [(1,(vp r1)),(2,(vp (some p1))),(3,(vi r2)),(5,(vp (some p2))),(8,(vi r6)),(9,(vp (some p3))),(10,(vb r7)),(12,(vb r8)),(47,(vb (b1'0 && r4)))]) ?_ ?_)
 rintro ρ w16 ⟨b1'0,H5,he0,hs,hb,hH⟩
 subst he0
 refine zQ hH (q (zK 4 (fun ρ wJ=>∃b2'0 y1:Bool,∃HJ:NP,(((r3 == 0) && r4)=b2'0)∧(y1=(b2'0 && ((aH == 1) && ((aI == 0) && ((aA == 7) && ((decide (aJ=(⟨#[97]⟩:ByteArray))) && (aB == false)))))))∧Hst w0 H3 w12 HJ wJ∧HB HJ wJ [(p4,(Ac aK aL aT aM aU),56),(p3,(Ac aC aD aF aE aG),56),(p2,(Ac aH aI aA aJ aB),56),(p1,(Ac 1 0 7 (⟨#[97]⟩:ByteArray) false),56)]∧Has ρ [(1,(vp r1)),(2,(vp (some p1))),(3,(vi r2)),(8,(vi r6)),(9,(vp (some p3))),(10,(vb r7)),(12,(vb r8)),(52,(vb y1))]) ?_ ?_))
 rintro ρ w17 ⟨b2'0,y1,H6,he0,hy1,hs,hb,hH⟩
 subst he0
 have h:=h y1 hy1
 refine zQ hH (q (zK 4 (fun ρ wJ=>∃b3'0:Bool,∃HJ:NP,(y1=b3'0)∧Hst w0 H3 w12 HJ wJ∧HB HJ wJ [(p4,(Ac aK aL aT aM aU),56),(p3,(Ac aC aD aF aE aG),56),(p2,(Ac aH aI aA aJ aB),56),(p1,(Ac 1 0 7 (⟨#[97]⟩:ByteArray) false),56)]∧Has ρ [(1,(vp r1)),(2,(vp (some p1))),(3,(vi r2)),(9,(vp (some p3))),(10,(vb r7)),(12,(vb r8)),(57,(vb (b3'0 && (r6 == 0))))]) ?_ ?_))
 rintro ρ w19 ⟨b3'0,H7,he0,hs,hb,hH⟩
 subst he0
 refine zQ hH (q (zK 2 (fun ρ wJ=>∃b4'0:Bool,∃HJ:NP,((y1 && (r6 == 0))=b4'0)∧Hst w0 H3 w12 HJ wJ∧HB HJ wJ [(p4,(Ac aK aL aT aM aU),56),(p3,(Ac aC aD aF aE aG),56),(p2,(Ac aH aI aA aJ aB),56),(p1,(Ac 1 0 7 (⟨#[97]⟩:ByteArray) false),56)]∧Has ρ [(1,(vp r1)),(2,(vp (some p1))),(3,(vi r2)),(9,(vp (some p3))),(12,(vb r8)),(60,(vb (b4'0 && r7)))]) ?_ ?_))
 rintro ρ w21 ⟨b4'0,H8,he0,hs,hb,hH⟩
 subst he0
 refine zQ hH (q (zK 4 (fun ρ wJ=>∃b5'0 y2:Bool,∃HJ:NP,(((y1 && (r6 == 0)) && r7)=b5'0)∧(y2=(b5'0 && ((aC == 1) && ((aD == 0) && ((aF == 7) && ((decide (aE=(⟨#[97]⟩:ByteArray))) && (aG == false)))))))∧Hst w0 H3 w12 HJ wJ∧HB HJ wJ [(p4,(Ac aK aL aT aM aU),56),(p3,(Ac aC aD aF aE aG),56),(p2,(Ac aH aI aA aJ aB),56),(p1,(Ac 1 0 7 (⟨#[97]⟩:ByteArray) false),56)]∧Has ρ [(1,(vp r1)),(2,(vp (some p1))),(3,(vi r2)),(12,(vb r8)),(65,(vb y2))]) ?_ ?_))
 rintro ρ w22 ⟨b5'0,y2,H9,he0,hy2,hs,hb,hH⟩
 subst he0
 have h:=h y2 hy2
 refine zQ hH (q (zK 3 (fun ρ wJ=>∃b6'0:Bool,∃HJ:NP,(y2=b6'0)∧Hst w0 H3 w12 HJ wJ∧HB HJ wJ [(p4,(Ac aK aL aT aM aU),56),(p3,(Ac aC aD aF aE aG),56),(p2,(Ac aH aI aA aJ aB),56),(p1,(Ac 1 0 7 (⟨#[97]⟩:ByteArray) false),56)]∧Has ρ [(1,(vp r1)),(2,(vp (some p1))),(3,(vi r2)),(69,(vb (b6'0 && (!r8))))]) ?_ ?_))
 rintro ρ w23 ⟨b6'0,H10,he0,hs,hb,hH⟩
 subst he0
 refine zQ hH (q (zK 4 (fun ρ w=>∃x1,∃H:NP,Has ρ [(1,(vp r1)),(2,(vp (some p1))),(3,(vi r2)),(74,(vb x1))]∧Hst w0 H w H w∧HB H w [(p4,(Ac aK aL aT aM aU),56),(p3,(Ac aC aD aF aE aG),56),(p2,(Ac aH aI aA aJ aB),56),(p1,(Ac 1 0 7 (⟨#[97]⟩:ByteArray) false),56)]∧m_T_j1 r1 r2 x1 H w K) ?_ ?_))
 rintro ρ w ⟨x1,H,hH,hs,hb,h⟩
 refine zQ hH (q (zK 4 (fun ρ w=>∃x2,∃H:NP,Has ρ [(1,(vp r1)),(3,(vi r2)),(79,(vb x2))]∧Hst w0 H w H w∧HB H w [(p4,(Ac aK aL aT aM aU),56),(p3,(Ac aC aD aF aE aG),56),(p2,(Ac aH aI aA aJ aB),56),(p1,(Ac 1 0 7 (⟨#[97]⟩:ByteArray) false),56)]∧m_T_j2 r1 r2 x2 H w K) ?_ ?_))
 rintro ρ w ⟨x2,H,hH,hs,hb,h⟩
 refine zQ hH (q ?_)
 obtain ⟨hg13,h⟩|⟨hg13,h⟩:=h.br
 refine qk 80 hg13 (qk 80 hg13 (vX (wy 80 hg13) (xc call67) (h.mono ?_)))
 rintro e w24 ⟨r9,rfl,hk,h⟩
 refine ⟨_,rfl,?_⟩
 obtain ⟨hs,hb⟩:=hk.hh hs hb
 refine qk 80 hg13 (q2 (vb (r9 == 6)) (xT hg13) (q (ln (er (rs1 results23 ⟨(r9 == 6),rfl,h⟩)))))
 refine sj4 80 hg13 (q2 (vb false) (xF hg13) (q (ln (er (rs1 results23 ⟨false,rfl,h⟩)))))
 obtain ⟨hg14,h⟩|⟨hg14,h⟩:=h.br
 refine stq (v:=(Af 1 0 7 (⟨#[97]⟩:ByteArray) false)) (wy 75 hg14) (xa p1 (Ac 1 0 7 (⟨#[97]⟩:ByteArray) false) (isAgg56 _) (sizeOf56 _) (hb.r0 3 5 (gS (gS (gS gZ))))) (vX (wy 75 hg14) (xc call33) (h.mono ?_))
 rintro e w25 ⟨r10,rfl,hk,h⟩
 refine ⟨_,rfl,?_⟩
 obtain ⟨hs,hb⟩:=hk.hh hs hb
 refine qk 75 hg14 (q2 (vb (r10 == 1)) (xT hg14) (zC ⟨(r10 == 1),H,hm,hs,hb,h⟩))
 refine sj3 75 hg14 (q2 (vb false) (xF hg14) (zC ⟨false,H,hm,hs,hb,h⟩))
 obtain ⟨hg15,h⟩|⟨hg15,h⟩:=h.br
 refine stq (v:=(Af 1 0 7 (⟨#[97]⟩:ByteArray) false)) (wy 70 hg15) (xa p1 (Ac 1 0 7 (⟨#[97]⟩:ByteArray) false) (isAgg56 _) (sizeOf56 _) (hb.r0 3 5 (gS (gS (gS gZ))))) ?_
 have ⟨h,hs⟩:=hs.hr (h H10 w23)
 refine vX (wy 70 hg15) (xc call35) (h.mono ?_)
 rintro e w26 ⟨r11,rfl,hk,h⟩
 refine ⟨_,rfl,?_⟩
 obtain ⟨hs,hb⟩:=hk.hh hs hb
 refine stq (v:=(vb (decide (r11=(⟨#[112,114,111,109,105,115,101,32,48,32,55,32,34,97,34]⟩:ByteArray))))) (wy 70 hg15) (jAY (by kernel_rfl) (by kernel_rfl)) (q2 (vb (decide (r11=(⟨#[112,114,111,109,105,115,101,32,48,32,55,32,34,97,34]⟩:ByteArray)))) (xT hg15) (zC ⟨(decide (r11=(⟨#[112,114,111,109,105,115,101,32,48,32,55,32,34,97,34]⟩:ByteArray))),H10,hm,hs,hb,h⟩))
 refine sj3 70 hg15 (q2 (vb false) (xF hg15) (zC ?_))
 have ⟨h,hs⟩:=hs.hr (h H10 w23)
 exact ⟨false,H10,hm,hs,hb,h⟩
 rcases bte y2 with hg12 | hg12
 refine qk 66 hg12 (qk 66 hg12 (q2 (vb (!r8)) (xT hg12) (zC ⟨true,_,hg12,hs,hb,hm⟩)))
 refine sj2 66 hg12 (q2 (vb false) (xF hg12) (zC ⟨false,_,hg12,hs,hb,hm⟩))
 rcases bte ((y1 && (r6 == 0)) && r7) with hg10 | hg10
 refine stq (v:=(Af aC aD aF aE aG)) (wy 61 hg10) (xa p3 (Ac aC aD aF aE aG) (isAgg56 _) (sizeOf56 _) (hb.r0 1 5 (gS gZ))) (stq (v:=(Af 1 0 7 (⟨#[97]⟩:ByteArray) false)) (wy 61 hg10) (xa p1 (Ac 1 0 7 (⟨#[97]⟩:ByteArray) false) (isAgg56 _) (sizeOf56 _) (hb.r0 3 5 (gS (gS (gS gZ))))) (stq (v:=(vb ((aC == 1) && ((aD == 0) && ((aF == 7) && ((decide (aE=(⟨#[97]⟩:ByteArray))) && (aG == false))))))) (wy 61 hg10) (jHB (by kernel_rfl) (by kernel_rfl) (by kernel_rfl) (uR aC aD aF aE aG 1 0 7 (⟨#[97]⟩:ByteArray) false _)) (q2 (vb ((aC == 1) && ((aD == 0) && ((aF == 7) && ((decide (aE=(⟨#[97]⟩:ByteArray))) && (aG == false)))))) (xT hg10) (zC ⟨true,_,_,hg10,rfl,hs,hb,hm⟩))))
 refine sj3 61 hg10 (q2 (vb false) (xF hg10) (zC ⟨false,_,_,hg10,rfl,hs,hb,hm⟩))
 rcases bte (y1 && (r6 == 0)) with hg8 | hg8
 refine qk 58 hg8 (q2 (vb r7) (xT hg8) (zC ⟨true,_,hg8,hs,hb,hm⟩))
 refine sj 58 hg8 (q2 (vb false) (xF hg8) (zC ⟨false,_,hg8,hs,hb,hm⟩))
 rcases bte y1 with hg6 | hg6
 refine qk 53 hg6 (vX (wy 53 hg6) (xc call30) ((p_Y1 r6 w17).mono ?_))
 rintro e w20 ⟨he,hE⟩
 refine ⟨_,he,?_⟩
 obtain ⟨hs,hb⟩:=hs.pp hb hE
 refine qk 53 hg6 (q2 (vb (r6 == 0)) (xT hg6) (zC ⟨true,_,hg6,hs,hb,hm⟩))
 refine sj3 53 hg6 (q2 (vb false) (xF hg6) (zC ⟨false,_,hg6,hs,hb,hm⟩))
 rcases bte ((r3 == 0) && r4) with hg4 | hg4
 refine stq (v:=(Af aH aI aA aJ aB)) (wy 48 hg4) (xa p2 (Ac aH aI aA aJ aB) (isAgg56 _) (sizeOf56 _) (hb.r0 2 5 (gS (gS gZ)))) (stq (v:=(Af 1 0 7 (⟨#[97]⟩:ByteArray) false)) (wy 48 hg4) (xa p1 (Ac 1 0 7 (⟨#[97]⟩:ByteArray) false) (isAgg56 _) (sizeOf56 _) (hb.r0 3 5 (gS (gS (gS gZ))))) (stq (v:=(vb ((aH == 1) && ((aI == 0) && ((aA == 7) && ((decide (aJ=(⟨#[97]⟩:ByteArray))) && (aB == false))))))) (wy 48 hg4) (jHB (by kernel_rfl) (by kernel_rfl) (by kernel_rfl) (uR aH aI aA aJ aB 1 0 7 (⟨#[97]⟩:ByteArray) false _)) (q2 (vb ((aH == 1) && ((aI == 0) && ((aA == 7) && ((decide (aJ=(⟨#[97]⟩:ByteArray))) && (aB == false)))))) (xT hg4) (zC ⟨true,_,_,hg4,rfl,hs,hb,hm⟩))))
 refine sj3 48 hg4 (q2 (vb false) (xF hg4) (zC ⟨false,_,_,hg4,rfl,hs,hb,hm⟩))
 rcases bte (r3 == 0) with hg2 | hg2
 refine qk 45 hg2 (q2 (vb r4) (xT hg2) (zC ⟨true,_,hg2,hs,hb,hm⟩))
 refine sj 45 hg2 (q2 (vb false) (xF hg2) (zC ⟨false,_,hg2,hs,hb,hm⟩))
theorem uZ (a0 a1 a2:Int) (a3:ByteArray) (a4:Bool) (b0 b1 b2:Int) (b3:ByteArray) (b4:Bool) (w:World):(Go.binOp .neq 56 (.agg #[(.int .i64 a0),(.int .i64 a1),(.int .u64 a2),(.string a3),(.bool a4)]) (.agg #[(.int .i64 b0),(.int .i64 b1),(.int .u64 b2),(.string b3),(.bool b4)])).run prog w=.ok (.bool (!((a0 == b0) && ((a1 == b1) && ((a2 == b2) && ((decide (a3=b3)) && (a4 == b4))))))) w:=by
 simp [Go.binOp,Op.equal,Op.maxDepth,go_sem,jKQ,bne]
 repeat' split
 all_goals simp_all
theorem yL (a0 b0:Bool) (w:World):(Go.binOp .neq 4 (.bool a0) (.bool b0)).run prog w=.ok (.bool (!(a0 == b0))) w:=by
 simp [Go.binOp,Op.equal,Op.maxDepth,go_sem,jKQ,bne]
def m_H_j4 (c1:Int) (text1:ByteArray) (r2:Option Addr) (r3:Option Addr) (x3:Bool) (w0:World) (H:NP) (w:World) (K:Bool→WP):Prop :=Br x3 (K false w) (Calls prog 44 #[(vp r2),(vu c1),(vs text1)] w (fun e w16=>∃r16 r17,e=.returned (.tuple #[(vi r16),(vi r17)])∧Kept H w w16∧Calls prog 45 #[(vu c1),(vs text1)] w16 (fun e w17=>∃aV aW aX aY aZ bA,e=.returned (Aa aV aW aX aY aZ bA)∧Kept H w16 w17∧Calls prog 14 #[(vp r3),(.agg #[(vi aV),(vi aW),(vi aX),(vu aY),(vs aZ),bA.v])] w17 (fun e w18=>∃r18 r19,e=.returned (.tuple #[(vi r18),(vi r19)])∧Kept H w17 w18∧Br ((r16 == r18) && (r17 == r19)) (∀H4 w20,Hst w0 H w18 H4 w20→Calls prog 23 #[] w20 (fun e w22=>∃r20,e=.returned (vb r20)∧Kept H4 w20 w22∧K r20 w22)) (∀H4 w20,Hst w0 H w18 H4 w20→K false w20)))))
def m_H_j3 (c1:Int) (text1:ByteArray) (r2:Option Addr) (r3:Option Addr) (t2:Int) (w0:World) (H:NP) (w:World) (K:Bool→WP):Prop :=Calls prog 40 #[(vp r2),(vi t2)] w (fun e w8=>∃aC aD aA aE aB r8,e=.returned (.tuple #[(Af aC aD aA aE aB),(vb r8)])∧Kept H w w8∧∀H2 w10,Hst w0 H w8 H2 w10→Calls prog 41 #[(vp r3),(vi t2)] w10 (fun e w11=>∃aK aL aF aM aG r9,e=.returned (.tuple #[(Af aK aL aF aM aG),(vb r9)])∧Kept H2 w10 w11∧∀H3 w13,Hst w0 H2 w11 H3 w13→Calls prog 42 #[(vp r2),(vi t2)] w13 (fun e w14=>∃r10 r11 r12,e=.returned (.tuple #[(vu r10),(vs r11),(vb r12)])∧Kept H3 w13 w14∧Calls prog 43 #[(vp r3),(vi t2)] w14 (fun e w15=>∃r13 r14 r15,e=.returned (.tuple #[(vu r13),(vs r14),(vb r15)])∧Kept H3 w14 w15∧∃C1:WP,C1 w15.drew∧∀w23,w23=w15.drew→Br (!((aC == aK) && ((aD == aL) && ((aA == aF) && ((decide (aE=aM)) && (aB == aG)))))) (m_H_j4 c1 text1 r2 r3 true w0 H3 w23 K) (Br (!(r8 == r9)) (m_H_j4 c1 text1 r2 r3 true w0 H3 w23 K) (Br (r10 != r13) (m_H_j4 c1 text1 r2 r3 true w0 H3 w23 K) (Br (!(decide (r11=r14))) (m_H_j4 c1 text1 r2 r3 true w0 H3 w23 K) (Br (!(r12 == r15)) (m_H_j4 c1 text1 r2 r3 true w0 H3 w23 K) (∃a1,r3=some a1∧∃v1:Sl,(∀w',C1 w'→w'.cell? a1=some v1.v)∧Calls prog 22 #[(vp r2)] w23 (fun e w24=>∃r21,e=.returned (vi r21)∧C1 w24∧Kept H3 w23 w24∧m_H_j4 c1 text1 r2 r3 (r21 != (v1.len:Int)) w0 H3 w24 K))))))))))
def m_H_j2 (t1 c1:Int) (text1:ByteArray) (r2:Option Addr) (r3:Option Addr) (x2:Bool) (w0:World) (H:NP) (w:World) (K:Bool→WP):Prop :=Br x2 (∃a2,r3=some a2∧∃v2:Sl,w.cell? a2=some v2.v∧m_H_j3 c1 text1 r2 r3 (v2.len:Int) w0 H w K) (m_H_j3 c1 text1 r2 r3 t1 w0 H w K)
def m_H_j1 (aN aO:Int) (aP aQ:Int) (aR:ByteArray) (aS:Sl) (t1 c1:Int) (text1:ByteArray) (x1:Bool) (w0:World) (H:NP) (w:World) (K:Bool→WP):Prop :=Br x1 (Calls prog 23 #[] w (fun e w2=>∃r1,e=.returned (vb r1)∧Kept H w w2∧K r1 w2)) (Calls prog 11 #[] w (fun e w3=>∃r2,e=.returned (vp r2)∧Kept H w w3∧Calls prog 12 #[] w3 (fun e w4=>∃r3,e=.returned (vp r3)∧Kept H w3 w4∧Br (Option.isNone r2) (K false w4) (Calls prog 39 #[(.agg #[(vi aN),(vi aO),(vi aP),(vu aQ),(vs aR),aS.v])] w4 (fun e w5=>∃aH aI bB bC aJ bD,e=.returned (Aa aH aI bB bC aJ bD)∧Kept H w4 w5∧Calls prog 13 #[(vp r2),(.agg #[(vi aH),(vi aI),(vi bB),(vu bC),(vs aJ),bD.v])] w5 (fun e w6=>∃r4 r5,e=.returned (.tuple #[(vi r4),(vi r5)])∧Kept H w5 w6∧Calls prog 14 #[(vp r3),(.agg #[(vi aN),(vi aO),(vi aP),(vu aQ),(vs aR),aS.v])] w6 (fun e w7=>∃r6 r7,e=.returned (.tuple #[(vi r6),(vi r7)])∧Kept H w6 w7∧Br (decide (t1<1)) (m_H_j2 t1 c1 text1 r2 r3 true w0 H w7 K) (∃a3,r3=some a3∧∃v3:Sl,w7.cell? a3=some v3.v∧m_H_j2 t1 c1 text1 r2 r3 (decide (t1>(v3.len:Int))) w0 H w7 K))))))))
def m_H (aN aO:Int) (aP aQ:Int) (aR:ByteArray) (aS:Sl) (t1 c1:Int) (text1:ByteArray) (w0:World) (K:Bool→WP):Prop :=∀H1 w1,Hst w0 None w0 H1 w1→Calls prog 10 #[(.agg #[(vi aN),(vi aO),(vi aP),(vu aQ),(vs aR),aS.v]),(vi 6000)] w1 (fun e w25=>∃r22,e=.returned (vi r22)∧Kept H1 w1 w25∧∀H5 w26,Hst w0 H1 w25 H5 w26→m_H_j1 aN aO aP aQ aR aS t1 c1 text1 ((decide (r22>6000)) || (decide ((text1.size:Int)>5000))) w0 H5 w26 K)
theorem w_H (aN aO aP aQ aR aS t1 c1 text1 w0 K) (h:m_H aN aO aP aQ aR aS t1 c1 text1 w0 K):
  Calls prog 6 #[(.agg #[(vi aN),(vi aO),(vi aP),(vu aQ),(vs aR),aS.v]),(vi t1),(vu c1),(vs text1)] w0 (fun e w'=>∃r23,e=.returned (vb r23)∧K r23 w'):=by
 refine cw (args:=[(Aa aN aO aP aQ aR aS),(vi t1),(vu c1),(vs text1)]) func6 ntmps6 ?_
 obtain ⟨hs,hb⟩:=st0 w0
 refine eg (nw3 (Ab aN aO aP aQ aR aS) 28 hs hb xb fun p1 w1 H1 hs hb=>q (ln (zA (zA (vD (fun ρ w=>∃x1,∃H:NP,Has ρ [(1,(vi t1)),(2,(vu c1)),(3,(vs text1)),(4,(vp (some p1))),(32,(vb x1))]∧Hst w0 H w H w∧HB H w [(p1,(Ab aN aO aP aQ aR aS),28)]∧m_H_j1 aN aO aP aQ aR aS t1 c1 text1 x1 w0 H w K) ?_ ?_)))))
 rintro ρ w ⟨x1,H,hH,hs,hb,h⟩
 refine zR hH (cbr h ?_ ?_)<;>intro h
 refine eg (sc call23 (h.mono fun e w2 ⟨r1,k,hk,h⟩=>have ⟨hs,hb⟩:=hk.hh hs hb;⟨_,k,?_⟩))
 refine q (ln (er (vA (rs1 results6 ⟨r1,rfl,h⟩))))
 refine zD (zN (eg (sc call11 (h.mono fun e w3 ⟨r2,k,hk,h⟩=>have ⟨hs,hb⟩:=hk.hh hs hb;⟨_,k,?_⟩))))
 refine q (ln (eg (sc call12 (h.mono fun e w4 ⟨r3,k,hk,h⟩=>have ⟨hs,hb⟩:=hk.hh hs hb;⟨_,k,?_⟩))))
 refine q (ln (zA (eg (q (q2 (vb (Option.isNone r2)) (yY (by kernel_rfl) rfl underlying29) (ln (cbr h ?_ ?_)))))))<;>intro h
 refine eg (q (ln (er (vA (rs1 results6 ⟨false,rfl,h⟩)))))
 refine zD (zN (eg (q (q2 (Aa aN aO aP aQ aR aS) (xa p1 (Ab aN aO aP aQ aR aS) (isAgg28 _) (sizeOf28 _) (hb.r0 0 6 gZ)) (sc call39 (h.mono fun e w5 ⟨aH,aI,bB,bC,aJ,bD,k,hk,h⟩=>have ⟨hs,hb⟩:=hk.hh hs hb;⟨_,k,?_⟩))))))
 refine sc call13 (h.mono fun e w6 ⟨r4,r5,k,hk,h⟩=>have ⟨hs,hb⟩:=hk.hh hs hb;⟨_,k,?_⟩)
 refine ln (eg (q (q2 (Aa aN aO aP aQ aR aS) (xa p1 (Ab aN aO aP aQ aR aS) (isAgg28 _) (sizeOf28 _) (hb.r0 0 6 gZ)) (sc call14 (h.mono fun e w7 ⟨r6,r7,k,hk,h⟩=>have ⟨hs,hb⟩:=hk.hh hs hb;⟨_,k,?_⟩)))))
 refine ln (zA (zA (vD (fun ρ w=>∃x2,∃H:NP,Has ρ [(1,(vi t1)),(2,(vu c1)),(3,(vs text1)),(9,(vp r2)),(10,(vp r3)),(55,(vb x2))]∧Hst w0 H w H w∧HB H w [(p1,(Ab aN aO aP aQ aR aS),28)]∧m_H_j2 t1 c1 text1 r2 r3 x2 w0 H w K) ?_ ?_)))
 rintro ρ w ⟨x2,H,hH,hs,hb,h⟩
 refine zR hH (vD (fun ρ w=>∃t2,∃H:NP,Has ρ [(1,(vi t2)),(2,(vu c1)),(3,(vs text1)),(9,(vp r2)),(10,(vp r3))]∧Hst w0 H w H w∧HB H w [(p1,(Ab aN aO aP aQ aR aS),28)]∧m_H_j3 c1 text1 r2 r3 t2 w0 H w K) ?_ ?_)
 rintro ρ w ⟨t2,H,hH,hs,hb,h⟩
 refine zR hH (eg (qb (sc call40 (h.mono fun e w8 ⟨aC,aD,aA,aE,aB,r8,k,hk,h⟩=>have ⟨hs,hb⟩:=hk.hh hs hb;⟨_,k,?_⟩))))
 refine qc (nw3 (Ag 0 0 0 false) 56 hs hb (zH (zeroValue56 _) rfl) fun p2 w9 H2 hs hb=>sbx 0 (Ac aC aD aA aE aB) (sizeOf56 _) hs hb gZ fun w10 hs hb=>q (ln (eg (qb ?_))))
 have ⟨h,hs⟩:=hs.hr (h H2 w10)
 refine sc call41 (h.mono fun e w11 ⟨aK,aL,aF,aM,aG,r9,k,hk,h⟩=>have ⟨hs,hb⟩:=hk.hh hs hb;⟨_,k,?_⟩)
 refine qc (nw3 (Ag 0 0 0 false) 56 hs hb (zH (zeroValue56 _) rfl) fun p3 w12 H3 hs hb=>sbx 0 (Ac aK aL aF aM aG) (sizeOf56 _) hs hb gZ fun w13 hs hb=>q (ln (eg (qb ?_))))
 have ⟨h,hs⟩:=hs.hr (h H3 w13)
 refine sc call42 (h.mono fun e w14 ⟨r10,r11,r12,k,hk,h⟩=>have ⟨hs,hb⟩:=hk.hh hs hb;⟨_,k,?_⟩)
 refine qc (qd (ln (eg (q (q (sc call43 (h.mono fun e w15 ⟨r13,r14,r15,k,hk,h⟩=>have ⟨hs,hb⟩:=hk.hh hs hb;⟨_,k,?_⟩)))))))
 refine qc (qd (ln (zA (zA (vD (fun ρ w=>∃x3,∃H:NP,Has ρ [(2,(vu c1)),(3,(vs text1)),(9,(vp r2)),(10,(vp r3)),(119,(vb x3))]∧Hst w0 H w H w∧HB H w [(p3,(Ac aK aL aF aM aG),56),(p2,(Ac aC aD aA aE aB),56),(p1,(Ab aN aO aP aQ aR aS),28)]∧m_H_j4 c1 text1 r2 r3 x3 w0 H w K) ?_ ?_)))))
 rintro ρ w ⟨x3,H,hH,hs,hb,h⟩
 refine zR hH (cbr h ?_ ?_)<;>intro h
 refine eg (q (ln (er (vA (rs1 results6 ⟨false,rfl,h⟩)))))
 refine zD (zN (eg (qc (sc call44 (h.mono fun e w16 ⟨r16,r17,k,hk,h⟩=>have ⟨hs,hb⟩:=hk.hh hs hb;⟨_,k,?_⟩)))))
 refine q (qd (ln (eg (qc (sc call45 (h.mono fun e w17 ⟨aV,aW,aX,aY,aZ,bA,k,hk,h⟩=>have ⟨hs,hb⟩:=hk.hh hs hb;⟨_,k,?_⟩))))))
 refine sc call14 (h.mono fun e w18 ⟨r18,r19,k,hk,h⟩=>have ⟨hs,hb⟩:=hk.hh hs hb;⟨_,k,?_⟩)
 refine q (qd (ln (eg (qc (q (zK 5 (fun ρ wJ=>∃b1'0:Bool,∃HJ:NP,((r16 == r18)=b1'0)∧Hst w0 H w18 HJ wJ∧HB HJ wJ [(p3,(Ac aK aL aF aM aG),56),(p2,(Ac aC aD aA aE aB),56),(p1,(Ab aN aO aP aQ aR aS),28)]∧Has ρ [(143,(vb (b1'0 && (r17 == r19))))]) ?_ ?_))))))
 rintro ρ w20 ⟨b1'0,H4,he0,hs,hb,hH⟩
 subst he0
 refine zQ hH (q ?_)
 obtain ⟨hg3,h⟩|⟨hg3,h⟩:=h.br
 have ⟨h,hs⟩:=hs.hr (h H4 w20)
 refine vX (wy 144 hg3) (xc call23) (h.mono ?_)
 rintro e w22 ⟨r20,rfl,hk,h⟩
 refine ⟨_,rfl,?_⟩
 obtain ⟨hs,hb⟩:=hk.hh hs hb
 refine q2 (vb r20) (xT hg3) (q (ln (er (rs1 results6 ⟨r20,rfl,h⟩))))
 refine sj 144 hg3 (q2 (vb false) (xF hg3) (q (ln (er ?_))))
 have ⟨h,hs⟩:=hs.hr (h H4 w20)
 refine rs1 results6 ⟨false,rfl,h⟩
 rcases bte (r16 == r18) with hg2 | hg2
 refine qk 138 hg2 (vX (wy 138 hg2) (xc call30) ((p_Y1 r17 w18).mono ?_))
 rintro e w21 ⟨he,hE⟩
 refine ⟨_,he,?_⟩
 obtain ⟨hs,hb⟩:=hs.pp hb hE
 refine qk 138 hg2 (qk 138 hg2 (q2 (vb (r17 == r19)) (xT hg2) (zC ⟨true,_,hg2,hs,hb,hm⟩)))
 refine sj4 138 hg2 (q2 (vb false) (xF hg2) (zC ⟨false,_,hg2,hs,hb,hm⟩))
 obtain ⟨C1,hC,h⟩:=h
 refine dr2 (fun x=>C1 x∧HB H3 x _) [25] [] ⟨hC,hb.drew⟩ h hs hb fun w23 hs hb h=>?_
 have hs:=hs.here
 refine qz 0 (Af aC aD aA aE aB) Kp0 (fun w' hw'=>(xa p2 (Ac aC aD aA aE aB) (isAgg56 _) (sizeOf56 _) (hw'.2.r0 1 5 (gS gZ)))) (qz 1 (Af aK aL aF aM aG) Kp1 (fun w' hw'=>(xa p3 (Ac aK aL aF aM aG) (isAgg56 _) (sizeOf56 _) (hw'.2.r0 0 5 gZ))) (qz 2 (vb (!((aC == aK) && ((aD == aL) && ((aA == aF) && ((decide (aE=aM)) && (aB == aG))))))) Kp2 (fun _ _=>(jHB (by kernel_rfl) (by kernel_rfl) (by kernel_rfl) (uZ aC aD aA aE aB aK aL aF aM aG _))) (qx 3 (vb (!((aC == aK) && ((aD == aL) && ((aA == aF) && ((decide (aE=aM)) && (aB == aG))))))) Kp3 (qg 4 ?_))))
 obtain ⟨hg4,h⟩|⟨hg4,h⟩:=h.br
 refine yH Kp4 (zO rfl (yD 90 hg4) rfl) (qn 5 Kp5 (zO rfl (yD 90 hg4) rfl) (qn 6 Kp6 (zO rfl (yD 90 hg4) rfl) (qz 7 (vb true) Kp7 (fun _ _=>(xT hg4)) (qx 8 (vb true) Kp8 (qn 9 Kp9 (zO rfl (yD (c:=true) 95 rfl) rfl) (qn 10 (zG (S8 (zB (zB zF)))) (zO rfl (yD (c:=true) 95 rfl) rfl) (qn 11 (zG (S8 (zB (zB (zB zF))))) (zO rfl (yD (c:=true) 95 rfl) rfl) (qx 12 (vb true) (zG (S8 (S4 zF))) (qx 13 (vb true) (zG (S8 (S4 (zB zF)))) (qn 14 (zG (S8 (S4 (zB (zB zF))))) (zO rfl (yD (c:=true) 100 rfl) rfl) (qn 15 (zG (S8 (S4 (zB (zB (zB zF)))))) (zO rfl (yD (c:=true) 100 rfl) rfl) (qn 16 (zG (S8 (S8 zF))) (zO rfl (yD (c:=true) 100 rfl) rfl) (qx 17 (vb true) (zG (S8 (S8 (zB zF)))) (qx 18 (vb true) (zG (S8 (S8 (zB (zB zF))))) (qn 19 (zG (S8 (S8 (zB (zB (zB zF)))))) (zO rfl (yD (c:=true) 105 rfl) rfl) (qn 20 (zG (S8 (S8 (S4 zF)))) (zO rfl (yD (c:=true) 105 rfl) rfl) (qn 21 (zG (S8 (S8 (S4 (zB zF))))) (zO rfl (yD (c:=true) 105 rfl) rfl) (qx 22 (vb true) (zG (S8 (S8 (S4 (zB (zB zF)))))) (qx 23 (vb true) (zG (S8 (S8 (S4 (zB (zB (zB zF))))))) (qn 24 (zG (S8 (S8 (S8 zF)))) (zO rfl (yD (c:=true) 110 rfl) rfl) (qn 26 (zG (S8 (S8 (S8 (zB (zB zF)))))) (zO rfl (yD (c:=true) 110 rfl) rfl) (qn 27 (zG (S8 (S8 (S8 (zB (zB (zB zF))))))) (zO rfl (yD (c:=true) 110 rfl) rfl) (qn 28 (zG (S8 (S8 (S8 (S4 zF))))) (zO rfl (yD (c:=true) 110 rfl) rfl) ?_)))))))))))))))))))))))
 refine qn 29 (zG (S8 (S8 (S8 (S4 (zB zF)))))) (zO rfl (yD (c:=true) 110 rfl) rfl) (qn 30 (zG (S8 (S8 (S8 (S4 (zB (zB zF))))))) (zO rfl (yD (c:=true) 110 rfl) rfl) (lg 25 (yH (zG (S8 (S8 (S8 (zB zF))))) (zO rfl (yD (c:=true) 110 rfl) rfl) (qn 31 (zG (S8 (S8 (S8 (S4 (zB (zB (zB zF)))))))) (zO rfl (yD (c:=true) 110 rfl) rfl) (qx 32 (vb true) (zG (S8 (S8 (S8 (S8 zF))))) (wn (zN ⟨true,H3,hm,hs,hb,h⟩)))))))
 refine sz (v:=(vb r8)) Kp4 (wy 90 hg4) (fun _ _=>(by kernel_rfl)) (qw 5 (vb r9) Kp5 (wy 90 hg4) (qg 6 (sz (v:=(vb (!(r8 == r9)))) Kp6 (wy 90 hg4) (fun _ _=>(xG (by kernel_rfl) (by kernel_rfl) (by kernel_rfl) (yL r8 r9 _))) (qz 7 (vb (!(r8 == r9))) Kp7 (fun _ _=>(xF hg4)) (qx 8 (vb (!(r8 == r9))) Kp8 (qg 9 ?_))))))
 obtain ⟨hg5,h⟩|⟨hg5,h⟩:=h.br
 refine yH Kp9 (zO rfl (yD 95 hg5) rfl) (qn 10 (zG (S8 (zB (zB zF)))) (zO rfl (yD 95 hg5) rfl) (qn 11 (zG (S8 (zB (zB (zB zF))))) (zO rfl (yD 95 hg5) rfl) (qz 12 (vb true) (zG (S8 (S4 zF))) (fun _ _=>(xT hg5)) (qx 13 (vb true) (zG (S8 (S4 (zB zF)))) (qn 14 (zG (S8 (S4 (zB (zB zF))))) (zO rfl (yD (c:=true) 100 rfl) rfl) (qn 15 (zG (S8 (S4 (zB (zB (zB zF)))))) (zO rfl (yD (c:=true) 100 rfl) rfl) (qn 16 (zG (S8 (S8 zF))) (zO rfl (yD (c:=true) 100 rfl) rfl) (qx 17 (vb true) (zG (S8 (S8 (zB zF)))) (qx 18 (vb true) (zG (S8 (S8 (zB (zB zF))))) (qn 19 (zG (S8 (S8 (zB (zB (zB zF)))))) (zO rfl (yD (c:=true) 105 rfl) rfl) (qn 20 (zG (S8 (S8 (S4 zF)))) (zO rfl (yD (c:=true) 105 rfl) rfl) (qn 21 (zG (S8 (S8 (S4 (zB zF))))) (zO rfl (yD (c:=true) 105 rfl) rfl) (qx 22 (vb true) (zG (S8 (S8 (S4 (zB (zB zF)))))) (qx 23 (vb true) (zG (S8 (S8 (S4 (zB (zB (zB zF))))))) (qn 24 (zG (S8 (S8 (S8 zF)))) (zO rfl (yD (c:=true) 110 rfl) rfl) (qn 26 (zG (S8 (S8 (S8 (zB (zB zF)))))) (zO rfl (yD (c:=true) 110 rfl) rfl) (qn 27 (zG (S8 (S8 (S8 (zB (zB (zB zF))))))) (zO rfl (yD (c:=true) 110 rfl) rfl) (qn 28 (zG (S8 (S8 (S8 (S4 zF))))) (zO rfl (yD (c:=true) 110 rfl) rfl) (qn 29 (zG (S8 (S8 (S8 (S4 (zB zF)))))) (zO rfl (yD (c:=true) 110 rfl) rfl) (qn 30 (zG (S8 (S8 (S8 (S4 (zB (zB zF))))))) (zO rfl (yD (c:=true) 110 rfl) rfl) (lg 25 (yH (zG (S8 (S8 (S8 (zB zF))))) (zO rfl (yD (c:=true) 110 rfl) rfl) (qn 31 (zG (S8 (S8 (S8 (S4 (zB (zB (zB zF)))))))) (zO rfl (yD (c:=true) 110 rfl) rfl) ?_)))))))))))))))))))))))
 refine qx 32 (vb true) (zG (S8 (S8 (S8 (S8 zF))))) (wn (zN ⟨true,H3,hm,hs,hb,h⟩))
 refine sz (v:=(vu r10)) Kp9 (wy 95 hg5) (fun _ _=>(by kernel_rfl)) (qw 10 (vu r13) (zG (S8 (zB (zB zF)))) (wy 95 hg5) (qw 11 (vb (r10 != r13)) (zG (S8 (zB (zB (zB zF))))) (wy 95 hg5) (qz 12 (vb (r10 != r13)) (zG (S8 (S4 zF))) (fun _ _=>(xF hg5)) (qx 13 (vb (r10 != r13)) (zG (S8 (S4 (zB zF)))) (qg 14 ?_)))))
 obtain ⟨hg6,h⟩|⟨hg6,h⟩:=h.br
 refine yH (zG (S8 (S4 (zB (zB zF))))) (zO rfl (yD 100 hg6) rfl) (qn 15 (zG (S8 (S4 (zB (zB (zB zF)))))) (zO rfl (yD 100 hg6) rfl) (qn 16 (zG (S8 (S8 zF))) (zO rfl (yD 100 hg6) rfl) (qz 17 (vb true) (zG (S8 (S8 (zB zF)))) (fun _ _=>(xT hg6)) (qx 18 (vb true) (zG (S8 (S8 (zB (zB zF))))) (qn 19 (zG (S8 (S8 (zB (zB (zB zF)))))) (zO rfl (yD (c:=true) 105 rfl) rfl) (qn 20 (zG (S8 (S8 (S4 zF)))) (zO rfl (yD (c:=true) 105 rfl) rfl) (qn 21 (zG (S8 (S8 (S4 (zB zF))))) (zO rfl (yD (c:=true) 105 rfl) rfl) (qx 22 (vb true) (zG (S8 (S8 (S4 (zB (zB zF)))))) (qx 23 (vb true) (zG (S8 (S8 (S4 (zB (zB (zB zF))))))) (qn 24 (zG (S8 (S8 (S8 zF)))) (zO rfl (yD (c:=true) 110 rfl) rfl) (qn 26 (zG (S8 (S8 (S8 (zB (zB zF)))))) (zO rfl (yD (c:=true) 110 rfl) rfl) (qn 27 (zG (S8 (S8 (S8 (zB (zB (zB zF))))))) (zO rfl (yD (c:=true) 110 rfl) rfl) (qn 28 (zG (S8 (S8 (S8 (S4 zF))))) (zO rfl (yD (c:=true) 110 rfl) rfl) (qn 29 (zG (S8 (S8 (S8 (S4 (zB zF)))))) (zO rfl (yD (c:=true) 110 rfl) rfl) (qn 30 (zG (S8 (S8 (S8 (S4 (zB (zB zF))))))) (zO rfl (yD (c:=true) 110 rfl) rfl) (lg 25 (yH (zG (S8 (S8 (S8 (zB zF))))) (zO rfl (yD (c:=true) 110 rfl) rfl) (qn 31 (zG (S8 (S8 (S8 (S4 (zB (zB (zB zF)))))))) (zO rfl (yD (c:=true) 110 rfl) rfl) (qx 32 (vb true) (zG (S8 (S8 (S8 (S8 zF))))) (wn (zN ?_)))))))))))))))))))))
 exact ⟨true,H3,hm,hs,hb,h⟩
 refine sz (v:=(vs r11)) (zG (S8 (S4 (zB (zB zF))))) (wy 100 hg6) (fun _ _=>(by kernel_rfl)) (qw 15 (vs r14) (zG (S8 (S4 (zB (zB (zB zF)))))) (wy 100 hg6) (qg 16 (sz (v:=(vb (!(decide (r11=r14))))) (zG (S8 (S8 zF))) (wy 100 hg6) (fun _ _=>(xV (by kernel_rfl) (by kernel_rfl))) (qz 17 (vb (!(decide (r11=r14)))) (zG (S8 (S8 (zB zF)))) (fun _ _=>(xF hg6)) (qx 18 (vb (!(decide (r11=r14)))) (zG (S8 (S8 (zB (zB zF))))) (qg 19 ?_))))))
 obtain ⟨hg7,h⟩|⟨hg7,h⟩:=h.br
 refine yH (zG (S8 (S8 (zB (zB (zB zF)))))) (zO rfl (yD 105 hg7) rfl) (qn 20 (zG (S8 (S8 (S4 zF)))) (zO rfl (yD 105 hg7) rfl) (qn 21 (zG (S8 (S8 (S4 (zB zF))))) (zO rfl (yD 105 hg7) rfl) (qz 22 (vb true) (zG (S8 (S8 (S4 (zB (zB zF)))))) (fun _ _=>(xT hg7)) (qx 23 (vb true) (zG (S8 (S8 (S4 (zB (zB (zB zF))))))) (qn 24 (zG (S8 (S8 (S8 zF)))) (zO rfl (yD (c:=true) 110 rfl) rfl) (qn 26 (zG (S8 (S8 (S8 (zB (zB zF)))))) (zO rfl (yD (c:=true) 110 rfl) rfl) (qn 27 (zG (S8 (S8 (S8 (zB (zB (zB zF))))))) (zO rfl (yD (c:=true) 110 rfl) rfl) (qn 28 (zG (S8 (S8 (S8 (S4 zF))))) (zO rfl (yD (c:=true) 110 rfl) rfl) (qn 29 (zG (S8 (S8 (S8 (S4 (zB zF)))))) (zO rfl (yD (c:=true) 110 rfl) rfl) (qn 30 (zG (S8 (S8 (S8 (S4 (zB (zB zF))))))) (zO rfl (yD (c:=true) 110 rfl) rfl) (lg 25 (yH (zG (S8 (S8 (S8 (zB zF))))) (zO rfl (yD (c:=true) 110 rfl) rfl) (qn 31 (zG (S8 (S8 (S8 (S4 (zB (zB (zB zF)))))))) (zO rfl (yD (c:=true) 110 rfl) rfl) (qx 32 (vb true) (zG (S8 (S8 (S8 (S8 zF))))) (wn (zN ⟨true,H3,hm,hs,hb,h⟩))))))))))))))))
 refine sz (v:=(vb r12)) (zG (S8 (S8 (zB (zB (zB zF)))))) (wy 105 hg7) (fun _ _=>(by kernel_rfl)) (qw 20 (vb r15) (zG (S8 (S8 (S4 zF)))) (wy 105 hg7) (qg 21 (sz (v:=(vb (!(r12 == r15)))) (zG (S8 (S8 (S4 (zB zF))))) (wy 105 hg7) (fun _ _=>(xG (by kernel_rfl) (by kernel_rfl) (by kernel_rfl) (yL r12 r15 _))) (qz 22 (vb (!(r12 == r15))) (zG (S8 (S8 (S4 (zB (zB zF)))))) (fun _ _=>(xF hg7)) (qx 23 (vb (!(r12 == r15))) (zG (S8 (S8 (S4 (zB (zB (zB zF))))))) (qg 24 ?_))))))
 obtain ⟨hg8,h⟩|⟨hg8,h⟩:=h.br
 refine yH (zG (S8 (S8 (S8 zF)))) (zO rfl (yD 110 hg8) rfl) (qn 26 (zG (S8 (S8 (S8 (zB (zB zF)))))) (zO rfl (yD 110 hg8) rfl) (qn 27 (zG (S8 (S8 (S8 (zB (zB (zB zF))))))) (zO rfl (yD 110 hg8) rfl) (qn 28 (zG (S8 (S8 (S8 (S4 zF))))) (zO rfl (yD 110 hg8) rfl) (qn 29 (zG (S8 (S8 (S8 (S4 (zB zF)))))) (zO rfl (yD 110 hg8) rfl) (qn 30 (zG (S8 (S8 (S8 (S4 (zB (zB zF))))))) (zO rfl (yD 110 hg8) rfl) (lg 25 (yH (zG (S8 (S8 (S8 (zB zF))))) (zO rfl (yD 110 hg8) rfl) (qn 31 (zG (S8 (S8 (S8 (S4 (zB (zB (zB zF)))))))) (zO rfl (yD 110 hg8) rfl) (qz 32 (vb true) (zG (S8 (S8 (S8 (S8 zF))))) (fun _ _=>(xT hg8)) (wn (zN ⟨true,H3,hm,hs,hb,h⟩)))))))))))
 refine sz (v:=(vp r2)) (zG (S8 (S8 (S8 zF)))) (wy 110 hg8) (fun _ _=>(by kernel_rfl)) (qw 26 (vp r3) (zG (S8 (S8 (S8 (zB (zB zF)))))) (wy 110 hg8) (qg 27 ?_))
 obtain ⟨a1,hp1,h⟩:=h
 refine sz (zG (S8 (S8 (S8 (zB (zB (zB zF))))))) (wy 110 hg8) (fun _ _=>xn hp1) (qw 28 (vp (some a1)) (zG (S8 (S8 (S8 (S4 zF))))) (wy 110 hg8) (qg 29 ?_))
 obtain ⟨v1,hv1,h⟩:=h
 refine sz (zG (S8 (S8 (S8 (S4 (zB zF)))))) (wy 110 hg8) (fun _ k=>xl (isAgg49 _) (hv1 _ k.1)) (qw 30 (vi (v1.len:Int)) (zG (S8 (S8 (S8 (S4 (zB (zB zF))))))) (wy 110 hg8) (lg 25 (jBA (zG (S8 (S8 (S8 (zB zF))))) (wy 110 hg8) (by kernel_rfl) (xc call22) (h.mono ?_))))
 rintro e w24 ⟨r21,rfl,hC,hk,h⟩
 refine ⟨_,rfl,.inr ⟨hC,hb.kept hk⟩,?_⟩
 obtain ⟨hs,hb⟩:=hk.hh hs hb
 refine qw 31 (vb (r21 != (v1.len:Int))) (zG (S8 (S8 (S8 (S4 (zB (zB (zB zF)))))))) (wy 110 hg8) (qz 32 (vb (r21 != (v1.len:Int))) (zG (S8 (S8 (S8 (S8 zF))))) (fun _ _=>(xF hg8)) (wn (zN ⟨(r21 != (v1.len:Int)),H3,hm,hs,hb,h⟩)))
 refine cbr h ?_ ?_<;>intro h
 refine rg (q (qm h fun a2 h=>q (ql (isAgg49 _) h fun v2 h=>qb (ln ⟨(v2.len:Int),H,hm,hs,hb,h⟩))))
 refine zD (zN ⟨t1,H,hm,hs,hb,h⟩)
 refine rg (qc ?_)
 obtain ⟨hg9,h⟩|⟨hg9,h⟩:=h.br
 refine sj2 47 hg9 (sj5 47 hg9 (q2 (vb true) (xT hg9) (ln ⟨true,H,hm,hs,hb,h⟩)))
 refine qk 47 hg9 (qk 47 hg9 ?_)
 obtain ⟨a3,hp3,h⟩:=h
 refine q4 47 hg9 (xn hp3) (qk 47 hg9 ?_)
 obtain ⟨v3,hv3,h⟩:=h
 refine q4 47 hg9 (xl (isAgg49 _) hv3) (qk 47 hg9 (qk 47 hg9 (q2 (vb (decide (t1>(v3.len:Int)))) (xF hg9) (ln ⟨(decide (t1>(v3.len:Int))),H,hm,hs,hb,h⟩))))
 refine rg (q2 (Aa aN aO aP aQ aR aS) (xa p1 (Ab aN aO aP aQ aR aS) (isAgg28 _) (sizeOf28 _) (hb.r0 0 6 gZ)) ?_)
 have ⟨h,hs⟩:=hs.hr (h H1 w1)
 refine sc call10 (h.mono fun e w25 ⟨r22,k,hk,h⟩=>have ⟨hs,hb⟩:=hk.hh hs hb;⟨_,k,?_⟩)
 refine qb (zK 4 (fun ρ wJ=>∃b2'0:Bool,∃HJ:NP,((decide (r22>6000))=b2'0)∧Hst w0 H1 w25 HJ wJ∧HB HJ wJ [(p1,(Ab aN aO aP aQ aR aS),28)]∧Has ρ [(1,(vi t1)),(2,(vu c1)),(3,(vs text1)),(4,(vp (some p1))),(32,(vb (b2'0 || (decide ((text1.size:Int)>5000)))))]) ?_ ?_)
 rintro ρ w26 ⟨b2'0,H5,he0,hs,hb,hH⟩
 subst he0
 refine zQ hH (zC ?_)
 have ⟨h,hs⟩:=hs.hr (h H5 w26)
 refine zN ⟨((decide (r22>6000)) || (decide ((text1.size:Int)>5000))),H5,hm,hs,hb,h⟩
 rcases bte (decide (r22>6000)) with hg11 | hg11
 refine sj3 28 hg11 (q2 (vb true) (xT hg11) (zC ⟨true,_,hg11,hs,hb,hm⟩))
 refine qk 28 hg11 (qk 28 hg11 (qk 28 hg11 (q2 (vb (decide ((text1.size:Int)>5000))) (xF hg11) (zC ⟨false,_,hg11,hs,hb,hm⟩))))
end Go.Proofs
end
section
open Go Go.SE
namespace Go.Sp
open Go.Proofs
def l11:Letter:=⟨1,0,7,⟨#[97]⟩,false⟩
theorem l11a:(qL [] l11).1=6∧(qL [] l11).2.1=0:=by constructor <;> kernel_rfl
theorem l11b:jNO (qL [] l11).2.2 6=(l11,true)∧(jNO (qL [] l11).2.2 1).2=false∧sizeOf (qL [] l11).2.2 6=6:=by refine ⟨?_,?_,?_⟩ <;> kernel_rfl
theorem l11c:(jGB l11).2=0∧jQE (jGB l11).1=(l11,true):=by constructor <;> kernel_rfl
theorem l11d:(⟨(jJF l11).toArray⟩:ByteArray)=⟨#[112,114,111,109,105,115,101,32,48,32,55,32,34,97,34]⟩:=by
 have e0:qJ l11=0:=by kernel_rfl
 have h0:Lib.decDigits l11.frm.toNat=[48]:=Lib.decDigits_one (i:=0) (by omega);have h7:Lib.decDigits l11.c.toNat=[55]:=Lib.decDigits_one (i:=7) (by omega);have hx:jLC l11.text=[34,97,34]:=by decide
 have e:jJF l11=[112,114,111,109,105,115,101,32,48,32,55,32,34,97,34]:=by
  unfold jJF;rw [if_neg (by rw [e0];simp),h0,h7,hx];rfl
 rw [e]
theorem l11e:toS l11=1:=by kernel_rfl
end Go.Sp
namespace Go.Proofs
open Tryz
attribute [local irreducible] Calls
theorem jTI (w0:World) (ht:Pow w0):Calls prog 23 #[] w0 (fun e w'=>∃r:Bool,e=.returned (.bool r)∧(r=true∧Pure w0 w')):=by
 refine w_T w0 (fun r w'=>r=true∧Pure w0 w') ?_;unfold m_T;refine (jRI w0).mono ?_;rintro _ w1 ⟨_,rfl,p,rfl,E1,F,hP,hF⟩;refine ⟨_,rfl,E1.keptP,fun H1 w3 hs=>?_⟩;have hn:Sp.tX Sp.l11.c:=⟨by decide,by decide⟩;have hW:=Sp.jKH Sp.Wf.nil Sp.l11;have hN:=Sp.jFX Sp.jAQ.nil hn;have E3:Pure w0 w3:=E1.hst hs;have hP3:zT w3 p [] F:=hP.ext hs.ext (fun b hb hh=>(hs.new b hh).elim id (fun h=>by have:=hP.lt hb;omega));have hFl:∀b,F b→b<w1.heap.size:=fun b hb=>hP.lt hb;have hHF:∀b,H1 b→¬ F b:=fun b hh hb=>(hs.new b hh).elim id (fun h=>by have:=hFl b hb;omega);refine (jRK p Sp.l11 w3 hP3 Sp.Wf.nil.ok).mono ?_;rintro _ w4 ⟨r2,r3,rfl,e2,e3,F4,hP4,E4,hF4⟩;rw [Sp.l11a.1] at e2;rw [Sp.l11a.2] at e3;subst e2;subst e3;have E04:Pure w0 w4:=E3.trans' E4 (fun i hi hf=>by have:=hF i hf;omega);refine ⟨_,_,rfl,E4.kept hHF,?_⟩;refine (xA p 6 w4 hP4 hW.ok).mono ?_;rintro _ w5 ⟨k,f,c,x,g,ok,rfl,hr,E5⟩;rw [Sp.l11b.1] at hr;obtain ⟨hl,rfl⟩:=Prod.mk.inj hr;unfold Sp.l11 at hl;simp only [Sp.Letter.mk.injEq] at hl;obtain ⟨rfl,rfl,rfl,rfl,rfl⟩:=hl;refine ⟨_,_,_,_,_,_,rfl,E5.keptP,fun H2 w7 hs7=>?_⟩;have E07:Pure w0 w7:=(E04.trans E5).hst hs7;have hH2:∀b,H2 b→b<w7.heap.size:=hs7.lt;have hHF4:∀b,F4 b→¬ H1 b:=fun b hb hh=>(hF4 b hb).elim (fun h=>hHF b hh h) (fun h=>by have:=hs.lt b hh;omega);have hP7:zT w7 p (qL [] Sp.l11).2.2 F4:=(hP4.pure E5).ext hs7.ext (hs7.disj (fun b hb=>⟨by have:=hP4.lt hb;have:=E5.size;omega,hHF4 b hb⟩));have hHF7:∀b,F4 b→¬ H2 b:=hs7.disj (fun b hb=>⟨by have:=hP4.lt hb;have:=E5.size;omega,hHF4 b hb⟩);refine (jOK Sp.l11 hn w7).mono ?_;rintro _ w8 ⟨r5,r6,rfl,e6,hR⟩;rw [Sp.l11c.1] at e6;subst e6;refine ⟨_,_,rfl,hR.pure.keptP,?_⟩;refine (jOL r5 _ w8 hR.rows.lst (jTN hR.rows)).mono ?_;rintro _ w9 ⟨k2,f2,c2,x2,g2,ok2,rfl,hr2,E9⟩;rw [Sp.l11c.2] at hr2;obtain ⟨hl2,rfl⟩:=Prod.mk.inj hr2;unfold Sp.l11 at hl2;simp only [Sp.Letter.mk.injEq] at hl2;obtain ⟨rfl,rfl,rfl,rfl,rfl⟩:=hl2;refine ⟨_,_,_,_,_,_,rfl,E9.keptP,fun H3 w11 hs11=>?_⟩;have E89:=hR.pure.trans E9;have E011:Pure w0 w11:=(E07.trans E89).hst hs11;have hHF11:∀b,F4 b→¬ H3 b:=hs11.disj (fun b hb=>⟨by have:=hP7.lt hb;have:=E89.size;omega,hHF7 b hb⟩);have hP11:zT w11 p (qL [] Sp.l11).2.2 F4:=(hP7.pure E89).ext hs11.ext hHF11;refine (xA p 1 w11 hP11 hW.ok).mono ?_;rintro _ w12 ⟨k3,f3,c3,x3,g3,ok3,rfl,hr3,E12⟩;have hok3:ok3=false:=by
  have:=congrArg Prod.snd hr3;simp only at this;rw [this];exact Sp.l11b.2.1
 subst hok3;refine ⟨_,_,_,_,_,_,rfl,E12.keptP,?_⟩;rintro y1 rfl y2 rfl;refine ⟨fun _=>?_,fun h=>absurd h (by decide)⟩;intro H10 w23 hs23;have E023:Pure w0 w23:=(E011.trans E12).hst hs23;have hHF23:∀b,F4 b→¬ H10 b:=hs23.disj (fun b hb=>⟨by have:=hP11.lt hb;have:=E12.size;omega,hHF11 b hb⟩);have hP23:zT w23 p (qL [] Sp.l11).2.2 F4:=(hP11.pure E12).ext hs23.ext hHF23;refine (jRC Sp.l11 hn w23 (jAJ ht E023)).mono ?_;rintro _ w26 ⟨r11,rfl,e11,E26⟩;refine ⟨_,rfl,E26.keptP,?_⟩;rw [e11,Sp.l11d];unfold m_T_j1;refine ⟨fun _=>?_,fun h=>absurd h (by decide)⟩;refine (c_ltTo Sp.l11 w26).mono ?_;rintro _ w25 ⟨_,rfl,rfl,E25⟩;refine ⟨_,rfl,E25.keptP,?_⟩;rw [Sp.l11e];unfold m_T_j2;refine ⟨fun _=>?_,fun h=>absurd h (by decide)⟩;refine (jTZ p 6 w25 ((hP23.pure E26).pure E25) hW.ok).mono ?_;rintro _ w24 ⟨_,rfl,rfl,rfl⟩;refine ⟨_,rfl,Kept.refl _,?_,(E023.trans E26).trans E25⟩;rw [Sp.l11b.2.2];rfl
end Go.Proofs
end
section
open Go Go.SE
namespace Go.Sp
theorem jLI (k f c:Int) (x:ByteArray) (g:Bool):((k == k) && ((f == f) && ((c == c) && ((decide (x=x)) && (g == g)))))=true:=by simp
end Go.Sp
namespace Go.Proofs
attribute [local irreducible] Calls
end Go.Proofs
end
section
open Go Go.SE
namespace Go.Sp
open Go.Proofs
def jGO (L:Pool) (t:Int):Int×ByteArray×Bool:=if (vH L t).2=true then (0,⟨#[]⟩,false) else ((vH L t).1.1,(vH L t).1.2,true)
def jAA (L:Pool) (t:Int):Int×ByteArray×Bool :=
 if inP L t=true∧¬ sizeOf L t>40 then
  if same (vM (jAE (zI L t) [1,0]).node.num (jAE (zI L t) [1,1]).node.text) (zI L t)=true then ((jAE (zI L t) [1,0]).node.num,(jAE (zI L t) [1,1]).node.text,true) else (0,⟨#[]⟩,false)
 else (0,⟨#[]⟩,false)
theorem jPO {L:Pool} (hW:Wf L) (t:Int):jGO L t=jAA L t:=by
 unfold jGO jAA;by_cases h:(vH L t).2=true
 ·rw [if_pos h];split
  ·rename_i hc;split
   ·rename_i hs;have e:=(jED _ _).1 hs;rw [jCE hW hc.1 e.symm] at h;cases h
   ·rfl
  ·rfl
 ·have h:(vH L t).2=false:=by simpa using h
  obtain ⟨h1,h2,_⟩:=jCD hW h;have hs:sizeOf L t=cnt (zI L t):=jMC hW _ t rfl h1;have h40:¬ sizeOf L t>40:=by
   rw [hs,h2];generalize (vH L t).1.1=c;generalize (vH L t).1.2=x;simp [vM,qS,qF,jBJ,cnt,cntAll]
  have k1:∀c x,(jAE (vM c x) [1,0]).node.num=c:=fun _ _=>rfl;have k2:∀c x,(jAE (vM c x) [1,1]).node.text=x:=fun _ _=>rfl;rw [if_neg (by rw [h];decide),if_pos ⟨h1,h40⟩,h2,k1,k2,if_pos ((jED _ _).2 rfl)]
theorem jQP {L:Pool} (c:Int) {x:ByteArray} (h:x.size>64):of L (vM c x)=(0,1,L):=by
 have e1:zZ ⟨3,0,0,0,x,0,0⟩=0:=by kernel_rfl
 have e2:zX (shapeOf 3) ⟨3,0,0,0,x,0,0⟩=1:=by show (if false=true then (50:Int) else if x.size>64 then 1 else 0)=1;rw [if_neg (by simp),if_pos h]
 have e3:uH ⟨3,0,0,0,x,0,0⟩ 0=1:=by
  unfold uH;simp only [e1];simpa [shapeOf] using e2
 have a:uH ⟨4,0,0,0,⟨#[]⟩,0,0⟩ 2=0:=by kernel_rfl
 have b:uH ⟨3,0,0,0,jAS,0,0⟩ 0=0:=by kernel_rfl
 have d:uH ⟨2,0,0,c,⟨#[]⟩,0,0⟩ 0=0:=by kernel_rfl
 have hl:(qT 0 0 (vM c x)).1=1:=by
  simp [vM,qS,qF,jBJ,qT,vV,a,b,d,e3]
 unfold of;rw [hl,if_pos (by decide)]
end Go.Sp
namespace Go.Proofs
open Tryz
attribute [local irreducible] Calls
theorem jKC (p:Option Addr) (t:Int) (w0:World) {L:Sp.Pool} {F:NP} (hP:jDF w0 p L F) (hok:Sp.Ok L) :
  Calls prog 42 #[.pointer p,.int .i64 t] w0 (fun e w'=>∃c:Int,∃x:ByteArray,∃g:Bool,e=.returned (.tuple #[.int .u64 c,.string x,.bool g])∧((c,x,g)=Sp.jGO L t∧Pure w0 w')):=by
 refine w_L2 _ _ w0 (fun c x g w'=>(c,x,g)=Sp.jGO L t∧Pure w0 w') ?_
 unfold m_L2
 intro p2 w1 n2
 have hp:=n2.at_size
 have E1:Pure w0 w1:=Ext.new n2
 have hR:ReaderAt w1 p2 p false L F:=⟨Box.of_newA n2,hP.pure E1,hok,fun hf=>by have:=hP.lt hf;omega⟩
 refine (jFU p2 p t false w1 hR).mono ?_
 rintro _ w2 ⟨c,x,rfl,hcx,hR2,E2⟩
 have E02:Pure w0 w2:=E1.own (by omega) E2
 refine ⟨c,x,rfl,_,hR2.box.cell (i:=1) rfl,fun h=>⟨?_,E02⟩,fun h=>⟨?_,E02⟩⟩
 ·unfold Sp.jGO;rw [if_pos (by simpa using h)]
 ·unfold Sp.jGO;rw [if_neg (by rw [Bool.false_or] at h;rw [h];decide),← hcx]
theorem jRD (p:Option Addr) (c:Int) (x:ByteArray) (w0:World) {L:Sp.Pool} {F:NP} (hP:jDF w0 p L F) (hok:Sp.Ok L) :
  Calls prog 44 #[.pointer p,.int .u64 c,.string x] w0 (fun e w'=>∃r1 r2:Int,e=.returned (.tuple #[.int .i64 r1,.int .i64 r2])∧((match p with
   | none=>r1=0∧r2=(if x.size>64 then 1 else 2)∧Pure w0 w'
   | some q=>r1=(Sp.of L (Sp.vM c x)).1∧r2=(Sp.of L (Sp.vM c x)).2.1∧∃F',zT w' q (Sp.of L (Sp.vM c x)).2.2 F'∧Ext F w0 w'∧∀b,F' b→F b∨w0.heap.size≤b))):=by
 refine w_M3 _ _ _ w0 _ ?_
 unfold m_M3
 have hF:∀b,F b→b<w0.heap.size:=fun b hb=>hP.lt hb
 refine ⟨fun h=>?_,fun h=>⟨fun h2=>?_,fun h2=>?_⟩⟩
 ·have h:x.size>64:=by have:=of_decide_eq_true h;omega
  cases p with
  | none=>exact ⟨rfl,by rw [if_pos h],Ext.refl _⟩
  | some q =>
   simp only [Sp.jQP c h]
   exact ⟨trivial,trivial,F,hP,Ext.refl _,fun b hb=>.inl hb⟩
 ·have h:¬ x.size>64:=by have:=of_decide_eq_false h;omega
  cases p with
  | none=>exact ⟨rfl,by rw [if_neg h],Ext.refl _⟩
  | some q=>cases h2
 ·cases p with
  | none=>cases h2
  | some q =>
   refine (jMZ (S:=fun b=>w0.heap.size≤b) w0 (fun _ h=>h) c x).mono ?_
   rintro _ w1 ⟨s,he,hT,E1⟩
   have hT:TreeAt (fun b=>w0.heap.size≤b) w1 s (Sp.vM c x):=hT
   generalize Sp.vM c x=D at *
   obtain ⟨dk,df,dt,du,dx,dks⟩:=D
   refine ⟨dk,df,dt,du,dx,s,he,?_⟩
   refine (c_Of (S:=fun b=>w0.heap.size≤b∧b<w1.heap.size) q _ s w1 hT.lt (hP.pure E1) hok (fun b hb hh=>by have:=hF b hb;omega) (fun b hb=>hb.2)).mono ?_
   rintro _ w2 ⟨r1,r2,rfl,h12,F',hP2,X2,hF2⟩
   obtain ⟨e1,e2⟩:=Prod.mk.inj h12
   exact ⟨r1,r2,rfl,e1,e2,F',hP2,(Ext.pure E1).trans X2,fun b hb=>(hF2 b hb).imp id (fun h=>by have:=E1.size;omega)⟩
theorem jGF (p:Addr) {L:Sp.Pool} (hW:Sp.Wf L) (t:Int) (w0:World) {F:NP} (hP:qY w0 p L F) :
  Calls prog 43 #[.pointer (some p),.int .i64 t] w0 (fun e w'=>∃c:Int,∃x:ByteArray,∃g:Bool,e=.returned (.tuple #[.int .u64 c,.string x,.bool g])∧((c,x,g)=Sp.jAA L t∧Pure w0 w')):=by
 suffices key:∀K:Int→ByteArray→Bool→WP,(∀c x g w',(c,x,g)=Sp.jAA L t→Pure w0 w'→K c x g w')→m_Y (some p) t w0 K from
  w_Y _ _ w0 _ (key _ (fun _ _ _ _ h1 h2=>⟨h1,h2⟩))
 intro K hK
 unfold m_Y
 refine (uM p t w0 hP).mono ?_
 rintro _ _ ⟨_,rfl,rfl,rfl⟩
 refine ⟨_,rfl,Kept.refl _,fun h=>?_,fun h=>?_⟩
 ·unfold m_Y_j1
  refine ⟨fun _=>hK _ _ _ _ ?_ (Ext.refl _),fun h=>(by cases h)⟩
  unfold Sp.jAA;rw [if_neg (fun hh=>by rw [hh.1] at h;cases h)]
 have hin:Sp.inP L t=true:=by simpa using h
 refine (xZ p t _ hP hW.ok).mono ?_
 rintro _ _ ⟨_,rfl,rfl,rfl⟩
 refine ⟨_,rfl,Kept.refl _,?_⟩
 unfold m_Y_j1
 refine ⟨fun h2=>hK _ _ _ _ ?_ (Ext.refl _),fun h2=>?_⟩
 ·unfold Sp.jAA;rw [if_neg (fun hh=>hh.2 (of_decide_eq_true h2))]
 have hsz:=of_decide_eq_false h2
 refine (jDR p hW _ t _ F rfl hP).mono ?_
 rename_i w0
 rintro _ w1 ⟨s,he,hT,E1⟩
 have he2:Sp.jAA L t=if Sp.same (Sp.vM (Sp.jAE (Sp.zI L t) [1,0]).node.num (Sp.jAE (Sp.zI L t) [1,1]).node.text) (Sp.zI L t)=true then ((Sp.jAE (Sp.zI L t) [1,0]).node.num,(Sp.jAE (Sp.zI L t) [1,1]).node.text,true) else (0,⟨#[]⟩,false):=by
  unfold Sp.jAA;rw [if_pos ⟨hin,hsz⟩]
 rw [he2] at hK
 generalize Sp.zI L t=X at *
 have hX:X=.mk X.node.kind X.node.frm X.node.to X.node.num X.node.text X.kids:=by cases X;rfl
 have he:_=Ending.returned (.agg (qX X s).toArray):=he
 have ha:∀(T:Sp.Tree) (s:Sl),Ending.returned (.agg (qX T s).toArray)=Ending.returned (.agg #[.int .i64 T.node.kind,.int .i64 T.node.frm,.int .i64 T.node.to,.int .u64 T.node.num,.string T.node.text,s.v]):=by
  intro T s;cases T;rfl
 refine ⟨_,_,_,_,_,s,he.trans (ha X s),E1.keptP,fun H1 w3 hs3 p3 w4 n3=>?_⟩
 have E3:Pure w0 w3:=E1.hst hs3
 have hT3:TreeAt (fun b=>w0.heap.size≤b∧b<w1.heap.size) w3 s X:=hT.lt.ext hs3.ext (fun b hb hh=>(hs3.new b hh).elim (fun h=>h) (fun h=>by omega))
 have E4:Pure w3 w4:=Ext.new n3
 have z13:w1.heap.size≤w3.heap.size:=hs3.ext.size
 have z4:=E4.size
 have arg:∀s:Sl,Value.agg #[.int .i64 X.node.kind,.int .i64 X.node.frm,.int .i64 X.node.to,.int .u64 X.node.num,.string X.node.text,s.v]=.agg (qX X s).toArray:=by intro s;cases X;rfl
 rw [arg]
 refine (xR (S2:=(·=p3.block)) X s _ [1,0] w4 (hT3.pure E4) (fun b hb=>by omega) (Lst.of_path [1,0] (Box.of_newA n3)) (fun b e=>by subst e;exact (Box.of_newA n3).lt) (by simp)).mono ?_
 rintro _ w5 ⟨s5,he5,hT5,E5⟩
 refine ⟨_,_,_,_,_,s5,he5.trans (ha _ s5),E5.keptP,fun p4 w6 n4=>?_⟩
 have E6:Pure w5 w6:=Ext.new n4
 refine (xR (S2:=(·=p4.block)) X s _ [1,1] w6 (((hT3.pure E4).pure E5).pure E6) (fun b hb=>by have:=E5.size;have:=E6.size;omega) (Lst.of_path [1,1] (Box.of_newA n4)) (fun b e=>by subst e;exact (Box.of_newA n4).lt) (by simp)).mono ?_
 rintro _ w7 ⟨s7,he7,hT7,E7⟩
 refine ⟨_,_,_,_,_,s7,he7.trans (ha _ s7),E7.keptP,fun _=>True,trivial,?_⟩
 rintro _ rfl
 have E8:Pure w7 w7.drew:=Ext.drew w7
 refine (jAF w0.heap.size _ _ w7.drew (by have:=E3.size;have:=E5.size;have:=E6.size;have:=E7.size;have:=E8.size;omega)).mono ?_
 rintro _ w9 ⟨s9,he9,hT9,E9⟩
 refine ⟨_,_,_,_,_,s9,he9.trans (ha _ s9),trivial,E9.keptP,?_⟩
 have E49:=(((((E4.trans E5).trans E6).trans E7).trans E8).trans E9)
 have arg2:∀(T:Sp.Tree) (s:Sl),Value.agg #[.int .i64 T.node.kind,.int .i64 T.node.frm,.int .i64 T.node.to,.int .u64 T.node.num,.string T.node.text,s.v]=.agg (qX T s).toArray:=by intro T s;cases T;rfl
 rw [arg2]
 refine (jDS (S:=fun b=>b<w9.heap.size) _ X s9 s w9 (hT9.lt.mono (fun b hb=>hb.2)) ((hT3.pure E49).mono (fun b hb=>by have:=E49.size;omega)) (fun b hb=>hb)).mono ?_
 rintro _ w10 ⟨r,rfl,hr,E10⟩
 have E010:Pure w0 w10:=(E3.trans E49).trans E10
 refine ⟨_,rfl,trivial,E10.keptP,fun h=>hK _ _ _ _ ?_ E010,fun h=>hK _ _ _ _ ?_ E010⟩
 ·rw [if_neg (by rw [← hr];simpa using h)]
 ·rw [if_pos (by rw [← hr];simpa using h)]
end Go.Proofs
end
section
open Go Go.SE
namespace Go.Proofs
open Tryz
attribute [local irreducible] Calls
theorem jBI {S:NP} (X:Sp.Tree) (s:Sl) (t c:Int) (x:ByteArray) (w0:World) (ht:Pow w0) (hT:TreeAt S w0 s X) (hS:∀b,S b→b<w0.heap.size) :
  Calls prog 6 #[.agg (qX X s).toArray,.int .i64 t,.int .u64 c,.string x] w0 (fun e w'=>∃r:Bool,e=.returned (.bool r)∧(r=true∧Pure w0 w')):=by
 have live:∀(H':NP) (w:World),Pure w0 w→Calls prog 23 #[] w (fun e w'=>∃r:Bool,e=.returned (.bool r)∧Kept H' w w'∧(r=true∧Pure w0 w')):=fun H' w E=>by
  refine (jTI w (jAJ ht E)).mono ?_;rintro _ w' ⟨_,rfl,rfl,E'⟩;exact ⟨_,rfl,E'.keptP,rfl,E.trans E'⟩
 have cParts:=fun (w:World) (E:Pure w0 w)=>jHU X s 6000 w (by decide) (by decide) (hT.pure E) (fun b hb=>Nat.lt_of_lt_of_le (hS b hb) E.size)
 have cLent:=fun (w:World) (E:Pure w0 w) (h:Sp.cnt X≤1000000)=>jKA X s w h (hT.pure E) (fun b hb=>Nat.lt_of_lt_of_le (hS b hb) E.size)
 have cOf:=fun (p:Addr) (s:Sl) {S:NP} (w:World) {L:Sp.Pool} {F:NP} (hT:TreeAt S w s X)=>c_Of (S:=S) p X s w (L:=L) (F:=F) hT
 have cROf:=fun (q:Addr) (s:Sl) {S:NP} (w:World) {L:Sp.Pool} {F:NP} (hT:TreeAt S w s X)=>jGY (S:=S) q X s w (L:=L) (F:=F) hT
 have hcnt:¬ Sp.jAD 6000 X>6000→Sp.cnt X≤1000000:=fun h=>by have:=(Sp.jFH X 6000 (by decide)).2.2 (by omega);omega
 have hWX:Sp.Wf (Sp.of [] X).2.2:=Sp.of_wf Sp.Wf.nil X
 generalize hN:Sp.jAD 6000 X=N at *
 generalize hC:Sp.cnt X=CN at *
 obtain ⟨xk,xf,xt,xu,xx,xs⟩:=X
 refine w_H _ _ _ _ _ _ t c x w0 (fun r w'=>r=true∧Pure w0 w') ?_
 unfold m_H
 intro H1 w1 hs1
 refine (cParts w1 hs1.first).mono ?_
 rintro _ w2 ⟨r0,rfl,hr0,E2⟩
 subst r0
 have E02:Pure w0 w2:=hs1.first.trans E2
 refine ⟨_,rfl,E2.keptP,fun H w3 hs3=>?_⟩
 have E3:Pure w0 w3:=E02.hst hs3
 unfold m_H_j1
 refine ⟨fun _=>live H w3 E3,fun hb=>?_⟩
 have hb:¬ N>6000:=by
  have:=(Bool.or_eq_false_iff.1 hb).1;exact of_decide_eq_false this
 refine (jRI w3).mono ?_
 rintro _ w4 ⟨_,rfl,p,rfl,E4,F,hP,hF⟩
 refine ⟨_,rfl,E4.keptP,?_⟩
 refine (jLT w4).mono ?_
 rintro _ w5 ⟨_,rfl,q,FR,rfl,hR,E5,hFR⟩
 have E05:=(E3.trans E4).trans E5
 have hH:∀b,H b→b<w3.heap.size:=hs3.lt
 refine ⟨_,rfl,E5.keptP,⟨fun h=>(by cases h),fun _=>?_⟩⟩
 have P5:Pl2 w0 H w5 p q [] [] F FR:=by
  refine ⟨E05,hP.pure E5,hR,fun b hb=>⟨?_,fun hh=>?_,fun hh=>?_⟩,fun b hb=>⟨?_,fun hh=>?_⟩⟩
  ·have:=hF b hb;have:=E3.size;omega
  ·have:=hF b hb;have:=hH b hh;omega
  ·have:=hFR b hh;have:=hP.lt hb;omega
  ·have:=hFR b hb;have:=(E3.trans E4).size;omega
  ·have:=hFR b hb;have:=hH b hh;have:=E4.size;omega
 have hH5:∀b,H b→b<w5.heap.size:=fun b hb=>by have:=hH b hb;have:=(E4.trans E5).size;omega
 refine (cLent w5 E05 (hcnt hb)).mono ?_
 rintro _ w6 ⟨s6,he6,hT6,E6⟩
 have he6:_=Ending.returned (.agg #[.int .i64 xk,.int .i64 xf,.int .i64 xt,.int .u64 xu,.string xx,s6.v]):=he6
 refine ⟨_,_,_,_,_,_,he6,E6.keptP,?_⟩
 have P6:=P5.pureE E6
 have hH6:∀b,H b→b<w6.heap.size:=fun b hb=>by have:=hH5 b hb;have:=E6.size;omega
 refine (cOf p s6 (S:=fun b=>w5.heap.size≤b∧b<w6.heap.size) w6 hT6.lt P6.pool Sp.Wf.nil.ok (fun b hb hh=>by have:=P5.pool.lt hb;omega) (fun b hb=>hb.2)).mono ?_
 rintro _ w7 ⟨r4,r5,rfl,_,F7,hP7,X7,hF7⟩
 refine ⟨_,_,rfl,X7.kept (fun b hb hf=>(P6.o1 b hf).2.1 hb),?_⟩
 have P7:=P6.of1 hH6 hP7 X7 hF7
 have hH7:∀b,H b→b<w7.heap.size:=fun b hb=>by have:=hH6 b hb;have:=X7.size;omega
 refine (cROf q s (S:=S) w7 (hT.pure P7.pure) P7.ref Sp.Wf.nil.ok (fun b hb hh=>by have:=(P7.o2 b hb).1;have:=hS b hh;omega) (fun b hb=>by have:=hS b hb;have:=P7.pure.size;omega)).mono ?_
 rintro _ w8 ⟨r6,r7,rfl,_,F8,hP8,X8,hF8⟩
 refine ⟨_,_,rfl,X8.kept (fun b hb hf=>(P7.o2 b hf).2 hb),?_⟩
 have P8:=P7.of2 hH7 hP8 X8 hF8
 have hH8:∀b,H b→b<w8.heap.size:=fun b hb=>by have:=hH7 b hb;have:=X8.size;omega
 generalize (Sp.of [] (Sp.Tree.mk xk xf xt xu xx xs)).2.2=L at *
 have key:∀t2,m_H_j3 c x (some p) (some q) t2 w0 H w8 (fun r w'=>r=true∧Pure w0 w'):=by
  intro t2;unfold m_H_j3;refine (xA p t2 w8 P8.pool hWX.ok).mono ?_;rintro _ w9 ⟨k,f,c1,x1,g,ok,rfl,hr,E9⟩;refine ⟨_,_,_,_,_,_,rfl,E9.keptP,fun H2 w10 hs10=>?_⟩;have P10:=(P8.pureE E9).hst hs10;refine (jJW q hWX t2 w10 F8 P10.ref).mono ?_;rintro _ w11 ⟨k',f',c',x',g',ok',rfl,hr',E11⟩;refine ⟨_,_,_,_,_,_,rfl,E11.keptP,fun H3 w13 hs13=>?_⟩;rw [← Sp.jSB hWX t2,← hr] at hr';obtain ⟨hl,rfl⟩:=Prod.mk.inj hr';simp only [Sp.Letter.mk.injEq] at hl;obtain ⟨rfl,rfl,rfl,rfl,rfl⟩:=hl;have P13:=(P10.pureE E11).hst hs13;refine (jKC (some p) t2 w13 P13.pool hWX.ok).mono ?_;rintro _ w14 ⟨c4,x4,g4,rfl,h4,E14⟩;refine ⟨_,_,_,rfl,E14.keptP,?_⟩;have P14:=P13.pureE E14;refine (jGF q hWX t2 w14 P14.ref).mono ?_;rintro _ w15 ⟨c5,x5,g5,rfl,h5,E15⟩;refine ⟨_,_,_,rfl,E15.keptP,?_⟩;rw [← Sp.jPO hWX t2,← h4] at h5;simp only [Prod.mk.injEq] at h5;obtain ⟨rfl,rfl,rfl⟩:=h5;have P15:=P14.pureE E15;refine ⟨fun w'=>Pure w15 w',Ext.drew w15,fun w23 hw23=>?_⟩;have E23:Pure w15 w23:=by rw [hw23];exact Ext.drew w15
  refine Br.f (by rw [Sp.jLI];rfl) (Br.f (by simp) (Br.f (by simp) (Br.f (by simp) (Br.f (by simp) ?_))));obtain ⟨s1,s2,s3,R,_⟩:=id P15.ref;refine ⟨q,rfl,s1,fun w' hw'=>(R.box.ext hw' (fun h=>h)).cell0,?_⟩;have P23:=P15.pureE E23;refine (jAO p w23 P23.pool).mono ?_;rintro _ w24 ⟨_,rfl,rfl,hw24⟩;subst w24;refine ⟨_,rfl,E23,Kept.refl _,?_⟩;have hsl:(s1.len:Int)=L.length:=by have:=R.r1.len;rw [List.length_map] at this;omega
  unfold m_H_j4;refine Br.f (by rw [hsl];simp) ?_;have hH3:∀b,H3 b→b<w23.heap.size:=fun b hb=>by have:=hs13.lt b hb;have:=(E14.trans E15).trans E23;have:=this.size;omega
  refine (jRD (some p) c x w23 P23.pool hWX.ok).mono ?_;rintro _ w16 ⟨r16,r17,rfl,e16,e17,F16,hP16,X16,hF16⟩;refine ⟨_,_,rfl,X16.kept (fun b hb hf=>(P23.o1 b hf).2.1 hb),?_⟩;have P16:=P23.of1 hH3 hP16 X16 hF16;have hH16:∀b,H3 b→b<w16.heap.size:=fun b hb=>by have:=hH3 b hb;have:=X16.size;omega
  refine (jAF w16.heap.size c x w16 (Nat.le_refl _)).mono ?_;rintro _ w17 ⟨s17,he17,hT17,E17⟩;have hT17:TreeAt (w16.heap.size≤·) w17 s17 (Sp.vM c x):=hT17;have P17:=P16.pureE E17;have cO:=jGY (S:=fun b=>w16.heap.size≤b∧b<w17.heap.size) q (Sp.vM c x) s17 w17 hT17.lt P17.ref hWX.ok (fun b hb hh=>by have:=P16.ref.lt hb;omega) (fun b hb=>hb.2);generalize Sp.vM c x=D at *;obtain ⟨dk,df,dt,du,dx,dks⟩:=D;refine ⟨_,_,_,_,_,_,he17,E17.keptP,cO.mono ?_⟩;rintro _ w18 ⟨r18,r19,rfl,e18,F18,hP18,X18,hF18⟩;obtain ⟨e18,e19⟩:=Prod.mk.inj e18;refine ⟨_,_,rfl,X18.kept (fun b hb hf=>(P17.o2 b hf).2 hb),?_⟩;have hH17:∀b,H3 b→b<w17.heap.size:=fun b hb=>by have:=hH16 b hb;have:=E17.size;omega
  have P18:=P17.of2 hH17 hP18 X18 hF18;rw [← e16] at e18;rw [← e17] at e19;subst e18;subst e19;refine ⟨fun _=>?_,fun h=>by simp at h⟩;intro H4 w20 hs20;exact live H4 w20 (P18.hst hs20).pure
 obtain ⟨s1,s2,s3,R,_⟩:=id P8.ref
 refine ⟨fun _=>?_,fun _=>?_⟩
 ·unfold m_H_j2
  exact ⟨fun _=>⟨q,rfl,s1,R.box.cell0,key _⟩,fun h=>by cases h⟩
 ·refine ⟨q,rfl,s1,R.box.cell0,?_⟩
  unfold m_H_j2
  exact ⟨fun _=>⟨q,rfl,s1,R.box.cell0,key _⟩,fun _=>key _⟩
end Go.Proofs
end
section
namespace Go.SE
open Go.ChangeShapes Go.WideShapes Go.ChangeAt Go.RowKit
section
variable {H:Type} {enc:TypeId×Value→H} {P:Program}
theorem jCQ (hl:laidOutB P=true) {W W':World} (hb:Below W.heap.size W W'):∀(ts:List TypeId) (vs:List Value) (ds:List (DataW H)) (ps:List MemPlace),(ts.all fun t=>P.readableRec t && decide (t<P.types.size))=true →
  DataW.TrodAll enc P W 0 (fun _=>true) true ts vs ds ps→(∀x∈ps,x.block<W.heap.size)→DataW.TrodAll enc P W' 0 (fun b=>decide (b<W.heap.size)) true ts vs ds ps
 | [],_,_,_,_,h,_=>by
  obtain ⟨rfl,rfl,rfl⟩:=trodAll_nil h;exact h
 | t :: ts,_,_,_,hr,h,hlt=>by
  obtain ⟨v,vs1,d,ds1,a,b,rfl,rfl,rfl,h1,h2⟩:=trodAll_cons h;simp only [List.all_cons,Bool.and_eq_true,decide_eq_true_eq] at hr;exact ⟨a,b,Below.trod hl hr.1.1 hr.1.2 h1 hb (fun x hx=>hlt x (by simp [hx])),jCQ hl hb ts vs1 ds1 b (by simpa using hr.2) h2 (fun x hx=>hlt x (by simp [hx])),rfl⟩
theorem jSR {f:Func} {s:ChangeSpec} {W W':World} {args:Array Value} {ds gs:List (DataW H)} {before:List MemPlace} {t:TypeId} (hl:laidOutB P=true)
  (hv:s.vars=[]) (hf:∀ds:List (DataW H),ds.length=f.params.size→s.fn H ds={ results:=[.lit (.bool true)],args:=ds }) (hrt:f.resultTypes=#[t]) (ht:P.underlying t=some .bool)
  (hr:(f.params.toList.all fun t=>P.readableRec t && decide (t<P.types.size))=true)
  (hW:DataW.Whole enc P f.params.toList s.vars false W args.toList ds gs before) (E:Pure W W') :
  s.post enc P f false true false false W args (.bool true) W':=by
 have hW':=hW
 obtain ⟨p,q,hA,hV,rfl,hfz,hnd⟩:=hW
 rw [hv] at hV
 obtain ⟨rfl,rfl⟩:=trodVars_none hV
 have hlen:ds.length=f.params.size:=by
  have:∀(ts:List TypeId) (vs:List Value) (ds:List (DataW H)) (ps:List MemPlace),DataW.TrodAll enc P W 0 (fun _=>true) true ts vs ds ps→ds.length=ts.length:=by
   intro ts;induction ts with
   | nil=>intro vs ds ps h;obtain ⟨_,rfl,_⟩:=trodAll_nil h;rfl
   | cons t ts ih =>
    intro vs ds ps h
    obtain ⟨v,vs1,d,ds1,a,b,_,rfl,_,_,h2⟩:=trodAll_cons h
    simp [ih _ _ _ h2]
  simpa using this _ _ _ _ hA
 have hfn:=hf ds hlen
 have hfn':s.fn H (ds++[])={ results:=[.lit (.bool true)],args:=ds }:=by rw [List.append_nil];exact hfn
 have hlt:∀x∈p,x.block<W.heap.size:=fun x hx=>by simpa using hW'.lt x (by simp [hx])
 have bel:=E.below
 refine ⟨ds,[],p++[],[],p,[],hW',?_,?_,?_,bel.frame _,fun h=>by cases h⟩
 ·rw [hfn',hrt];exact trodAll_mk1 (shut_bool ht _)
 ·rw [hfn'];exact jCQ hl bel _ _ _ _ hr hA hlt
 ·rw [hfn',hv];exact hV
end
end Go.SE
namespace Go.SE
open Go.ChangeShapes Go.WideShapes Go.ChangeAt Go.RowKit
section
variable {P:Program} {W:World} {r:Reach} {b0:Nat} {t:TypeId} {v:Value}
theorem jIZ {fs:Array Field} {ts:List TypeId} (ht:P.underlying t=some (.struct fs)) (hc:P.cellTypes P.depth t=some ts) (hn:P.cellsOf t=ts.length) (h:Value.okWide P W r b0 t v) :
  ∃cs:Array Value,v=.agg cs∧cs.size=ts.length∧∀(i:Nat) (u:TypeId) (c:Value),ts[i]?=some u→cs[i]?=some c→Cell.okWide P W r b0 u c:=by
 unfold Value.okWide at h
 rw [ht] at h
 obtain ⟨cs,rfl,hs,ts',hts,_,hall⟩:=h
 rw [hc] at hts
 cases hts
 refine ⟨cs,rfl,hs.trans hn,fun i u c hu hcs=>?_⟩
 obtain ⟨u',hu',hok⟩:=hall i c hcs
 have hlt:i<ts.length:=(List.getElem?_eq_some_iff.1 hu).1
 rw [Nat.mod_eq_of_lt hlt,hu] at hu'
 cases hu'
 exact hok
theorem jHT (ht:P.underlying t=some .string) (h:Cell.okWide P W r b0 t v):∃x,v=.string x:=by
 have:Value.okWide P W r b0 t v:=by unfold Value.okWide;rw [ht];exact h
 unfold Cell.okWide at h;rw [ht] at h;cases v <;> simp [Cell.ok,ht] at h;exact ⟨_,rfl⟩
end
end Go.SE
end
section
open Go Go.SE
namespace Go.Proofs
open Tryz
theorem jCZ {α β:Type} {f:α→Option β}:∀{l:List α} {r:List β},l.mapM f=some r→r.length=l.length∧∀(i:Nat) (a:α),l[i]?=some a→∃b,f a=some b∧r[i]?=some b
 | [],r,h=>by
  have:r=[]:=by simpa using h.symm
  subst this;exact ⟨rfl,fun i a h=>by simp at h⟩
 | x :: xs,r,h=>by
  rw [List.mapM_cons] at h;cases hx:f x with
  | none=>simp [hx] at h
  | some y =>
   cases hxs:xs.mapM f with
   | none=>simp [hx,hxs] at h
   | some ys =>
    have:r=y :: ys:=by simpa [hx,hxs] using h.symm
    subst this
    obtain ⟨h1,h2⟩:=jCZ hxs
    refine ⟨by simp [h1],fun i a ha=>?_⟩
    cases i with
    | zero=>cases ha;exact ⟨y,hx,rfl⟩
    | succ i=>exact h2 i a (by simpa using ha)
theorem jQU {w:World} {base:Nat} {a:Addr} {n:Nat} {cs:List Value} (h:w.cells? base a n=some cs):cs.length=n∧Row w a cs:=by
 obtain ⟨_,h1,h2⟩:=World.cells?_some h;exact ⟨h1,fun j hj=>h2 j (by omega)⟩
section
variable {H:Type} {enc:TypeId×Value→H} {P:Program} {W:World} {base:Nat} {sp:Nat→Bool} {held:Bool}
theorem jET {t:TypeId} {k:IntKind} (ht:P.underlying t=some (.int k)) {n:Nat} {c:Value} {x:DataW H×List MemPlace} (h:DataW.trod enc P W base sp held n t [c]=some x):∃m,c=.int k m:=by
 cases n with
 | zero=>cases h
 | succ n =>
  rw [DataW.trod_step] at h
  unfold DataW.trodStep at h
  rw [ht] at h
  cases c <;> simp at h
  obtain ⟨⟨rfl,_⟩,_⟩:=h
  exact ⟨_,rfl⟩
theorem jRT {t:TypeId} (ht:P.underlying t=some (.int .u64)) {n:Nat} {c:Value} {x:DataW H×List MemPlace} (h:DataW.trod enc P W base sp held n t [c]=some x):∃m,c=.int .u64 m∧Sp.tX m:=by
 cases n with
 | zero=>cases h
 | succ n =>
  rw [DataW.trod_step] at h
  unfold DataW.trodStep at h
  rw [ht] at h
  cases c with
  | int k z =>
   simp only at h
   split at h
   ·rename_i hw
    obtain ⟨rfl,hw⟩:=hw
    have h1:IntKind.u64.min=0:=by rfl
    have h2:IntKind.u64.max=18446744073709551615:=by rfl
    simp only [Lit.wf,Bool.and_eq_true,decide_eq_true_eq,h1,h2] at hw
    exact ⟨z,rfl,by omega,by omega⟩
   ·cases h
  | _=>simp at h
theorem jPC {t:TypeId} (ht:P.underlying t=some .string) {n:Nat} {c:Value} {x:DataW H×List MemPlace} (h:DataW.trod enc P W base sp held n t [c]=some x):∃m,c=.string m:=by
 cases n with
 | zero=>cases h
 | succ n =>
  rw [DataW.trod_step] at h
  unfold DataW.trodStep at h
  rw [ht] at h
  cases c <;> simp at h
  exact ⟨_,rfl⟩
theorem jKO {t e:TypeId} (ht:P.underlying t=some (.slice e)) {n:Nat} {c:Value} {x:DataW H×List MemPlace} (h:DataW.trod enc P W base sp held (n+1) t [c]=some x) :
  c=.slice none 0 0∨∃a len cap,c=.slice (some a) len cap∧len≤cap∧cap≤maxLen∧∀i,i<len→∃cs y,W.cells? base (a.add (i*P.cellsOf e)) (P.cellsOf e)=some cs∧DataW.trod enc P W base sp held n e cs=some y:=by
 rw [DataW.trod_step] at h
 unfold DataW.trodStep at h
 rw [ht] at h
 cases c with
 | slice a len cap =>
  cases a with
  | none =>
   cases len with
   | zero=>cases cap with
    | zero=>exact .inl rfl
    | succ c=>simp at h
   | succ l=>simp at h
  | some a =>
   right
   simp only at h
   split at h
   ·rename_i hc
    refine ⟨a,len,cap,rfl,hc.2.1,hc.2.2,fun i hi=>?_⟩
    cases hm:(List.range len).mapM fun i=>(W.cells? base (a.add (i*P.cellsOf e)) (P.cellsOf e)).bind (DataW.trod enc P W base sp held n e) with
    | none=>rw [hm] at h;cases h
    | some r =>
     obtain ⟨b,hb,_⟩:=(jCZ hm).2 i i (by simp [hi])
     obtain ⟨cs,h1,h2⟩:=Option.bind_eq_some_iff.1 hb
     exact ⟨cs,b,h1,h2⟩
   ·cases h
 | _=>simp at h
structure TreeTypes (P:Program) (tS tT:TypeId):Prop where
 ex:∃ti tu ts:TypeId,∃f0 f1 f2 f3 f4 f5:Field,P.underlying tS=some (.slice tT)∧P.underlying tT=some (.struct #[f0,f1,f2,f3,f4,f5])∧P.cellsOf tT=6 ∧
  (f0.type=ti∧f1.type=ti∧f2.type=ti∧f3.type=tu∧f4.type=ts∧f5.type=tS)∧(f0.offset=0∧f1.offset=1∧f2.offset=2∧f3.offset=3∧f4.offset=4∧f5.offset=5) ∧
  P.underlying ti=some (.int .i64)∧P.underlying tu=some (.int .u64)∧P.underlying ts=some .string∧P.cellsOf ti=1∧P.cellsOf tu=1∧P.cellsOf ts=1∧P.cellsOf tS=1
theorem jPB {tS tT:TypeId} (hTT:TreeTypes P tS tT):∀n:Nat,
  (∀(c:Value) (x:DataW H×List MemPlace),DataW.trod enc P W base sp held n tS [c]=some x→∃s:Sl,∃ts:List Sp.Tree,c=s.v∧(∀(k f t u:Int) (tx:ByteArray),TreeAt (fun _=>True) W s (.mk k f t u tx ts))∧∀i (hi:i<ts.length),Sp.NumT ts[i]) ∧
  (∀(cs:List Value) (x:DataW H×List MemPlace),DataW.trod enc P W base sp held n tT cs=some x→∃t s,cs=qX t s∧TreeAt (fun _=>True) W s t∧Sp.NumT t):=by
 obtain ⟨ti,tu,tx,f0,f1,f2,f3,f4,f5,hS,hT,hc6,⟨e0,e1,e2,e3,e4,e5⟩,⟨o0,o1,o2,o3,o4,o5⟩,ui,uu,us,ci,cu,cs1,cS⟩:=hTT.ex
 intro n
 induction n with
 | zero=>exact ⟨fun c x h=>(by cases h),fun cs x h=>(by cases h)⟩
 | succ n ih =>
  refine ⟨fun c x h=>?_,fun cs x h=>?_⟩
  ·rcases jKO hS h with rfl | ⟨a,len,cap,rfl,hle,hcm,hel⟩
   ·exact ⟨Sl.nil,[],rfl,fun k f t u tx=>.mk k f t u tx [] Sl.nil (fun _=>Sl.nil) rfl (by simp) (fun i h=>by simp at h) (fun i h=>by simp at h),fun i hi=>absurd hi (Nat.not_lt_zero i)⟩
   ·rw [hc6] at hel
    have hex:∀i,∃q:Sp.Tree×Sl,i<len→Row W (a.add (i*6)) (qX q.1 q.2)∧TreeAt (fun _=>True) W q.2 q.1∧Sp.NumT q.1:=by
     intro i;by_cases hi:i<len
     ·obtain ⟨cs,y,h1,h2⟩:=hel i hi;obtain ⟨tr,s,e,hTr⟩:=ih.2 cs y h2;exact ⟨(tr,s),fun _=>⟨e▸(jQU h1).2,hTr⟩⟩
     ·exact ⟨(Sp.Tree.mk 0 0 0 0 ⟨#[]⟩ [],Sl.nil),fun h=>absurd h hi⟩
    obtain ⟨q,hq⟩:=Classical.axiomOfChoice hex
    refine ⟨⟨some a,len,cap⟩,(List.range len).map fun i=>(q i).1,rfl,?_,fun i hi=>by rw [List.getElem_map,List.getElem_range];exact (hq i (by simpa using hi)).2.2⟩
    refine fun k f t u tx=>.mk k f t u tx _ _ (fun i=>(q i).2) (by simp) (by simp only [maxLen] at hcm;simp;omega) (fun i h=>?_) (fun i h=>?_)
    ·have hi:i<len:=by simpa using h
     refine ⟨a.add (i*6),⟨by omega,by simpa using hi,a,rfl,by simp⟩,trivial,?_⟩
     simpa using (hq i hi).1
    ·have hi:i<len:=by simpa using h
     simpa using (hq i hi).2.1
  ·rw [DataW.trod_step] at h
   unfold DataW.trodStep at h
   rw [hT] at h
   simp only at h
   split at h
   ·rename_i hl
    rw [hc6] at hl
    match cs,hl with
    | [c0,c1,c2,c3,c4,c5],_ =>
     cases hm:([f0,f1,f2,f3,f4,f5]:List Field).mapM (fun f=>DataW.trod enc P W base sp held n f.type ((([c0,c1,c2,c3,c4,c5]:List Value).drop f.offset).take (P.cellsOf f.type))) with
     | none=>rw [hm] at h;cases h
     | some r =>
      have hf:=(jCZ hm).2
      obtain ⟨_,h0,_⟩:=hf 0 f0 rfl
      obtain ⟨_,h1,_⟩:=hf 1 f1 rfl
      obtain ⟨_,h2,_⟩:=hf 2 f2 rfl
      obtain ⟨_,h3,_⟩:=hf 3 f3 rfl
      obtain ⟨_,h4,_⟩:=hf 4 f4 rfl
      obtain ⟨_,h5,_⟩:=hf 5 f5 rfl
      rw [e0,o0,ci] at h0;rw [e1,o1,ci] at h1;rw [e2,o2,ci] at h2;rw [e3,o3,cu] at h3;rw [e4,o4,cs1] at h4;rw [e5,o5,cS] at h5
      obtain ⟨m0,rfl⟩:=jET ui h0
      obtain ⟨m1,rfl⟩:=jET ui h1
      obtain ⟨m2,rfl⟩:=jET ui h2
      obtain ⟨m3,rfl,hu⟩:=jRT uu h3
      obtain ⟨m4,rfl⟩:=jPC us h4
      obtain ⟨s,ts,rfl,hTr,hNr⟩:=ih.1 c5 _ h5
      exact ⟨.mk m0 m1 m2 m3 m4 ts,s,rfl,hTr m0 m1 m2 m3 m4,.mk _ _ _ _ _ _ hu hNr⟩
   ·cases h
end
theorem jPE:TreeTypes prog 22 28 :=
 ⟨3,26,9,_,_,_,_,_,_,underlying22,underlying28,by kernel_rfl,⟨rfl,rfl,rfl,rfl,rfl,rfl⟩,⟨rfl,rfl,rfl,rfl,rfl,rfl⟩,underlying3,underlying26,underlying9,by kernel_rfl,by kernel_rfl,by kernel_rfl,by kernel_rfl⟩
end Go.Proofs
end
section
open Go Go.SE
namespace Go.Sp
def Dep (L:Pool) (S:List Way) (t y:Int):Prop :=
 (∃v∈S,v.t=t∧v.rule≠0∧y=v.frm)∨(t ∉ jAR S∧0<y∧(y=(jUX L S t).1∨y=(jUX L S t).2.1))
inductive Dp (L:Pool) (S:List Way):Int→Int→Prop
 | refl (t:Int):Dp L S t t
 | step {t y z:Int}:Dep L S t y→Dp L S y z→Dp L S t z
theorem Dep.made {L:Pool} {S:List Way} {t y a b:Int} {f m:Bool} (h:jUX L S t=(a,b,f,m)) (ht:t ∉ jAR S):Dep L S t y↔0<y∧(y=a∨y=b):=by
 unfold Dep;rw [h];constructor
 ·rintro (⟨v,hv,rfl,_⟩ | ⟨_,h⟩)
  ·exact absurd (List.mem_map.2 ⟨v,hv,rfl⟩) ht
  ·exact h
 ·exact fun h=>.inr ⟨ht,h⟩
theorem Dep.way {L:Pool} {S:List Way} {t y r f:Int} (hn:(jAR S).Nodup) (hl:SE.look (S.map fun v=>(v.t,(v.rule,v.frm))) t=some (r,f)):Dep L S t y↔r≠0∧y=f:=by
 have hm:=jCJ hl;obtain ⟨v,hv,e⟩:=List.mem_map.1 hm;simp only [Prod.mk.injEq] at e;obtain ⟨rfl,rfl,rfl⟩:=e;have hk:v.t∈jAR S:=List.mem_map.2 ⟨v,hv,rfl⟩;unfold Dep;constructor
 ·rintro (⟨u,hu,e,hr,rfl⟩ | ⟨h,_⟩)
  ·have hnd:((S.map fun v=>(v.t,(v.rule,v.frm))).map Prod.fst).Nodup:=by rw [List.map_map];exact hn
   have h2:=jLH hnd (List.mem_map.2 ⟨u,hu,rfl⟩);rw [e,hl] at h2;simp only [Option.some.injEq,Prod.mk.injEq] at h2;exact ⟨by rw [h2.1];exact hr,h2.2.symm⟩
  ·exact absurd hk h
 ·rintro ⟨h1,rfl⟩;exact .inl ⟨v,hv,rfl,h1,rfl⟩
theorem Dp.all {L:Pool} {S:List Way} {M:List Step} (hc:∀s∈M,∀y,Dep L S s.t y→y∈M.map Step.t) {t x:Int} (ht:t∈M.map Step.t) (h:Dp L S t x):x∈M.map Step.t:=by
 induction h with
 | refl=>exact ht
 | step hd _ ih =>
  obtain ⟨s,hs,rfl⟩:=List.mem_map.1 ht
  exact ih (hc s hs _ hd)
end Go.Sp
namespace Go.Proofs
attribute [local irreducible] Calls
section
variable {w w':World} {k p c1 c2 c3 c4 c5:Addr} {ma mb:Nat} {L:Sp.Pool} {G:List Int} {S:List Sp.Way} {F FP:NP} {sl:Sl} {l:List Sp.Step} {B:List Int}
end
section
variable {w0 w w':World} {H H':NP} {k p c1 c2 c3 c4 c5:Addr} {ma mb:Nat} {L:Sp.Pool} {G:List Int} {S:List Sp.Way} {F FP:NP} {sl sl1 sl2:Sl} {l M M2:List Sp.Step} {B0 B B2:List Int} {t:Int}
end
end Go.Proofs
end
section
open Go Go.SE
namespace Go.Proofs
section
variable {H:Type} {enc:TypeId×Value→H} {P:Program} {W:World} {base:Nat} {sp:Nat→Bool} {held:Bool}
end
section
variable {H:Type} {enc:TypeId×Value→H} {W:World} {base:Nat} {sp:Nat→Bool} {held:Bool}
end
end Go.Proofs
end
section
open Go Go.SE
namespace Go.SE
theorem Rws.lit {w w':World} {p:Addr} {cs:Array Value} {e:TypeId} {sz:Nat} {rs:List (List Value)} (hn:New w (.cells cs e) p w') (hc:cs.toList=rs.flatten) (hl:∀r∈rs,r.length=sz) (hm:rs.length≤maxLen):Rws w' e sz ⟨some p,rs.length,rs.length⟩ rs:=by
 obtain ⟨hp,hw⟩:=hn;have hsz:cs.size=rs.length*sz:=by rw [← vG hl,← hc,Array.length_toList]
 refine ⟨hl,rfl,.inr ⟨w.heap.size,cs,by rw [hp],?_,Nat.le_refl _,hm,hsz,?_⟩⟩
 ·rw [hw];exact heap_alloc_new w _
 ·rw [hc,List.take_of_length_le (by rw [vG hl];exact Nat.le_refl _)]
end Go.SE
namespace Go.Proofs
end Go.Proofs
end
section
open Go Go.SE
namespace Go.Proofs
section
variable {H:Type} {enc:TypeId×Value→H} {P:Program} {W:World} {base:Nat} {sp:Nat→Bool} {held:Bool}
end
theorem jGA {P:Program} {W:World} {r:Reach} {b0:Nat} {t:TypeId} {v:Value} (ht:P.underlying t=some .string) (h:Value.okWide P W r b0 t v):∃x,v=.string x :=
 jHT ht (by unfold Value.okWide at h;rw [ht] at h;exact h)
end Go.Proofs
end
