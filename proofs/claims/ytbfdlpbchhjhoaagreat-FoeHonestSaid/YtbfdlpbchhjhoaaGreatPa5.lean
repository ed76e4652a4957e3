import Derived.Test.YtbfdlpbchhjhoaaGreatPa4
import Derived.Test.YtbfdlpbchhjhoaaGreatPa2
import Derived.Test.YtbfdlpbchhjhoaaGreatPa1
import Derived.Test.YtbfdlpbchhjhoaaGreatPa3
import Derived.Test.YtbfdlpbchhjhoaaGreatProg
import Derived.KernelRfl
import Derived.Test.YtbfdlpbchhjhoaaGreatPa0
import Derived.ProofKit
import Derived.Carry
import Derived.OpenShut
import Derived.Stop.Joined
section
open Go Go.SE
namespace Go.Proofs
open Tryz
attribute [local irreducible] Calls
def jNC:Array Value:=#[.bool false,.bool false,.bool false,.string ⟨#[]⟩,.bool true,.bool true,.bool true,.string ⟨#[112,114,111,109,105,115,101]⟩,.bool true,.bool true,.bool false,.string ⟨#[115,105,103,110]⟩,.bool false,.bool false,.bool false,.string ⟨#[97,98,111,114,116]⟩,.bool true,.bool true,.bool true,.string ⟨#[114,101,115,111,108,118,101]⟩,.bool false,.bool false,.bool false,.string ⟨#[116,111,107,101,110]⟩,.bool false,.bool true,.bool false,.string ⟨#[105,110,115,116,101,97,100]⟩,.bool false,.bool false,.bool false,.string ⟨#[102,117,108,108]⟩]
theorem jKF (w:World):Calls prog 240 #[] w (fun e w'=>∃r:Array Value,e=.returned (.agg r)∧(r=jNC∧Pure w w')):=by
 refine w_I4 w (fun r w'=>r=jNC∧Pure w w') ?_;unfold m_I4;intro p1 w1 h1;have E1:Pure w w1:=Ext.new h1;have hp:=New.own (Ext.refl w) h1;have b1:=Box.of_newA h1;clear h1;refine bx 32 b1 (by kernel_rfl) (by kernel_rfl) (fun w' b E=>?_);exact ⟨jNC,⟨by kernel_rfl,b.row_eq (by kernel_rfl)⟩,rfl,E1.own hp E⟩
theorem c_chk (l:Sp.Letter) (hk:1≤l.kind∧l.kind≤7) (p:Addr) {w0 w:World} {H:NP} {wd:ByteArray} {T:TypeId} (hB:Box w p [.bool (Sp.qJ l.kind),.bool (Sp.qU l.kind),.bool (l.kind == 1 || l.kind == 4),.string wd] T) (hv:¬ H p.block) (hE:Pure w0 w) :
  m_N_j1 l.frm l.text l.fake p w0 H w (fun x w'=>x=Sp.vY l∧Pure w0 w'):=by
 obtain ⟨k,f,c,x,fk⟩:=l
 simp only at *
 have vis:∀{H H':NP} {w w':World},Box w p [.bool (Sp.qJ k),.bool (Sp.qU k),.bool (k == 1 || k == 4),.string wd] T→¬ H p.block→Hst w0 H w H' w'→¬ H' p.block∧Box w' p [.bool (Sp.qJ k),.bool (Sp.qU k),.bool (k == 1 || k == 4),.string wd] T:=fun hB hv hs=>by
  have h:=hs.disj (G:=(·=p.block)) (fun b e=>by subst e;exact ⟨hB.lt,hv⟩) _ rfl;exact ⟨h,hB.ext hs.ext h⟩
 unfold m_N_j1
 have bad:(f≠0∧f≠1)∨(Sp.qJ k=false∧f≠0)∨(Sp.qU k=false∧x≠⟨#[]⟩)∨(fk=true∧k≠1∧k≠4)→(110:Int)=Sp.vY ⟨k,f,c,x,fk⟩:=fun h=>by
  unfold Sp.vY;rw [if_pos];rcases h with h | h | h | h
  ·exact .inr (.inr (.inl h))
  ·exact .inr (.inr (.inr (.inl h)))
  ·exact .inr (.inr (.inr (.inr (.inl h))))
  ·exact .inr (.inr (.inr (.inr (.inr h))))
 refine ⟨fun hc H4 w4 hs4=>⟨bad (.inl ?_),hE.hst hs4⟩,fun hc H4 w4 hs4=>?_⟩
 ·rw [Bool.and_eq_true] at hc;exact ⟨bne_iff_ne.1 hc.1,bne_iff_ne.1 hc.2⟩
 have hf:f=0∨f=1:=by
  rw [Bool.and_eq_false_iff] at hc;exact hc.imp (fun h=>by simpa using h) (fun h=>by simpa using h)
 obtain ⟨v4,B4⟩:=vis hB hv hs4
 have E4:=hE.hst hs4
 refine ⟨_,B4.cell0,fun H8 w8 hs8=>?_⟩
 obtain ⟨v8,B8⟩:=vis B4 v4 hs8
 have E8:=E4.hst hs8
 unfold m_N_j2
 refine ⟨fun hc2=>⟨bad (.inr (.inl ?_)),E8⟩,fun hc2=>?_⟩
 ·rw [Bool.and_eq_true] at hc2;exact ⟨by simpa using hc2.1,bne_iff_ne.1 hc2.2⟩
 have hs:¬ (Sp.qJ k=false∧f≠0):=fun h=>by
  rw [Bool.and_eq_false_iff] at hc2;exact hc2.elim (fun h2=>by rw [h.1] at h2;cases h2) (fun h2=>h.2 (by simpa using h2))
 refine ⟨_,B8.cell (i:=1) rfl,fun H7 w7 hs7=>?_⟩
 obtain ⟨v7,B7⟩:=vis B8 v8 hs7
 have E7:=E8.hst hs7
 unfold m_N_j3
 refine ⟨fun hc3=>⟨bad (.inr (.inr (.inl ?_))),E7⟩,fun hc3=>?_⟩
 ·rw [Bool.and_eq_true] at hc3
  exact ⟨by simpa using hc3.1,by simpa using hc3.2⟩
 have ht:¬ (Sp.qU k=false∧x≠⟨#[]⟩):=fun h=>by
  rw [Bool.and_eq_false_iff] at hc3;exact hc3.elim (fun h2=>by rw [h.1] at h2;cases h2) (fun h2=>h.2 (by simpa using h2))
 refine ⟨_,B7.cell (i:=2) rfl,fun hc4 H6 w6 hs6=>⟨bad (.inr (.inr (.inr ?_))),E7.hst hs6⟩,fun hc4=>?_⟩
 ·rw [Bool.and_eq_true] at hc4
  have h1:(k == 1 || k == 4)=false:=by simpa using hc4.1
  rw [Bool.or_eq_false_iff] at h1
  exact ⟨hc4.2,by simpa using h1.1,by simpa using h1.2⟩
 have hfk:¬ (fk=true∧k≠1∧k≠4):=fun h=>by
  rw [Bool.and_eq_false_iff] at hc4;refine hc4.elim (fun h2=>?_) (fun h2=>by rw [h.1] at h2;cases h2);have h1:(k == 1 || k == 4)=true:=by
   cases hh:(k == 1 || k == 4) with
   | true=>rfl
   | false=>rw [hh] at h2;cases h2
  rw [Bool.or_eq_true] at h1;exact h1.elim (fun h3=>h.2.1 (by simpa using h3)) (fun h3=>h.2.2 (by simpa using h3))
 have good:¬ (k<1∨k>7∨(f≠0∧f≠1)∨(Sp.qJ k=false∧f≠0)∨(Sp.qU k=false∧x≠⟨#[]⟩)∨(fk=true∧k≠1∧k≠4)):=by
  rintro (h | h | h | h | h | h)
  ·omega
  ·omega
  ·omega
  ·exact hs h
  ·exact ht h
  ·exact hfk h
 refine ⟨fun hc5 H6 w6 hs6=>⟨?_,E7.hst hs6⟩,fun hc5 H6 w6 hs6=>⟨?_,E7.hst hs6⟩⟩
 ·have:=of_decide_eq_true hc5
  unfold Sp.vY;rw [if_neg good,if_pos (by simp only;omega)]
 ·have:=of_decide_eq_false hc5
  unfold Sp.vY;rw [if_neg good,if_neg (by simp only;omega)]
theorem jSC (l:Sp.Letter) (w0:World):Calls prog 168 #[.agg #[.int .i64 l.kind,.int .i64 l.frm,.int .u64 l.c,.string l.text,.bool l.fake]] w0 (fun e w'=>∃r:Int,e=.returned (.int .i64 r)∧(r=Sp.vY l∧Pure w0 w')):=by
 refine w_N _ _ _ _ _ w0 (fun r w'=>r=Sp.vY l∧Pure w0 w') ?_;unfold m_N;refine ⟨fun hc H2 w2 hs2=>⟨?_,hs2.first⟩,fun hc H2 w2 hs2=>?_⟩
 ·unfold Sp.vY;rw [if_pos];rw [Bool.or_eq_true] at hc;exact hc.elim (fun h=>.inl (of_decide_eq_true h)) (fun h=>.inr (.inl (of_decide_eq_true h)))
 have hk:1≤l.kind∧l.kind≤7:=by
  rw [Bool.or_eq_false_iff] at hc;have h1:=of_decide_eq_false hc.1;have h2:=of_decide_eq_false hc.2;omega
 have E2:Pure w0 w2:=hs2.first;have idx:∃wd:ByteArray,∀w':World,(Instr.index 311 (.agg jNC) (.int .i64 l.kind)).run prog w'=.ok (.agg #[.bool (Sp.qJ l.kind),.bool (Sp.qU l.kind),.bool (l.kind == 1 || l.kind == 4),.string wd]) w':=by
  have:l.kind=1∨l.kind=2∨l.kind=3∨l.kind=4∨l.kind=5∨l.kind=6∨l.kind=7:=by omega
  rcases this with e | e | e | e | e | e | e <;> rw [e]
  ·exact ⟨⟨#[112,114,111,109,105,115,101]⟩,fun w'=>by kernel_rfl⟩
  ·exact ⟨⟨#[115,105,103,110]⟩,fun w'=>by kernel_rfl⟩
  ·exact ⟨⟨#[97,98,111,114,116]⟩,fun w'=>by kernel_rfl⟩
  ·exact ⟨⟨#[114,101,115,111,108,118,101]⟩,fun w'=>by kernel_rfl⟩
  ·exact ⟨⟨#[116,111,107,101,110]⟩,fun w'=>by kernel_rfl⟩
  ·exact ⟨⟨#[105,110,115,116,101,97,100]⟩,fun w'=>by kernel_rfl⟩
  ·exact ⟨⟨#[102,117,108,108]⟩,fun w'=>by kernel_rfl⟩
 obtain ⟨wd,idx⟩:=idx;refine ⟨fun _=>True,trivial,?_⟩;rintro w9 e9;have E9:Pure w2 w9:=by rw [e9];exact Ext.drew w2
 have hH:∀b,H2 b→b<w9.heap.size:=fun b hb=>by have:=hs2.lt b hb;have:=E9.size;omega
 refine ⟨?_,?_⟩
 ·refine (jKF w9).mono ?_;rintro _ w10 ⟨_,rfl,rfl,E10⟩;refine ⟨_,rfl,trivial,E10.keptP,_,_,_,_,fun w' _=>idx w',?_⟩;intro p2 w11 n11;have b11:=n11.at_size;have z10:=E10.size;have hv:¬ H2 p2.block:=fun hh=>by have:=hH _ hh;omega
  refine ⟨trivial,(Box.of_newA n11).canWs (by simp),hv,?_⟩;rintro w12 e12;have X:Ext (·=p2.block) w11 w12:=by rw [e12];exact Ext.storeRow _ _ _
  have B:Box w12 p2 [.bool (Sp.qJ l.kind),.bool (Sp.qU l.kind),.bool (l.kind == 1 || l.kind == 4),.string wd] 310:=by rw [e12];exact (Box.of_newA n11).store rfl
  have z2:=E2.size;have z9:=E9.size;exact c_chk l hk p2 B hv ((((E2.trans E9).trans E10).trans (Ext.new n11)).own (by omega) X)
 ·intro p3 w13 n13;refine ⟨trivial,?_⟩;have b13:=n13.at_size;have E13:Pure w9 w13:=Ext.new n13;have hv:¬ H2 p3.block:=fun hh=>by have:=hH _ hh;omega
  refine (jKF w13).mono ?_;rintro _ w14 ⟨_,rfl,rfl,E14⟩;have B14:=(Box.of_newA n13).pure E14;refine ⟨_,rfl,trivial,E14.keptP,_,_,_,_,fun w' _=>idx w',B14.canWs (by simp),hv,?_⟩;rintro w15 e15;have X:Ext (·=p3.block) w14 w15:=by rw [e15];exact Ext.storeRow _ _ _
  have B:Box w15 p3 [.bool (Sp.qJ l.kind),.bool (Sp.qU l.kind),.bool (l.kind == 1 || l.kind == 4),.string wd] 310:=by rw [e15];exact B14.store rfl
  have z2:=E2.size;have z9:=E9.size;exact c_chk l hk p3 B hv ((((E2.trans E9).trans E13).trans E14).own (by omega) X)
abbrev RetS (S:NP) (w:World) (T:Sp.Tree) (e:Ending) (w':World):Prop:=∃s,e=.returned (.agg (xN T s).toArray)∧TreeAt S w' s T∧Pure w w'
theorem jBM {S:NP} (w:World) {A:Sp.Tree} {sa:Sl} {H3:NP} {w3 w4 w5:World} {p:Addr} {o:Obj} (hA:TreeAt S w sa A) (hs3:Hst w None w H3 w3) (n4:New w3 o p w4) (hs5:Hst w H3 w4 H3 w5):TreeAt S w5 sa A:=by
 have E3:Pure w w3:=hs3.first;have E4:Pure w3 w4:=Ext.new n4;exact (((hA.lt.pure E3).pure E4).ext hs5.ext (fun b hb hh=>by have:=hs3.old b hh;omega)).mono (fun b hb=>hb.1)
section
variable {S:NP} (w:World) (hS:∀b,w.heap.size≤b→S b)
include hS
theorem lH (A B:Sp.Tree) (sa sb:Sl) (hA:TreeAt S w sa A) (hB:TreeAt S w sb B):Calls prog 244 #[.agg (xN A sa).toArray,.agg (xN B sb).toArray] w (RetS S w (Sp.qK A B)):=by
 obtain ⟨k,f,t,u,x,ks⟩:=A;obtain ⟨k2,f2,t2,u2,x2,ks2⟩:=B;refine (w_J4 k f t u x sa k2 f2 t2 u2 x2 sb w (fun k' f' t' u' y s w'=>(⟨k',f',t',u',y,0,0⟩:Sp.Node)=(Sp.qK (.mk k f t u x ks) (.mk k2 f2 t2 u2 x2 ks2)).node∧TreeAt S w' s (Sp.qK (.mk k f t u x ks) (.mk k2 f2 t2 u2 x2 ks2))∧Pure w w') ?_).mono ?_
 ·unfold m_J4;intro H3 w3 hs3 p4 w4 n4 w5 hs5;have b4:=n4.at_size;have z3:=hs3.first.size;have B4:Box w4 p4 (xN (.mk k f t u x ks) sa++xN (.mk k2 f2 t2 u2 x2 ks2) sb) 76:=Box.of_newA n4;exact ⟨rfl,TreeAt.pair (B4.ext hs5.ext (fun hh=>by have:=hs3.lt _ hh;omega)) (hS _ (by omega)) (jBM w hA hs3 n4 hs5) (jBM w hB hs3 n4 hs5),(hs3.first.trans (Ext.new n4)).hst hs5⟩
 ·rintro _ w' ⟨k,f,t,u,y,s,rfl,hn,hT,E⟩;cases hn;exact ⟨s,rfl,hT,E⟩
theorem jCJ (n:Int) (A:Sp.Tree) (sa:Sl) (hA:TreeAt S w sa A):Calls prog 243 #[.int .i64 n,.agg (xN A sa).toArray] w (RetS S w (Sp.yK n A)):=by
 obtain ⟨k,f,t,u,x,ks⟩:=A;refine (w_M4 n k f t u x sa w (fun k' f' t' u' y s w'=>(⟨k',f',t',u',y,0,0⟩:Sp.Node)=(Sp.yK n (.mk k f t u x ks)).node∧TreeAt S w' s (Sp.yK n (.mk k f t u x ks))∧Pure w w') ?_).mono ?_
 ·unfold m_M4;intro H3 w3 hs3 p4 w4 n4 w5 hs5;have b4:=n4.at_size;have z3:=hs3.first.size;have B4:Box w4 p4 (xN (.mk k f t u x ks) sa) 76:=Box.of_newA n4;exact ⟨rfl,TreeAt.one (B4.ext hs5.ext (fun hh=>by have:=hs3.lt _ hh;omega)) (hS _ (by omega)) (jBM w hA hs3 n4 hs5),(hs3.first.trans (Ext.new n4)).hst hs5⟩
 ·rintro _ w' ⟨k,f,t,u,y,s,rfl,hn,hT,E⟩;cases hn;exact ⟨s,rfl,hT,E⟩
theorem jBF (n:Int) (hn:n=0∨n=1) (fk:Bool) (A:Sp.Tree) (sa:Sl) (hA:TreeAt S w sa A):Calls prog 242 #[.int .i64 n,.bool fk,.agg (xN A sa).toArray] w (RetS S w (Sp.yC n A fk)):=by
 obtain ⟨k,f,t,u,x,ks⟩:=A;refine (w_L4 n fk k f t u x sa w (fun k' f' t' u' y s w'=>(⟨k',f',t',u',y,0,0⟩:Sp.Node)=(Sp.yC n (.mk k f t u x ks) fk).node∧TreeAt S w' s (Sp.yC n (.mk k f t u x ks) fk)∧Pure w w') ?_).mono ?_
 ·unfold m_L4;intro H3 w3 hs3 p4 w4 n4 w5 hs5;have b4:=n4.at_size;have z3:=hs3.first.size;have B4:Box w4 p4 (xN (.mk k f t u x ks) sa) 76:=Box.of_newA n4;refine ⟨?_,TreeAt.one (B4.ext hs5.ext (fun hh=>by have:=hs3.lt _ hh;omega)) (hS _ (by omega)) (jBM w hA hs3 n4 hs5),(hs3.first.trans (Ext.new n4)).hst hs5⟩;have:IntKind.i64.wrap (1 - n)=1 - n:=IntWalk.i64_in _ (by omega);rw [this];cases fk <;> rfl
 ·rintro _ w' ⟨k,f,t,u,y,s,rfl,hn,hT,E⟩;cases hn;exact ⟨s,rfl,hT,E⟩
theorem jUF (c:Int) (x:ByteArray):Calls prog 241 #[.int .u64 c,.string x] w (RetS S w (Sp.qG c x)):=by
 refine (w_K4 c x w (fun k f t u y s w'=>(⟨k,f,t,u,y,0,0⟩:Sp.Node)=(Sp.qG c x).node∧TreeAt S w' s (Sp.qG c x)∧Pure w w') ?_).mono ?_
 ·unfold m_K4;intro H1 w4 hs4;have E4:Pure w w4:=hs4.first;have z4:=E4.size;have hH:∀b,H1 b→b<w4.heap.size:=fun b hb=>hs4.lt b hb;refine (lH (S:=(w4.heap.size≤·)) w4 (fun _ h=>h) (Sp.jAX c) (Sp.qH x) Sl.nil Sl.nil TreeAt.leaf TreeAt.leaf).mono ?_;rintro _ w5 ⟨s5,rfl,hT5,E5⟩;refine ⟨_,_,_,_,_,s5,rfl,E5.keptP,?_⟩;refine (lH (S:=(w4.heap.size≤·)) w5 (fun b h=>by have:=E5.size;show w4.heap.size≤b;omega) (Sp.qH Sp.jPU) (Sp.qK (Sp.jAX c) (Sp.qH x)) Sl.nil s5 TreeAt.leaf hT5).mono ?_;rintro _ w6 ⟨s6,rfl,hT6,E6⟩;refine ⟨_,_,_,_,_,s6,rfl,E6.keptP,fun w7 hs7=>⟨rfl,?_,((E4.trans E5).trans E6).hst hs7⟩⟩;exact (hT6.ext hs7.ext (fun b hb hh=>by have:=hH b hh;have:w4.heap.size≤b:=hb;omega)).mono (fun b hb=>hS b (by have:w4.heap.size≤b:=hb;omega))
 ·rintro _ w' ⟨k,f,t,u,y,s,rfl,hn,hT,E⟩;cases hn;exact ⟨s,rfl,hT,E⟩
end
theorem jUE (l:Sp.Letter) (hf:l.frm=0∨l.frm=1) (w0:World):Calls prog 169 #[.agg #[.int .i64 l.kind,.int .i64 l.frm,.int .u64 l.c,.string l.text,.bool l.fake]] w0 (RetS (w0.heap.size≤·) w0 (Sp.vD l true true)):=by
 obtain ⟨kd,f,c,x,fk⟩:=l;simp only at hf;generalize hR:Sp.vD ⟨kd,f,c,x,fk⟩ true true=R;refine (w_N4 kd f c x fk w0 (fun k f t u y s w'=>(⟨k,f,t,u,y,0,0⟩:Sp.Node)=R.node∧TreeAt (w0.heap.size≤·) w' s R∧Pure w0 w') ?_).mono ?_
 ·unfold m_N4;intro H2 w2 hs2;have E2:Pure w0 w2:=hs2.first;have z2:=E2.size;refine (jUF (S:=(w2.heap.size≤·)) w2 (fun _ h=>h) c x).mono ?_;rintro _ w3 ⟨sd,rfl,hT3,E3⟩;refine ⟨_,_,_,_,_,sd,rfl,E3.keptP,?_⟩;have z3:=E3.size;have go:∀{H3:NP} {w5:World},Hst w0 H2 w3 H3 w5→TreeAt (fun b=>w0.heap.size≤b∧¬ H3 b) w5 sd (Sp.qG c x)∧Pure w0 w5∧(∀w:World,w5.heap.size≤w.heap.size→∀b,w.heap.size≤b→w0.heap.size≤b∧¬ H3 b):=fun {H3 w5} hs=>by
   have hd:∀b,(w2.heap.size≤b∧b<w3.heap.size)→¬ H3 b:=hs.disj (fun b hb=>⟨hb.2,fun hh=>by have:=hs2.lt b hh;omega⟩);refine ⟨(hT3.lt.ext hs.ext (fun b hb=>hd b hb)).mono (fun b hb=>⟨by have:=hb.1;omega,hd b hb⟩),(E2.trans E3).hst hs,fun w hw b hb=>⟨by have:=hs.ext.size;omega,fun hh=>by have:=hs.lt b hh;omega⟩⟩
  have fin:∀{H3:NP} {wa wb:World} {s:Sl} {T:Sp.Tree},TreeAt (fun b=>w0.heap.size≤b∧¬ H3 b) wa s T→Pure w0 wa→Hst w0 H3 wa H3 wb→T=R→R.node=R.node∧TreeAt (w0.heap.size≤·) wb s R∧Pure w0 wb:=fun {H3 wa wb s T} h E hs e=>by
   subst e;exact ⟨rfl,(h.ext hs.ext (fun b hb=>hb.2)).mono (fun b hb=>hb.1),E.hst hs⟩
  have fin2:∀{H3:NP} {wa wb:World} {s:Sl} {T:Sp.Tree},TreeAt (fun b=>w0.heap.size≤b∧¬ H3 b) wa s T→Pure w0 wa→Hst w0 H3 wa H3 wb→R=T→(⟨T.node.kind,T.node.frm,T.node.to,T.node.num,T.node.text,0,0⟩:Sp.Node)=R.node∧TreeAt (w0.heap.size≤·) wb s R∧Pure w0 wb:=fun {H3 wa wb s T} h E hs e=>by
   subst e;refine ⟨?_,(fin h E hs rfl).2⟩;cases R;rfl
  refine ⟨fun hk H3 w5 hs5=>?_,fun h1=>⟨fun hk H3 w5 hs5=>?_,fun h2=>⟨fun hk H3 w5 hs5=>?_,fun h3=>⟨fun hk H3 w5 hs5=>?_,fun h4=>⟨fun hk H3 w5 hs5=>?_,fun h5=>⟨fun hk H3 w5 hs5=>?_,fun h6 H3 w5 hs5=>?_⟩⟩⟩⟩⟩⟩
  ·have hk:=beq_iff_eq.1 hk;obtain ⟨hD,E5,hS⟩:=go hs5;refine (jBF w5 (hS w5 (Nat.le_refl _)) f hf fk _ sd hD).mono ?_;rintro _ w6 ⟨s6,rfl,hT6,E6⟩;refine ⟨_,_,_,_,_,s6,rfl,E6.keptP,fun w7 hs7=>fin2 hT6 (E5.trans E6) hs7 ?_⟩;rw [← hR];unfold Sp.vD;rw [if_pos hk]
  ·have hk:=beq_iff_eq.1 hk;obtain ⟨hD,E5,hS⟩:=go hs5;refine (jCJ w5 (hS w5 (Nat.le_refl _)) f _ sd hD).mono ?_;rintro _ w6 ⟨s6,rfl,hT6,E6⟩;refine ⟨_,_,_,_,_,s6,rfl,E6.keptP,fun w7 hs7=>fin2 hT6 (E5.trans E6) hs7 ?_⟩;rw [← hR];unfold Sp.vD;rw [if_neg (fun e=>beq_eq_false_iff_ne.1 h1 e),if_pos hk]
  ·have hk:=beq_iff_eq.1 hk;obtain ⟨hD,E5,hS⟩:=go hs5;refine ⟨fun _=>True,trivial,?_⟩;rintro w10 e10;have E10:Pure w5 w10:=by rw [e10];exact Ext.drew w5
   refine (p_U _ w10).mono ?_;rintro _ w11 ⟨rfl,E11⟩;refine ⟨_,_,_,_,_,_,rfl,trivial,E11.keptP,?_⟩;refine (p_Y _ w11).mono ?_;rintro _ w12 ⟨rfl,E12⟩;refine ⟨_,_,_,_,_,_,rfl,E12.keptP,?_⟩;have z12:=((E10.trans E11).trans E12).size;refine (lH w12 (hS w12 z12) (Sp.qH Sp.jFZ) (Sp.jAX c) Sl.nil Sl.nil TreeAt.leaf TreeAt.leaf).mono ?_;rintro _ w13 ⟨s13,rfl,hT13,E13⟩;refine ⟨_,_,_,_,_,s13,rfl,E13.keptP,?_⟩;refine (jCJ w13 (hS w13 (by have:=E13.size;omega)) 0 _ s13 hT13).mono ?_;rintro _ w14 ⟨s14,rfl,hT14,E14⟩;refine ⟨_,_,_,_,_,s14,rfl,E14.keptP,fun w15 hs15=>fin2 hT14 (((((E5.trans E10).trans E11).trans E12).trans E13).trans E14) hs15 ?_⟩;rw [← hR];unfold Sp.vD;rw [if_neg (fun e=>beq_eq_false_iff_ne.1 h1 e),if_neg (fun e=>beq_eq_false_iff_ne.1 h2 e),if_pos hk]
  ·have hk:=beq_iff_eq.1 hk;obtain ⟨hD,E5,hS⟩:=go hs5;refine ⟨fun _=>True,trivial,?_⟩;rintro w16 e16;have E16:Pure w5 w16:=by rw [e16];exact Ext.drew w5
   refine (p_U _ w16).mono ?_;rintro _ w17 ⟨rfl,E17⟩;refine ⟨_,_,_,_,_,_,rfl,trivial,E17.keptP,?_⟩;have E57:=E16.trans E17;refine (jBF w17 (hS w17 E57.size) 0 (.inl rfl) fk _ sd (hD.pure E57)).mono ?_;rintro _ w18 ⟨s18,rfl,hT18,E18⟩;refine ⟨_,_,_,_,_,s18,rfl,trivial,E18.keptP,?_⟩;have E58:=E57.trans E18;refine (jBF w18 (hS w18 E58.size) 1 (.inr rfl) fk _ sd (hD.pure E58)).mono ?_;rintro _ w19 ⟨s19,rfl,hT19,E19⟩;refine ⟨_,_,_,_,_,s19,rfl,trivial,E19.keptP,?_⟩;have E59:=E58.trans E19;refine (lH w19 (hS w19 E59.size) _ _ s18 s19 (hT18.pure E19) hT19).mono ?_;rintro _ w20 ⟨s20,rfl,hT20,E20⟩;refine ⟨_,_,_,_,_,s20,rfl,trivial,E20.keptP,?_⟩;have E510:=E59.trans E20;refine (lH w20 (hS w20 E510.size) (Sp.qH Sp.tG) _ Sl.nil s20 TreeAt.leaf hT20).mono ?_;rintro _ w21 ⟨s21,rfl,hT21,E21⟩;refine ⟨_,_,_,_,_,s21,rfl,trivial,E21.keptP,?_⟩;have E511:=E510.trans E21;refine (jCJ w21 (hS w21 E511.size) f _ s21 hT21).mono ?_;rintro _ w22 ⟨s22,rfl,hT22,E22⟩;refine ⟨_,_,_,_,_,s22,rfl,E22.keptP,fun w23 hs23=>fin2 hT22 ((E5.trans E511).trans E22) hs23 ?_⟩;rw [← hR];unfold Sp.vD;rw [if_neg (fun e=>beq_eq_false_iff_ne.1 h1 e),if_neg (fun e=>beq_eq_false_iff_ne.1 h2 e),if_neg (fun e=>beq_eq_false_iff_ne.1 h3 e),if_pos hk];simp only [Bool.and_true]
  ·have hk:=beq_iff_eq.1 hk;obtain ⟨hD,E5,hS⟩:=go hs5;refine ⟨fun _=>True,trivial,?_⟩;rintro w10 e10;have E10:Pure w5 w10:=by rw [e10];exact Ext.drew w5
   refine (p_U _ w10).mono ?_;rintro _ w11 ⟨rfl,E11⟩;refine ⟨_,_,_,_,_,_,rfl,trivial,E11.keptP,?_⟩;refine (p_Y _ w11).mono ?_;rintro _ w12 ⟨rfl,E12⟩;refine ⟨_,_,_,_,_,_,rfl,E12.keptP,?_⟩;have z12:=((E10.trans E11).trans E12).size;refine (lH w12 (hS w12 z12) (Sp.qH Sp.jAF) (Sp.jAX c) Sl.nil Sl.nil TreeAt.leaf TreeAt.leaf).mono ?_;rintro _ w13 ⟨s13,rfl,hT13,E13⟩;refine ⟨_,_,_,_,_,s13,rfl,E13.keptP,?_⟩;refine (jCJ w13 (hS w13 (by have:=E13.size;omega)) 2 _ s13 hT13).mono ?_;rintro _ w14 ⟨s14,rfl,hT14,E14⟩;refine ⟨_,_,_,_,_,s14,rfl,E14.keptP,fun w15 hs15=>fin2 hT14 (((((E5.trans E10).trans E11).trans E12).trans E13).trans E14) hs15 ?_⟩;rw [← hR];unfold Sp.vD;rw [if_neg (fun e=>beq_eq_false_iff_ne.1 h1 e),if_neg (fun e=>beq_eq_false_iff_ne.1 h2 e),if_neg (fun e=>beq_eq_false_iff_ne.1 h3 e),if_neg (fun e=>beq_eq_false_iff_ne.1 h4 e),if_pos hk]
  ·have hk:=beq_iff_eq.1 hk;obtain ⟨hD,E5,hS⟩:=go hs5;refine ⟨fun _=>True,trivial,?_⟩;rintro w10 e10;have E10:Pure w5 w10:=by rw [e10];exact Ext.drew w5
   refine (p_U _ w10).mono ?_;rintro _ w11 ⟨rfl,E11⟩;refine ⟨_,_,_,_,_,_,rfl,trivial,E11.keptP,?_⟩;have z11:=(E10.trans E11).size;refine (lH w11 (hS w11 z11) (Sp.qH Sp.jAE) _ Sl.nil sd TreeAt.leaf (hD.pure (E10.trans E11))).mono ?_;rintro _ w13 ⟨s13,rfl,hT13,E13⟩;refine ⟨_,_,_,_,_,s13,rfl,E13.keptP,?_⟩;refine (jCJ w13 (hS w13 (by have:=E13.size;omega)) 2 _ s13 hT13).mono ?_;rintro _ w14 ⟨s14,rfl,hT14,E14⟩;refine ⟨_,_,_,_,_,s14,rfl,E14.keptP,fun w15 hs15=>fin2 hT14 ((((E5.trans E10).trans E11).trans E13).trans E14) hs15 ?_⟩;rw [← hR];unfold Sp.vD;rw [if_neg (fun e=>beq_eq_false_iff_ne.1 h1 e),if_neg (fun e=>beq_eq_false_iff_ne.1 h2 e),if_neg (fun e=>beq_eq_false_iff_ne.1 h3 e),if_neg (fun e=>beq_eq_false_iff_ne.1 h4 e),if_neg (fun e=>beq_eq_false_iff_ne.1 h5 e),if_pos hk]
  ·obtain ⟨hD,E5,hS⟩:=go hs5;refine ⟨fun _=>True,trivial,?_⟩;rintro w10 e10;have E10:Pure w5 w10:=by rw [e10];exact Ext.drew w5
   refine (p_U _ w10).mono ?_;rintro _ w11 ⟨rfl,E11⟩;refine ⟨_,_,_,_,_,_,rfl,trivial,E11.keptP,?_⟩;refine (p_Y _ w11).mono ?_;rintro _ w12 ⟨rfl,E12⟩;refine ⟨_,_,_,_,_,_,rfl,E12.keptP,?_⟩;have z12:=((E10.trans E11).trans E12).size;refine (lH w12 (hS w12 z12) (Sp.qH Sp.jPT) (Sp.jAX c) Sl.nil Sl.nil TreeAt.leaf TreeAt.leaf).mono ?_;rintro _ w13 ⟨s13,rfl,hT13,E13⟩;refine ⟨_,_,_,_,_,s13,rfl,E13.keptP,fun w15 hs15=>fin2 hT13 ((((E5.trans E10).trans E11).trans E12).trans E13) hs15 ?_⟩;rw [← hR];unfold Sp.vD;rw [if_neg (fun e=>beq_eq_false_iff_ne.1 h1 e),if_neg (fun e=>beq_eq_false_iff_ne.1 h2 e),if_neg (fun e=>beq_eq_false_iff_ne.1 h3 e),if_neg (fun e=>beq_eq_false_iff_ne.1 h4 e),if_neg (fun e=>beq_eq_false_iff_ne.1 h5 e),if_neg (fun e=>beq_eq_false_iff_ne.1 h6 e)]
 ·rintro _ w' ⟨k,f,t,u,y,s,rfl,hn,hT,E⟩;obtain ⟨k2,f2,t2,u2,x2,ks⟩:=R;cases hn;exact ⟨s,rfl,hT,E⟩
theorem jGL {l:Sp.Letter} (h:Sp.vY l=0):l.frm=0∨l.frm=1:=by
 unfold Sp.vY at h;split at h
 ·cases h
 ·rename_i h1;simp only [not_or] at h1;have:=h1.2.2.1;by_cases h0:l.frm=0
  ·exact .inl h0
  ·exact .inr (Classical.byContradiction (fun h2=>this ⟨h0,h2⟩))
def zW (L:Sp.Pool) (l:Sp.Letter):Int×Int×Sp.Pool:=if Sp.vY l≠0 then (0,Sp.vY l,L) else Sp.of L (Sp.vD l true true)
theorem jWC (p:Addr) (l:Sp.Letter) (w0:World) {L:Sp.Pool} {F:NP} (hP:zV w0 p L F) (hok:Sp.Ok L) :
  Calls prog 111 #[.pointer (some p),.agg #[.int .i64 l.kind,.int .i64 l.frm,.int .u64 l.c,.string l.text,.bool l.fake]] w0 (fun e w'=>∃r1 r2:Int,e=.returned (.tuple #[.int .i64 r1,.int .i64 r2])∧(r1=(zW L l).1∧r2=(zW L l).2.1∧∃F',zV w' p (zW L l).2.2 F'∧Ext F w0 w'∧∀b,F' b→F b∨w0.heap.size≤b)):=by
 refine w_O4 (some p) l.kind l.frm l.c l.text l.fake w0 (fun r1 r2 w'=>r1=(zW L l).1∧r2=(zW L l).2.1∧∃F',zV w' p (zW L l).2.2 F'∧Ext F w0 w'∧∀b,F' b→F b∨w0.heap.size≤b) ?_
 unfold m_O4
 intro H1 w1 hs1
 have E1:Pure w0 w1:=hs1.first
 have hF:∀b,F b→b<w0.heap.size:=fun b hb=>hP.lt hb
 refine (jSC l w1).mono ?_
 rintro _ w2 ⟨_,rfl,rfl,E2⟩
 have E02:=E1.trans E2
 refine ⟨_,rfl,E2.keptP,fun hc=>?_,fun hc=>⟨fun h=>(by cases h),fun _=>?_⟩⟩
 ·have hc:=bne_iff_ne.1 hc
  have e:zW L l=(0,Sp.vY l,L):=by unfold zW;rw [if_pos hc]
  rw [e];exact ⟨rfl,rfl,F,hP.pure E02,Ext.pure E02,fun b hb=>.inl hb⟩
 ·have hc:Sp.vY l=0:=by simpa using hc
  have e:zW L l=Sp.of L (Sp.vD l true true):=by unfold zW;rw [if_neg (by simpa using hc)]
  rw [e]
  refine (jUE l (jGL hc) w2).mono ?_
  rintro _ w3 ⟨s3,he,hT3,E3⟩
  generalize Sp.vD l true true=T at *
  obtain ⟨tk,tf,tt,tu,tx,tks⟩:=T
  have he:_=Ending.returned (.agg #[.int .i64 tk,.int .i64 tf,.int .i64 tt,.int .u64 tu,.string tx,s3.v]):=he
  refine ⟨tk,tf,tt,tu,tx,s3,he,E3.keptP,?_⟩
  have E03:=E02.trans E3
  refine (c_Of (S:=fun b=>w2.heap.size≤b∧b<w3.heap.size) p (.mk tk tf tt tu tx tks) s3 w3 hT3.lt (hP.pure E03) hok (fun b hb hh=>by have:=hF b hb;have:=E02.size;omega) (fun b hb=>hb.2)).mono ?_
  rintro _ w4 ⟨r1,r2,rfl,h12,F',hP4,X4,hF4⟩
  obtain ⟨e1,e2⟩:=Prod.mk.inj h12
  refine ⟨r1,r2,rfl,X4.kept (fun b hb hh=>by have:=hs1.old b hb;have:=hF b hh;omega),e1,e2,F',hP4,(Ext.pure E03).trans X4,fun b hb=>(hF4 b hb).imp id (fun h=>by have:=E03.size;omega)⟩
end Go.Proofs
end
section
open Go Go.SE
namespace Go.Proofs
attribute [local irreducible] Calls CallsD
structure LaySep (p2 p3 p4 p6:Addr) (m mb:Nat) (FP F:NP) (B:Nat):Prop where
 lt:p2.block<B∧p3.block<B∧p4.block<B∧p6.block<B∧m<B∧mb<B
 lF:∀b,F b→b<B
 lP:∀b,FP b→b<B
 d3:p2.block≠p3.block∧p4.block≠p3.block∧p6.block≠p3.block∧mb≠p3.block∧m≠p3.block∧¬ F p3.block∧¬ FP p3.block
 db:p2.block≠mb∧p4.block≠mb∧p6.block≠mb∧m≠mb∧¬ F mb∧¬ FP mb
def LayV (p2 p3 p4 p6:Addr) (m mb:Nat) (FP F:NP) (s:Sl) (b:Nat):Prop :=
 b=p2.block∨b=p3.block∨b=p4.block∨b=p6.block∨b=m∨b=mb∨F b∨FP b∨s.blk b
structure LayAt (A:World) (p p2 p3 p4 p6:Addr) (m mb:Nat) (L:Sp.Pool) (FP F:NP) (s:Sl) (bs:List UInt8) (M:List (Int×Int)):Prop where
 b2:Box A p2 [.pointer (some p)] 91
 b3:Box A p3 [s.v] 65
 b4:Box A p4 [.map (some m)] 230
 b6:Box A p6 [.map (some mb)] 245
 rows:Rws A 5 1 s (byr bs)
 nums:IMap (fun i:Int=>.int .i64 i) A mb M
 kinds:Kinds A m F
 pool:zV A p L FP
section
variable {A A':World} {p p2 p3 p4 p6:Addr} {m mb B:Nat} {L:Sp.Pool} {FP F G:NP} {s s':Sl} {bs bs':List UInt8} {M:List (Int×Int)}
theorem LayAt.ext (h:LayAt A p p2 p3 p4 p6 m mb L FP F s bs M) (E:Ext G A A') (hG:∀b,LayV p2 p3 p4 p6 m mb FP F s b→¬ G b):LayAt A' p p2 p3 p4 p6 m mb L FP F s bs M :=
 ⟨h.b2.ext E (hG _ (.inl rfl)),h.b3.ext E (hG _ (.inr (.inl rfl))),h.b4.ext E (hG _ (.inr (.inr (.inl rfl)))),h.b6.ext E (hG _ (.inr (.inr (.inr (.inl rfl))))),
 h.rows.ext E (fun b hb=>hG b (.inr (.inr (.inr (.inr (.inr (.inr (.inr (.inr hb))))))))),h.nums.ext E (hG _ (.inr (.inr (.inr (.inr (.inr (.inl rfl))))))),
 h.kinds.ext E (fun b hb=>hb.elim (fun hb=>hG b (.inr (.inr (.inr (.inr (.inr (.inr (.inl hb)))))))) (fun e=>hG b (.inr (.inr (.inr (.inr (.inl e))))))),
 h.pool.ext E (fun b hb=>hG b (.inr (.inr (.inr (.inr (.inr (.inr (.inr (.inl hb)))))))))⟩
theorem LayAt.pure (h:LayAt A p p2 p3 p4 p6 m mb L FP F s bs M) (E:Pure A A'):LayAt A' p p2 p3 p4 p6 m mb L FP F s bs M:=h.ext E (fun _ _ h=>h)
theorem LayAt.lt (h:LayAt A p p2 p3 p4 p6 m mb L FP F s bs M) {b:Nat} (hb:LayV p2 p3 p4 p6 m mb FP F s b):b<A.heap.size:=by
 rcases hb with rfl | rfl | rfl | rfl | rfl | rfl | hb | hb | hb
 ·exact h.b2.lt
 ·exact h.b3.lt
 ·exact h.b4.lt
 ·exact h.b6.lt
 ·exact h.kinds.mlt
 ·exact h.nums.lt
 ·exact h.kinds.lt _ hb
 ·exact h.pool.lt hb
 ·exact h.rows.lt hb
theorem LayAt.put (h:LayAt A p p2 p3 p4 p6 m mb L FP F s bs M) (S:LaySep p2 p3 p4 p6 m mb FP F B) (hs:∀b,s.blk b→B≤b) (hs':∀b,s'.blk b→B≤b) (E:Ext s.blk A A') (hR:Rws A' 5 1 s' (byr bs')) :
  LayAt (A'.setCell p3 s'.v) p p2 p3 p4 p6 m mb L FP F s' bs' M∧Ext (fun b=>s.blk b∨b=p3.block) A (A'.setCell p3 s'.v):=by
 have E2:Ext (·=p3.block) A' (A'.setCell p3 s'.v):=Ext.setCell p3 _
 have EE:Ext (fun b=>s.blk b∨b=p3.block) A (A'.setCell p3 s'.v):=(E.mono (fun b _ h=>.inl h)).trans (E2.mono (fun b _ h=>.inr h))
 obtain ⟨l2,l3,l4,l6,lm,lb⟩:=S.lt
 obtain ⟨d2,d4,d6,d7,d8,d9,d10⟩:=S.d3
 have ns:∀b,b<B→¬ s.blk b:=fun b hb hh=>by have:=hs b hh;omega
 have b3:=(h.b3.ext E (ns _ l3)).set0 (v:=s'.v)
 refine ⟨⟨h.b2.ext EE ?_,b3,h.b4.ext EE ?_,h.b6.ext EE ?_,hR.ext E2 (fun b hb e=>by have:=hs' b hb;omega),h.nums.ext EE ?_,h.kinds.ext EE ?_,h.pool.ext EE ?_⟩,EE⟩
 ·rintro (hh | hh)
  ·exact ns _ l2 hh
  ·exact d2 hh
 ·rintro (hh | hh)
  ·exact ns _ l4 hh
  ·exact d4 hh
 ·rintro (hh | hh)
  ·exact ns _ l6 hh
  ·exact d6 hh
 ·rintro (hh | hh)
  ·exact ns _ lb hh
  ·exact d7 hh
 ·rintro b (hb | rfl) (hh | hh)
  ·exact ns _ (S.lF b hb) hh
  ·subst hh;exact d9 hb
  ·exact ns _ lm hh
  ·exact d8 hh
 ·rintro b hb (hh | hh)
  ·exact ns _ (S.lP b hb) hh
  ·subst hh;exact d10 hb
end
end Go.Proofs
end
section
open Go Go.SE
namespace Go.Proofs
open Tryz
attribute [local irreducible] Calls
theorem jSU:SlType prog 199 4 1 1:=by
 refine ⟨underlying199,⟨t4,_,by kernel_rfl,(by kernel_rfl:t4.zero=some (.bool false)),by kernel_rfl,by kernel_rfl,rfl⟩,by omega⟩
theorem jPL:∀i z,prog.info? 4=some i→i.zero=some z→z.cells=#[Value.bool false]:=by
 intro i z hi hz;have h1:prog.info? 4=some t4:=by kernel_rfl
 rw [h1] at hi;cases hi;have h2:t4.zero=some (.bool false):=by kernel_rfl
 rw [h2] at hz;cases hz;rfl
def brw (n:Nat) (V:Int→Bool):List (List Value):=(List.range n).map fun i:Nat=>[Value.bool (V (i:Int))]
theorem jIC (n:Nat) (V:Int→Bool):(brw n V).length=n:=by simp [brw]
theorem jSJ (n:Nat):List.replicate n [Value.bool false]=brw n (fun _=>false):=by
 unfold brw;rw [List.map_const',List.length_range]
theorem jWD (n:Nat) (V:Int→Bool) (t:Nat) (b:Bool):(brw n V).set t [.bool b]=brw n (Sp.upd V (t:Int) b):=by
 apply List.ext_getElem?;intro i;rw [List.getElem?_set];by_cases h:t=i
 ·subst h;rw [if_pos rfl];by_cases hl:t<n
  ·simp [brw,hl,Sp.upd]
  ·simp [brw,hl]
 ·rw [if_neg h];by_cases hl:i<n
  ·simp [brw,hl,Sp.upd,show ¬ (i:Int)=t by omega]
  ·simp [brw,hl]
section
variable {w w':World} {e:TypeId} {s:Sl} {n:Nat} {V:Int→Bool}
theorem jWF (h:Rws w e 1 s (brw n V)) {t:Int} (h0:0≤t) (ht:t<n):∃a,At s t 1 a∧s.blk a.block∧w.cell? a=some (.bool (V t)):=by
 obtain ⟨a,h1,h2,h3⟩:=h.at h0 (by rw [jIC];omega);refine ⟨a,h1,h3,?_⟩;have:(brw n V)[t.toNat]'(by rw [jIC];omega)=[Value.bool (V t)]:=by
  simp only [brw,List.getElem_map,List.getElem_range];rw [show ((t.toNat:Nat):Int)=t by omega]
 rw [this] at h2;exact jBU h2
theorem jWE (h:Rws w e 1 s (brw n V)) {t:Int} (h0:0≤t) (ht:t<n):∃a,At s t 1 a∧s.blk a.block∧CanW w a∧∀b,Rws (w.setCell a (.bool b)) e 1 s (brw n (Sp.upd V t b))∧Ext s.blk w (w.setCell a (.bool b)):=by
 have hset:∀b:Bool,∃a,At s t 1 a∧(∀j,j<1→CanW w (a.add j))∧∀w',w'=storeRow w a [Value.bool b]→Rws w' e 1 s ((brw n V).set t.toNat [.bool b])∧Ext s.blk w w':=fun b=>h.set (i:=t.toNat) (by rw [jIC];omega) rfl (by omega);obtain ⟨a,hat,hw,_⟩:=hset true;obtain ⟨a',h1,_,hblk⟩:=h.at h0 (by rw [jIC];omega);have same:∀{x:Addr},At s t 1 x→x=a:=fun hx=>by
  obtain ⟨_,_,b1,hb1,rfl⟩:=hx;obtain ⟨_,_,b2,hb2,rfl⟩:=hat;rw [hb1] at hb2;cases hb2;rfl
 have h00:a.add 0=a:=by simp [Addr.add]
 refine ⟨a,hat,?_,by have:=hw 0 (by omega);rwa [h00] at this,fun b=>?_⟩
 ·have:=same h1;subst this;exact hblk
 ·obtain ⟨x,hx,_,hx2⟩:=hset b;have:=same hx;subst this;have hst:storeRow w x [Value.bool b]=w.setCell x (.bool b):=by show w.setCell (x.add 0) (.bool b)=_;rw [h00]
  obtain ⟨r1,r2⟩:=hx2 _ rfl;rw [hst] at r1 r2;rw [jWD,show ((t.toNat:Nat):Int)=t by omega] at r1;exact ⟨r1,r2⟩
end
structure WalkAt (w:World) (x q:Addr) (L:Sp.Pool) (st:(Int→Bool)×List Int) (FR:NP) (sv so:Sl):Prop where
 box:Box w x [.pointer (some q),sv.v,so.v] 201
 seen:Rws w 4 1 sv (brw (L.length+1) st.1)
 out:Rws w 78 1 so (tmr st.2)
 pool:yB w q L FR
 n1:¬ sv.blk x.block
 n2:¬ so.blk x.block
 n3:∀b,sv.blk b→¬ so.blk b
 n4:∀b,FR b→b≠x.block∧¬ sv.blk b∧¬ so.blk b
def WF (x:Addr) (sv so:Sl) (b:Nat):Prop:=b=x.block∨sv.blk b∨so.blk b
theorem yB.at7 {w:World} {q:Addr} {L:Sp.Pool} {FR:NP} (h:yB w q L FR) {t:Int} (ht:Sp.inP L t=true) (hok:Sp.Ok L):∃v,w.cell? q=some (Sl.v v)∧∃a,At v (IntKind.i64.wrap (t - 1)) 7 a∧w.cell? (a.add 5)=some (.int .i64 (Sp.nodeOf L t).a)∧w.cell? (a.add 6)=some (.int .i64 (Sp.nodeOf L t).b):=by
 obtain ⟨s1,s2,s3,h,_⟩:=h;obtain ⟨i,hi,rfl⟩:=Sp.tB ht;have:=hok.few;obtain ⟨a,h1,h2⟩:=h.r1.nth hi;rw [IntWalk.i64_in _ (by omega),show (i:Int)+1 - 1=i by omega];have hn:=Sp.qC hi;have e0:jSZ L[i]=uU (Sp.nodeOf L ((i:Int)+1)):=by rw [hn];rfl
 rw [e0] at h2;exact ⟨s1,h.box.cell0,a,h1,h2 5 (by simp [uU]),h2 6 (by simp [uU])⟩
theorem jKA (x q:Addr) {L:Sp.Pool} (hW:Sp.Wf L):∀(n:Nat) (t:Int) (w0:World) (st:(Int→Bool)×List Int) (FR:NP) (sv so:Sl),t.toNat<n→WalkAt w0 x q L st FR sv so→Sp.OvOk L st→(∀y,st.1 y=true→y≤t→y∈st.2) →
  Calls prog 133 #[.pointer (some x),.int .i64 t] w0 (fun e w'=>e=.returned (.tuple #[])∧∃so',WalkAt w' x q L (Sp.qX L n t st) FR sv so'∧Ext (WF x sv so) w0 w'∧∀b,so'.blk b→so.blk b∨w0.heap.size≤b):=by
 intro n
 induction n with
 | zero=>intro t w0 st FR sv so h;omega
 | succ n ih =>
 intro t w0 st FR sv so hn h hst hm
 have hR:=Sp.lK hW (n+1) t st hn hst hm
 suffices key:∀K:WP,(∀so' w',WalkAt w' x q L (Sp.qX L (n+1) t st) FR sv so'→Ext (WF x sv so) w0 w'→(∀b,so'.blk b→so.blk b∨w0.heap.size≤b)→K w')→m_X (some x) t w0 K from
  w_X _ _ w0 _ (key _ (fun so' w' a b c=>⟨so',a,b,c⟩))
 intro K hK
 unfold m_X
 refine ⟨x,rfl,_,h.box.cell0,?_⟩
 refine (xK q t w0 h.pool).mono ?_
 rintro _ w0 ⟨r1,rfl,rfl,rfl⟩
 refine ⟨_,rfl,fun hc=>?_,fun hc=>?_⟩
 ·have hin:Sp.inP L t=false:=by simpa using hc
  unfold m_X_j1
  refine Br.t rfl ?_
  rw [Sp.qX,if_neg (by simp [hin])] at hK
  exact hK so w0 h (Ext.refl _) (fun b hb=>.inl hb)
 have hin:Sp.inP L t=true:=by simpa using hc
 obtain ⟨t1,tL⟩:=Sp.zY.1 hin
 obtain ⟨a13,at13,_,c13⟩:=jWF h.seen (t:=t) (by omega) (by omega)
 refine ⟨x,rfl,sv,h.box.cell rfl,a13,at13,_,c13,?_⟩
 unfold m_X_j1
 refine ⟨fun hv=>?_,fun hv=>?_⟩
 ·rw [Sp.qX,if_neg (by simp [hv])] at hK
  exact hK so w0 h (Ext.refl _) (fun b hb=>.inl hb)
 rw [Sp.qX,if_pos ⟨hin,hv⟩] at hK hR
 obtain ⟨a2,at2,hb2,cw2,hput⟩:=jWE h.seen (t:=t) (by omega) (by omega)
 refine ⟨x,rfl,sv,h.box.cell rfl,a2,at2,cw2,?_⟩
 rintro _ rfl
 obtain ⟨R2,E2⟩:=hput true
 have A2:WalkAt (w0.setCell a2 (.bool true)) x q L (Sp.upd st.1 t true,st.2) FR sv so :=
  ⟨h.box.ext E2 h.n1,R2,h.out.ext E2 (fun b hb hb2=>h.n3 b hb2 hb),h.pool.ext E2 (fun b hb hb2=>(h.n4 b hb).2.1 hb2),h.n1,h.n2,h.n3,h.n4⟩
 generalize w0.setCell a2 (.bool true)=w2 at *
 obtain ⟨v3,c3,a5,at5,ca,cb⟩:=A2.pool.at7 hin hW.ok
 refine ⟨x,rfl,_,A2.box.cell0,q,rfl,v3,c3,a5,at5,_,ca,?_⟩
 have low:∀k,k=(Sp.nodeOf L t).a∨k=(Sp.nodeOf L t).b→k<t:=by
  intro k hk;have hkid:=(hW.node hin).2.2.2.2.1;cases hp:Sp.inP L k with
  | true=>exact (hkid k (Sp.jJJ hW hin hk hp)).2
  | false =>
   have h1:=(hW.node hin).2.1
   have h2:=(hW.node hin).2.2.1
   rcases Sp.yO (Sp.nodeOf L t).kind with e | e | e
   ·have:=h1 (by omega);have:=h2 (by omega);rcases hk with hk | hk <;> omega
   ·have b0:=h2 (by omega)
    rcases hk with hk | hk
    ·have:=(hkid k (by unfold Sp.zI;rw [e,hk];simp)).2;exact this
    ·omega
   ·exact (hkid k (by unfold Sp.zI;rw [e];rcases hk with hk | hk <;> simp [hk])).2
 have la:=low _ (.inl rfl)
 have lb:=low _ (.inr rfl)
 have o1:Sp.OvOk L (Sp.upd st.1 t true,st.2):=⟨fun y hy=>by simp only [Sp.upd];split <;> simp [hst.marked y hy],hst.closed,hst.nd,hst.inp⟩
 have m1:∀y,(Sp.upd st.1 t true,st.2).1 y=true→y≤(Sp.nodeOf L t).a→y∈(Sp.upd st.1 t true,st.2).2:=fun y hy hle=>by
  simp only [Sp.upd] at hy;rw [if_neg (by omega)] at hy;exact hm y hy (by omega)
 have r1:=Sp.lK hW n (Sp.nodeOf L t).a _ (by omega) o1 m1
 refine (ih (Sp.nodeOf L t).a w2 _ FR sv so (by omega) A2 o1 m1).mono ?_
 rintro _ w3 ⟨rfl,so3,A3,X3,f3⟩
 generalize hs1:Sp.qX L n (Sp.nodeOf L t).a (Sp.upd st.1 t true,st.2)=s1 at *
 obtain ⟨v6,c6,a8,at8,_,cb3⟩:=A3.pool.at7 hin hW.ok
 refine ⟨rfl,x,rfl,_,A3.box.cell0,q,rfl,v6,c6,a8,at8,_,cb3,?_⟩
 have m2:∀y,s1.1 y=true→y≤(Sp.nodeOf L t).b→y∈s1.2:=fun y hy hle=>by
  rcases r1.back y hy with h' | h'
  ·simp only [Sp.upd] at h';rw [if_neg (by omega)] at h';have:=hm y h' (by omega);obtain ⟨M,e,_⟩:=r1.app;simp only at e;rw [e];exact List.mem_append_left _ this
  ·exact h'
 have r2:=Sp.lK hW n (Sp.nodeOf L t).b s1 (by omega) r1.toOvOk m2
 refine (ih (Sp.nodeOf L t).b w3 s1 FR sv so3 (by omega) A3 r1.toOvOk m2).mono ?_
 rintro _ w4 ⟨rfl,so4,A4,X4,f4⟩
 generalize hs2:Sp.qX L n (Sp.nodeOf L t).b s1=s2 at *
 refine ⟨rfl,x,rfl,so4,A4.box.cell rfl,?_⟩
 intro p1 w5 h5
 have E5:Pure w4 w5:=Ext.new h5
 have hfew:s2.2.length≤65536:=by have:=Sp.jAK r2.nd r2.inp;have:=hW.ok.few;omega
 obtain ⟨s1',w6,hr6,R6,X6,f6⟩:=(A4.out.pure E5).append (P:=prog) (ty:=54) (c:=1) jMP (r:=[.int .i64 t]) (Box.of_new h5).row rfl rfl (by rw [qP];omega) (by rw [qP];simp [maxLen];omega)
 have b6:=(A4.box.pure E5).ext X6 A4.n2
 refine ⟨s1',w6,hr6,x,rfl,b6.canW (by simp),?_⟩
 rintro _ rfl
 have E7:=Ext.setCell (w:=w6) (x.add 2) s1'.v
 rw [zX] at E7
 have z2:w0.heap.size≤w2.heap.size:=E2.size
 have z3:=X3.size
 have z4:=X4.size
 have z5:=E5.size
 have f6':∀b,s1'.blk b→so4.blk b∨w4.heap.size≤b:=fun b hb=>(f6 b hb).imp_right (fun h=>by omega)
 have nx:¬ s1'.blk x.block:=fun hh=>(f6' _ hh).elim A4.n2 (fun hh=>by have:=A4.box.lt;omega)
 have nv:∀b,sv.blk b→¬ s1'.blk b:=fun b hb hh=>(f6' b hh).elim (A4.n3 b hb) (fun hh=>by have:=A4.seen.lt hb;omega)
 have hfin:=hK s1' (w6.setCell (x.add 2) s1'.v)
 refine hfin ⟨b6.set 2 s1'.v,((A4.seen.pure E5).ext X6 A4.n3).ext E7 (fun b hb e=>A4.n1 (e▸hb)),?_,((A4.pool.pure E5).ext X6 (fun b hb=>(A4.n4 b hb).2.2)).ext E7 (fun b hb e=>(A4.n4 b hb).1 e),A4.n1,nx,nv,fun b hb=>⟨(A4.n4 b hb).1,(A4.n4 b hb).2.1,fun hh=>(f6' b hh).elim (A4.n4 b hb).2.2 (fun hh=>by have:=A4.pool.lt hb;omega)⟩⟩ ?_ ?_
 ·show Rws _ _ _ _ (tmr (s2.2++[t]))
  rw [show tmr (s2.2++[t])=tmr s2.2++[[.int .i64 t]] by simp [tmr]]
  exact R6.ext E7 (fun b hb e=>nx (e▸hb))
 ·have f34 : ∀ b, so4.blk b → b < w0.heap.size → so.blk b := fun b hb hlt => by
   rcases f4 b hb with h1 | h1
   ·exact (f3 b h1).elim id (fun h2=>by omega)
   ·omega
  have f33:∀b,so3.blk b→b<w0.heap.size→so.blk b:=fun b hb hlt=>(f3 b hb).elim id (fun h2=>by omega)
  refine ((((E2.mono (fun b _ hb=>.inr (.inl hb))).trans X3).trans' X4 (fun i hi hb=>?_)).trans' (E5.pure (F:=WF x sv so4)) (fun i hi hb=>?_)).trans' ((X6.mono (fun b _ hb=>.inr (.inr hb))).trans (E7.mono (fun b _ e=>.inl e))) (fun i hi (hb:WF x sv so4 i)=>?_)
  ·rcases hb with hb | hb | hb
   ·exact .inl hb
   ·exact .inr (.inl hb)
   ·exact .inr (.inr (f33 i hb hi))
  ·rcases hb with hb | hb | hb
   ·exact .inl hb
   ·exact .inr (.inl hb)
   ·exact .inr (.inr (f34 i hb hi))
  ·rcases hb with hb | hb | hb
   ·exact .inl hb
   ·exact .inr (.inl hb)
   ·exact .inr (.inr (f34 i hb hi))
 ·intro b hb
  rcases f6' b hb with h1 | h1
  ·rcases f4 b h1 with h2 | h2
   ·exact (f3 b h2).imp_right (fun h=>by omega)
   ·right;omega
  ·right;omega
theorem jKC (q:Addr) (t:Int) (w0:World) {L:Sp.Pool} {FR:NP} (hW:Sp.Wf L) (hP:yB w0 q L FR) :
  Calls prog 69 #[.pointer (some q),.int .i64 t] w0 (fun e w'=>∃r:Sl,e=.returned r.v∧RetO w0 78 1 (tmr (Sp.subs L t)) r w'):=by
 refine w_N2 _ _ w0 (fun r w'=>RetO w0 78 1 (tmr (Sp.subs L t)) r w') ?_
 unfold m_N2
 obtain ⟨v1,hv1,hv1l⟩:∃v1:Sl,w0.cell? q=some v1.v∧v1.len=L.length:=by
  obtain ⟨s1,s2,s3,h,_⟩:=hP;exact ⟨s1,h.box.cell0,by rw [h.r1.len];simp⟩
 have hL:=hW.ok.few
 refine ⟨q,rfl,v1,hv1,?_⟩
 rw [hv1l,IntWalk.i64_in _ (by omega),show ((L.length:Int)+1)=((L.length+1:Nat):Int) by omega]
 obtain ⟨w1,hr1,R1,E1⟩:=Rws.make (P:=prog) jSU jPL (k:=.i64) (k':=.i64) (n:=L.length+1) (by omega) (by simp [maxLen];omega) w0
 rw [jSJ] at R1
 refine ⟨_,w1,hr1,?_⟩
 intro p2 w2 h2
 have E2:Pure w1 w2:=Ext.new h2
 have hp2:=h2.at_size
 have hnil:∀b,¬ Sl.nil.blk b:=fun b hb=>by obtain ⟨a,h,_⟩:=hb;cases h
 have hsv:∀b,(Sl.mk (some ⟨w0.heap.size,0,none⟩) (L.length+1) (L.length+1)).blk b→b=w0.heap.size:=by rintro b ⟨a,ha,rfl⟩;cases ha;rfl
 have z1:=E1.size
 have l1:w0.heap.size<w1.heap.size:=R1.lt ⟨_,rfl,rfl⟩
 have A2:WalkAt w2 p2 q L (fun _=>false,[]) FR ⟨some ⟨w0.heap.size,0,none⟩,L.length+1,L.length+1⟩ Sl.nil:=by
  refine ⟨Box.of_new h2,R1.pure E2,Rws.nil _ _ _,(hP.pure E1).pure E2,fun hb=>by have:=hsv _ hb;omega,hnil _,fun b _=>hnil b,fun b hb=>⟨fun e=>?_,fun hh=>?_,hnil b⟩⟩
  ·have:=hP.lt hb;omega
  ·have:=hsv _ hh;have:=hP.lt hb;omega
 refine (jKA p2 q hW (t.toNat+1) t w2 _ FR _ Sl.nil (by omega) A2 ⟨by simp,by simp,by simp,by simp⟩ (by simp)).mono ?_
 rintro _ w3 ⟨rfl,so,A3,X3,f3⟩
 refine ⟨rfl,so,A3.box.cell rfl,A3.out,fun b hb=>?_,(E1.trans E2).trans' X3 (fun i hi hb=>?_)⟩
 ·rcases f3 b hb with h | h
  ·exact (hnil b h).elim
  ·have:=E2.size;omega
 ·rcases hb with hb | hb | hb
  ·omega
  ·have:=hsv _ hb;omega
  ·exact hnil _ hb
end Go.Proofs
end
section
open Go Go.SE
namespace Go.Proofs
open Tryz
attribute [local irreducible] Calls CallsD
theorem jSL {s:Sl} {i:Int} {sz:Nat} {a:Addr} (h:At s i sz a):s.blk a.block:=by
 obtain ⟨_,_,b,hb,rfl⟩:=h;exact ⟨b,hb,(zX _ _).symm⟩
theorem jVF {w:World} {e:TypeId} {s:Sl} {A:List Int} (h:Rws w e 1 s (tmr A)) {k:Int} {j:Nat} (hk:k=j) (hj:j<A.length) :
  ∃a,At s k 1 a∧s.blk a.block∧CanW w a∧∀v,Rws (w.setCell a (.int .i64 v)) e 1 s (tmr (A.set j v))∧Ext s.blk w (w.setCell a (.int .i64 v)):=by
 have hset:∀v:Int,∃a,At s k 1 a∧(∀j,j<1→CanW w (a.add j))∧∀w',w'=storeRow w a [Value.int .i64 v]→Rws w' e 1 s ((tmr A).set j [.int .i64 v])∧Ext s.blk w w':=fun v=>h.set (i:=j) (by rw [qP];omega) rfl hk
 obtain ⟨a,hat,hw,_⟩:=hset 0
 have same:∀{x:Addr},At s k 1 x→x=a:=fun hx=>by
  obtain ⟨_,_,b1,hb1,rfl⟩:=hx;obtain ⟨_,_,b2,hb2,rfl⟩:=hat;rw [hb1] at hb2;cases hb2;rfl
 have h00:a.add 0=a:=by simp [Addr.add]
 refine ⟨a,hat,jSL hat,by have:=hw 0 (by omega);rwa [h00] at this,fun v=>?_⟩
 obtain ⟨x,hx,_,hx2⟩:=hset v
 have:=same hx;subst this
 have hst:storeRow w x [Value.int .i64 v]=w.setCell x (.int .i64 v):=by show w.setCell (x.add 0) (.int .i64 v)=_;rw [h00]
 obtain ⟨r1,r2⟩:=hx2 _ rfl
 rw [hst] at r1 r2
 have e0:(tmr A).set j [.int .i64 v]=tmr (A.set j v):=by simp [tmr,List.map_set]
 rw [e0] at r1
 exact ⟨r1,r2⟩
def Sp.opt (c:Bool) (f:Fld) (n:Sp.Node) (na nb:Nat):List UInt8:=if c then f.bytes n na nb else []
theorem jTX (n:Sp.Node) (na nb:Nat) (h1:1≤n.kind) (h9:n.kind≤9):(uV n.kind).flatMap (Fld.bytes n na nb) =
  Sp.opt (s_C1 n.kind) .from_ n na nb++Sp.opt ((n.kind == 8) || (n.kind == 9)) .to_ n na nb++Sp.opt (n.kind == 2) .num n na nb++Sp.opt (n.kind == 3) .text n na nb++Sp.opt (decide (s_A n.kind≥1)) .fst n na nb++Sp.opt (s_A n.kind == 2) .snd n na nb:=by
 rw [xG]
 have:n.kind=1∨n.kind=2∨n.kind=3∨n.kind=4∨n.kind=5∨n.kind=6∨n.kind=7∨n.kind=8∨n.kind=9:=by omega
 rcases this with e | e | e | e | e | e | e | e | e <;> simp [e,uV,Sp.opt,s_C1,Sp.shapeOf]
theorem jTS {n:Sp.Node} (h:s_A n.kind≥1):n.a∈Sp.zI n:=by
 rw [xG] at h;unfold Sp.zI;rcases Sp.yO n.kind with e | e | e <;> rw [e] at h ⊢ <;> simp at h ⊢
theorem jTR {n:Sp.Node} (h:s_A n.kind=2):n.b∈Sp.zI n:=by
 rw [xG] at h;unfold Sp.zI;rw [h];simp
structure TxSep (w0:World) (q:Addr) (FR:NP) (s1 r1:Sl) (B:Nat):Prop where
 lR:∀x,FR x→x<B
 lr:∀x,r1.blk x→x<B
 ls:∀x,s1.blk x→x<B∧w0.heap.size≤x∧¬ FR x∧¬ r1.blk x
 base:w0.heap.size≤B
structure TxAt (w0 w:World) (H:NP) (q:Addr) (L:Sp.Pool) (FR:NP) (s1 r1:Sl) (A xs:List Int) (B:Nat) (b:Sl) (bs:List UInt8):Prop where
 pool:yB w q L FR
 at_:Rws w 3 1 s1 (tmr A)
 subs:Rws w 78 1 r1 (tmr xs)
 rows:Rws w 5 1 b (byr bs)
 pure:Pure w0 w
 hB:∀x,H x→B≤x∧x<w.heap.size
 own:∀x,b.blk x→B≤x∧¬ H x
 lt:B≤w.heap.size
section
variable {w0 w w':World} {H H':NP} {q:Addr} {L:Sp.Pool} {FR:NP} {s1 r1:Sl} {A xs:List Int} {B:Nat} {b b':Sl} {bs bs':List UInt8}
theorem TxAt.hst (h:TxAt w0 w H q L FR s1 r1 A xs B b bs) (S:TxSep w0 q FR s1 r1 B) (hs:Hst w0 H w H' w'):TxAt w0 w' H' q L FR s1 r1 A xs B b bs:=by
 have hB':∀x,H' x→B≤x:=fun x hx=>(hs.new x hx).elim (fun h1=>(h.hB x h1).1) (fun h1=>by have:=h.lt;omega);have hv:∀x,b.blk x→¬ H' x:=hs.disj (fun x hx=>⟨h.rows.lt hx,(h.own x hx).2⟩);exact ⟨h.pool.ext hs.ext (fun x hx hh=>by have:=S.lR x hx;have:=hB' x hh;omega),h.at_.ext hs.ext (fun x hx hh=>by have:=S.ls x hx;have:=hB' x hh;omega),h.subs.ext hs.ext (fun x hx hh=>by have:=S.lr x hx;have:=hB' x hh;omega),h.rows.ext hs.ext hv,h.pure.hst hs,fun x hx=>⟨hB' x hx,hs.lt x hx⟩,fun x hx=>⟨(h.own x hx).1,hv x hx⟩,Nat.le_trans h.lt hs.ext.size⟩
theorem TxAt.call (h:TxAt w0 w H q L FR s1 r1 A xs B b bs) (hr:RetO w 5 1 (byr bs') b' w'):TxAt w0 w' H q L FR s1 r1 A xs B b' bs' :=
 ⟨h.pool.pure hr.pure,h.at_.pure hr.pure,h.subs.pure hr.pure,hr.rows,h.pure.trans hr.pure,fun x hx=>⟨(h.hB x hx).1,Nat.lt_of_lt_of_le (h.hB x hx).2 hr.pure.size⟩,fun x hx=>⟨Nat.le_trans h.lt (hr.own x hx),fun hh=>by have:=hr.own x hx;have:=(h.hB x hh).2;omega⟩,Nat.le_trans h.lt hr.pure.size⟩
end
section
variable (w0:World) (q:Addr) {L:Sp.Pool} (hW:Sp.Wf L) (hN:Sp.uN L) {FR:NP} {s1 r1:Sl} {A xs:List Int} {B:Nat} (S:TxSep w0 q FR s1 r1 B) (i1:Int) (n:Sp.Node) (na nb:Nat)
include S
theorem c_tx6 (hb:s_A n.kind=2→0≤n.b∧A[n.b.toNat]?=some (nb:Int)∧nb<65537) {H:NP} {w:World} {b:Sl} {bs:List UInt8} (h:TxAt w0 w H q L FR s1 r1 A xs B b bs) (hl:bs.length≤1000000000)
  (Kc:Sl→Int→NP→WP) (K:Sl→WP) (hK:∀b' H' w',TxAt w0 w' H' q L FR s1 r1 A xs B b' (bs++Sp.opt (s_A n.kind == 2) .snd n na nb)→Kc b' (IntKind.i64.wrap (i1+1)) H' w'):m_F_j6 s1 i1 n.kind n.b b w0 H w Kc K:=by
 unfold m_F_j6
 refine ⟨fun hc=>?_,fun hc=>?_⟩
 ·rw [hc] at hK
  obtain ⟨h0,hA,h2⟩:=hb (by simpa using hc)
  obtain ⟨hj,hA'⟩:=List.getElem?_eq_some_iff.1 hA
  obtain ⟨a,hat,_,hv⟩:=tU h.at_.lst hj
  rw [show ((n.b.toNat:Nat):Int)=n.b by omega] at hat
  refine ⟨a,hat,fun w15 hs=>?_⟩
  have h':=h.hst S hs
  obtain ⟨a',hat',_,hv'⟩:=tU h'.at_.lst hj
  rw [show ((n.b.toNat:Nat):Int)=n.b by omega] at hat'
  have:a'=a:=by
   obtain ⟨_,_,b1,hb1,rfl⟩:=hat;obtain ⟨_,_,b2,hb2,rfl⟩:=hat';rw [hb1] at hb2;cases hb2;rfl
  subst this
  refine ⟨_,hv',?_⟩
  rw [hA',yP (by omega)]
  refine (tD b bs nb w15 h'.rows.lst (by omega) (by omega)).mono ?_
  rintro _ w16 ⟨r,rfl,hr⟩
  exact ⟨r,rfl,hr.kept,hK _ _ _ (h'.call hr)⟩
 ·rw [hc] at hK
  simp only [Sp.opt,Bool.false_eq_true,if_false,List.append_nil] at hK
  exact fun w15 hs=>hK _ _ _ (h.hst S hs)
theorem c_tx5 (ha:s_A n.kind≥1→0≤n.a∧A[n.a.toNat]?=some (na:Int)∧na<65537) (hb:s_A n.kind=2→0≤n.b∧A[n.b.toNat]?=some (nb:Int)∧nb<65537) {H:NP} {w:World} {b:Sl} {bs:List UInt8} (h:TxAt w0 w H q L FR s1 r1 A xs B b bs) (hl:bs.length≤900000000)
  (Kc:Sl→Int→NP→WP) (K:Sl→WP) (hK:∀b' H' w',TxAt w0 w' H' q L FR s1 r1 A xs B b' (bs++Sp.opt (decide (s_A n.kind≥1)) .fst n na nb++Sp.opt (s_A n.kind == 2) .snd n na nb)→Kc b' (IntKind.i64.wrap (i1+1)) H' w'):m_F_j5 s1 i1 n.kind n.a n.b b w0 H w Kc K:=by
 unfold m_F_j5
 refine ⟨fun hc=>?_,fun hc=>?_⟩
 ·rw [hc] at hK
  obtain ⟨h0,hA,h2⟩:=ha (of_decide_eq_true hc)
  obtain ⟨hj,hA'⟩:=List.getElem?_eq_some_iff.1 hA
  obtain ⟨a,hat,_,hv⟩:=tU h.at_.lst hj
  rw [show ((n.a.toNat:Nat):Int)=n.a by omega] at hat
  refine ⟨a,hat,fun w15 hs=>?_⟩
  have h':=h.hst S hs
  obtain ⟨a',hat',_,hv'⟩:=tU h'.at_.lst hj
  rw [show ((n.a.toNat:Nat):Int)=n.a by omega] at hat'
  have:a'=a:=by
   obtain ⟨_,_,b1,hb1,rfl⟩:=hat;obtain ⟨_,_,b2,hb2,rfl⟩:=hat';rw [hb1] at hb2;cases hb2;rfl
  subst this
  refine ⟨_,hv',?_⟩
  rw [hA',yP (by omega)]
  refine (tD b bs na w15 h'.rows.lst (by omega) (by omega)).mono ?_
  rintro _ w16 ⟨r,rfl,hr⟩
  have:=vZ (n:=na) (by omega)
  exact ⟨r,rfl,hr.kept,c_tx6 w0 q S i1 n na nb hb (h'.call hr) (by rw [List.length_append];omega) Kc K hK⟩
 ·rw [hc] at hK
  simp only [Sp.opt,Bool.false_eq_true,if_false,List.append_nil] at hK
  exact fun w15 hs=>c_tx6 w0 q S i1 n na nb hb (h.hst S hs) (by omega) Kc K hK
theorem c_tx4 (hx:n.text.size≤64) (ha:s_A n.kind≥1→0≤n.a∧A[n.a.toNat]?=some (na:Int)∧na<65537) (hb:s_A n.kind=2→0≤n.b∧A[n.b.toNat]?=some (nb:Int)∧nb<65537) {H:NP} {w:World} {b:Sl} {bs:List UInt8} (h:TxAt w0 w H q L FR s1 r1 A xs B b bs) (hl:bs.length≤800000000)
  (Kc:Sl→Int→NP→WP) (K:Sl→WP) (hK:∀b' H' w',TxAt w0 w' H' q L FR s1 r1 A xs B b' (bs++Sp.opt (n.kind == 3) .text n na nb++Sp.opt (decide (s_A n.kind≥1)) .fst n na nb++Sp.opt (s_A n.kind == 2) .snd n na nb)→Kc b' (IntKind.i64.wrap (i1+1)) H' w'):m_F_j4 s1 i1 n.kind n.text n.a n.b b w0 H w Kc K:=by
 unfold m_F_j4
 refine ⟨fun hc=>?_,fun hc=>?_⟩
 ·rw [hc] at hK
  refine (jPE b bs n.text w h.rows.lst (by omega) (by omega)).mono ?_
  rintro _ w16 ⟨r,rfl,hr⟩
  have:=vZ (n:=n.text.size) (by omega)
  have e:n.text.data.toList.length=n.text.size:=Array.length_toList
  exact ⟨r,rfl,hr.kept,c_tx5 w0 q S i1 n na nb ha hb (h.call hr) (by rw [List.length_append,qQ,List.length_append];omega) Kc K hK⟩
 ·rw [hc] at hK
  simp only [Sp.opt,Bool.false_eq_true,if_false,List.append_nil] at hK
  exact c_tx5 w0 q S i1 n na nb ha hb h (by omega) Kc K hK
theorem c_tx3 (hu:Sp.yV n.num) (hx:n.text.size≤64) (ha:s_A n.kind≥1→0≤n.a∧A[n.a.toNat]?=some (na:Int)∧na<65537) (hb:s_A n.kind=2→0≤n.b∧A[n.b.toNat]?=some (nb:Int)∧nb<65537) {H:NP} {w:World} {b:Sl} {bs:List UInt8} (h:TxAt w0 w H q L FR s1 r1 A xs B b bs) (hl:bs.length≤700000000)
  (Kc:Sl→Int→NP→WP) (K:Sl→WP) (hK:∀b' H' w',TxAt w0 w' H' q L FR s1 r1 A xs B b' (bs++Sp.opt (n.kind == 2) .num n na nb++Sp.opt (n.kind == 3) .text n na nb++Sp.opt (decide (s_A n.kind≥1)) .fst n na nb++Sp.opt (s_A n.kind == 2) .snd n na nb)→Kc b' (IntKind.i64.wrap (i1+1)) H' w'):m_F_j3 s1 i1 n.kind n.num n.text n.a n.b b w0 H w Kc K:=by
 unfold m_F_j3
 refine ⟨fun hc=>?_,fun hc=>?_⟩
 ·rw [hc] at hK
  obtain ⟨u0,u1⟩:=hu
  have e:n.num=((n.num.toNat:Nat):Int):=by omega
  rw [e]
  refine (tD b bs n.num.toNat w h.rows.lst (by omega) (by omega)).mono ?_
  rintro _ w16 ⟨r,rfl,hr⟩
  have:=vZ (n:=n.num.toNat) (by omega)
  exact ⟨r,rfl,hr.kept,c_tx4 w0 q S i1 n na nb hx ha hb (h.call hr) (by rw [List.length_append];omega) Kc K hK⟩
 ·rw [hc] at hK
  simp only [Sp.opt,Bool.false_eq_true,if_false,List.append_nil] at hK
  exact c_tx4 w0 q S i1 n na nb hx ha hb h (by omega) Kc K hK
theorem c_tx2 (ht:0≤n.to∧n.to<16) (hu:Sp.yV n.num) (hx:n.text.size≤64) (ha:s_A n.kind≥1→0≤n.a∧A[n.a.toNat]?=some (na:Int)∧na<65537) (hb:s_A n.kind=2→0≤n.b∧A[n.b.toNat]?=some (nb:Int)∧nb<65537) {H:NP} {w:World} {b:Sl} {bs:List UInt8} (h:TxAt w0 w H q L FR s1 r1 A xs B b bs) (hl:bs.length≤600000000)
  (Kc:Sl→Int→NP→WP) (K:Sl→WP) (hK:∀b' H' w',TxAt w0 w' H' q L FR s1 r1 A xs B b' (bs++Sp.opt ((n.kind == 8) || (n.kind == 9)) .to_ n na nb++Sp.opt (n.kind == 2) .num n na nb++Sp.opt (n.kind == 3) .text n na nb++Sp.opt (decide (s_A n.kind≥1)) .fst n na nb++Sp.opt (s_A n.kind == 2) .snd n na nb)→Kc b' (IntKind.i64.wrap (i1+1)) H' w'):m_F_j2 s1 i1 n.kind n.to n.num n.text n.a n.b b w0 H w Kc K:=by
 unfold m_F_j2
 refine ⟨fun hc H4 w13 hs=>?_,fun hc H4 w13 hs=>?_⟩
 ·rw [hc] at hK
  have h':=h.hst S hs
  have e:n.to=((n.to.toNat:Nat):Int):=by omega
  rw [e,yP (by omega)]
  refine (tD b bs n.to.toNat w13 h'.rows.lst (by omega) (by omega)).mono ?_
  rintro _ w16 ⟨r,rfl,hr⟩
  have:=vZ (n:=n.to.toNat) (by omega)
  exact ⟨r,rfl,hr.kept,c_tx3 w0 q S i1 n na nb hu hx ha hb (h'.call hr) (by rw [List.length_append];omega) Kc K hK⟩
 ·rw [hc] at hK
  simp only [Sp.opt,Bool.false_eq_true,if_false,List.append_nil] at hK
  exact c_tx3 w0 q S i1 n na nb hu hx ha hb (h.hst S hs) (by omega) Kc K hK
end
theorem jJZ (q:Addr) (t:Int) (w0:World) {L:Sp.Pool} {FR:NP} (hW:Sp.Wf L) (hN:Sp.uN L) (hP:yB w0 q L FR) :
  Calls prog 166 #[.pointer (some q),.int .i64 t] w0 (fun e w'=>∃r:Sl,e=.returned r.v∧RetO w0 5 1 (byr (yY L t)) r w'):=by
 refine w_F _ _ w0 (fun r w'=>RetO w0 5 1 (byr (yY L t)) r w') ?_
 unfold m_F
 refine (jKC q t w0 hW hP).mono ?_
 rintro _ w1 ⟨r1,rfl,hr1⟩
 have P1:=hP.pure hr1.pure
 have hfew:=Sp.jBQ hW t
 have hsub:∀u∈Sp.subs L t,Sp.inP L u=true:=fun u hu=>have h:=(Sp.jHC hW).1 hu;(Sp.Sub.le hW h.1 h.2).1
 have hord:=Sp.jMO hW t
 have hnd:=Sp.jCN hW t
 have htx:yY L t=vF L [] (Sp.subs L t):=rfl
 rw [htx]
 generalize hxs:Sp.subs L t=xs at *
 have hL:=hW.ok.few
 have hv1:∃v1:Sl,w1.cell? q=some v1.v∧v1.len=L.length:=by
  obtain ⟨sa,sb,sc,h,_⟩:=P1;exact ⟨sa,h.box.cell0,by rw [h.r1.len];simp⟩
 obtain ⟨v1,hv1,hv1l⟩:=hv1
 refine ⟨r1,rfl,hr1.kept,q,rfl,v1,hv1,?_⟩
 rw [hv1l,show IntKind.i64.wrap ((L.length:Int)+1)=((L.length+1:Nat):Int) by rw [i64 (by omega) (by omega)];omega]
 obtain ⟨w2, hmk, hR2, E2⟩ := Rws.make (P := prog) jCP (zr := [.int .i64 0]) (fun i z hi hz => by
   have h1:prog.info? 3=some t3:=by kernel_rfl
   rw [h1] at hi;cases hi;have h2:t3.zero=some (.int .i64 0):=by kernel_rfl
   rw [h2] at hz;cases hz;rfl) (k:=.i64) (k':=.i64) (n:=L.length+1) (by omega) (by simp only [maxLen];omega) w1
 refine ⟨_,w2,hmk,E2.keptP,?_⟩
 generalize hs1e:(Sl.mk (some ⟨w1.heap.size,0,none⟩) (L.length+1) (L.length+1))=s1 at *
 have hs1b:∀x,s1.blk x→x=w1.heap.size:=fun x hx=>by subst hs1e;obtain ⟨a,ha,rfl⟩:=hx;cases ha;rfl
 have hrep:List.replicate (L.length+1) [Value.int .i64 0]=tmr (List.replicate (L.length+1) 0):=by simp [tmr]
 rw [hrep] at hR2
 have z1:=hr1.pure.size
 have z2:=E2.size
 have hs1lt:∀x,s1.blk x→x<w2.heap.size:=fun x hx=>hR2.lt hx
 have hnil:∀b,¬ Sl.nil.blk b:=fun b hb=>by obtain ⟨a,h,_⟩:=hb;cases h
 have S:TxSep w0 q FR s1 r1 w2.heap.size:=⟨fun x hx=>by have:=hP.lt hx;omega,fun x hx=>by have:=hr1.rows.lt hx;omega,fun x hx=>⟨hs1lt x hx,by have:=hs1b x hx;omega,fun hh=>by have:=hP.lt hh;have:=hs1b x hx;omega,fun hh=>by have:=hr1.rows.lt hh;have:=hs1b x hx;omega⟩,by omega⟩
 have T2:TxAt w0 w2 None q L FR s1 r1 (List.replicate (L.length+1) 0) xs w2.heap.size Sl.nil []:=⟨P1.pure E2,hR2,hr1.rows.pure E2,Rws.nil _ _ _,hr1.pure.trans E2,fun x hx=>hx.elim,fun x hx=>(hnil x hx).elim,Nat.le_refl _⟩
 generalize w2.heap.size=B at *
 refine ⟨fun b i H w=>∃(j:Nat) (A:List Int),i=j∧j≤xs.length∧A.length=L.length+1∧(∀u∈xs.take j,A[u.toNat]?=some ((posOf (xs.take j) u:Nat):Int))∧TxAt w0 w H q L FR s1 r1 A xs B b (vF L [] (xs.take j)),fun _ i _=>((xs.length:Int) - i).toNat,⟨0,_,rfl,Nat.zero_le _,by simp,by simp,T2⟩,?_⟩
 rintro b _ Hl wl hst ⟨j,A,rfl,hj,hAl,hA,hT⟩
 unfold m_F_l1
 have hlen:r1.len=xs.length:=by rw [hT.subs.len,qP]
 refine ⟨fun hc=>?_,fun hc=>?_⟩
 ·have hc:=uC hlen hc
  have hzin:=hsub xs[j] (List.getElem_mem _)
  have hz:=Sp.zY.1 hzin
  have hsplit:xs=xs.take j++xs[j] :: xs.drop (j+1):=by rw [← List.drop_eq_getElem_cons hc,List.take_append_drop]
  have hko:=hord _ _ _ hsplit
  have hzn:xs[j] ∉ xs.take j:=by
   rw [hsplit] at hnd;have:=(List.nodup_append.1 hnd).2.2;exact fun h=>this _ h _ (.head _) rfl
  have htk:xs.take (j+1)=xs.take j++[xs[j]]:=List.take_succ_eq_append_getElem hc
  have hbs:=jIO hW hN (xs.take j) [] (fun u hu=>hsub u (List.mem_of_mem_take hu)) (by simp only [List.length_nil,List.length_take];omega)
  have hjl:(xs.take j).length=j:=by rw [List.length_take];omega
  rw [hjl] at hbs
  obtain ⟨k1,k9,f0,f1,t0,t1,x1⟩:=Sp.jCB hW hzin
  have hnum:=hN.node xs[j]
  obtain ⟨a3,hat3,_,hv3⟩:=tU hT.subs.lst hc
  have hnode:∃(v2:Sl) (a4:Addr),wl.cell? q=some v2.v∧FR q.block∧At v2 (IntKind.i64.wrap (xs[j] - 1)) 7 a4∧Row wl a4 (uU (Sp.nodeOf L xs[j]))∧FR a4.block:=by
   obtain ⟨sa,sb,sc,h,hF⟩:=hT.pool;obtain ⟨e,he,⟨a,g1,g2⟩,_⟩:=h.at1 hzin hW.ok;refine ⟨sa,a,h.box.cell0,(hF _).2 (.inl rfl),g1,?_,(hF _).2 (.inr (.inl (jSL g1)))⟩;have:Sp.nodeOf L xs[j]=e.node:=by simp only [Sp.nodeOf,he,Option.map_some,Option.getD_some]
   rw [this];exact g2
  obtain ⟨v2,a4,hv2,hFq,hat4,hrow4,hF4⟩:=hnode
  have hHR:∀x,FR x→¬ Hl x:=fun x hx hh=>by have:=S.lR x hx;have:=(hT.hB x hh).1;omega
  refine ⟨q,rfl,v2,hv2,hHR _ hFq,a3,hat3,_,hv3,fun hh=>by have:=S.lr _ (jSL hat3);have:=(hT.hB _ hh).1;omega,a4,hat4,_,_,_,_,_,_,_,hrow4,hHR _ hF4,a3,hat3,fun H2 w6 hs6=>?_⟩
  have T6:=hT.hst S hs6
  obtain ⟨a3',hat3',_,hv3'⟩:=tU T6.subs.lst hc
  have:a3'=a3:=by
   obtain ⟨_,_,b1,hb1,rfl⟩:=hat3;obtain ⟨_,_,b2,hb2,rfl⟩:=hat3';rw [hb1] at hb2;cases hb2;rfl
  subst this
  obtain ⟨a6,hat6,hb6,hw6,hset⟩:=jVF T6.at_ (k:=xs[j]) (j:=xs[j].toNat) (by omega) (by omega)
  refine ⟨_,hv3',a6,hat6,hw6,fun hh=>by have:=S.ls _ hb6;have:=(T6.hB _ hh).1;omega,?_⟩
  rintro w9 h9
  obtain ⟨hA9,X9⟩:=hset (j:Int)
  rw [← h9] at hA9 X9
  have T9:TxAt w0 w9 H2 q L FR s1 r1 (A.set xs[j].toNat j) xs B b (vF L [] (xs.take j)) :=
   ⟨T6.pool.ext X9 (fun x hx hh=>(S.ls x hh).2.2.1 hx),hA9,T6.subs.ext X9 (fun x hx hh=>(S.ls x hh).2.2.2 hx),T6.rows.ext X9 (fun x hx hh=>by have:=(T6.own x hx).1;have:=(S.ls x hh).1;omega),T6.pure.trans' X9 (fun i hi hh=>by have:=(S.ls i hh).2.1;omega),fun x hx=>⟨(T6.hB x hx).1,by have:=(T6.hB x hx).2;have:=X9.size;omega⟩,T6.own,by have:=T6.lt;have:=X9.size;omega⟩
  generalize hz':xs[j]=z at *
  have hnt:yR L (xs.take j) z=UInt8.ofNat (Sp.nodeOf L z).kind.toNat :: (uV (Sp.nodeOf L z).kind).flatMap (Fld.bytes (Sp.nodeOf L z) (posOf (xs.take j) (Sp.nodeOf L z).a) (posOf (xs.take j) (Sp.nodeOf L z).b)):=rfl
  rw [jTX _ _ _ k1 k9] at hnt
  have hkin:∀u∈Sp.zI (Sp.nodeOf L z),0≤u∧(A.set z.toNat (j:Int))[u.toNat]?=some ((posOf (xs.take j) u:Nat):Int)∧posOf (xs.take j) u<65537:=fun u hu=>by
   have hm:=hko u hu;have hin:=Sp.zY.1 (hsub u (List.mem_of_mem_take hm));refine ⟨by omega,?_,by have:=jBZ (xs.take j) u;rw [hjl] at this;omega⟩;rw [List.getElem?_set_ne (fun e=>hzn (by rw [show z=u by omega];exact hm))];exact hA u hm
  have hA':∀u∈xs.take (j+1),(A.set z.toNat (j:Int))[u.toNat]?=some ((posOf (xs.take (j+1)) u:Nat):Int):=fun u hu=>by
   rw [htk] at hu ⊢;rcases List.mem_append.1 hu with hu | hu
   ·rw [jEX hu,List.getElem?_set_ne (fun e=>hzn (by have:=Sp.zY.1 (hsub u (List.mem_of_mem_take hu));rw [show z=u by omega];exact hu))];exact hA u hu
   ·rw [List.mem_singleton] at hu;subst hu;rw [jBY hzn,hjl,List.getElem?_set_self (by omega)]
  have hlA':(A.set z.toNat (j:Int)).length=L.length+1:=by rw [List.length_set];exact hAl
  have htxt:vF L [] (xs.take (j+1))=vF L [] (xs.take j)++yR L (xs.take j) z:=by rw [htk,jBP,List.nil_append]
  rw [hnt] at htxt
  generalize hnz:Sp.nodeOf L z=n at *
  obtain ⟨kn,hkn⟩:∃kn:Nat,n.kind=kn:=⟨n.kind.toNat,by omega⟩
  intro p5 w10 h10
  have E10:Pure w9 w10:=Ext.new h10
  rw [hkn,jGY] at h10
  obtain ⟨s2,w11,hr11,hR11,X11,hb11⟩:=(T9.rows.pure E10).append (P:=prog) (ty:=65) (c:=1) jGC (Box.of_newA h10).row rfl rfl (by rw [qR];omega) (by rw [qR];simp only [maxLen];omega)
  have z10:=E10.size
  have z11:=X11.size
  have nb:∀x,x<B→¬ b.blk x:=fun x hx hh=>by have:=(T9.own x hh).1;omega
  have T11:TxAt w0 w11 H2 q L FR s1 r1 (A.set z.toNat j) xs B s2 (vF L [] (xs.take j)++[UInt8.ofNat kn]) :=
   ⟨(T9.pool.pure E10).ext X11 (fun x hx hh=>nb x (S.lR x hx) hh),(T9.at_.pure E10).ext X11 (fun x hx hh=>nb x (S.ls x hx).1 hh),(T9.subs.pure E10).ext X11 (fun x hx hh=>nb x (S.lr x hx) hh),by rw [jME];exact hR11,(T9.pure.trans E10).trans' X11 (fun i hi hh=>by have:=(T9.own i hh).1;have:=S.base;omega),fun x hx=>⟨(T9.hB x hx).1,by have:=(T9.hB x hx).2;omega⟩,fun x hx=>⟨(hb11 x hx).elim (fun h=>(T9.own x h).1) (fun h=>by have:=T9.lt;omega),(hb11 x hx).elim (fun h=>(T9.own x h).2) (fun h hh=>by have:=(T9.hB x hh).2;omega)⟩,by have:=T9.lt;omega⟩
  refine ⟨s2,w11,hr11,X11.kept (fun x hx hh=>(T9.own x hh).2 hx),?_⟩
  have hcn:n.kind.toNat=kn:=by omega
  rw [hcn] at htxt
  have hfin : ∀ (b' : Sl) (H' : NP) (w' : World), TxAt w0 w' H' q L FR s1 r1 (A.set z.toNat j) xs B b' (vF L [] (xs.take j) ++ [UInt8.ofNat kn] ++ Sp.opt (s_C1 n.kind) .from_ n (posOf (xs.take j) n.a) (posOf (xs.take j) n.b) ++ Sp.opt ((n.kind == 8) || (n.kind == 9)) .to_ n (posOf (xs.take j) n.a) (posOf (xs.take j) n.b) ++ Sp.opt (n.kind == 2) .num n (posOf (xs.take j) n.a) (posOf (xs.take j) n.b) ++ Sp.opt (n.kind == 3) .text n (posOf (xs.take j) n.a) (posOf (xs.take j) n.b) ++ Sp.opt (decide (s_A n.kind ≥ 1)) .fst n (posOf (xs.take j) n.a) (posOf (xs.take j) n.b) ++ Sp.opt (s_A n.kind == 2) .snd n (posOf (xs.take j) n.a) (posOf (xs.take j) n.b)) →
    (∃(j':Nat) (A':List Int),IntKind.i64.wrap ((j:Int)+1)=j'∧j'≤xs.length∧A'.length=L.length+1∧(∀u∈xs.take j',A'[u.toNat]?=some ((posOf (xs.take j') u:Nat):Int))∧TxAt w0 w' H' q L FR s1 r1 A' xs B b' (vF L [] (xs.take j')))∧((xs.length:Int) - IntKind.i64.wrap ((j:Int)+1)).toNat<((xs.length:Int) - (j:Int)).toNat:=fun b' H' w' h=>by
   refine ⟨⟨j+1,_,vV hc (by omega),hc,hlA',hA',?_⟩,by rw [vV hc (by omega)];exact jCE hc⟩
   rw [htxt]
   simpa using h
  have hfstk:s_A n.kind≥1→0≤n.a∧(A.set z.toNat (j:Int))[n.a.toNat]?=some ((posOf (xs.take j) n.a:Nat):Int)∧posOf (xs.take j) n.a<65537:=fun h=>hkin _ (jTS h)
  have hsndk:s_A n.kind=2→0≤n.b∧(A.set z.toNat (j:Int))[n.b.toNat]?=some ((posOf (xs.take j) n.b:Nat):Int)∧posOf (xs.take j) n.b<65537:=fun h=>hkin _ (jTR h)
  refine ⟨fun hcn w12 hs12=>?_,fun hcn w12 hs12=>?_⟩
  ·have T12:=T11.hst S hs12
   have e:n.frm=((n.frm.toNat:Nat):Int):=by omega
   rw [e,yP (by omega)]
   refine (tD s2 _ n.frm.toNat w12 T12.rows.lst (by rw [List.length_append,List.length_singleton];omega) (by omega)).mono ?_
   rintro _ w16 ⟨r,rfl,hr⟩
   have:=vZ (n:=n.frm.toNat) (by omega)
   refine ⟨r,rfl,hr.kept,?_⟩
   refine c_tx2 w0 q S j n (posOf (xs.take j) n.a) (posOf (xs.take j) n.b) ⟨t0,t1⟩ hnum x1 hfstk hsndk (T12.call hr) (by rw [List.length_append,List.length_append,List.length_singleton];omega) _ _ (fun b' H' w' h=>hfin b' H' w' ?_)
   rw [hcn];exact h
  ·have T12:=T11.hst S hs12
   refine c_tx2 w0 q S j n (posOf (xs.take j) n.a) (posOf (xs.take j) n.b) ⟨t0,t1⟩ hnum x1 hfstk hsndk T12 (by rw [List.length_append,List.length_singleton];omega) _ _ (fun b' H' w' h=>hfin b' H' w' ?_)
   rw [hcn]
   simp only [Sp.opt,Bool.false_eq_true,if_false,List.append_nil] at h ⊢
   exact h
 ·have hc:=xU hlen hj hc
  subst hc
  rw [List.take_length] at hT
  exact ⟨hT.rows,fun x hx=>by have:=(hT.own x hx).1;have:=S.base;omega,hT.pure⟩
theorem jFT (q:Addr) (t:Int) (w0:World) {L:Sp.Pool} {FR:NP} (hW:Sp.Wf L) (hN:Sp.uN L) (hP:yB w0 q L FR) :
  Calls prog 108 #[.pointer (some q),.int .i64 t] w0 (fun e w'=>∃r:Sl,∃n:Int,e=.returned (.tuple #[r.v,.int .i64 n])∧(n=(jKS L t).2∧RetO w0 5 1 (byr (jKS L t).1) r w')):=by
 refine w_X2 _ _ w0 (fun r n w'=>n=(jKS L t).2∧RetO w0 5 1 (byr (jKS L t).1) r w') ?_
 unfold m_X2
 have hnil:∀b,¬ Sl.nil.blk b:=fun b hb=>by obtain ⟨a,h,_⟩:=hb;cases h
 refine (xK q t w0 hP).mono ?_
 rintro _ _ ⟨_,rfl,rfl,rfl⟩
 refine ⟨_,rfl,fun hc=>?_,fun hc=>?_⟩
 ·have hin:Sp.inP L t=false:=by simpa using hc
  have e:jKS L t=([],51):=by unfold jKS;rw [hin];rfl
  rw [e]
  exact ⟨rfl,Rws.nil _ _ _,fun b hb=>(hnil b hb).elim,Ext.refl _⟩
 ·have hin:Sp.inP L t=true:=by simpa using hc
  refine (jJZ q t _ hW hN hP).mono ?_
  rintro _ w4 ⟨r2,rfl,h⟩
  have hl:r2.len=(yY L t).length:=by rw [h.rows.len,qR]
  refine ⟨r2,rfl,fun hc=>?_,fun hc=>?_⟩
  ·have hc:=of_decide_eq_true hc
   have e:jKS L t=([],1):=by unfold jKS;rw [hin,if_pos rfl,if_pos (by omega)]
   rw [e]
   exact ⟨rfl,Rws.nil _ _ _,fun b hb=>(hnil b hb).elim,h.pure⟩
  ·have hc:=of_decide_eq_false hc
   have e:jKS L t=(yY L t,0):=by unfold jKS;rw [hin,if_pos rfl,if_neg (by omega)]
   rw [e]
   exact ⟨rfl,h⟩
end Go.Proofs
end
section
open Go Go.SE
namespace Go.Sp
theorem uT {L:Pool} (h:Wf L) (l:Letter):Wf (Go.Proofs.zW L l).2.2:=by
 unfold Go.Proofs.zW;split
 ·exact h
 ·exact of_wf h _
end Go.Sp
end
section
open Go Go.SE
namespace Go.Sp
open Go.Proofs
def yX (l:Letter):List UInt8×Int:=if (zW [] l).2.1≠0 then ([],(zW [] l).2.1) else jKS (zW [] l).2.2 (zW [] l).1
def jQF (l:Letter):ByteArray:=⟨(yX l).1.toArray⟩
theorem lD {k f t u:Int} {x:ByteArray} {a:Tree} (h:yV u) (ha:NumT a):NumT (.mk k f t u x [a]):=.mk _ _ _ _ _ _ h (fun i hi=>by
 have:i=0:=by simpa using hi
 subst this;exact ha)
theorem lC {k f t u:Int} {x:ByteArray} {a b:Tree} (h:yV u) (ha:NumT a) (hb:NumT b):NumT (.mk k f t u x [a,b]):=.mk _ _ _ _ _ _ h (fun i hi=>by
 have:i=0∨i=1:=by simp at hi;omega
 rcases this with rfl | rfl
 ·exact ha
 ·exact hb)
theorem yF {k f t u:Int} {x:ByteArray} (h:yV u):NumT (.mk k f t u x []):=.mk _ _ _ _ _ _ h (fun i hi=>by simp at hi)
theorem jDS:yV 0:=⟨by decide,by decide⟩
theorem jQX {c:Int} {x:ByteArray} (h:yV c):NumT (qG c x):=lC jDS (yF jDS) (lC jDS (yF h) (yF jDS))
theorem jLL {l:Letter} (h:yV l.c) (a b:Bool):NumT (vD l a b):=by
 unfold vD;have hd:=jQX (x:=l.text) h;split;· exact lD jDS hd
 split;· exact lD jDS hd
 split;· exact lD jDS (lC jDS (yF jDS) (yF h))
 split;· exact lD jDS (lC jDS (yF jDS) (lC jDS (lD jDS hd) (lD jDS hd)))
 split;· exact lD jDS (lC jDS (yF jDS) (yF h))
 split;· exact lD jDS (lC jDS (yF jDS) hd)
 exact lC jDS (yF jDS) (yF h)
theorem tI {L:Pool} (hN:uN L) {l:Letter} (h:yV l.c):uN (zW L l).2.2:=by
 unfold zW;split
 ·exact hN
 ·exact hN.of (jLL h _ _)
theorem jAN {L:Pool} (hok:Ok L) (l:Letter):∃M,(zW L l).2.2=L++M:=by
 unfold zW;split
 ·exact ⟨[],(List.append_nil L).symm⟩
 ·exact jTL hok _
end Go.Sp
end
section
open Go Go.SE
namespace Go.Sp
open Go.Proofs
open Classical in
noncomputable def yW (G:List Int):List Letter→Pool→Int×Pool
 | [],L=>(0,L)
 | l :: ls,L=>if (zW L l).2.1=0∧Drv (zW L l).2.2 (Seen (zW L l).2.2 G) (zW L l).1 then ((zW L l).1,(zW L l).2.2) else yW G ls (zW L l).2.2
def evs (who c:Int) (x:ByteArray):List Letter:=[⟨2,who,c,x,false⟩,⟨6,0,c,x,false⟩]
noncomputable def xC (L:Pool) (G:List Int) (who c:Int) (x:ByteArray):Int×Pool:=if uJ who=true then yW G (evs who c x) L else (0,L)
open Classical in
noncomputable def keyS (L:Pool) (G:List Int) (n:Int):Bool:=match find L (vJ n) with | some i=>decide (Seen L G ((i:Int)+1)) | none=>false
noncomputable def jFR (L:Pool) (G:List Int) (who:Int):Bool:=uJ who && (keyS L G who || keyS L G 2)
end Go.Sp
end
section
open Go Go.SE
open Go.IntKind renaming i64 → q6
namespace Go.Proofs
open Tryz
set_option maxRecDepth 100000
set_option maxHeartbeats 4000000
attribute [local irreducible] wpL wpX opE wpE Calls
def m_P4 (aN aO aP:Int) (aQ:ByteArray) (aR:Bool) (w0:World) (K:ByteArray→WP):Prop :=∀(H1:NP) (w1:World),Hst w0 None w0 H1 w1→Calls prog 48 #[(.agg #[(vi aN),(vi aO),(vu aP),(vs aQ),(vb aR)])] w1 (fun e w2=>∃r1:Sl,∃r2:Int,e=.returned (.tuple #[r1.v,(vi r2)])∧Kept H1 w1 w2∧∃c1:ByteArray,(convert 65 9 r1.v).run prog w2=.ok (vs c1) w2∧K c1 w2)
theorem w_P4 (aN aO aP:Int) (aQ:ByteArray) (aR:Bool) (w0:World) (K:ByteArray→WP) (h:m_P4 aN aO aP aQ aR w0 K) :
  Calls prog 12 #[(.agg #[(vi aN),(vi aO),(vu aP),(vs aQ),(vb aR)])] w0 (fun e w'=>∃r3:ByteArray,e=.returned (vs r3)∧K r3 w'):=by
 unfold m_P4 at h
 refine cw (args:=[(.agg #[(vi aN),(vi aO),(vu aP),(vs aQ),(vb aR)])]) func12 ntmps12 ?_
 have hs:=Hst.start w0
 have hb:=HB.nil None w0
 refine eg (sn (O:=(.cells #[(vi aN),(vi aO),(vu aP),(vs aQ),(vb aR)] 30)) xb ?_)
 intro p1 w1 hn1
 obtain ⟨H1,hs,hb⟩:=hs.alloc hb hn1
 refine q0 ve (ln (eg (q2 (.agg #[(vi aN),(vi aO),(vu aP),(vs aQ),(vb aR)]) (xa p1 [(vi aN),(vi aO),(vu aP),(vs aQ),(vb aR)] (isAgg30 _) (sizeOf30 _) (hb.r0 0 5 gZ)) ?_)))
 have h:=h H1 w1 hs
 have hs:=hs.here
 refine sc call48 (h.mono ?_)
 rintro e w2 ⟨r1,r2,rfl,hk,h⟩
 refine ⟨_,rfl,?_⟩
 obtain ⟨hs,hb⟩:=hk.hh hs hb
 refine q0 (.tuple #[r1.v,(vi r2)]) (q0 r1.v (q0 (vi r2) (q0 r1.v (q0 (vi r2) (ln (eg (q0 r1.v ?_)))))))
 obtain ⟨c1,hv1,h⟩:=h
 refine q2 (vs c1) (jEF (by kernel_rfl) hv1) (q0 (vs c1) (ln (er (rs1 results12 (v:=(vs c1)) ?_))))
 exact ⟨c1,rfl,h⟩
def s_Z1 (e1:Int):Int :=e1
theorem pw_Z1 (e1:Int) (w0:World) :
  Calls prog 22 #[(vi e1)] w0 (fun e w'=>(e=.returned (vi e1))∧Pure w0 w'):=by
 refine cw (args:=[(vi e1)]) func22 ntmps22 (eg (q0 (vi 0) (ln (eg (q0 (vi e1) (q0 (vi e1) (ln ?_)))))))
 refine er (rs1 results22 (v:=(vi e1)) ?_)
 exact ⟨by kernel_rfl,Ext.refl _⟩
theorem p_Z1 (e1:Int) (w0:World):Calls prog 22 #[(.int .i64 e1)] w0 (fun e w'=>e=.returned (.int .i64 (s_Z1 e1))∧Pure w0 w'):=pw_Z1 e1 w0
def m_H_j5 (r1:Option Addr) (x4:Bool) (H:NP) (w:World) (K:Bool→WP):Prop :=Br x4 (Calls prog 14 #[(vp r1),(.agg #[(vi 0),(vu 9),(vs (⟨#[120]⟩:ByteArray))])] w (fun e w2=>∃r2:Bool,e=.returned (vb r2)∧Kept H w w2∧K r2 w2)) (K false w)
def m_H_j4 (r1:Option Addr) (x3:Bool) (H:NP) (w:World) (K:Bool→WP):Prop :=Br x3 (Calls prog 15 #[(vp r1),(vi 0)] w (fun e w3=>∃r3:Bool,e=.returned (vb r3)∧Kept H w w3∧m_H_j5 r1 r3 H w3 K)) (m_H_j5 r1 false H w K)
def m_H_j3 (r1:Option Addr) (x2:Bool) (w0:World) (H:NP) (w:World) (K:Bool→WP):Prop :=Br x2 (Calls prog 13 #[(vp r1),(vi 2)] w (fun e w4=>∃r4:Int,e=.returned (vi r4)∧Kept H w w4∧∀(w5:World),Hst w0 H w4 H w5→m_H_j4 r1 (r4 == 2) H w5 K)) (m_H_j4 r1 false H w K)
def m_H_j2 (r1:Option Addr) (a1:Bool) (w0:World) (H:NP) (w:World) (K:Bool→WP):Prop :=Br a1 (Calls prog 13 #[(vp r1),(vi 0)] w (fun e w6=>∃r5:Int,e=.returned (vi r5)∧Kept H w w6∧∀(w7:World),Hst w0 H w6 H w7→m_H_j3 r1 (r5 == 0) w0 H w7 K)) (m_H_j3 r1 false w0 H w K)
def m_H_j6 (r1:Option Addr) (x5:Bool) (w0:World) (H:NP) (w:World) (K:Bool→WP):Prop :=Br x5 (Calls prog 15 #[(vp r1),(vi 1)] w (fun e w9=>∃r7:Bool,e=.returned (vb r7)∧Kept H w w9∧m_H_j2 r1 (!r7) w0 H w9 K)) (m_H_j2 r1 false w0 H w K)
def m_H_j1 (r1:Option Addr) (x1:Bool) (w0:World) (H:NP) (w:World) (K:Bool→WP):Prop :=Br x1 (K false w) (Calls prog 14 #[(vp r1),(.agg #[(vi 1),(vu 7),(vs (⟨#[116]⟩:ByteArray))])] w (fun e w8=>∃r6:Bool,e=.returned (vb r6)∧Kept H w w8∧Br r6 (Calls prog 14 #[(vp r1),(.agg #[(vi 0),(vu 7),(vs (⟨#[116]⟩:ByteArray))])] w8 (fun e w10=>∃r8:Bool,e=.returned (vb r8)∧Kept H w8 w10∧m_H_j6 r1 (!r8) w0 H w10 K)) (m_H_j6 r1 false w0 H w8 K)))
def m_H  (w0:World) (K:Bool→WP):Prop :=Calls prog 10 #[] w0 (fun e w1=>∃r1:Option Addr,e=.returned (vp r1)∧Kept None w0 w1∧Br (Option.isNone r1) (K false w1) (Calls prog 12 #[(.agg #[(vi 2),(vi 1),(vu 7),(vs (⟨#[116]⟩:ByteArray)),(vb false)])] w1 (fun e w11=>∃r9:ByteArray,e=.returned (vs r9)∧Kept None w1 w11∧Calls prog 11 #[(vp r1),(vs r9)] w11 (fun e w12=>∃r10:Bool,e=.returned (vb r10)∧Kept None w11 w12∧Br (!r10) (m_H_j1 r1 true w0 None w12 K) (Calls prog 11 #[(vp r1),(vs (⟨#[120]⟩:ByteArray))] w12 (fun e w13=>∃r11:Bool,e=.returned (vb r11)∧Kept None w12 w13∧m_H_j1 r1 r11 w0 None w13 K))))))
theorem w_H  (w0:World) (K:Bool→WP) (h:m_H  w0 K) :
  Calls prog 9 #[] w0 (fun e w'=>∃r12:Bool,e=.returned (vb r12)∧K r12 w'):=by
 unfold m_H at h
 refine cw (args:=[]) func9 ntmps9 ?_
 have hs:=Hst.start w0
 have hb:=HB.nil None w0
 refine eg (q0 (vb false) (ln (eg ?_)))
 refine sc call10 (h.mono ?_)
 rintro e w1 ⟨r1,rfl,hk,h⟩
 refine ⟨_,rfl,?_⟩
 obtain ⟨hs,hb⟩:=hk.hh hs hb
 refine q0 (vp r1) (ln (zA (eg (q0 (vp r1) (q2 (vb (Option.isNone r1)) (qL (by kernel_rfl) rfl underlying27) (ln ?_))))))
 refine zB (t:=(Option.isNone r1)) (by kernel_rfl) (fun hc1=>?_) (fun hc1=>?_)
 have h:=h.1 hc1
 refine eg (q0 (vb false) (ln (er (vL (rs1 results9 (v:=(vb false)) ?_)))))
 exact ⟨false,rfl,h⟩
 have h:=h.2 hc1
 refine zC (zN (zA (zA ?_)))
 refine vI (fun ρ w=>∃x1:Bool,∃H:NP,Has ρ [(1,(vp r1)),(14,(vb x1))]∧Hst w0 H w H w∧HB H w []∧m_H_j1 r1 x1 w0 H w K) ?_ ?_
 rintro ρ w ⟨x1,H,hH,hs,hb,h⟩
 unfold m_H_j1 at h
 refine vC hH ?_
 refine zB (t:=x1) (by kernel_rfl) (fun hc2=>?_) (fun hc2=>?_)
 have h:=h.1 hc2
 refine eg (q0 (vb false) (ln (er (vL (rs1 results9 (v:=(vb false)) ?_)))))
 exact ⟨false,rfl,h⟩
 have h:=h.2 hc2
 refine zC (zN (zA ?_))
 refine vI (fun ρ w=>∃a1:Bool,∃H:NP,Has ρ [(1,(vp r1)),(2,(vb a1))]∧Hst w0 H w H w∧HB H w []∧m_H_j2 r1 a1 w0 H w K) ?_ ?_
 rintro ρ w ⟨a1,H,hH,hs,hb,h⟩
 unfold m_H_j2 at h
 refine vC hH ?_
 refine eg (q0 (vb a1) (q0 (vb a1) ?_))
 refine zL 5 (fun ρ w=>∃x2:Bool,∃H:NP,Has ρ [(1,(vp r1)),(35,(vb x2))]∧Hst w0 H w H w∧HB H w []∧m_H_j3 r1 x2 w0 H w K) ?_ ?_
 rintro ρ w ⟨x2,H,hH,hs,hb,h⟩
 unfold m_H_j3 at h
 refine zU hH ?_
 refine q0 (vb x2) ?_
 refine zL 5 (fun ρ w=>∃x3:Bool,∃H:NP,Has ρ [(1,(vp r1)),(41,(vb x3))]∧Hst w0 H w H w∧HB H w []∧m_H_j4 r1 x3 H w K) ?_ ?_
 rintro ρ w ⟨x3,H,hH,hs,hb,h⟩
 unfold m_H_j4 at h
 refine zU hH ?_
 refine q0 (vb x3) ?_
 refine zL 3 (fun ρ w=>∃x4:Bool,∃H:NP,Has ρ [(1,(vp r1)),(45,(vb x4))]∧Hst w0 H w H w∧HB H w []∧m_H_j5 r1 x4 H w K) ?_ ?_
 rintro ρ w ⟨x4,H,hH,hs,hb,h⟩
 unfold m_H_j5 at h
 refine zU hH ?_
 refine q0 (vb x4) ?_
 rcases bte x4 with hg1 | hg1
 have h:=h.1 hg1
 refine q1 (vp r1) (wy 46 hg1) (q1 (.agg #[(vi 0),(vu 9),(vs (⟨#[120]⟩:ByteArray))]) (wy 46 hg1) ?_)
 refine vG (wy 46 hg1) (xc call14) (h.mono ?_)
 rintro e w2 ⟨r2,rfl,hk,h⟩
 refine ⟨_,rfl,?_⟩
 obtain ⟨hs,hb⟩:=hk.hh hs hb
 refine q2 (vb r2) (xT hg1) (q0 (vb r2) (ln (er (rs1 results9 (v:=(vb r2)) ?_))))
 exact ⟨r2,rfl,h⟩
 have h:=h.2 hg1
 refine sk (yD 46 hg1) (sk (yD 46 hg1) (sk (yD 46 hg1) (q2 (vb false) (xF hg1) (q0 (vb false) (ln (er (rs1 results9 (v:=(vb false)) ?_)))))))
 exact ⟨false,rfl,h⟩
 rcases bte x3 with hg2 | hg2
 have h:=h.1 hg2
 refine q1 (vp r1) (wy 42 hg2) ?_
 refine vG (wy 42 hg2) (xc call15) (h.mono ?_)
 rintro e w3 ⟨r3,rfl,hk,h⟩
 refine ⟨_,rfl,?_⟩
 obtain ⟨hs,hb⟩:=hk.hh hs hb
 refine q2 (vb r3) (xT hg2) (zD ?_)
 exact ⟨r3,H,hm,hs,hb,h⟩
 have h:=h.2 hg2
 refine sk (yD 42 hg2) (sk (yD 42 hg2) (q2 (vb false) (xF hg2) (zD ?_)))
 exact ⟨false,H,hm,hs,hb,h⟩
 rcases bte x2 with hg3 | hg3
 have h:=h.1 hg3
 refine q1 (vp r1) (wy 36 hg3) ?_
 refine vG (wy 36 hg3) (xc call13) (h.mono ?_)
 rintro e w4 ⟨r4,rfl,hk,h⟩
 refine ⟨_,rfl,?_⟩
 obtain ⟨hs,hb⟩:=hk.hh hs hb
 refine vG (wy 36 hg3) (xc call22) ((p_Z1 r4 w4).mono ?_)
 rintro e w5 ⟨he,hE⟩
 refine ⟨(vi r4),he.trans (by kernel_rfl),?_⟩
 have hs:=hs.pure hE
 have hb:=hb.pure hE
 refine q1 (vb (r4 == 2)) (wy 36 hg3) (q2 (vb (r4 == 2)) (xT hg3) (zD ?_))
 have h:=h w5 hs
 have hs:=hs.here
 exact ⟨(r4 == 2),H,hm,hs,hb,h⟩
 have h:=h.2 hg3
 refine sk (yD 36 hg3) (sk (yD 36 hg3) (sk (yD 36 hg3) (sk (yD 36 hg3) (q2 (vb false) (xF hg3) (zD ?_)))))
 exact ⟨false,H,hm,hs,hb,h⟩
 rcases bte a1 with hg4 | hg4
 have h:=h.1 hg4
 refine q1 (vp r1) (wy 30 hg4) ?_
 refine vG (wy 30 hg4) (xc call13) (h.mono ?_)
 rintro e w6 ⟨r5,rfl,hk,h⟩
 refine ⟨_,rfl,?_⟩
 obtain ⟨hs,hb⟩:=hk.hh hs hb
 refine vG (wy 30 hg4) (xc call22) ((p_Z1 r5 w6).mono ?_)
 rintro e w7 ⟨he,hE⟩
 refine ⟨(vi r5),he.trans (by kernel_rfl),?_⟩
 have hs:=hs.pure hE
 have hb:=hb.pure hE
 refine q1 (vb (r5 == 0)) (wy 30 hg4) (q2 (vb (r5 == 0)) (xT hg4) (zD ?_))
 have h:=h w7 hs
 have hs:=hs.here
 exact ⟨(r5 == 0),H,hm,hs,hb,h⟩
 have h:=h.2 hg4
 refine sk (yD 30 hg4) (sk (yD 30 hg4) (sk (yD 30 hg4) (sk (yD 30 hg4) (q2 (vb false) (xF hg4) (zD ?_)))))
 exact ⟨false,H,hm,hs,hb,h⟩
 refine rg (q0 (vp r1) (q0 (.agg #[(vi 1),(vu 7),(vs (⟨#[116]⟩:ByteArray))]) ?_))
 refine sc call14 (h.mono ?_)
 rintro e w8 ⟨r6,rfl,hk,h⟩
 refine ⟨_,rfl,?_⟩
 obtain ⟨hs,hb⟩:=hk.hh hs hb
 refine q0 (vb r6) ?_
 refine zL 5 (fun ρ w=>∃x5:Bool,∃H:NP,Has ρ [(1,(vp r1)),(23,(vb x5))]∧Hst w0 H w H w∧HB H w []∧m_H_j6 r1 x5 w0 H w K) ?_ ?_
 rintro ρ w ⟨x5,H,hH,hs,hb,h⟩
 unfold m_H_j6 at h
 refine zU hH ?_
 refine q0 (vb x5) ?_
 rcases bte x5 with hg5 | hg5
 have h:=h.1 hg5
 refine q1 (vp r1) (wy 24 hg5) ?_
 refine vG (wy 24 hg5) (xc call15) (h.mono ?_)
 rintro e w9 ⟨r7,rfl,hk,h⟩
 refine ⟨_,rfl,?_⟩
 obtain ⟨hs,hb⟩:=hk.hh hs hb
 refine q1 (vb (!r7)) (wy 24 hg5) (q2 (vb (!r7)) (xT hg5) (q0 (vb (!r7)) (ln ?_)))
 exact ⟨(!r7),H,hm,hs,hb,h⟩
 have h:=h.2 hg5
 refine sk (yD 24 hg5) (sk (yD 24 hg5) (sk (yD 24 hg5) (q2 (vb false) (xF hg5) (q0 (vb false) (ln ?_)))))
 exact ⟨false,H,hm,hs,hb,h⟩
 rcases bte r6 with hg6 | hg6
 have h:=h.1 hg6
 refine q1 (vp r1) (wy 18 hg6) (q1 (.agg #[(vi 0),(vu 7),(vs (⟨#[116]⟩:ByteArray))]) (wy 18 hg6) ?_)
 refine vG (wy 18 hg6) (xc call14) (h.mono ?_)
 rintro e w10 ⟨r8,rfl,hk,h⟩
 refine ⟨_,rfl,?_⟩
 obtain ⟨hs,hb⟩:=hk.hh hs hb
 refine q1 (vb (!r8)) (wy 18 hg6) (q2 (vb (!r8)) (xT hg6) (zD ?_))
 exact ⟨(!r8),H,hm,hs,hb,h⟩
 have h:=h.2 hg6
 refine sk (yD 18 hg6) (sk (yD 18 hg6) (sk (yD 18 hg6) (sk (yD 18 hg6) (q2 (vb false) (xF hg6) (zD ?_)))))
 exact ⟨false,H,hm,hs,hb,h⟩
 refine rg (q0 (vp r1) (q0 (.agg #[(vi 2),(vi 1),(vu 7),(vs (⟨#[116]⟩:ByteArray)),(vb false)]) ?_))
 refine sc call12 (h.mono ?_)
 rintro e w11 ⟨r9,rfl,hk,h⟩
 refine ⟨_,rfl,?_⟩
 obtain ⟨hs,hb⟩:=hk.hh hs hb
 refine sc call11 (h.mono ?_)
 rintro e w12 ⟨r10,rfl,hk,h⟩
 refine ⟨_,rfl,?_⟩
 obtain ⟨hs,hb⟩:=hk.hh hs hb
 refine q0 (vb (!r10)) (q0 (vb (!r10)) ?_)
 rcases bte (!r10) with hg7 | hg7
 have h:=h.1 hg7
 refine sk (yD 11 hg7) (sk (yD 11 hg7) (q2 (vb true) (xT hg7) (ln ?_)))
 exact ⟨true,None,hm,hs,hb,h⟩
 have h:=h.2 hg7
 refine q1 (vp r1) (wy 11 hg7) ?_
 refine vG (wy 11 hg7) (xc call11) (h.mono ?_)
 rintro e w13 ⟨r11,rfl,hk,h⟩
 refine ⟨_,rfl,?_⟩
 obtain ⟨hs,hb⟩:=hk.hh hs hb
 refine q2 (vb r11) (xF hg7) (ln ?_)
 exact ⟨r11,None,hm,hs,hb,h⟩
theorem yM (a0 a1 a2:Int) (a3:ByteArray) (a4:Bool) (b0 b1 b2:Int) (b3:ByteArray) (b4:Bool) (w:World):(Go.binOp .eql 30 (.agg #[(.int .i64 a0),(.int .i64 a1),(.int .u64 a2),(.string a3),(.bool a4)]) (.agg #[(.int .i64 b0),(.int .i64 b1),(.int .u64 b2),(.string b3),(.bool b4)])).run prog w=.ok (.bool ((a0 == b0) && ((a1 == b1) && ((a2 == b2) && ((decide (a3=b3)) && (a4 == b4)))))) w:=by
 simp [Go.binOp,Op.equal,Op.maxDepth,go_sem,jOB,bne]
 repeat' split
 all_goals simp_all
theorem lL (a0 b0:Bool) (w:World):(Go.binOp .eql 4 (.bool a0) (.bool b0)).run prog w=.ok (.bool (a0 == b0)) w:=by
 simp [Go.binOp,Op.equal,Op.maxDepth,go_sem,jOB,bne]
def m_I_j2 (i1:Int) (bound2:Bool) (H:NP) (w:World) (Kc1:Bool→Int→NP→WP) (_K:Bool→WP):Prop :=Kc1 bound2 (q6.wrap (i1+1)) H w
def m_I_j4 (x1:Bool) (H:NP) (w:World) (K:Bool→WP):Prop :=Br x1 (Calls prog 9 #[] w (fun e w12=>∃r7:Bool,e=.returned (vb r7)∧Kept H w w12∧K r7 w12)) (K false w)
def m_I_j3 (aA aB:Int) (aC:ByteArray) (r2:Option Addr) (bound1:Bool) (H:NP) (w:World) (K:Bool→WP):Prop :=Calls prog 14 #[(vp r2),(.agg #[(vi aA),(vu aB),(vs aC)])] w (fun e w11=>∃r6:Bool,e=.returned (vb r6)∧Kept H w w11∧Br (r6 == bound1) (Calls prog 15 #[(vp r2),(vi aA)] w11 (fun e w13=>∃r8:Bool,e=.returned (vb r8)∧Kept H w11 w13∧m_I_j4 (!r8) H w13 K)) (m_I_j4 false H w11 K))
def m_I_l1 (l1:Sl) (other1 aA aB:Int) (aC:ByteArray) (r2:Option Addr) (bound1:Bool) (i1:Int) (w0:World) (Hl1:NP) (wl1:World) (Kc1:Bool→Int→NP→WP) (K:Bool→WP):Prop :=Br (decide (i1<(l1.len:Int))) (∃a1:Addr,At l1 i1 5 a1∧∃v1:ByteArray,wl1.cell? (a1.add 3)=some (vs v1)∧Br (decide ((v1.size:Int)>64)) (Calls prog 9 #[] wl1 (fun e w7=>∃r3:Bool,e=.returned (vb r3)∧Kept Hl1 wl1 w7∧K r3 w7)) (∃a2:Addr,At l1 i1 5 a2∧∃aS aT aU:Int,∃aV:ByteArray,∃aW:Bool,Row wl1 a2 [(vi aS),(vi aT),(vu aU),(vs aV),(vb aW)]∧Calls prog 12 #[(.agg #[(vi aS),(vi aT),(vu aU),(vs aV),(vb aW)])] wl1 (fun e w8=>∃r4:ByteArray,e=.returned (vs r4)∧Kept Hl1 wl1 w8∧Calls prog 11 #[(vp r2),(vs r4)] w8 (fun e w9=>∃r5:Bool,e=.returned (vb r5)∧Kept Hl1 w8 w9∧Br r5 (Br bound1 (∀(w10:World),Hst w0 Hl1 w9 Hl1 w10→m_I_j2 i1 true Hl1 w10 Kc1 K) (∃a3:Addr,At l1 i1 5 a3∧∀(w10:World),Hst w0 Hl1 w9 Hl1 w10→∃aD aE aF:Int,∃aG:ByteArray,∃aH:Bool,Row w10 a3 [(vi aD),(vi aE),(vu aF),(vs aG),(vb aH)]∧Br ((aD == 2) && ((aE == aA) && ((aF == aB) && ((decide (aG=aC)) && (aH == false))))) (m_I_j2 i1 true Hl1 w10 Kc1 K) (∃a4:Addr,At l1 i1 5 a4∧∃aI aJ aK:Int,∃aL:ByteArray,∃aM:Bool,Row w10 a4 [(vi aI),(vi aJ),(vu aK),(vs aL),(vb aM)]∧m_I_j2 i1 ((aI == 6) && ((aJ == 0) && ((aK == aB) && ((decide (aL=aC)) && (aM == false))))) Hl1 w10 Kc1 K))) (m_I_j2 i1 bound1 Hl1 w9 Kc1 K))))) (Br (other1 != aA) (Calls prog 13 #[(vp r2),(vi other1)] wl1 (fun e w14=>∃r9:Int,e=.returned (vi r9)∧Kept Hl1 wl1 w14∧m_I_j3 aA aB aC r2 bound1 Hl1 w14 K)) (m_I_j3 aA aB aC r2 bound1 Hl1 wl1 K))
def m_I (l1:Sl) (other1 aA aB:Int) (aC:ByteArray) (w0:World) (K:Bool→WP):Prop :=Br ((decide ((l1.len:Int)>60)) || ((aA != 0) && (aA != 1))) (∀(H3:NP) (w3:World),Hst w0 None w0 H3 w3→Calls prog 9 #[] w3 (fun e w5=>∃r1:Bool,e=.returned (vb r1)∧Kept H3 w3 w5∧K r1 w5)) (∀(H3:NP) (w3:World),Hst w0 None w0 H3 w3→Calls prog 10 #[] w3 (fun e w6=>∃r2:Option Addr,e=.returned (vp r2)∧Kept H3 w3 w6∧Br (Option.isNone r2) (K false w6) (∃(I1:Bool→Int→NP→WP) (mu1:Bool→Int→World→Nat),I1 false 0 H3 w6∧∀(bound1:Bool) (i1:Int) (Hl1:NP) (wl1:World),Hst w0 Hl1 wl1 Hl1 wl1→I1 bound1 i1 Hl1 wl1→m_I_l1 l1 other1 aA aB aC r2 bound1 i1 w0 Hl1 wl1 (fun y'0 y'1 H' w'=>I1 y'0 y'1 H' w'∧mu1 y'0 y'1 w'<mu1 bound1 i1 wl1) K)))
theorem w_I (l1:Sl) (other1 aA aB:Int) (aC:ByteArray) (w0:World) (K:Bool→WP) (h:m_I l1 other1 aA aB aC w0 K) :
  Calls prog 3 #[l1.v,(vi other1),(.agg #[(vi aA),(vu aB),(vs aC)])] w0 (fun e w'=>∃r10:Bool,e=.returned (vb r10)∧K r10 w'):=by
 unfold m_I at h
 refine cw (args:=[l1.v,(vi other1),(.agg #[(vi aA),(vu aB),(vs aC)])]) func3 ntmps3 ?_
 have hs:=Hst.start w0
 have hb:=HB.nil None w0
 refine eg (sn (O:=(.cells #[(vi aA),(vu aB),(vs aC)] 25)) xb ?_)
 intro p1 w1 hn1
 obtain ⟨H1,hs,hb⟩:=hs.alloc hb hn1
 refine q0 (vb false) (ln (zA (zA ?_)))
 refine vO (fun ρ wJ=>∃b2'0:Bool,∃HJ:NP,((decide ((l1.len:Int)>60))=b2'0)∧Hst w0 None w0 HJ wJ∧HB HJ wJ [(p1,[(vi aA),(vu aB),(vs aC)],25)]∧Has ρ [(0,l1.v),(1,(vi other1)),(5,(vp (some p1))),(22,(vb (b2'0 || ((aA != 0) && (aA != 1)))))]) ?_ ?_
 refine rg (q0 l1.v (q0 (vi (l1.len:Int)) (q0 (vb (decide ((l1.len:Int)>60))) (q0 (vb (decide ((l1.len:Int)>60))) ?_))))
 rcases bte (decide ((l1.len:Int)>60)) with hg4 | hg4
 refine sk (yD 13 hg4) (sk (yD 13 hg4) (sk (yD 13 hg4) (sk (yD 13 hg4) (sm (sm (sm (sk (yD 13 hg4) (q2 (vb true) (xT hg4) (ln ?_)))))))))
 exact ⟨true,_,hg4,hs,hb,hm⟩
 refine q1 (vp (some p1)) (wy 13 hg4) (stp (v:=(vi aA)) (wy 13 hg4) (xl (isAgg3 _) (hb.c0 0 gZ)) (q1 (vb (aA != 0)) (wy 13 hg4) (q1 (vb (aA != 0)) (wy 13 hg4) ?_)))
 refine zL 4 (fun ρ wJ=>∃b3'0:Bool,∃HJ:NP,((aA != 0)=b3'0)∧Hst w0 None w0 HJ wJ∧HB HJ wJ [(p1,[(vi aA),(vu aB),(vs aC)],25)]∧Has ρ [(0,l1.v),(1,(vi other1)),(5,(vp (some p1))),(13,(vb (decide ((l1.len:Int)>60)))),(21,(vb (b3'0 && (aA != 1))))]) ?_ ?_
 rintro ρ w4 ⟨b3'0,H4,he0,hs,hb,hH⟩
 subst he0
 refine zU hH ?_
 refine q2 (vb ((aA != 0) && (aA != 1))) (xF hg4) (ln ?_)
 exact ⟨false,_,hg4,hs,hb,hm⟩
 rcases bte (aA != 0) with hg6 | hg6
 refine q1 (vp (some p1)) (wy 17 hg6) (stp (v:=(vi aA)) (wy 17 hg6) (xl (isAgg3 _) (hb.c0 0 gZ)) (q1 (vb (aA != 1)) (wy 17 hg6) (stp (v:=(vb (aA != 1))) (wy 13 hg4) (xT hg6) (zD ?_))))
 exact ⟨true,_,hg6,hs,hb,hm⟩
 refine sk (yD 17 hg6) (sk (yD 17 hg6) (sk (yD 17 hg6) (stp (v:=(vb false)) (wy 13 hg4) (xF hg6) (zD ?_))))
 exact ⟨false,_,hg6,hs,hb,hm⟩
 rintro ρ w3 ⟨b2'0,H3,he0,hs,hb,hH⟩
 subst he0
 refine vH hH ?_
 refine zN ?_
 refine zB (t:=((decide ((l1.len:Int)>60)) || ((aA != 0) && (aA != 1)))) (by kernel_rfl) (fun hc1=>?_) (fun hc1=>?_)
 have h:=h.1 hc1
 refine eg ?_
 have h:=h H3 w3 hs
 have hs:=hs.here
 refine sc call9 (h.mono ?_)
 rintro e w5 ⟨r1,rfl,hk,h⟩
 refine ⟨_,rfl,?_⟩
 obtain ⟨hs,hb⟩:=hk.hh hs hb
 refine q0 (vb r1) (ln (er (vL (rs1 results3 (v:=(vb r1)) ?_))))
 exact ⟨r1,rfl,h⟩
 have h:=h.2 hc1
 refine zC (zN (eg ?_))
 have h:=h H3 w3 hs
 have hs:=hs.here
 refine sc call10 (h.mono ?_)
 rintro e w6 ⟨r2,rfl,hk,h⟩
 refine ⟨_,rfl,?_⟩
 obtain ⟨hs,hb⟩:=hk.hh hs hb
 refine q0 (vp r2) (ln (zA (eg (q0 (vp r2) (q2 (vb (Option.isNone r2)) (qL (by kernel_rfl) rfl underlying27) (ln ?_))))))
 refine zB (t:=(Option.isNone r2)) (by kernel_rfl) (fun hc2=>?_) (fun hc2=>?_)
 have h:=h.1 hc2
 refine eg (q0 (vb false) (ln (er (vL (rs1 results3 (v:=(vb false)) ?_)))))
 exact ⟨false,rfl,h⟩
 have h:=h.2 hc2
 refine zC (zN (eg (q0 (vb false) (ln (zA (eg (q0 (vi 0) (zD ?_))))))))
 refine zN (zQ ?_)
 obtain ⟨I1,mu1,h0,hr⟩:=h
 refine qI (σ:=Bool×Int×NP×World) (fun s ρ w=>w=s.2.2.2∧Has ρ [(0,l1.v),(1,(vi other1)),(5,(vp (some p1))),(7,(vp r2)),(8,(vb s.1)),(9,(vi s.2.1))]∧Hst w0 s.2.2.1 w s.2.2.1 w∧HB s.2.2.1 w [(p1,[(vi aA),(vu aB),(vs aC)],25)]∧I1 s.1 s.2.1 s.2.2.1 s.2.2.2) (fun s=>mu1 s.1 s.2.1 s.2.2.2) (false,0,H3,w6) ⟨rfl,hm,hs,hb,h0⟩ ?_
 rintro ⟨bound1,i1,Hl1,wl1⟩ ρ w ⟨hw,hH,hs,hb,hI⟩
 obtain rfl:wl1=w:=(show w=wl1 from hw).symm
 have hH:Has ρ [(0,l1.v),(1,(vi other1)),(5,(vp (some p1))),(7,(vp r2)),(8,(vb bound1)),(9,(vi i1))]:=hH
 have hs:Hst w0 Hl1 wl1 Hl1 wl1:=hs
 have hb:HB Hl1 wl1 [(p1,[(vi aA),(vu aB),(vs aC)],25)]:=hb
 have h:=hr bound1 i1 Hl1 wl1 hs hI
 unfold m_I_l1 at h
 refine vC hH ?_
 refine zA (eg (q0 (vi i1) (q0 l1.v (q0 (vi (l1.len:Int)) (q0 (vb (decide (i1<(l1.len:Int)))) (ln ?_))))))
 refine zB (t:=(decide (i1<(l1.len:Int)))) (by kernel_rfl) (fun hc3=>?_) (fun hc3=>?_)
 have h:=h.1 hc3
 refine zC (zN (zA ?_))
 refine vI (fun ρ w=>∃bound2:Bool,∃H:NP,Has ρ [(0,l1.v),(1,(vi other1)),(5,(vp (some p1))),(7,(vp r2)),(8,(vb bound2)),(9,(vi i1))]∧Hst w0 H w H w∧HB H w [(p1,[(vi aA),(vu aB),(vs aC)],25)]∧m_I_j2 i1 bound2 H w (fun y'0 y'1 H' w'=>I1 y'0 y'1 H' w'∧mu1 y'0 y'1 w'<mu1 bound1 i1 wl1) K) ?_ ?_
 rintro ρ w ⟨bound2,H,hH,hs,hb,h⟩
 unfold m_I_j2 at h
 refine vC hH ?_
 refine rg (q0 (vi i1) (q0 (vi (q6.wrap (i1+1))) (q0 (vi (q6.wrap (i1+1))) (ln ?_))))
 exact ⟨(bound2,(q6.wrap (i1+1)),H,w),⟨rfl,hm,hs,hb,h.1⟩,h.2⟩
 refine zQ (zA (eg (q0 l1.v (q0 (vi i1) ?_))))
 obtain ⟨a1,hv8,h⟩:=h
 refine q2 (vp (some a1)) (xi (runUnderlying22 _) (sizeOf30 _) hv8) (q0 (vp (some (a1.add 3))) ?_)
 obtain ⟨v1,hv7,h⟩:=h
 refine q2 (vs v1) (xl (isAgg9 _) hv7) (q0 (vi (v1.size:Int)) (q0 (vb (decide ((v1.size:Int)>64))) (ln ?_)))
 refine zB (t:=(decide ((v1.size:Int)>64))) (by kernel_rfl) (fun hc4=>?_) (fun hc4=>?_)
 have h:=h.1 hc4
 refine eg ?_
 refine sc call9 (h.mono ?_)
 rintro e w7 ⟨r3,rfl,hk,h⟩
 refine ⟨_,rfl,?_⟩
 obtain ⟨hs,hb⟩:=hk.hh hs hb
 refine q0 (vb r3) (ln (er (vL (uK (vL (vL (uK (vL (rs1 results3 (v:=(vb r3)) ?_)))))))))
 exact ⟨r3,rfl,h⟩
 have h:=h.2 hc4
 refine zC (zN (eg (q0 (vp r2) (q0 l1.v (q0 (vi i1) ?_)))))
 obtain ⟨a2,hv6,h⟩:=h
 refine q2 (vp (some a2)) (xi (runUnderlying22 _) (sizeOf30 _) hv6) ?_
 obtain ⟨aS,aT,aU,aV,aW,hv5,h⟩:=h
 refine q2 (.agg #[(vi aS),(vi aT),(vu aU),(vs aV),(vb aW)]) (xa a2 [(vi aS),(vi aT),(vu aU),(vs aV),(vb aW)] (isAgg30 _) (sizeOf30 _) hv5) ?_
 refine sc call12 (h.mono ?_)
 rintro e w8 ⟨r4,rfl,hk,h⟩
 refine ⟨_,rfl,?_⟩
 obtain ⟨hs,hb⟩:=hk.hh hs hb
 refine sc call11 (h.mono ?_)
 rintro e w9 ⟨r5,rfl,hk,h⟩
 refine ⟨_,rfl,?_⟩
 obtain ⟨hs,hb⟩:=hk.hh hs hb
 refine ln ?_
 refine zB (t:=r5) (by kernel_rfl) (fun hc5=>?_) (fun hc5=>?_)
 have h:=h.1 hc5
 refine qO (by kernel_rfl) (by kernel_rfl) (by kernel_rfl) (by kernel_rfl) ?_
 intro w10 hw10
 have hs:Hst w0 Hl1 w9 Hl1 w10:=by rw [hw10];exact hs.drew
 have hb:HB Hl1 w10 [(p1,[(vi aA),(vu aB),(vs aC)],25)]:=by rw [hw10];exact hb.drew
 refine qq 0 (vb bound1) Kp0 (qq 1 (vb bound1) Kp1 (qg 2 ?_))
 rcases bte bound1 with hg7 | hg7
 have h:=h.1 hg7
 refine jAQ Kp2 (vM rfl (yD 49 hg7) rfl) (qn 3 Kp3 (vM rfl (yD 49 hg7) rfl) (qn 4 Kp4 (vM rfl (yD 49 hg7) rfl) (qn 5 Kp5 (vM rfl (yD 49 hg7) rfl) (qn 6 Kp6 (vM rfl (yD 49 hg7) rfl) (qn 7 Kp7 (vM rfl (yD 49 hg7) rfl) (qn 8 Kp8 (vM rfl (yD 49 hg7) rfl) (qn 9 Kp9 (vM rfl (yD 49 hg7) rfl) (qn 10 (zS (S8 (zG (zG zR)))) (vM rfl (yD 49 hg7) rfl) (qn 11 (zS (S8 (zG (zG (zG zR))))) (vM rfl (yD 49 hg7) rfl) (qn 12 (zS (S8 (S4 zR))) (vM rfl (yD 49 hg7) rfl) (qn 13 (zS (S8 (S4 (zG zR)))) (vM rfl (yD 49 hg7) rfl) ?_)))))))))))
 refine qr 14 (vb true) (zS (S8 (S4 (zG (zG zR))))) (xT hg7) (qq 15 (vb true) (zS (S8 (S4 (zG (zG (zG zR)))))) (qn 16 (zS (S8 (S8 zR))) (vM rfl (yD (c:=true) 63 rfl) rfl) (qn 17 (zS (S8 (S8 (zG zR)))) (vM rfl (yD (c:=true) 63 rfl) rfl) (qn 18 (zS (S8 (S8 (zG (zG zR))))) (vM rfl (yD (c:=true) 63 rfl) rfl) (qn 19 (zS (S8 (S8 (zG (zG (zG zR)))))) (vM rfl (yD (c:=true) 63 rfl) rfl) (qn 20 (zS (S8 (S8 (S4 zR)))) (vM rfl (yD (c:=true) 63 rfl) rfl) (qn 21 (zS (S8 (S8 (S4 (zG zR))))) (vM rfl (yD (c:=true) 63 rfl) rfl) (qn 22 (zS (S8 (S8 (S4 (zG (zG zR)))))) (vM rfl (yD (c:=true) 63 rfl) rfl) (qn 23 (zS (S8 (S8 (S4 (zG (zG (zG zR))))))) (vM rfl (yD (c:=true) 63 rfl) rfl) (qn 24 (zS (S8 (S8 (S8 zR)))) (vM rfl (yD (c:=true) 63 rfl) rfl) (qn 25 (zS (S8 (S8 (S8 (zG zR))))) (vM rfl (yD (c:=true) 63 rfl) rfl) ?_)))))))))))
 refine qq 26 (vb true) (zS (S8 (S8 (S8 (zG (zG zR)))))) (qq 27 (vb true) (zS (S8 (S8 (S8 (zG (zG (zG zR))))))) (wn (tJ ?_)))
 have h:=h w10 hs
 have hs:=hs.here
 refine zN ?_
 exact ⟨true,Hl1,hm,hs,hb,h⟩
 have h:=h.2 hg7
 refine sxQ (v:=l1.v) Kp2 (wy 49 hg7) rfl (by kernel_rfl) (qg 3 (sxQ (v:=(vi i1)) Kp3 (wy 49 hg7) rfl (by kernel_rfl) (qg 4 ?_)))
 obtain ⟨a3,hv4,h⟩:=h
 refine sxQ (v:=(vp (some a3))) Kp4 (wy 49 hg7) rfl (xi (runUnderlying22 _) (sizeOf30 _) hv4) (qg 5 ?_)
 have h:=h w10 hs
 have hs:=hs.here
 obtain ⟨aD,aE,aF,aG,aH,hv3,h⟩:=h
 refine sxQ (v:=(.agg #[(vi aD),(vi aE),(vu aF),(vs aG),(vb aH)])) Kp5 (wy 49 hg7) rfl (xa a3 [(vi aD),(vi aE),(vu aF),(vs aG),(vb aH)] (isAgg30 _) (sizeOf30 _) hv3) (qg 6 (sxQ (v:=(vp (some p1))) Kp6 (wy 49 hg7) rfl (by kernel_rfl) (qg 7 (sxQ (v:=(vi aA)) Kp7 (wy 49 hg7) rfl (xl (isAgg3 _) (hb.c0 0 gZ)) (qg 8 (sxQ (v:=(vp (some (p1.add 1)))) Kp8 (wy 49 hg7) rfl (by kernel_rfl) (qg 9 (sxQ (v:=(vu aB)) Kp9 (wy 49 hg7) rfl (xl (isAgg23 _) (hb.c 0 1 gZ)) (qg 10 (sxQ (v:=(vp (some (p1.add 2)))) (zS (S8 (zG (zG zR)))) (wy 49 hg7) rfl (by kernel_rfl) (qg 11 ?_)))))))))))
 refine sxQ (v:=(vs aC)) (zS (S8 (zG (zG (zG zR))))) (wy 49 hg7) rfl (xl (isAgg9 _) (hb.c 0 2 gZ)) (qg 12 (sxQ (v:=(.agg #[(vi 2),(vi aA),(vu aB),(vs aC),(vb false)])) (zS (S8 (S4 zR))) (wy 49 hg7) rfl (by kernel_rfl) (qg 13 (sxQ (v:=(vb ((aD == 2) && ((aE == aA) && ((aF == aB) && ((decide (aG=aC)) && (aH == false))))))) (zS (S8 (S4 (zG zR)))) (wy 49 hg7) rfl (jKX (by kernel_rfl) (by kernel_rfl) (by kernel_rfl) (yM aD aE aF aG aH 2 aA aB aC false _)) (qr 14 (vb ((aD == 2) && ((aE == aA) && ((aF == aB) && ((decide (aG=aC)) && (aH == false)))))) (zS (S8 (S4 (zG (zG zR))))) (xF hg7) (qq 15 (vb ((aD == 2) && ((aE == aA) && ((aF == aB) && ((decide (aG=aC)) && (aH == false)))))) (zS (S8 (S4 (zG (zG (zG zR)))))) (qg 16 ?_)))))))
 rcases bte ((aD == 2) && ((aE == aA) && ((aF == aB) && ((decide (aG=aC)) && (aH == false))))) with hg8 | hg8
 have h:=h.1 hg8
 refine jAQ (zS (S8 (S8 zR))) (vM rfl (yD 63 hg8) rfl) (qn 17 (zS (S8 (S8 (zG zR)))) (vM rfl (yD 63 hg8) rfl) (qn 18 (zS (S8 (S8 (zG (zG zR))))) (vM rfl (yD 63 hg8) rfl) (qn 19 (zS (S8 (S8 (zG (zG (zG zR)))))) (vM rfl (yD 63 hg8) rfl) (qn 20 (zS (S8 (S8 (S4 zR)))) (vM rfl (yD 63 hg8) rfl) (qn 21 (zS (S8 (S8 (S4 (zG zR))))) (vM rfl (yD 63 hg8) rfl) (qn 22 (zS (S8 (S8 (S4 (zG (zG zR)))))) (vM rfl (yD 63 hg8) rfl) (qn 23 (zS (S8 (S8 (S4 (zG (zG (zG zR))))))) (vM rfl (yD 63 hg8) rfl) (qn 24 (zS (S8 (S8 (S8 zR)))) (vM rfl (yD 63 hg8) rfl) (qn 25 (zS (S8 (S8 (S8 (zG zR))))) (vM rfl (yD 63 hg8) rfl) (qr 26 (vb true) (zS (S8 (S8 (S8 (zG (zG zR)))))) (xT hg8) (qq 27 (vb true) (zS (S8 (S8 (S8 (zG (zG (zG zR))))))) ?_)))))))))))
 refine wn (tJ (zN ?_))
 exact ⟨true,Hl1,hm,hs,hb,h⟩
 have h:=h.2 hg8
 refine sxQ (v:=l1.v) (zS (S8 (S8 zR))) (wy 63 hg8) rfl (by kernel_rfl) (qg 17 (sxQ (v:=(vi i1)) (zS (S8 (S8 (zG zR)))) (wy 63 hg8) rfl (by kernel_rfl) (qg 18 ?_)))
 obtain ⟨a4,hv2,h⟩:=h
 refine sxQ (v:=(vp (some a4))) (zS (S8 (S8 (zG (zG zR))))) (wy 63 hg8) rfl (xi (runUnderlying22 _) (sizeOf30 _) hv2) (qg 19 ?_)
 obtain ⟨aI,aJ,aK,aL,aM,hv1,h⟩:=h
 refine sxQ (v:=(.agg #[(vi aI),(vi aJ),(vu aK),(vs aL),(vb aM)])) (zS (S8 (S8 (zG (zG (zG zR)))))) (wy 63 hg8) rfl (xa a4 [(vi aI),(vi aJ),(vu aK),(vs aL),(vb aM)] (isAgg30 _) (sizeOf30 _) hv1) (qg 20 (sxQ (v:=(vp (some (p1.add 1)))) (zS (S8 (S8 (S4 zR)))) (wy 63 hg8) rfl (by kernel_rfl) (qg 21 (sxQ (v:=(vu aB)) (zS (S8 (S8 (S4 (zG zR))))) (wy 63 hg8) rfl (xl (isAgg23 _) (hb.c 0 1 gZ)) (qg 22 (sxQ (v:=(vp (some (p1.add 2)))) (zS (S8 (S8 (S4 (zG (zG zR)))))) (wy 63 hg8) rfl (by kernel_rfl) (qg 23 (sxQ (v:=(vs aC)) (zS (S8 (S8 (S4 (zG (zG (zG zR))))))) (wy 63 hg8) rfl (xl (isAgg9 _) (hb.c 0 2 gZ)) (qg 24 (sxQ (v:=(.agg #[(vi 6),(vi 0),(vu aB),(vs aC),(vb false)])) (zS (S8 (S8 (S8 zR)))) (wy 63 hg8) rfl (by kernel_rfl) (qg 25 ?_)))))))))))
 refine sxQ (v:=(vb ((aI == 6) && ((aJ == 0) && ((aK == aB) && ((decide (aL=aC)) && (aM == false))))))) (zS (S8 (S8 (S8 (zG zR))))) (wy 63 hg8) rfl (jKX (by kernel_rfl) (by kernel_rfl) (by kernel_rfl) (yM aI aJ aK aL aM 6 0 aB aC false _)) (qr 26 (vb ((aI == 6) && ((aJ == 0) && ((aK == aB) && ((decide (aL=aC)) && (aM == false)))))) (zS (S8 (S8 (S8 (zG (zG zR)))))) (xF hg8) (qq 27 (vb ((aI == 6) && ((aJ == 0) && ((aK == aB) && ((decide (aL=aC)) && (aM == false)))))) (zS (S8 (S8 (S8 (zG (zG (zG zR))))))) (wn (tJ (zN ?_)))))
 exact ⟨((aI == 6) && ((aJ == 0) && ((aK == aB) && ((decide (aL=aC)) && (aM == false))))),Hl1,hm,hs,hb,h⟩
 have h:=h.2 hc5
 refine zC (tJ (zN ?_))
 exact ⟨bound1,Hl1,hm,hs,hb,h⟩
 have h:=h.2 hc3
 refine qE (tN (tN (tP (zN (zA (eg (q0 (vi other1) (q0 (vp (some p1)) (q2 (vi aA) (xl (isAgg3 _) (hb.c0 0 gZ)) (q0 (vb (other1 != aA)) ?_))))))))))
 refine ln ?_
 refine vI (fun ρ w=>∃H:NP,Has ρ [(5,(vp (some p1))),(7,(vp r2)),(8,(vb bound1))]∧Hst w0 H w H w∧HB H w [(p1,[(vi aA),(vu aB),(vs aC)],25)]∧m_I_j3 aA aB aC r2 bound1 H w K) ?_ ?_
 rintro ρ w ⟨H,hH,hs,hb,h⟩
 unfold m_I_j3 at h
 refine vC hH ?_
 refine eg (q0 (vp r2) (q2 (.agg #[(vi aA),(vu aB),(vs aC)]) (xa p1 [(vi aA),(vu aB),(vs aC)] (isAgg25 _) (sizeOf25 _) (hb.r0 0 3 gZ)) ?_))
 refine sc call14 (h.mono ?_)
 rintro e w11 ⟨r6,rfl,hk,h⟩
 refine ⟨_,rfl,?_⟩
 obtain ⟨hs,hb⟩:=hk.hh hs hb
 refine q0 (vb bound1) (q2 (vb (r6 == bound1)) (jKW (by kernel_rfl) (by kernel_rfl) (by kernel_rfl) (lL r6 bound1 _)) (q0 (vb (r6 == bound1)) ?_))
 refine zL 6 (fun ρ w=>∃x1:Bool,∃H:NP,Has ρ [(93,(vb x1))]∧Hst w0 H w H w∧HB H w [(p1,[(vi aA),(vu aB),(vs aC)],25)]∧m_I_j4 x1 H w K) ?_ ?_
 rintro ρ w ⟨x1,H,hH,hs,hb,h⟩
 unfold m_I_j4 at h
 refine zU hH ?_
 refine q0 (vb x1) ?_
 rcases bte x1 with hg9 | hg9
 have h:=h.1 hg9
 refine vG (wy 94 hg9) (xc call9) (h.mono ?_)
 rintro e w12 ⟨r7,rfl,hk,h⟩
 refine ⟨_,rfl,?_⟩
 obtain ⟨hs,hb⟩:=hk.hh hs hb
 refine q2 (vb r7) (xT hg9) (q0 (vb r7) (ln (er (rs1 results3 (v:=(vb r7)) ?_))))
 exact ⟨r7,rfl,h⟩
 have h:=h.2 hg9
 refine sk (yD 94 hg9) (q2 (vb false) (xF hg9) (q0 (vb false) (ln (er (rs1 results3 (v:=(vb false)) ?_)))))
 exact ⟨false,rfl,h⟩
 rcases bte (r6 == bound1) with hg10 | hg10
 have h:=h.1 hg10
 refine q1 (vp r2) (wy 87 hg10) (q1 (vp (some p1)) (wy 87 hg10) (stp (v:=(vi aA)) (wy 87 hg10) (xl (isAgg3 _) (hb.c0 0 gZ)) ?_))
 refine vG (wy 87 hg10) (xc call15) (h.mono ?_)
 rintro e w13 ⟨r8,rfl,hk,h⟩
 refine ⟨_,rfl,?_⟩
 obtain ⟨hs,hb⟩:=hk.hh hs hb
 refine q1 (vb (!r8)) (wy 87 hg10) (q2 (vb (!r8)) (xT hg10) (zD ?_))
 exact ⟨(!r8),H,hm,hs,hb,h⟩
 have h:=h.2 hg10
 refine sk (yD 87 hg10) (sk (yD 87 hg10) (sk (yD 87 hg10) (sk (yD 87 hg10) (sk (yD 87 hg10) (q2 (vb false) (xF hg10) (zD ?_))))))
 exact ⟨false,H,hm,hs,hb,h⟩
 refine zB (t:=(other1 != aA)) (by kernel_rfl) (fun hc6=>?_) (fun hc6=>?_)
 have h:=h.1 hc6
 refine rg (q0 (vp r2) (q0 (vi other1) ?_))
 refine sc call13 (h.mono ?_)
 rintro e w14 ⟨r9,rfl,hk,h⟩
 refine ⟨_,rfl,?_⟩
 obtain ⟨hs,hb⟩:=hk.hh hs hb
 refine ln ?_
 exact ⟨Hl1,hm,hs,hb,h⟩
 have h:=h.2 hc6
 refine zC (zN ?_)
 exact ⟨Hl1,hm,hs,hb,h⟩
end Go.Proofs
end
section
open Go Go.SE
open Go.IntKind renaming i64 → q6
namespace Go.Proofs
open Tryz
set_option maxRecDepth 100000
set_option maxHeartbeats 4000000
attribute [local irreducible] wpL wpX opE wpE Calls
def s_B (kind1:Int):Bool :=(((kind1 == 1) || (kind1 == 2)) || (kind1 == 4))
theorem pw_B (kind1:Int) (w0:World) :
  Calls prog 175 #[(vi kind1)] w0 (fun e w'=>(e=.returned (vb (((kind1 == 1) || (kind1 == 2)) || (kind1 == 4))))∧Pure w0 w'):=by
 refine cw (args:=[(vi kind1)]) func175 ntmps175 (eg (q0 (vb false) (ln (zA ?_))))
 refine vO (fun ρ wJ=>w0=wJ∧Has ρ [(2,(vb (((kind1 == 1) || (kind1 == 2)) || (kind1 == 4))))]) ?_ ?_
 refine rg (q0 (vi kind1) (q0 (vb (kind1 == 1)) (q0 (vb (kind1 == 1)) ?_)))
 refine zL 3 (fun ρ wJ=>∃b4'0:Bool,((kind1 == 1)=b4'0)∧w0=wJ∧Has ρ [(0,(vi kind1)),(8,(vb (b4'0 || (kind1 == 2))))]) ?_ ?_
 rintro ρ w4 ⟨b4'0,he0,hw,hH⟩
 subst he0
 subst hw
 refine zU hH ?_
 refine q0 (vb ((kind1 == 1) || (kind1 == 2))) ?_
 refine zL 3 (fun ρ wJ=>∃b5'0:Bool,(((kind1 == 1) || (kind1 == 2))=b5'0)∧w0=wJ∧Has ρ [(12,(vb (b5'0 || (kind1 == 4))))]) ?_ ?_
 rintro ρ w5 ⟨b5'0,he0,hw,hH⟩
 subst he0
 subst hw
 refine zU hH ?_
 refine q0 (vb (((kind1 == 1) || (kind1 == 2)) || (kind1 == 4))) (ln ?_)
 exact ⟨rfl,hm⟩
 rcases bte ((kind1 == 1) || (kind1 == 2)) with hg8 | hg8
 refine sk (yD 9 hg8) (sk (yD 9 hg8) (q2 (vb true) (xT hg8) (zD ?_)))
 exact ⟨true,hg8,rfl,hm⟩
 refine q1 (vi kind1) (wy 9 hg8) (q1 (vb (kind1 == 4)) (wy 9 hg8) (q2 (vb (kind1 == 4)) (xF hg8) (zD ?_)))
 exact ⟨false,hg8,rfl,hm⟩
 rcases bte (kind1 == 1) with hg6 | hg6
 refine sk (yD 5 hg6) (sk (yD 5 hg6) (q2 (vb true) (xT hg6) (zD ?_)))
 exact ⟨true,hg6,rfl,hm⟩
 refine q1 (vi kind1) (wy 5 hg6) (q1 (vb (kind1 == 2)) (wy 5 hg6) (q2 (vb (kind1 == 2)) (xF hg6) (zD ?_)))
 exact ⟨false,hg6,rfl,hm⟩
 rintro ρ w3 ⟨hw,hH⟩
 subst hw
 refine vH hH ?_
 refine zN (er (rs1 results175 (v:=(vb (((kind1 == 1) || (kind1 == 2)) || (kind1 == 4)))) ?_))
 exact ⟨by kernel_rfl,Ext.refl _⟩
theorem p_B (kind1:Int) (w0:World):Calls prog 175 #[(.int .i64 kind1)] w0 (fun e w'=>e=.returned (.bool (s_B kind1))∧Pure w0 w'):=pw_B kind1 w0
def s_Q4 (kind1:Int):Bool :=((s_B kind1) || (kind1 == 6))
theorem pw_Q4 (kind1:Int) (w0:World) :
  Calls prog 176 #[(vi kind1)] w0 (fun e w'=>(e=.returned (vb ((s_B kind1) || (kind1 == 6))))∧Pure w0 w'):=by
 refine cw (args:=[(vi kind1)]) func176 ntmps176 ?_
 have hs:=Hst.start w0
 have hb:=HB.nil None w0
 refine eg (q0 (vb false) (ln (zA ?_)))
 refine vO (fun ρ wJ=>∃HJ:NP,Hst w0 None w0 HJ wJ∧HB HJ wJ []∧Has ρ [(2,(vb ((s_B kind1) || (kind1 == 6))))]) ?_ ?_
 refine rg (q0 (vi kind1) ?_)
 refine sc call175 ((p_B kind1 w0).mono ?_)
 rintro e w4 ⟨he,hE⟩
 refine ⟨(vb (s_B kind1)),he.trans (by kernel_rfl),?_⟩
 have hs:=hs.pure hE
 have hb:=hb.pure hE
 refine q0 (vb (s_B kind1)) ?_
 refine zL 3 (fun ρ wJ=>∃b3'0:Bool,∃HJ:NP,((s_B kind1)=b3'0)∧Hst w0 None w0 HJ wJ∧HB HJ wJ []∧Has ρ [(8,(vb (b3'0 || (kind1 == 6))))]) ?_ ?_
 rintro ρ w5 ⟨b3'0,H3,he0,hs,hb,hH⟩
 subst he0
 refine zU hH ?_
 refine q0 (vb ((s_B kind1) || (kind1 == 6))) (ln ?_)
 exact ⟨_,hs,hb,hm⟩
 rcases bte (s_B kind1) with hg4 | hg4
 refine sk (yD 5 hg4) (sk (yD 5 hg4) (q2 (vb true) (xT hg4) (zD ?_)))
 exact ⟨true,_,hg4,hs,hb,hm⟩
 refine q1 (vi kind1) (wy 5 hg4) (q1 (vb (kind1 == 6)) (wy 5 hg4) (q2 (vb (kind1 == 6)) (xF hg4) (zD ?_)))
 exact ⟨false,_,hg4,hs,hb,hm⟩
 rintro ρ w3 ⟨H2,hs,hb,hH⟩
 refine vH hH ?_
 refine zN (er (rs1 results176 (v:=(vb ((s_B kind1) || (kind1 == 6)))) ?_))
 exact ⟨by kernel_rfl,(Ext.refl (F:=None) _).hst hs⟩
theorem p_Q4 (kind1:Int) (w0:World):Calls prog 176 #[(.int .i64 kind1)] w0 (fun e w'=>e=.returned (.bool (s_Q4 kind1))∧Pure w0 w'):=pw_Q4 kind1 w0
def s_R (aA aB aK:Int) (aD:ByteArray) (aE:Bool):Int :=(cond ((((((decide (aA<1)) || (decide (aA>7))) || ((aB != 0) && (aB != 1))) || ((!(s_B aA)) && (aB != 0))) || ((!((s_B aA) || (aA == 6))) && (!(decide (aD=⟨#[]⟩))))) || ((aE && (aA != 1)) && (aA != 4))) 110 (cond (decide ((aD.size:Int)>64)) 1 0))
theorem pw_R (aA aB aK:Int) (aD:ByteArray) (aE:Bool) (w0:World) :
  Calls prog 165 #[(.agg #[(vi aA),(vi aB),(vu aK),(vs aD),(vb aE)])] w0 (fun e w'=>∃b'0 b'1:Bool,(((((((decide (aA<1)) || (decide (aA>7))) || ((aB != 0) && (aB != 1))) || ((!(s_B aA)) && (aB != 0))) || ((!((s_B aA) || (aA == 6))) && (!(decide (aD=⟨#[]⟩))))) || ((aE && (aA != 1)) && (aA != 4)))=b'0∧(decide ((aD.size:Int)>64))=b'1)∧(e=.returned (vi (cond b'0 110 (cond b'1 1 0))))∧Pure w0 w'):=by
 refine cw (args:=[(.agg #[(vi aA),(vi aB),(vu aK),(vs aD),(vb aE)])]) func165 ntmps165 ?_
 have hs:=Hst.start w0
 have hb:=HB.nil None w0
 refine eg (sn (O:=(.cells #[(vi aA),(vi aB),(vu aK),(vs aD),(vb aE)] 30)) xb ?_)
 intro p1 w1 hn1
 obtain ⟨H1,hs,hb⟩:=hs.alloc hb hn1
 refine q0 (vi 0) (ln (zA (zA ?_)))
 refine vO (fun ρ wJ=>∃b13'0:Bool,∃HJ:NP,((((((decide (aA<1)) || (decide (aA>7))) || ((aB != 0) && (aB != 1))) || ((!(s_B aA)) && (aB != 0))) || ((!((s_B aA) || (aA == 6))) && (!(decide (aD=⟨#[]⟩)))))=b13'0)∧Hst w0 None w0 HJ wJ∧HB HJ wJ [(p1,[(vi aA),(vi aB),(vu aK),(vs aD),(vb aE)],30)]∧Has ρ [(1,(vp (some p1))),(56,(vb (b13'0 || ((aE && (aA != 1)) && (aA != 4)))))]) ?_ ?_
 refine rg (q0 (vp (some p1)) (q2 (vi aA) (xl (isAgg3 _) (hb.c0 0 gZ)) (q0 (vb (decide (aA<1))) (q0 (vb (decide (aA<1))) ?_))))
 refine zL 4 (fun ρ wJ=>∃b14'0:Bool,∃HJ:NP,((decide (aA<1))=b14'0)∧Hst w0 None w0 HJ wJ∧HB HJ wJ [(p1,[(vi aA),(vi aB),(vu aK),(vs aD),(vb aE)],30)]∧Has ρ [(1,(vp (some p1))),(10,(vb (b14'0 || (decide (aA>7)))))]) ?_ ?_
 rintro ρ w19 ⟨b14'0,H15,he0,hs,hb,hH⟩
 subst he0
 refine zU hH ?_
 refine q0 (vb ((decide (aA<1)) || (decide (aA>7)))) ?_
 refine zL 9 (fun ρ wJ=>∃b16'0:Bool,∃HJ:NP,(((decide (aA<1)) || (decide (aA>7)))=b16'0)∧Hst w0 None w0 HJ wJ∧HB HJ wJ [(p1,[(vi aA),(vi aB),(vu aK),(vs aD),(vb aE)],30)]∧Has ρ [(1,(vp (some p1))),(20,(vb (b16'0 || ((aB != 0) && (aB != 1)))))]) ?_ ?_
 rintro ρ w21 ⟨b16'0,H17,he0,hs,hb,hH⟩
 subst he0
 refine zU hH ?_
 refine q0 (vb (((decide (aA<1)) || (decide (aA>7))) || ((aB != 0) && (aB != 1)))) ?_
 refine zL 10 (fun ρ wJ=>∃b19'0:Bool,∃HJ:NP,((((decide (aA<1)) || (decide (aA>7))) || ((aB != 0) && (aB != 1)))=b19'0)∧Hst w0 None w0 HJ wJ∧HB HJ wJ [(p1,[(vi aA),(vi aB),(vu aK),(vs aD),(vb aE)],30)]∧Has ρ [(1,(vp (some p1))),(31,(vb (b19'0 || ((!(s_B aA)) && (aB != 0)))))]) ?_ ?_
 rintro ρ w25 ⟨b19'0,H20,he0,hs,hb,hH⟩
 subst he0
 refine zU hH ?_
 refine q0 (vb ((((decide (aA<1)) || (decide (aA>7))) || ((aB != 0) && (aB != 1))) || ((!(s_B aA)) && (aB != 0)))) ?_
 refine zL 10 (fun ρ wJ=>∃b22'0:Bool,∃HJ:NP,(((((decide (aA<1)) || (decide (aA>7))) || ((aB != 0) && (aB != 1))) || ((!(s_B aA)) && (aB != 0)))=b22'0)∧Hst w0 None w0 HJ wJ∧HB HJ wJ [(p1,[(vi aA),(vi aB),(vu aK),(vs aD),(vb aE)],30)]∧Has ρ [(1,(vp (some p1))),(42,(vb (b22'0 || ((!((s_B aA) || (aA == 6))) && (!(decide (aD=⟨#[]⟩)))))))]) ?_ ?_
 rintro ρ w30 ⟨b22'0,H23,he0,hs,hb,hH⟩
 subst he0
 refine zU hH ?_
 refine q0 (vb (((((decide (aA<1)) || (decide (aA>7))) || ((aB != 0) && (aB != 1))) || ((!(s_B aA)) && (aB != 0))) || ((!((s_B aA) || (aA == 6))) && (!(decide (aD=⟨#[]⟩)))))) ?_
 rcases bte (((((decide (aA<1)) || (decide (aA>7))) || ((aB != 0) && (aB != 1))) || ((!(s_B aA)) && (aB != 0))) || ((!((s_B aA) || (aA == 6))) && (!(decide (aD=⟨#[]⟩))))) with hg46 | hg46
 refine sk (yD 43 hg46) (sk (yD 43 hg46) (sk (yD 43 hg46) (sm (sm (sm (sk (yD 43 hg46) (sk (yD 43 hg46) (sm (sm (sm (sk (yD 43 hg46) ?_)))))))))))
 refine q2 (vb true) (xT hg46) (ln ?_)
 exact ⟨true,_,hg46,hs,hb,hm⟩
 refine q1 (vp (some (p1.add 4))) (wy 43 hg46) (stp (v:=(vb aE)) (wy 43 hg46) (xl (isAgg4 _) (hb.c 0 4 gZ)) (q1 (vb aE) (wy 43 hg46) ?_))
 refine zL 4 (fun ρ wJ=>∃b24'0:Bool,∃HJ:NP,(aE=b24'0)∧Hst w0 None w0 HJ wJ∧HB HJ wJ [(p1,[(vi aA),(vi aB),(vu aK),(vs aD),(vb aE)],30)]∧Has ρ [(1,(vp (some p1))),(43,(vb (((((decide (aA<1)) || (decide (aA>7))) || ((aB != 0) && (aB != 1))) || ((!(s_B aA)) && (aB != 0))) || ((!((s_B aA) || (aA == 6))) && (!(decide (aD=⟨#[]⟩))))))),(50,(vb (b24'0 && (aA != 1))))]) ?_ ?_
 rintro ρ w33 ⟨b24'0,H25,he0,hs,hb,hH⟩
 subst he0
 refine zU hH ?_
 refine q1 (vb (aE && (aA != 1))) (wy 43 hg46) ?_
 refine zL 4 (fun ρ wJ=>∃b25'0:Bool,∃HJ:NP,((aE && (aA != 1))=b25'0)∧Hst w0 None w0 HJ wJ∧HB HJ wJ [(p1,[(vi aA),(vi aB),(vu aK),(vs aD),(vb aE)],30)]∧Has ρ [(1,(vp (some p1))),(43,(vb (((((decide (aA<1)) || (decide (aA>7))) || ((aB != 0) && (aB != 1))) || ((!(s_B aA)) && (aB != 0))) || ((!((s_B aA) || (aA == 6))) && (!(decide (aD=⟨#[]⟩))))))),(55,(vb (b25'0 && (aA != 4))))]) ?_ ?_
 rintro ρ w34 ⟨b25'0,H26,he0,hs,hb,hH⟩
 subst he0
 refine zU hH ?_
 refine q2 (vb ((aE && (aA != 1)) && (aA != 4))) (xF hg46) (ln ?_)
 exact ⟨false,_,hg46,hs,hb,hm⟩
 rcases bte (aE && (aA != 1)) with hg50 | hg50
 refine q1 (vp (some p1)) (wy 51 hg50) (stp (v:=(vi aA)) (wy 51 hg50) (xl (isAgg3 _) (hb.c0 0 gZ)) (q1 (vb (aA != 4)) (wy 51 hg50) (stp (v:=(vb (aA != 4))) (wy 43 hg46) (xT hg50) (zD ?_))))
 exact ⟨true,_,hg50,hs,hb,hm⟩
 refine sk (yD 51 hg50) (sk (yD 51 hg50) (sk (yD 51 hg50) (stp (v:=(vb false)) (wy 43 hg46) (xF hg50) (zD ?_))))
 exact ⟨false,_,hg50,hs,hb,hm⟩
 rcases bte aE with hg48 | hg48
 refine q1 (vp (some p1)) (wy 46 hg48) (stp (v:=(vi aA)) (wy 46 hg48) (xl (isAgg3 _) (hb.c0 0 gZ)) (q1 (vb (aA != 1)) (wy 46 hg48) (stp (v:=(vb (aA != 1))) (wy 43 hg46) (xT hg48) (zD ?_))))
 exact ⟨true,_,hg48,hs,hb,hm⟩
 refine sk (yD 46 hg48) (sk (yD 46 hg48) (sk (yD 46 hg48) (stp (v:=(vb false)) (wy 43 hg46) (xF hg48) (zD ?_))))
 exact ⟨false,_,hg48,hs,hb,hm⟩
 rcases bte ((((decide (aA<1)) || (decide (aA>7))) || ((aB != 0) && (aB != 1))) || ((!(s_B aA)) && (aB != 0))) with hg43 | hg43
 refine sk (yD 32 hg43) (sk (yD 32 hg43) (sk (yD 32 hg43) (sk (yD 32 hg43) (sk (yD 32 hg43) (sm (sm (sm (sk (yD 32 hg43) (q2 (vb true) (xT hg43) (zD ?_))))))))))
 exact ⟨true,_,hg43,hs,hb,hm⟩
 refine q1 (vp (some p1)) (wy 32 hg43) (stp (v:=(vi aA)) (wy 32 hg43) (xl (isAgg3 _) (hb.c0 0 gZ)) ?_)
 refine vG (wy 32 hg43) (xc call176) ((p_Q4 aA w25).mono ?_)
 rintro e w31 ⟨he,hE⟩
 refine ⟨(vb ((s_B aA) || (aA == 6))),he.trans (by kernel_rfl),?_⟩
 have hs:=hs.pure hE
 have hb:=hb.pure hE
 refine q1 (vb (!((s_B aA) || (aA == 6)))) (wy 32 hg43) (q1 (vb (!((s_B aA) || (aA == 6)))) (wy 32 hg43) ?_)
 refine zL 4 (fun ρ wJ=>∃b23'0:Bool,∃HJ:NP,((!((s_B aA) || (aA == 6)))=b23'0)∧Hst w0 None w0 HJ wJ∧HB HJ wJ [(p1,[(vi aA),(vi aB),(vu aK),(vs aD),(vb aE)],30)]∧Has ρ [(1,(vp (some p1))),(32,(vb ((((decide (aA<1)) || (decide (aA>7))) || ((aB != 0) && (aB != 1))) || ((!(s_B aA)) && (aB != 0))))),(41,(vb (b23'0 && (!(decide (aD=⟨#[]⟩))))))]) ?_ ?_
 rintro ρ w32 ⟨b23'0,H24,he0,hs,hb,hH⟩
 subst he0
 refine zU hH ?_
 refine q2 (vb ((!((s_B aA) || (aA == 6))) && (!(decide (aD=⟨#[]⟩))))) (xF hg43) (zD ?_)
 exact ⟨false,_,hg43,hs,hb,hm⟩
 rcases bte (!((s_B aA) || (aA == 6))) with hg45 | hg45
 refine q1 (vp (some (p1.add 3))) (wy 37 hg45) (stp (v:=(vs aD)) (wy 37 hg45) (xl (isAgg9 _) (hb.c 0 3 gZ)) (stp (v:=(vb (!(decide (aD=⟨#[]⟩))))) (wy 37 hg45) (jGW (by kernel_rfl) (by kernel_rfl)) (stp (v:=(vb (!(decide (aD=⟨#[]⟩))))) (wy 32 hg43) (xT hg45) (zD ?_))))
 exact ⟨true,_,hg45,hs,hb,hm⟩
 refine sk (yD 37 hg45) (sk (yD 37 hg45) (sk (yD 37 hg45) (stp (v:=(vb false)) (wy 32 hg43) (xF hg45) (zD ?_))))
 exact ⟨false,_,hg45,hs,hb,hm⟩
 rcases bte (((decide (aA<1)) || (decide (aA>7))) || ((aB != 0) && (aB != 1))) with hg37 | hg37
 refine sk (yD 21 hg37) (sk (yD 21 hg37) (sk (yD 21 hg37) (sk (yD 21 hg37) (sk (yD 21 hg37) (sm (sm (sm (sk (yD 21 hg37) (q2 (vb true) (xT hg37) (zD ?_))))))))))
 exact ⟨true,_,hg37,hs,hb,hm⟩
 refine q1 (vp (some p1)) (wy 21 hg37) (stp (v:=(vi aA)) (wy 21 hg37) (xl (isAgg3 _) (hb.c0 0 gZ)) ?_)
 refine vG (wy 21 hg37) (xc call175) ((p_B aA w21).mono ?_)
 rintro e w26 ⟨he,hE⟩
 refine ⟨(vb (s_B aA)),he.trans (by kernel_rfl),?_⟩
 have hs:=hs.pure hE
 have hb:=hb.pure hE
 refine q1 (vb (!(s_B aA))) (wy 21 hg37) (q1 (vb (!(s_B aA))) (wy 21 hg37) ?_)
 refine zL 4 (fun ρ wJ=>∃b20'0:Bool,∃HJ:NP,((!(s_B aA))=b20'0)∧Hst w0 None w0 HJ wJ∧HB HJ wJ [(p1,[(vi aA),(vi aB),(vu aK),(vs aD),(vb aE)],30)]∧Has ρ [(1,(vp (some p1))),(21,(vb (((decide (aA<1)) || (decide (aA>7))) || ((aB != 0) && (aB != 1))))),(30,(vb (b20'0 && (aB != 0))))]) ?_ ?_
 rintro ρ w27 ⟨b20'0,H21,he0,hs,hb,hH⟩
 subst he0
 refine zU hH ?_
 refine q2 (vb ((!(s_B aA)) && (aB != 0))) (xF hg37) (zD ?_)
 exact ⟨false,_,hg37,hs,hb,hm⟩
 rcases bte (!(s_B aA)) with hg39 | hg39
 refine q1 (vp (some (p1.add 1))) (wy 26 hg39) (stp (v:=(vi aB)) (wy 26 hg39) (xl (isAgg3 _) (hb.c 0 1 gZ)) (q1 (vb (aB != 0)) (wy 26 hg39) (stp (v:=(vb (aB != 0))) (wy 21 hg37) (xT hg39) (zD ?_))))
 exact ⟨true,_,hg39,hs,hb,hm⟩
 refine sk (yD 26 hg39) (sk (yD 26 hg39) (sk (yD 26 hg39) (stp (v:=(vb false)) (wy 21 hg37) (xF hg39) (zD ?_))))
 exact ⟨false,_,hg39,hs,hb,hm⟩
 rcases bte ((decide (aA<1)) || (decide (aA>7))) with hg31 | hg31
 refine sk (yD 11 hg31) (sk (yD 11 hg31) (sk (yD 11 hg31) (sk (yD 11 hg31) (sm (sm (sm (sk (yD 11 hg31) (q2 (vb true) (xT hg31) (zD ?_)))))))))
 exact ⟨true,_,hg31,hs,hb,hm⟩
 refine q1 (vp (some (p1.add 1))) (wy 11 hg31) (stp (v:=(vi aB)) (wy 11 hg31) (xl (isAgg3 _) (hb.c 0 1 gZ)) (q1 (vb (aB != 0)) (wy 11 hg31) (q1 (vb (aB != 0)) (wy 11 hg31) ?_)))
 refine zL 4 (fun ρ wJ=>∃b17'0:Bool,∃HJ:NP,((aB != 0)=b17'0)∧Hst w0 None w0 HJ wJ∧HB HJ wJ [(p1,[(vi aA),(vi aB),(vu aK),(vs aD),(vb aE)],30)]∧Has ρ [(1,(vp (some p1))),(11,(vb ((decide (aA<1)) || (decide (aA>7))))),(19,(vb (b17'0 && (aB != 1))))]) ?_ ?_
 rintro ρ w22 ⟨b17'0,H18,he0,hs,hb,hH⟩
 subst he0
 refine zU hH ?_
 refine q2 (vb ((aB != 0) && (aB != 1))) (xF hg31) (zD ?_)
 exact ⟨false,_,hg31,hs,hb,hm⟩
 rcases bte (aB != 0) with hg33 | hg33
 refine q1 (vp (some (p1.add 1))) (wy 15 hg33) (stp (v:=(vi aB)) (wy 15 hg33) (xl (isAgg3 _) (hb.c 0 1 gZ)) (q1 (vb (aB != 1)) (wy 15 hg33) (stp (v:=(vb (aB != 1))) (wy 11 hg31) (xT hg33) (zD ?_))))
 exact ⟨true,_,hg33,hs,hb,hm⟩
 refine sk (yD 15 hg33) (sk (yD 15 hg33) (sk (yD 15 hg33) (stp (v:=(vb false)) (wy 11 hg31) (xF hg33) (zD ?_))))
 exact ⟨false,_,hg33,hs,hb,hm⟩
 rcases bte (decide (aA<1)) with hg27 | hg27
 refine sk (yD 6 hg27) (sk (yD 6 hg27) (sk (yD 6 hg27) (q2 (vb true) (xT hg27) (zD ?_))))
 exact ⟨true,_,hg27,hs,hb,hm⟩
 refine q1 (vp (some p1)) (wy 6 hg27) (stp (v:=(vi aA)) (wy 6 hg27) (xl (isAgg3 _) (hb.c0 0 gZ)) (q1 (vb (decide (aA>7))) (wy 6 hg27) (q2 (vb (decide (aA>7))) (xF hg27) (zD ?_))))
 exact ⟨false,_,hg27,hs,hb,hm⟩
 rintro ρ w18 ⟨b13'0,H14,he0,hs,hb,hH⟩
 subst he0
 refine vH hH ?_
 refine zN ?_
 refine zB (t:=((((((decide (aA<1)) || (decide (aA>7))) || ((aB != 0) && (aB != 1))) || ((!(s_B aA)) && (aB != 0))) || ((!((s_B aA) || (aA == 6))) && (!(decide (aD=⟨#[]⟩))))) || ((aE && (aA != 1)) && (aA != 4)))) (by kernel_rfl) (fun hc1=>?_) (fun hc1=>?_)
 refine eg (q0 (vi 110) (ln (er (vL (rs1 results165 (v:=(vi 110)) ?_)))))
 exact ⟨true,_,⟨hc1,rfl⟩,by kernel_rfl,(Ext.refl (F:=None) _).hst hs⟩
 refine zC (zN (zA (eg (q0 (vp (some (p1.add 3))) (q2 (vs aD) (xl (isAgg9 _) (hb.c 0 3 gZ)) (q0 (vi (aD.size:Int)) (q0 (vb (decide ((aD.size:Int)>64))) (ln ?_))))))))
 refine zB (t:=(decide ((aD.size:Int)>64))) (by kernel_rfl) (fun hc2=>?_) (fun hc2=>?_)
 refine eg (q0 (vi 1) (ln (er (vL (rs1 results165 (v:=(vi 1)) ?_)))))
 exact ⟨false,true,⟨hc1,hc2⟩,by kernel_rfl,(Ext.refl (F:=None) _).hst hs⟩
 refine zC (zN (eg (q0 (vi 0) (ln (er (rs1 results165 (v:=(vi 0)) ?_))))))
 exact ⟨false,false,⟨hc1,hc2⟩,by kernel_rfl,(Ext.refl (F:=None) _).hst hs⟩
theorem p_R (aA aB aK:Int) (aD:ByteArray) (aE:Bool) (w0:World):Calls prog 165 #[(.agg #[(.int .i64 aA),(.int .i64 aB),(.int .u64 aK),(.string aD),(.bool aE)])] w0 (fun e w'=>e=.returned (.int .i64 (s_R aA aB aK aD aE))∧Pure w0 w'):=by
 refine (pw_R aA aB aK aD aE w0).mono ?_;rintro e w' ⟨b'0,b'1,⟨e0,e1⟩,h,E⟩;subst e0;subst e1;exact ⟨h,E⟩
def m_R4 (p1:Option Addr) (aA aB aK:Int) (aD:ByteArray) (aE:Bool) (w0:World) (K:Int→Int→WP):Prop :=Br (((s_R aA aB aK aD aE):Int) != 0) (∀(H1:NP) (w2:World),Hst w0 None w0 H1 w2→K 0 (s_R aA aB aK aD aE) w2) (∀(H1:NP) (w2:World),Hst w0 None w0 H1 w2→Calls prog 29 #[(.agg #[(vi aA),(vi aB),(vu aK),(vs aD),(vb aE)]),(vb true),(vb true)] w2 (fun e w3=>∃bO bP:Int,∃bQ bR:Int,∃bS:ByteArray,∃bT:Sl,e=.returned (.agg #[(vi bO),(vi bP),(vi bQ),(vu bR),(vs bS),bT.v])∧Kept H1 w2 w3∧Calls prog 100 #[(vp p1),(.agg #[(vi bO),(vi bP),(vi bQ),(vu bR),(vs bS),bT.v])] w3 (fun e w4=>∃r1 r2:Int,e=.returned (.tuple #[(vi r1),(vi r2)])∧Kept H1 w3 w4∧K r1 r2 w4)))
theorem w_R4 (p1:Option Addr) (aA aB aK:Int) (aD:ByteArray) (aE:Bool) (w0:World) (K:Int→Int→WP) (h:m_R4 p1 aA aB aK aD aE w0 K) :
  Calls prog 107 #[(vp p1),(.agg #[(vi aA),(vi aB),(vu aK),(vs aD),(vb aE)])] w0 (fun e w'=>∃r3 r4:Int,e=.returned (.tuple #[(vi r3),(vi r4)])∧K r3 r4 w'):=by
 unfold m_R4 at h
 refine cw (args:=[(vp p1),(.agg #[(vi aA),(vi aB),(vu aK),(vs aD),(vb aE)])]) func107 ntmps107 ?_
 have hs:=Hst.start w0
 have hb:=HB.nil None w0
 refine eg (sn (O:=(.cells #[(vi aA),(vi aB),(vu aK),(vs aD),(vb aE)] 30)) xb ?_)
 intro p2 w1 hn1
 obtain ⟨H1,hs,hb⟩:=hs.alloc hb hn1
 refine q0 (vi 0) (q0 (vi 0) (ln (eg (q2 (.agg #[(vi aA),(vi aB),(vu aK),(vs aD),(vb aE)]) (xa p2 [(vi aA),(vi aB),(vu aK),(vs aD),(vb aE)] (isAgg30 _) (sizeOf30 _) (hb.r0 0 5 gZ)) ?_))))
 refine sc call165 ((p_R aA aB aK aD aE w1).mono ?_)
 rintro e w2 ⟨he,hE⟩
 refine ⟨(vi (s_R aA aB aK aD aE)),he.trans (by kernel_rfl),?_⟩
 have hs:=hs.pure hE
 have hb:=hb.pure hE
 refine q0 (vi (s_R aA aB aK aD aE)) (ln (zA (eg (q0 (vi (s_R aA aB aK aD aE)) (q0 (vb (((s_R aA aB aK aD aE):Int) != 0)) (ln ?_))))))
 refine zB (t:=(((s_R aA aB aK aD aE):Int) != 0)) (by kernel_rfl) (fun hc1=>?_) (fun hc1=>?_)
 have h:=h.1 hc1
 refine eg (q0 (vi (s_R aA aB aK aD aE)) (q0 (vi 0) (q0 (vi (s_R aA aB aK aD aE)) (ln (er (vL ?_))))))
 have h:=h H1 w2 hs
 have hs:=hs.here
 refine xW (.inl rfl) results107 (v:=(vi 0)) (by kernel_rfl) (v':=(vi (s_R aA aB aK aD aE))) (by kernel_rfl) ?_
 exact ⟨0,(s_R aA aB aK aD aE),rfl,h⟩
 have h:=h.2 hc1
 refine zC (zN (eg (q0 (vp p1) (q2 (.agg #[(vi aA),(vi aB),(vu aK),(vs aD),(vb aE)]) (xa p2 [(vi aA),(vi aB),(vu aK),(vs aD),(vb aE)] (isAgg30 _) (sizeOf30 _) (hb.r0 0 5 gZ)) ?_))))
 have h:=h H1 w2 hs
 have hs:=hs.here
 refine sc call29 (h.mono ?_)
 rintro e w3 ⟨bO,bP,bQ,bR,bS,bT,rfl,hk,h⟩
 refine ⟨_,rfl,?_⟩
 obtain ⟨hs,hb⟩:=hk.hh hs hb
 refine sc call100 (h.mono ?_)
 rintro e w4 ⟨r1,r2,rfl,hk,h⟩
 refine ⟨_,rfl,?_⟩
 obtain ⟨hs,hb⟩:=hk.hh hs hb
 refine q0 (vi r1) (q0 (vi r2) (q0 (vi r1) (q0 (vi r2) (ln (er (xW (.inl rfl) results107 (v:=(vi r1)) (by kernel_rfl) (v':=(vi r2)) (by kernel_rfl) ?_))))))
 exact ⟨r1,r2,rfl,h⟩
def m_S4 (aA aB aK:Int) (aD:ByteArray) (aE:Bool) (w0:World) (K:Sl→Int→WP):Prop :=∀(H1:NP) (w1:World),Hst w0 None w0 H1 w1→Calls prog 54 #[] w1 (fun e w2=>∃r1:Option Addr,e=.returned (vp r1)∧Kept H1 w1 w2∧Calls prog 107 #[(vp r1),(.agg #[(vi aA),(vi aB),(vu aK),(vs aD),(vb aE)])] w2 (fun e w3=>∃r2 r3:Int,e=.returned (.tuple #[(vi r2),(vi r3)])∧Kept H1 w2 w3∧Br (r3 != 0) (K Sl.nil r3 w3) (Calls prog 108 #[(vp r1),(vi r2)] w3 (fun e w4=>∃r4:Sl,∃r5:Int,e=.returned (.tuple #[r4.v,(vi r5)])∧Kept H1 w3 w4∧K r4 r5 w4))))
theorem w_S4 (aA aB aK:Int) (aD:ByteArray) (aE:Bool) (w0:World) (K:Sl→Int→WP) (h:m_S4 aA aB aK aD aE w0 K) :
  Calls prog 48 #[(.agg #[(vi aA),(vi aB),(vu aK),(vs aD),(vb aE)])] w0 (fun e w'=>∃r6:Sl,∃r7:Int,e=.returned (.tuple #[r6.v,(vi r7)])∧K r6 r7 w'):=by
 unfold m_S4 at h
 refine cw (args:=[(.agg #[(vi aA),(vi aB),(vu aK),(vs aD),(vb aE)])]) func48 ntmps48 ?_
 have hs:=Hst.start w0
 have hb:=HB.nil None w0
 refine eg (sn (O:=(.cells #[(vi aA),(vi aB),(vu aK),(vs aD),(vb aE)] 30)) xb ?_)
 intro p1 w1 hn1
 obtain ⟨H1,hs,hb⟩:=hs.alloc hb hn1
 refine q0 Sl.nil.v (q0 (vi 0) (ln (eg ?_)))
 have h:=h H1 w1 hs
 have hs:=hs.here
 refine sc call54 (h.mono ?_)
 rintro e w2 ⟨r1,rfl,hk,h⟩
 refine ⟨_,rfl,?_⟩
 obtain ⟨hs,hb⟩:=hk.hh hs hb
 refine q0 (vp r1) (ln (eg (q0 (vp r1) (q2 (.agg #[(vi aA),(vi aB),(vu aK),(vs aD),(vb aE)]) (xa p1 [(vi aA),(vi aB),(vu aK),(vs aD),(vb aE)] (isAgg30 _) (sizeOf30 _) (hb.r0 0 5 gZ)) ?_))))
 refine sc call107 (h.mono ?_)
 rintro e w3 ⟨r2,r3,rfl,hk,h⟩
 refine ⟨_,rfl,?_⟩
 obtain ⟨hs,hb⟩:=hk.hh hs hb
 refine q0 (.tuple #[(vi r2),(vi r3)]) (q0 (vi r2) (q0 (vi r3) (q0 (vi r2) (q0 (vi r3) (ln (zA (eg (q0 (vi r3) (q0 (vb (r3 != 0)) ?_)))))))))
 refine ln ?_
 refine zB (t:=(r3 != 0)) (by kernel_rfl) (fun hc1=>?_) (fun hc1=>?_)
 have h:=h.1 hc1
 refine eg (q0 (vi r3) (q0 Sl.nil.v (q0 (vi r3) (ln (er (vL (xW (.inl rfl) results48 (v:=Sl.nil.v) (by kernel_rfl) (v':=(vi r3)) (by kernel_rfl) ?_)))))))
 exact ⟨Sl.nil,r3,rfl,h⟩
 have h:=h.2 hc1
 refine zC (zN (eg (q0 (vp r1) (q0 (vi r2) ?_))))
 refine sc call108 (h.mono ?_)
 rintro e w4 ⟨r4,r5,rfl,hk,h⟩
 refine ⟨_,rfl,?_⟩
 obtain ⟨hs,hb⟩:=hk.hh hs hb
 refine q0 r4.v (q0 (vi r5) (q0 r4.v (q0 (vi r5) (ln (er (xW (.inl rfl) results48 (v:=r4.v) (by kernel_rfl) (v':=(vi r5)) (by kernel_rfl) ?_))))))
 exact ⟨r4,r5,rfl,h⟩
end Go.Proofs
end
section
open Go Go.SE
namespace Go.Proofs
attribute [local irreducible] Calls
theorem jLH (l:Sp.Letter):s_R l.kind l.frm l.c l.text l.fake=Sp.vY l:=by
 obtain ⟨k,f,c,x,g⟩:=l;unfold s_R Sp.vY;have e1:s_B k=Sp.qJ k:=rfl;rw [e1];have e2:(Sp.qJ k || k == 6)=Sp.qU k:=rfl;rw [e2];have e3:decide (((x.size:Int))>64)=decide (x.size>64):=decide_eq_decide.2 (by omega);rw [e3];generalize Sp.qJ k=a;generalize Sp.qU k=b;have hc:((((((decide (k<1)) || (decide (k>7))) || (((f:Int) != 0) && ((f:Int) != 1))) || ((!a) && ((f:Int) != 0))) || ((!b) && (!(decide (x=(⟨#[]⟩:ByteArray)))))) || ((g && ((k:Int) != 1)) && ((k:Int) != 4)))=decide (k<1∨k>7∨(f≠0∧f≠1)∨(a=false∧f≠0)∨(b=false∧x≠⟨#[]⟩)∨(g=true∧k≠1∧k≠4)):=by
  rw [Bool.eq_iff_iff];simp only [Bool.or_eq_true,Bool.and_eq_true,decide_eq_true_eq,bne_iff_ne,Bool.not_eq_true',decide_eq_false_iff_not];simp only [or_assoc,and_assoc]
 rw [hc];by_cases h:(k<1∨k>7∨(f≠0∧f≠1)∨(a=false∧f≠0)∨(b=false∧x≠⟨#[]⟩)∨(g=true∧k≠1∧k≠4))
 ·rw [decide_eq_true h,if_pos h];rfl
 ·rw [decide_eq_false h,if_neg h];by_cases h2:x.size>64
  ·rw [decide_eq_true h2,if_pos h2];rfl
  ·rw [decide_eq_false h2,if_neg h2];rfl
theorem TreeAt.back {S:NP} {w w':World} {s:Sl} {t:Sp.Tree} (h:TreeAt S w' s t) (hE:Pure w w') (hd:∀b,S b→b<w.heap.size):TreeAt S w s t:=by
 induction h with
 | mk k f t u x ks s rs len fit row kid ih =>
  refine .mk k f t u x ks s rs len fit (fun i h=>let ⟨a,h1,h2,h3⟩:=row i h;⟨a,h1,h2,fun j hj=>?_⟩) ih
  rw [← h3 j hj]
  unfold World.cell?
  rw [zX,hE.keep _ (hd _ h2) (fun h=>h)]
end Go.Proofs
end
section
open Go Go.SE
namespace Go.Proofs
open Tryz
attribute [local irreducible] Calls
abbrev MkR (S:Int×Int×Sp.Pool) (p:Addr) (F:NP) (w0 w':World):Prop:=∃F',yB w' p S.2.2 F'∧Ext F w0 w'∧∀b,F' b→F b∨w0.heap.size≤b
theorem jLZ (p:Addr) (l:Sp.Letter) (w0:World) {L:Sp.Pool} {F:NP} (hP:yB w0 p L F) (hok:Sp.Ok L) :
  Calls prog 107 #[.pointer (some p),.agg #[.int .i64 l.kind,.int .i64 l.frm,.int .u64 l.c,.string l.text,.bool l.fake]] w0 (fun e w'=>∃r1 r2:Int,e=.returned (.tuple #[.int .i64 r1,.int .i64 r2])∧(r1=(zW L l).1∧r2=(zW L l).2.1∧MkR (zW L l) p F w0 w')):=by
 refine w_R4 (some p) l.kind l.frm l.c l.text l.fake w0 (fun r1 r2 w'=>r1=(zW L l).1∧r2=(zW L l).2.1∧MkR (zW L l) p F w0 w') ?_
 unfold m_R4
 rw [jLH l]
 have hF:∀b,F b→b<w0.heap.size:=fun b hb=>hP.lt hb
 refine ⟨fun hc H w2 hs=>?_,fun hc H w2 hs=>?_⟩
 ·have e:zW L l=(0,Sp.vY l,L):=by unfold zW;rw [if_pos (bne_iff_ne.1 hc)]
  rw [e];exact ⟨rfl,rfl,F,hP.pure hs.first,Ext.pure hs.first,fun b hb=>.inl hb⟩
 have hc:Sp.vY l=0:=by simpa using hc
 have e:zW L l=Sp.of L (Sp.vD l true true):=by unfold zW;rw [if_neg (by simpa using hc)]
 rw [e]
 have E2:=hs.first
 refine (jJX w2.heap.size l.kind l.frm l.c l.text l.fake true true w2 (Nat.le_refl _) (jGL hc)).mono ?_
 rintro _ w3 ⟨s3,he,hT3,E3⟩
 have hT3:TreeAt (w2.heap.size≤·) w3 s3 (Sp.vD l true true):=hT3
 have he:_=Ending.returned (.agg (xN (Sp.vD l true true) s3).toArray):=he
 generalize Sp.vD l true true=T at *
 obtain ⟨tk,tf,tt,tu,tx,tks⟩:=T
 have he:_=Ending.returned (.agg #[.int .i64 tk,.int .i64 tf,.int .i64 tt,.int .u64 tu,.string tx,s3.v]):=he
 refine ⟨tk,tf,tt,tu,tx,s3,he,E3.keptP,?_⟩
 have E03:=E2.trans E3
 refine (jPD (S:=fun b=>w2.heap.size≤b∧b<w3.heap.size) p (.mk tk tf tt tu tx tks) s3 w3 hT3.lt (hP.pure E03) hok (fun b hb hh=>by have:=hF b hb;have:=E2.size;omega) (fun b hb=>hb.2)).mono ?_
 rintro _ w4 ⟨r1,r2,rfl,h12,F',hP4,X4,hF4⟩
 obtain ⟨e1,e2⟩:=Prod.mk.inj h12
 refine ⟨r1,r2,rfl,X4.kept (fun b hb hh=>by have:=hs.old b hb;have:=hF b hh;omega),e1,e2,F',hP4,(Ext.pure E03).trans X4,fun b hb=>(hF4 b hb).imp id (fun h=>by have:=E03.size;omega)⟩
theorem jKE (l:Sp.Letter) (hl:Sp.yV l.c) (w0:World) :
  Calls prog 48 #[.agg #[.int .i64 l.kind,.int .i64 l.frm,.int .u64 l.c,.string l.text,.bool l.fake]] w0 (fun e w'=>∃r:Sl,∃n:Int,e=.returned (.tuple #[r.v,.int .i64 n])∧(n=(Sp.yX l).2∧RetO w0 5 1 (byr (Sp.yX l).1) r w')):=by
 refine w_S4 _ _ _ _ _ w0 (fun r n w'=>n=(Sp.yX l).2∧RetO w0 5 1 (byr (Sp.yX l).1) r w') ?_
 unfold m_S4
 intro H1 w1 hs
 have E1:=hs.first
 refine (jLW w1).mono ?_
 rintro _ w2 ⟨_,rfl,p,F,rfl,hP,E2,hF⟩
 refine ⟨_,rfl,E2.keptP,?_⟩
 refine (jLZ p l w2 hP Sp.Wf.nil.ok).mono ?_
 rintro _ w3 ⟨r2,r3,rfl,e2,e3,F3,hP3,E3,hF3⟩
 have E02:=E1.trans E2
 have E03:Pure w0 w3:=E02.trans' E3 (fun i hi hf=>by have:=hF i hf;have:=E1.size;omega)
 refine ⟨_,_,rfl,E3.kept (fun b hb hf=>by have:=hs.lt b hb;have:=hF b hf;omega),fun hc=>?_,fun hc=>?_⟩
 ·have hc:=bne_iff_ne.1 hc
  have e:Sp.yX l=([],(zW [] l).2.1):=by unfold Sp.yX;rw [if_pos (by rw [← e3];exact hc)]
  rw [e]
  exact ⟨e3,Rws.nil _ _ _,fun b hb=>(by obtain ⟨a,ha,_⟩:=hb;cases ha),E03⟩
 ·have hc:r3=0:=by simpa using hc
  have e:Sp.yX l=jKS (zW [] l).2.2 (zW [] l).1:=by unfold Sp.yX;rw [if_neg (by rw [← e3];simpa using hc)]
  rw [e,← e2]
  refine (jFT p r2 w3 (Sp.uT Sp.Wf.nil l) (Sp.tI Sp.uN.nil hl) hP3).mono ?_
  rintro _ w4 ⟨r4,r5,rfl,e5,hR⟩
  exact ⟨_,_,rfl,hR.pure.keptP,e5,hR.rows,fun b hb=>by have:=hR.own b hb;have:=E03.size;omega,E03.trans hR.pure⟩
end Go.Proofs
end
section
open Go Go.SE
namespace Go.Sp
def Dep (L:Pool) (S:List Way) (t y:Int):Prop :=
 (∃v∈S,v.t=t∧v.rule≠0∧y=v.frm)∨(t ∉ zM S∧0<y∧(y=(jAY L S t).1∨y=(jAY L S t).2.1))
inductive Dp (L:Pool) (S:List Way):Int→Int→Prop
 | refl (t:Int):Dp L S t t
 | step {t y z:Int}:Dep L S t y→Dp L S y z→Dp L S t z
theorem Dep.made {L:Pool} {S:List Way} {t y a b:Int} {f m:Bool} (h:jAY L S t=(a,b,f,m)) (ht:t ∉ zM S):Dep L S t y↔0<y∧(y=a∨y=b):=by
 unfold Dep;rw [h];constructor
 ·rintro (⟨v,hv,rfl,_⟩ | ⟨_,h⟩)
  ·exact absurd (List.mem_map.2 ⟨v,hv,rfl⟩) ht
  ·exact h
 ·exact fun h=>.inr ⟨ht,h⟩
theorem Dep.way {L:Pool} {S:List Way} {t y r f:Int} (hn:(zM S).Nodup) (hl:SE.look (S.map fun v=>(v.t,(v.rule,v.frm))) t=some (r,f)):Dep L S t y↔r≠0∧y=f:=by
 have hm:=xA hl;obtain ⟨v,hv,e⟩:=List.mem_map.1 hm;simp only [Prod.mk.injEq] at e;obtain ⟨rfl,rfl,rfl⟩:=e;have hk:v.t∈zM S:=List.mem_map.2 ⟨v,hv,rfl⟩;unfold Dep;constructor
 ·rintro (⟨u,hu,e,hr,rfl⟩ | ⟨h,_⟩)
  ·have hnd:((S.map fun v=>(v.t,(v.rule,v.frm))).map Prod.fst).Nodup:=by rw [List.map_map];exact hn
   have h2:=jLN hnd (List.mem_map.2 ⟨u,hu,rfl⟩);rw [e,hl] at h2;simp only [Option.some.injEq,Prod.mk.injEq] at h2;exact ⟨by rw [h2.1];exact hr,h2.2.symm⟩
  ·exact absurd hk h
 ·rintro ⟨h1,rfl⟩;exact .inl ⟨v,hv,rfl,h1,rfl⟩
theorem Dp.all {L:Pool} {S:List Way} {M:List Step} (hc:∀s∈M,∀y,Dep L S s.t y→y∈M.map Step.t) {t x:Int} (ht:t∈M.map Step.t) (h:Dp L S t x):x∈M.map Step.t:=by
 induction h with
 | refl=>exact ht
 | step hd _ ih =>
  obtain ⟨s,hs,rfl⟩:=List.mem_map.1 ht
  exact ih (hc s hs _ hd)
end Go.Sp
namespace Go.Proofs
open Tryz
attribute [local irreducible] Calls
def jPZ (s:Sp.Step):List Value:=[.int .i64 s.rule,.int .i64 s.a,.int .i64 s.b,.int .i64 s.t]
theorem jST:SlType prog 181 185 4 32:=by
 refine ⟨underlying181,⟨t185,_,by kernel_rfl,(by kernel_rfl:t185.zero=some (.agg #[.int .i64 0,.int .i64 0,.int .i64 0,.int .i64 0])),by kernel_rfl,by kernel_rfl,rfl⟩,by omega⟩
def tru (_:Unit):Value:=.bool true
def jUS (B:List Int):List (Int×Unit):=B.map fun t=>(t,())
theorem jKK (B:List Int):(jUS B).map Prod.fst=B:=by
 unfold jUS;rw [List.map_map];exact List.map_id' B
theorem jSK (B:List Int) (t:Int):jUS (B++[t])=jUS B++[(t,())]:=by simp [jUS]
def PW (ma mb:Nat) (c5:Addr) (sl:Sl) (b:Nat):Prop:=b=ma∨b=mb∨b=c5.block∨sl.blk b
def says (f:FuncId) (c1 c2 c3 c4 c5:Addr):Value:=.func (.func f) #[] #[.pointer (some c1),.pointer (some c2),.pointer (some c3),.pointer (some c4),.pointer (some c5)]
structure PrfAt (w:World) (k:Addr) (c1 c2 c3 c4 c5:Addr) (ma mb:Nat) (sl:Sl) (l:List Sp.Step) (B:List Int):Prop where
 a1:w.cell? c1=some (.map (some ma))
 a2:w.cell? c2=some (.map (some mb))
 a3:w.cell? c3=some (.pointer (some k))
 a4:w.cell? c4=some (says 171 c1 c2 c3 c4 c5)
 a5:Box w c5 [sl.v] 181
 am:IMap jKR w ma (Sp.jSO l)
 bm:IMap tru w mb (jUS B)
 ls:Rws w 185 4 sl (l.map jPZ)
 d:∀b,PW ma mb c5 sl b→b≠c1.block∧b≠c2.block∧b≠c3.block∧b≠c4.block
 n1:ma≠mb
 n2:ma≠c5.block
 n3:mb≠c5.block
 n4:¬ sl.blk ma
 n5:¬ sl.blk mb
 n6:¬ sl.blk c5.block
structure SaysAt (w:World) (k p:Addr) (c1 c2 c3 c4 c5:Addr) (ma mb:Nat) (L:Sp.Pool) (G:List Int) (S:List Sp.Way) (F FP:NP) (sl:Sl) (l:List Sp.Step) (B:List Int):Prop where
 prf:PrfAt w k c1 c2 c3 c4 c5 ma mb sl l B
 know:qB w k p G S F
 pool:zV w p L FP
 dF:∀b,F b→¬ PW ma mb c5 sl b
 dP:∀b,FP b→¬ PW ma mb c5 sl b
section
variable {w w':World} {k p c1 c2 c3 c4 c5:Addr} {ma mb:Nat} {L:Sp.Pool} {G:List Int} {S:List Sp.Way} {F FP:NP} {sl:Sl} {l:List Sp.Step} {B:List Int}
theorem PrfAt.ext {X:NP} (h:PrfAt w k c1 c2 c3 c4 c5 ma mb sl l B) (hE:Ext X w w') (h1:∀b,PW ma mb c5 sl b→¬ X b) (x1:¬ X c1.block) (x2:¬ X c2.block) (x3:¬ X c3.block) (x4:¬ X c4.block):PrfAt w' k c1 c2 c3 c4 c5 ma mb sl l B :=
 ⟨hE.cell h.a1 x1,hE.cell h.a2 x2,hE.cell h.a3 x3,hE.cell h.a4 x4,h.a5.ext hE (h1 _ (.inr (.inr (.inl rfl)))),h.am.ext hE (h1 _ (.inl rfl)),h.bm.ext hE (h1 _ (.inr (.inl rfl))),h.ls.ext hE (fun b hb=>h1 b (.inr (.inr (.inr hb)))),h.d,h.n1,h.n2,h.n3,h.n4,h.n5,h.n6⟩
theorem PrfAt.lt (h:PrfAt w k c1 c2 c3 c4 c5 ma mb sl l B) {b:Nat} (hb:PW ma mb c5 sl b):b<w.heap.size:=by
 rcases hb with rfl | rfl | rfl | hb
 ·exact h.am.lt
 ·exact h.bm.lt
 ·exact h.a5.lt
 ·exact h.ls.lt hb
theorem SaysAt.ext {X:NP} {n:Nat} (h:SaysAt w k p c1 c2 c3 c4 c5 ma mb L G S F FP sl l B) (hE:Ext X w w') (hn:∀b,X b→n≤b) (z1:∀b,PW ma mb c5 sl b→b<n∨¬ X b) (zc:c1.block<n∧c2.block<n∧c3.block<n∧c4.block<n) (zF:∀b,F b→b<n) (zP:∀b,FP b→b<n):SaysAt w' k p c1 c2 c3 c4 c5 ma mb L G S F FP sl l B:=by
 have hx:∀b,b<n→¬ X b:=fun b hb hX=>by have:=hn b hX;omega
 exact ⟨h.prf.ext hE (fun b hb=>(z1 b hb).elim (hx b) id) (hx _ zc.1) (hx _ zc.2.1) (hx _ zc.2.2.1) (hx _ zc.2.2.2),h.know.ext hE (fun b hb=>hx b (zF b hb)),h.pool.ext hE (fun b hb=>hx b (zP b hb)),h.dF,h.dP⟩
theorem SaysAt.pure (h:SaysAt w k p c1 c2 c3 c4 c5 ma mb L G S F FP sl l B) (E:Pure w w'):SaysAt w' k p c1 c2 c3 c4 c5 ma mb L G S F FP sl l B :=
 ⟨h.prf.ext E (fun _ _ h=>h) (fun h=>h) (fun h=>h) (fun h=>h) (fun h=>h),h.know.pure E,h.pool.pure E,h.dF,h.dP⟩
theorem SaysAt.zc (h:SaysAt w k p c1 c2 c3 c4 c5 ma mb L G S F FP sl l B):c1.block<w.heap.size∧c2.block<w.heap.size∧c3.block<w.heap.size∧c4.block<w.heap.size :=
 ⟨World.block_lt_of_cell? w _ h.prf.a1,World.block_lt_of_cell? w _ h.prf.a2,World.block_lt_of_cell? w _ h.prf.a3,World.block_lt_of_cell? w _ h.prf.a4⟩
theorem PrfAt.bar (h:PrfAt w k c1 c2 c3 c4 c5 ma mb sl l B) (t:Int):∃w',(Instr.mapUpdate 246 (.map (some mb)) (.int .i64 t) (.bool true)).run prog w=.ok () w'∧(∃B',(B'=B∨B'=B++[t])∧PrfAt w' k c1 c2 c3 c4 c5 ma mb sl l B')∧Ext (·=mb) w w':=by
 have hd:=h.d mb (.inr (.inl rfl));have back:∀{w':World} {B':List Int},IMap tru w' mb (jUS B')→Ext (·=mb) w w'→PrfAt w' k c1 c2 c3 c4 c5 ma mb sl l B':=fun hI hE =>
  ⟨hE.cell h.a1 (fun e=>hd.1 e.symm),hE.cell h.a2 (fun e=>hd.2.1 e.symm),hE.cell h.a3 (fun e=>hd.2.2.1 e.symm),hE.cell h.a4 (fun e=>hd.2.2.2 e.symm),h.a5.ext hE (fun e=>h.n3 e.symm),h.am.ext hE h.n1,hI,h.ls.ext hE (fun b hb e=>h.n5 (e▸hb)),h.d,h.n1,h.n2,h.n3,h.n4,h.n5,h.n6⟩
 cases hl:SE.look (jUS B) t with
 | none =>
  obtain ⟨w',h1,h2,h3⟩:=h.bm.put (P:=prog) (T:=246) underlying246 underlying78 hl ()
  exact ⟨w',h1,⟨_,.inr rfl,back (by rw [jSK];exact h2) h3⟩,h3⟩
 | some v =>
  cases v
  obtain ⟨w',h1,h2,h3⟩:=h.bm.again (P:=prog) (T:=246) underlying246 underlying78 hl
  exact ⟨w',h1,⟨_,.inl rfl,back h2 h3⟩,h3⟩
theorem PrfAt.barred (h:PrfAt w k c1 c2 c3 c4 c5 ma mb sl l B) (t:Int):(Instr.lookup 246 (.map (some mb)) (.int .i64 t) false).run prog w=.ok (.bool (decide (t∈B))) w:=by
 rcases h.bm.get (P:=prog) (T:=246) underlying246 underlying78 (zeroValue4 _) t false with ⟨h1,h2⟩ | ⟨v,h1,h2⟩
 ·have hn:t ∉ B:=by have:=uD.1 h1;rwa [jKK] at this
  rw [decide_eq_false hn];exact h2
 ·have hy:t∈B:=by have:=xA h1;rw [← jKK B];exact List.mem_map.2 ⟨_,this,rfl⟩
  rw [decide_eq_true hy];exact h2
end
structure SaysRet (w0:World) (k p:Addr) (c1 c2 c3 c4 c5:Addr) (ma mb:Nat) (L:Sp.Pool) (G:List Int) (S:List Sp.Way) (F FP:NP) (sl:Sl) (l:List Sp.Step) (t r:Int) (ok:Bool) (w':World) (sl':Sl) (M:List Sp.Step) (B':List Int):Prop where
 st:SaysAt w' k p c1 c2 c3 c4 c5 ma mb L G S F FP sl' (l++M) B'
 prf:Sp.PrfOk L G (fun x=>x∈Sp.zM S) (l++M) B'
 new:∀s∈M,Sp.jDF S s.t≤Sp.jDF S t∧(Sp.Sub L t s.t∨s.t∈Sp.zM S)
 idx:ok=true→∃i,r=((i:Nat):Int)∧∃hi:i<(l++M).length,(l++M)[i].t=t
 drv:ok=true↔Sp.Drv L (fun x=>x∈Sp.zM S) t
 ext:Ext (PW ma mb c5 sl) w0 w'
 own:∀b,sl'.blk b→sl.blk b∨w0.heap.size≤b
 last:ok=true→M=[]∨Sp.tAt (l++M) (((l++M).length:Int) - 1)=t
 dp:∀s∈M,Sp.Dp L S t s.t
 cl:∀s∈M,∀y,Sp.Dep L S s.t y→y∈(l++M).map Sp.Step.t
structure SaysCur (w0:World) (H:NP) (w:World) (k p:Addr) (c1 c2 c3 c4 c5:Addr) (ma mb:Nat) (L:Sp.Pool) (G:List Int) (S:List Sp.Way) (F FP:NP) (sl:Sl) (l:List Sp.Step) (t:Int) (sl1:Sl) (M B:_):Prop where
 st:SaysAt w k p c1 c2 c3 c4 c5 ma mb L G S F FP sl1 (l++M) B
 prf:Sp.PrfOk L G (fun x=>x∈Sp.zM S) (l++M) B
 new:∀s∈M,Sp.jDF S s.t<Sp.jDF S t∧(Sp.Sub L t s.t∨s.t∈Sp.zM S)
 ext:Ext (PW ma mb c5 sl) w0 w
 own:∀b,sl1.blk b→sl.blk b∨w0.heap.size≤b
 vis:∀b,sl1.blk b→¬ H b
 hs:Hst w0 H w H w
 dp:∀s∈M,Sp.Dp L S t s.t
 cl:∀s∈M,∀y,Sp.Dep L S s.t y→y∈(l++M).map Sp.Step.t
section
variable {w0 w w':World} {H H':NP} {k p c1 c2 c3 c4 c5:Addr} {ma mb:Nat} {L:Sp.Pool} {G:List Int} {S:List Sp.Way} {F FP:NP} {sl sl1 sl2:Sl} {l M M2:List Sp.Step} {B0 B B2:List Int} {t:Int}
theorem PW.old (h:SaysAt w0 k p c1 c2 c3 c4 c5 ma mb L G S F FP sl l B0) (ho:∀b,sl1.blk b→sl.blk b∨w0.heap.size≤b):∀b,PW ma mb c5 sl1 b→b<w0.heap.size→PW ma mb c5 sl b:=by
 rintro b (hb | hb | hb | hb) hlt
 ·exact .inl hb
 ·exact .inr (.inl hb)
 ·exact .inr (.inr (.inl hb))
 ·exact (ho b hb).elim (fun h=>.inr (.inr (.inr h))) (fun h=>by omega)
theorem SaysCur.nh (h:SaysCur w0 H w k p c1 c2 c3 c4 c5 ma mb L G S F FP sl l t sl1 M B) (h0:SaysAt w0 k p c1 c2 c3 c4 c5 ma mb L G S F FP sl l B0):∀b,PW ma mb c5 sl1 b→¬ H b:=by
 have old:∀b,b<w0.heap.size→¬ H b:=fun b hb hh=>by have:=h.hs.old b hh;omega
 rintro b (rfl | rfl | rfl | hb)
 ·exact old _ (h0.prf.lt (.inl rfl))
 ·exact old _ (h0.prf.lt (.inr (.inl rfl)))
 ·exact old _ (h0.prf.lt (.inr (.inr (.inl rfl))))
 ·exact h.vis b hb
theorem SaysCur.hst (h:SaysCur w0 H w k p c1 c2 c3 c4 c5 ma mb L G S F FP sl l t sl1 M B) (h0:SaysAt w0 k p c1 c2 c3 c4 c5 ma mb L G S F FP sl l B0) (hs:Hst w0 H w H' w'):SaysCur w0 H' w' k p c1 c2 c3 c4 c5 ma mb L G S F FP sl l t sl1 M B:=by
 have dj:=hs.disj (G:=PW ma mb c5 sl1) (fun b hb=>⟨h.st.prf.lt hb,h.nh h0 b hb⟩);exact ⟨h.st.ext hs.ext hs.old (fun b hb=>.inr (dj b hb)) h0.zc (fun b hb=>h0.know.lt hb) (fun b hb=>h0.pool.lt hb),h.prf,h.new,h.ext.hst hs,h.own,fun b hb=>dj b (.inr (.inr (.inr hb))),hs.here,h.dp,h.cl⟩
theorem SaysCur.step {u r:Int} {ok:Bool} (h:SaysCur w0 H w k p c1 c2 c3 c4 c5 ma mb L G S F FP sl l t sl1 M B) (h0:SaysAt w0 k p c1 c2 c3 c4 c5 ma mb L G S F FP sl l B0) (hr:SaysRet w k p c1 c2 c3 c4 c5 ma mb L G S F FP sl1 (l++M) u r ok w' sl2 M2 B2) (hu:Sp.jDF S u<Sp.jDF S t) (hsub:Sp.Sub L t u∨u∈Sp.zM S) (hcl:∀x,u∈Sp.zM S→Sp.jDF S x≤Sp.jDF S u→x∈Sp.zM S) (hdep:Sp.Dep L S t u) :
  Kept H w w'∧SaysCur w0 H w' k p c1 c2 c3 c4 c5 ma mb L G S F FP sl l t sl2 (M++M2) B2:=by
 have hk:Kept H w w':=hr.ext.kept (fun b hb hx=>h.nh h0 b hx hb)
 refine ⟨hk,by rw [← List.append_assoc];exact hr.st,by rw [← List.append_assoc];exact hr.prf,fun s hs=>?_,h.ext.trans' hr.ext (fun i hi hb=>PW.old h0 h.own i hb hi),fun b hb=>?_,fun b hb hh=>?_,h.hs.again hk,fun s hs=>?_,fun s hs y hy=>?_⟩
 ·rcases List.mem_append.1 hs with hs | hs
  ·exact h.new s hs
  ·obtain ⟨q1,q2⟩:=hr.new s hs
   refine ⟨by omega,?_⟩
   rcases q2 with q2 | q2
   ·rcases hsub with h1 | h1
    ·exact .inl (h1.trans q2)
    ·exact .inr (hcl _ h1 q1)
   ·exact .inr q2
 ·rcases hr.own b hb with h1 | h1
  ·exact h.own b h1
  ·right;have:=h.ext.size;omega
 ·rcases hr.own b hb with h1 | h1
  ·exact h.vis b h1 hh
  ·have:=h.hs.lt b hh;omega
 ·rcases List.mem_append.1 hs with hs | hs
  ·exact h.dp s hs
  ·exact .step hdep (hr.dp s hs)
 ·rw [← List.append_assoc]
  rcases List.mem_append.1 hs with hs | hs
  ·rw [List.map_append];exact List.mem_append_left _ (h.cl s hs y hy)
  ·exact hr.cl s hs y hy
end
theorem jJB {S:List Sp.Way} {u x:Int} (hu:u∈Sp.zM S) (h:Sp.jDF S x≤Sp.jDF S u):x∈Sp.zM S:=by
 refine Classical.byContradiction fun hx=>?_;have:=Sp.jEW hu;rw [Sp.jHK hx] at h;omega
end Go.Proofs
end
section
open Go Go.SE
namespace Go.Proofs
open Tryz
attribute [local irreducible] Calls
theorem c_says (k p c1 c2 c3 c4 c5:Addr) (ma mb:Nat) {L:Sp.Pool} {G:List Int} {S:List Sp.Way} {F FP:NP} (hW:Sp.Wf L) (hk:Sp.KnowOk L G S):∀(n:Nat) (t:Int) (w0:World) (sl:Sl) (l:List Sp.Step) (B:List Int),Sp.jDF S t<n →
  SaysAt w0 k p c1 c2 c3 c4 c5 ma mb L G S F FP sl l B→Sp.PrfOk L G (fun x=>x∈Sp.zM S) l B →
  Calls prog 171 #[.int .i64 t,.pointer (some c1),.pointer (some c2),.pointer (some c3),.pointer (some c4),.pointer (some c5)] w0 (fun e w'=>∃r:Int,∃ok:Bool,e=.returned (.tuple #[.int .i64 r,.bool ok])∧∃sl' M B',SaysRet w0 k p c1 c2 c3 c4 c5 ma mb L G S F FP sl l t r ok w' sl' M B'):=by
 intro n
 induction n with
 | zero=>intro t w0 sl l B h;omega
 | succ n ih =>
 intro t w0 sl l B hrk h0 hp0
 suffices key:∀K:Int→Bool→WP,(∀r ok w' sl' M B',SaysRet w0 k p c1 c2 c3 c4 c5 ma mb L G S F FP sl l t r ok w' sl' M B'→K r ok w')→m_L t c1 c2 c3 c4 c5 w0 K from
  w_L _ _ _ _ _ _ w0 _ (key _ (fun r ok w' sl' M B' h=>⟨sl',M,B',h⟩))
 intro K hK
 have hKs:∀r u t,u∈Sp.zM S→Sp.uG L r u t→t∈Sp.zM S:=fun r u t hu ha=>hk.closed u hu r t ha
 unfold m_L
 rcases h0.prf.am.get (P:=prog) (T:=245) underlying245 underlying78 (zeroValue3 _) t true with ⟨hl,hrun⟩ | ⟨v,hl,hrun⟩
 case inr =>
  obtain ⟨i,hi,rfl,hit⟩:=Sp.jSM hl
  refine ⟨_,h0.prf.a1,_,true,hrun,Br.t rfl (hK _ _ w0 sl [] B ⟨by simpa using h0,by simpa using hp0,by simp,fun _=>⟨i,rfl,by simpa using hi,by simpa using hit⟩,⟨fun _=>hit▸hp0.drv _ (List.getElem_mem hi),fun _=>rfl⟩,Ext.refl _,fun b hb=>.inl hb,fun _=>.inl rfl,by simp,by simp⟩)⟩
 case inl =>
 have htl:t ∉ l.map Sp.Step.t:=Sp.jKN.1 hl
 refine ⟨_,h0.prf.a1,_,false,hrun,Br.f rfl ?_⟩
 intro H1 w2 hs2
 have old:∀{H:NP} {w:World},Hst w0 H w H w→∀b,b<w0.heap.size→¬ H b:=fun hs b hb hh=>by have:=hs.old b hh;omega
 have C0:SaysCur w0 None w0 k p c1 c2 c3 c4 c5 ma mb L G S F FP sl l t sl [] B:=⟨by simpa using h0,by simpa using hp0,by simp,Ext.refl _,fun b hb=>.inl hb,fun b _ h=>h,Hst.start w0,by simp,by simp⟩
 have C2:=C0.hst h0 hs2
 have c5h:∀{H:NP} {w:World} {sl1:Sl} {M B1:_},SaysCur w0 H w k p c1 c2 c3 c4 c5 ma mb L G S F FP sl l t sl1 M B1→¬ H c5.block:=fun C=>C.nh h0 _ (.inr (.inr (.inl rfl)))
 have J1f:∀(r a b:Int) (H:NP) (w:World) (sl1:Sl) (M:List Sp.Step) (B1:List Int),SaysCur w0 H w k p c1 c2 c3 c4 c5 ma mb L G S F FP sl l t sl1 M B1→¬ Sp.Drv L (fun x=>x∈Sp.zM S) t→m_L_j1 t c1 c2 c5 false r a b t H w K:=by
  intro r a b H w sl1 M B1 C hnd;unfold m_L_j1;refine Br.t rfl ?_;obtain ⟨w5,hr5,⟨B',hB',P5⟩,E5⟩:=C.st.prf.bar t;have hmb:=C.nh h0 mb (.inr (.inl rfl));have hpb:Sp.PrfOk L G (fun x=>x∈Sp.zM S) (l++M) B':=by
   rcases hB' with rfl | rfl
   ·exact C.prf
   ·exact C.prf.bars hnd
  refine ⟨_,C.st.prf.a2,w5,hr5,E5.kept (fun b hb e=>hmb (e▸hb)),hK 0 false w5 sl1 M B' ⟨⟨P5,C.st.know.ext E5 (fun b hb e=>C.st.dF b hb (.inr (.inl e))),C.st.pool.ext E5 (fun b hb e=>C.st.dP b hb (.inr (.inl e))),C.st.dF,C.st.dP⟩,hpb,fun s hs=>⟨Nat.le_of_lt (C.new s hs).1,(C.new s hs).2⟩,(fun h=>by cases h),⟨(fun h=>by cases h),fun h=>absurd h hnd⟩,C.ext.trans' E5 (fun i hi e=>.inr (.inl e)),C.own,(fun h=>by cases h),C.dp,C.cl⟩⟩
 have J1t:∀(r a b:Int) (H:NP) (w:World) (sl1:Sl) (M:List Sp.Step) (B1:List Int),SaysCur w0 H w k p c1 c2 c3 c4 c5 ma mb L G S F FP sl l t sl1 M B1→Sp.fol L G (l++M) ⟨r,a,b,t⟩=true→Sp.Drv L (fun x=>x∈Sp.zM S) t→(∀y,Sp.Dep L S t y→y∈(l++M).map Sp.Step.t)→m_L_j1 t c1 c2 c5 true r a b t H w K:=by
  intro r a b H w sl1 M B1 C hfol hdt hdp;unfold m_L_j1;refine Br.f rfl ?_;have hsl:sl1.len=(l++M).length:=by rw [C.st.prf.ls.len];simp
  have hfew:=C.prf.few;have hL6:=hW.ok.few;have htn:t ∉ (l++M).map Sp.Step.t:=by
   rw [List.map_append,List.mem_append];rintro (h | h)
   ·exact htl h
   ·obtain ⟨s,hs,e⟩:=List.mem_map.1 h;have:=(C.new s hs).1;rw [e] at this;omega
  have hlk:=Sp.jKN.2 htn;obtain ⟨w5,hr5,I5,E5⟩:=C.st.prf.am.put (P:=prog) (T:=245) underlying245 underlying78 hlk ((l++M).length:Int);have hma:=C.nh h0 ma (.inl rfl);have da:=C.st.prf.d ma (.inl rfl);have b5:Box w5 c5 [sl1.v] 181:=C.st.prf.a5.ext E5 (fun e=>C.st.prf.n2 e.symm);refine ⟨_,C.st.prf.a1,sl1,C.st.prf.a5.cell0,w5,by rw [hsl];exact hr5,E5.kept (fun b hb e=>hma (e▸hb)),sl1,b5.cell0,?_⟩;intro p3 w7 h7;have E7:Pure w5 w7:=Ext.new h7;have ls7:=(C.st.prf.ls.ext E5 (fun b hb e=>C.st.prf.n4 (e▸hb))).pure E7;obtain ⟨s1,w8,hr8,R8,X8,f8⟩:=ls7.append (P:=prog) (ty:=181) (c:=1) jST (r:=jPZ ⟨r,a,b,t⟩) (Box.of_new h7).row rfl rfl (by simp at hfew ⊢;omega) (by simp [maxLen] at hfew ⊢;omega);have b8:Box w8 c5 [sl1.v] 181:=(b5.pure E7).ext X8 C.st.prf.n6;refine ⟨s1,w8,hr8,X8.kept (fun b hb hx=>C.vis b hx hb),b8.canW0 (by simp),c5h C,?_⟩;rintro _ rfl;have E9:=Ext.setCell (w:=w8) c5 s1.v;have z5:w.heap.size≤w7.heap.size:=by have:=E5.size;have:=E7.size;omega
  have f8':∀b,s1.blk b→sl1.blk b∨w.heap.size≤b:=fun b hb=>(f8 b hb).imp_right (fun h=>by omega);have X:Ext (PW ma mb c5 sl1) w (w8.setCell c5 s1.v):=(((E5.mono (fun b _ e=>.inl e)).trans (E7.pure (F:=PW ma mb c5 sl1))).trans (X8.mono (fun b _ h=>.inr (.inr (.inr h))))).trans (E9.mono (fun b _ e=>.inr (.inr (.inl e))));have nx:∀{b},(b=c1.block∨b=c2.block∨b=c3.block∨b=c4.block)→¬ PW ma mb c5 sl1 b:=fun hb hx=>by
   obtain ⟨d1,d2,d3,d4⟩:=C.st.prf.d _ hx;rcases hb with h | h | h | h
   ·exact d1 h
   ·exact d2 h
   ·exact d3 h
   ·exact d4 h
  have lt1:∀{b},PW ma mb c5 sl1 b→b<w.heap.size:=fun hb=>C.st.prf.lt hb;have I9:IMap jKR (w8.setCell c5 s1.v) ma (Sp.jSO ((l++M)++[⟨r,a,b,t⟩])):=by
   rw [Sp.jKM];exact ((I5.pure E7).ext X8 C.st.prf.n4).ext E9 C.st.prf.n2
  have P9:PrfAt (w8.setCell c5 s1.v) k c1 c2 c3 c4 c5 ma mb s1 ((l++M)++[⟨r,a,b,t⟩]) B1:=by
   refine ⟨X.cell C.st.prf.a1 (nx (.inl rfl)),X.cell C.st.prf.a2 (nx (.inr (.inl rfl))),X.cell C.st.prf.a3 (nx (.inr (.inr (.inl rfl)))),X.cell C.st.prf.a4 (nx (.inr (.inr (.inr rfl)))),b8.set0,I9,?_,?_,?_,C.st.prf.n1,C.st.prf.n2,C.st.prf.n3,?_,?_,?_⟩
   ·have:=((C.st.prf.bm.ext E5 (fun e=>C.st.prf.n1 e.symm)).pure E7).ext X8 C.st.prf.n5;exact this.ext E9 C.st.prf.n3
   ·have hne : ∀ b, s1.blk b → b ≠ c5.block := fun b hb e => by
     rcases f8' b hb with h | h
     ·exact C.st.prf.n6 (e▸h)
     ·have:=lt1 (.inr (.inr (.inl rfl)));omega
    have:=R8.ext E9 hne;simpa using this
   ·rintro b (hb | hb | hb | hb)
    ·exact C.st.prf.d b (.inl hb)
    ·exact C.st.prf.d b (.inr (.inl hb))
    ·exact C.st.prf.d b (.inr (.inr (.inl hb)))
    ·rcases f8' b hb with h | h
     ·exact C.st.prf.d b (.inr (.inr (.inr h)))
     ·have:=C.st.zc;omega
   ·intro hb;rcases f8' _ hb with h | h
    ·exact C.st.prf.n4 h
    ·have:=lt1 (.inl rfl);omega
   ·intro hb;rcases f8' _ hb with h | h
    ·exact C.st.prf.n5 h
    ·have:=lt1 (.inr (.inl rfl));omega
   ·intro hb;rcases f8' _ hb with h | h
    ·exact C.st.prf.n6 h
    ·have:=lt1 (.inr (.inr (.inl rfl)));omega
  have hlk9:SE.look (Sp.jSO ((l++M)++[⟨r,a,b,t⟩])) t=some ((l++M).length:Int):=by
   rw [Sp.jKM,jJH (by rw [Sp.jKO];exact htn),if_pos rfl]
  rcases I9.get (P:=prog) (T:=245) underlying245 underlying78 (zeroValue3 _) t false with ⟨hx,_⟩ | ⟨v,hv,hrun9⟩
  ·rw [hx] at hlk9;cases hlk9
  ·rw [hv] at hlk9;cases hlk9;have dg:∀{Z:NP},(∀b,Z b→b<w.heap.size)→(∀b,Z b→¬ PW ma mb c5 sl1 b)→∀b,Z b→¬ PW ma mb c5 s1 b:=fun hz h b hb hx=>by
    rcases hx with hx | hx | hx | hx
    ·exact h b hb (.inl hx)
    ·exact h b hb (.inr (.inl hx))
    ·exact h b hb (.inr (.inr (.inl hx)))
    ·rcases f8' b hx with h' | h'
     ·exact h b hb (.inr (.inr (.inr h')))
     ·have:=hz b hb;omega
   refine ⟨_,P9.a1,_,hrun9,hK _ true _ s1 (M++[⟨r,a,b,t⟩]) B1 ⟨⟨by rw [← List.append_assoc];exact P9,C.st.know.ext X (fun b hb=>C.st.dF b hb),C.st.pool.ext X (fun b hb=>C.st.dP b hb),dg (fun b hb=>C.st.know.lt hb) C.st.dF,dg (fun b hb=>C.st.pool.lt hb) C.st.dP⟩,by rw [← List.append_assoc];exact C.prf.snoc hfol htn hdt,fun s hs=>?_,fun _=>⟨(l++M).length,rfl,by simp,by simp⟩,⟨fun _=>hdt,fun _=>rfl⟩,C.ext.trans' X (fun i hi hb=>PW.old h0 C.own i hb hi),fun b hb=>?_,fun _=>.inr ?_,fun s hs=>?_,fun s hs y hy=>?_⟩⟩
   ·rcases List.mem_append.1 hs with hs | hs
    ·exact ⟨Nat.le_of_lt (C.new s hs).1,(C.new s hs).2⟩
    ·simp at hs;subst hs;exact ⟨Nat.le_refl _,.inl (.refl t)⟩
   ·rcases f8' b hb with h | h
    ·exact C.own b h
    ·right;have:=C.ext.size;omega
   ·rw [← List.append_assoc];have e:((((l++M)++[(⟨r,a,b,t⟩:Sp.Step)]).length:Int) - 1)=((l++M).length:Int):=by simp;omega
    rw [e,Sp.jGB (by simp)];simp
   ·rcases List.mem_append.1 hs with hs | hs
    ·exact C.dp s hs
    ·simp at hs;subst hs;exact .refl t
   ·rw [← List.append_assoc,List.map_append];refine List.mem_append_left _ ?_;rcases List.mem_append.1 hs with hs | hs
    ·exact C.cl s hs y hy
    ·simp at hs;subst hs;exact hdp y hy
 have hcall : ∀ (u : Int) (H : NP) (w : World) (sl1 : Sl) (M : List Sp.Step) (B1 : List Int), SaysCur w0 H w k p c1 c2 c3 c4 c5 ma mb L G S F FP sl l t sl1 M B1 → Sp.jDF S u < Sp.jDF S t → (Sp.Sub L t u ∨ u ∈ Sp.zM S) → Sp.Dep L S t u → ∀ (Q : Int → Bool → WP),
   (∀(r:Int) (ok:Bool) (w':World) (sl2:Sl) (M2:List Sp.Step) (B2:List Int),SaysCur w0 H w' k p c1 c2 c3 c4 c5 ma mb L G S F FP sl l t sl2 (M++M2) B2→(ok=true↔Sp.Drv L (fun x=>x∈Sp.zM S) u)→(ok=true→∃i,r=((i:Nat):Int)∧∃hi:i<(l++(M++M2)).length,(l++(M++M2))[i].t=u)→Kept H w w'→Q r ok w') →
   ∃v13:Value,w.cell? c4=some v13∧∃(f1:FuncId) (fs1 cs1:Array Value),v13=.func (.func f1) fs1 cs1∧(∀args w,(callFunc f1 args).run prog w=.ok (.enter f1 args) w)∧Calls prog f1 (fs1++#[(.int .i64 u)]++cs1) w (fun e w'=>∃r1:Int,∃r2:Bool,e=.returned (.tuple #[(.int .i64 r1),(.bool r2)])∧Kept H w w'∧Q r1 r2 w'):=by
  intro u H w sl1 M B1 C hu hsub hdep Q hQ
  refine ⟨_,C.st.prf.a4,171,#[],_,rfl,call171,?_⟩
  refine (ih u w sl1 (l++M) B1 (by omega) C.st C.prf).mono ?_
  rintro _ w' ⟨r,ok,rfl,sl2,M2,B2,hret⟩
  obtain ⟨hkp,C2⟩:=C.step h0 hret hu hsub (fun x hu hx=>jJB hu hx) hdep
  refine ⟨r,ok,rfl,hkp,hQ r ok w' sl2 M2 B2 C2 hret.drv (fun h=>?_) hkp⟩
  obtain ⟨i,e,hi,hit⟩:=hret.idx h
  refine ⟨i,e,by rw [← List.append_assoc];exact hi,?_⟩
  simpa [List.append_assoc] using hit
 obtain ⟨sg,m,sk,k2,hF2⟩:=C2.st.know
 obtain ⟨vr,vf,hlook,hway⟩:=k2.look t
 refine ⟨_,C2.st.prf.a2,_,C2.st.prf.barred t,_,C2.st.prf.a3,k,rfl,_,k2.box.cell rfl,vr,vf,_,hlook,fun hc=>?_,fun hc=>?_⟩
 ·-- it is seen
  have hts:t∈Sp.zM S:=by simpa using hc
  have hdt:Sp.Drv L (fun x=>x∈Sp.zM S) t:=.seen hts
  have hnB:decide (t∈B)=false:=decide_eq_false (fun hb=>hp0.bar t hb hdt)
  have hin:=hk.inp t hts
  have hin':¬ Sp.inP L t=false:=by simp [hin]
  rw [hnB]
  rcases Sp.way_of hk.toWaysOk (xA (hway hts)) with ⟨rfl,rfl,hg⟩ | ⟨hne,hari,hfs,hrf⟩
  ·refine ⟨fun h=>by simp at h,fun _=>?_⟩
   intro H2 w10 hs10
   have C10:=C2.hst h0 hs10
   refine J1t 0 0 0 H2 w10 sl [] B C10 ?_ hdt (fun y hy=>absurd rfl ((Sp.Dep.way hk.nodup (hway hts)).1 hy).1)
   unfold Sp.fol;rw [if_neg hin',if_pos rfl];simp [hg]
  ·refine ⟨fun _=>?_,fun h=>absurd (by simpa using h) hne⟩
   intro H2 w10 hs10
   have C10:=C2.hst h0 hs10
   refine hcall vf H2 w10 sl [] B C10 hrf (.inr hfs) ((Sp.Dep.way hk.nodup (hway hts)).2 ⟨hne,rfl⟩) _ ?_
   intro r1 ok w11 sl2 M2 B2 C11 hd11 hi11 _ w12 hs12
   have C12:=C11.hst h0 hs12
   obtain ⟨i,rfl,hi,hit⟩:=hi11 (hd11.2 (.seen hfs))
   refine J1t vr i 0 H2 w12 sl2 _ B2 C12 ?_ hdt (fun y hy=>by rw [((Sp.Dep.way hk.nodup (hway hts)).1 hy).2];exact List.mem_map.2 ⟨_,List.getElem_mem hi,hit⟩)
   have hr:=hari.rule
   unfold Sp.fol
   rw [if_neg hin',if_neg hne,if_pos hr]
   have h1:=Sp.jAO hi
   have h2:=Sp.jGB hi
   rw [hit] at h2
   simp only [h1,h2,Bool.true_and,Bool.and_eq_true,beq_iff_eq,true_and]
   exact (Sp.jMF hr).2 hari
 ·-- it is not
  have hts:t ∉ Sp.zM S:=by simpa using hc
  refine ⟨fun hb=>?_,fun hb=>?_⟩
  ·intro H2 w4 hs4
   have C4:=C2.hst h0 hs4
   refine ⟨_,C4.st.prf.a3,?_⟩
   refine (jPI k p t w4 C4.st.know C4.st.pool hW).mono ?_
   rintro _ w13 ⟨r3,r4,r5,r6,rfl,hmade,E13⟩
   refine ⟨r3,r4,r5,r6,rfl,E13.keptP,?_⟩
   have C13:SaysCur w0 H2 w13 k p c1 c2 c3 c4 c5 ma mb L G S F FP sl l t sl [] B:=⟨C4.st.pure E13,C4.prf,C4.new,C4.ext.thenPure E13,C4.own,C4.vis,C4.hs.again E13.keptP,C4.dp,C4.cl⟩
   have J2 : ∀ (H : NP) (w : World) (sl1 : Sl) (M : List Sp.Step) (B1 : List Int) (ok4 : Bool) (rl a : Int), SaysCur w0 H w k p c1 c2 c3 c4 c5 ma mb L G S F FP sl l t sl1 M B1 →
     (ok4=false→¬ Sp.Drv L (fun x=>x∈Sp.zM S) t) →
     (ok4=true→r4≤0→Sp.fol L G (l++M) ⟨rl,a,0,t⟩=true∧Sp.Drv L (fun x=>x∈Sp.zM S) t) →
     (ok4=true→0<r4→Sp.jDF S r4<Sp.jDF S t∧(Sp.Sub L t r4∨r4∈Sp.zM S)∧(Sp.Drv L (fun x=>x∈Sp.zM S) r4→Sp.Drv L (fun x=>x∈Sp.zM S) t)∧(Sp.Drv L (fun x=>x∈Sp.zM S) t→Sp.Drv L (fun x=>x∈Sp.zM S) r4) ∧
      ∀M2 (i:Nat) (hi:i<(l++(M++M2)).length),(l++(M++M2))[i].t=r4→Sp.fol L G (l++(M++M2)) ⟨rl,a,i,t⟩=true) →
     (ok4=true→0<r3→r3∈(l++M).map Sp.Step.t) →
     m_L_j2 t c1 c2 c4 c5 r4 ok4 rl a 0 t w0 H w K:=by
    intro H w sl1 M B1 ok4 rl a C h1 h2 h3 h4
    unfold m_L_j2
    refine ⟨fun hc=>?_,fun hc=>?_⟩
    ·rw [Bool.and_eq_true] at hc
     obtain ⟨hok,hpos⟩:=hc
     have hpos:=of_decide_eq_true hpos
     obtain ⟨g1,g2,g3,g4,g5⟩:=h3 hok hpos
     intro H5 w19 hs19
     have C19:=C.hst h0 hs19
     refine hcall r4 H5 w19 sl1 M B1 C19 g1 g2 ((Sp.Dep.made hmade.symm hts).2 ⟨hpos,.inr rfl⟩) _ ?_
     intro r7 r8 w20 sl2 M2 B2 C20 hd20 hi20 _ w21 hs21
     have C21:=C20.hst h0 hs21
     cases r8 with
     | false=>exact J1f _ _ _ H5 w21 sl2 _ B2 C21 (fun hd=>by have:=hd20.2 (g4 hd);cases this)
     | true =>
      obtain ⟨i,rfl,hi,hit⟩:=hi20 rfl
      refine J1t _ _ _ H5 w21 sl2 _ B2 C21 (g5 M2 i hi hit) (g3 (hd20.1 rfl)) (fun y hy=>?_)
      rcases (Sp.Dep.made hmade.symm hts).1 hy with ⟨hy0,e | e⟩
      ·subst e
       rw [← List.append_assoc,List.map_append]
       exact List.mem_append_left _ (h4 hok hy0)
      ·subst e
       exact List.mem_map.2 ⟨_,List.getElem_mem hi,hit⟩
    ·intro H5 w19 hs19
     have C19:=C.hst h0 hs19
     cases ok4 with
     | false=>exact J1f _ _ _ H5 w19 sl1 M B1 C19 (h1 rfl)
     | true =>
      have hle:r4≤0:=by simpa using hc
      obtain ⟨q1,q2⟩:=h2 rfl hle
      refine J1t _ _ _ H5 w19 sl1 M B1 C19 q1 q2 (fun y hy=>?_)
      rcases (Sp.Dep.made hmade.symm hts).1 hy with ⟨hy0,e | e⟩
      ·subst e;exact h4 rfl hy0
      ·omega
   cases hin:Sp.inP L t with
   | false =>
    have hm:Sp.jAY L S t=(0,0,false,false):=by unfold Sp.jAY;rw [if_pos hin]
    rw [hm] at hmade;cases hmade
    have hnd:¬ Sp.Drv L (fun x=>x∈Sp.zM S) t:=fun hd=>by
     have hnode:Sp.nodeOf L t=Sp.jNA:=by unfold Sp.nodeOf;rw [Sp.xB hin];rfl
     rcases hd.inv with h | h | ⟨h,_⟩ | ⟨h,_⟩ | ⟨h,_⟩
     ·exact hts h
     all_goals (rw [hnode] at h;exact absurd h (by decide))
    refine ⟨fun h=>by simp at h,fun _=>?_⟩
    intro H4 w18 hs18
    exact J2 H4 w18 sl [] B false _ _ (C13.hst h0 hs18) (fun _=>hnd) (fun h=>by cases h) (fun h=>by cases h) (fun h=>by cases h)
   | true =>
   have hin':¬ Sp.inP L t=false:=by simp [hin]
   have ht1:=(Sp.zY.1 hin).1
   generalize hn:Sp.nodeOf L t=n at *
   have hm:=hmade
   unfold Sp.jAY at hm
   rw [if_neg hin',hn] at hm
   have kx:∀x∈Sp.zI n,Sp.inP L x=true∧x<t:=by have:=(hW.node hin).2.2.2.2.1;rw [hn] at this;exact this
   rcases Sp.uL hW hin with hk1 | hk4 | hk5 | hk6 | hk7
   ·rw [hn] at hk1
    rw [if_pos hk1] at hm;cases hm
    refine ⟨fun h=>by simp at h,fun _=>?_⟩
    intro H4 w18 hs18
    have hd:Sp.Drv L (fun x=>x∈Sp.zM S) t:=.free (by rw [hn];exact hk1)
    refine J2 H4 w18 sl [] B true _ _ (C13.hst h0 hs18) (fun h=>by cases h) (fun _ _=>⟨?_,hd⟩) (fun _ h=>by omega) (fun _ h=>by omega)
    unfold Sp.fol;rw [if_neg hin',hn];simp [hk1]
   ·rw [hn] at hk4
    rw [if_neg (by rw [hk4];decide),if_pos hk4] at hm;cases hm
    have ha:=kx n.a (Sp.jDJ (.inl hk4))
    have hb':=kx n.b (Sp.jRG hk4)
    have ha1:=(Sp.zY.1 ha.1).1
    have hb1:=(Sp.zY.1 hb'.1).1
    have sa:Sp.Sub L t n.a:=.kid (.refl t) (by rw [hn];exact Sp.jDJ (.inl hk4))
    have sb:Sp.Sub L t n.b:=.kid (.refl t) (by rw [hn];exact Sp.jRG hk4)
    have inv:Sp.Drv L (fun x=>x∈Sp.zM S) t→Sp.Drv L (fun x=>x∈Sp.zM S) n.a∧Sp.Drv L (fun x=>x∈Sp.zM S) n.b:=fun hd=>by
     rcases hd.inv with h | h | ⟨_,h1,h2⟩ | ⟨h,_⟩ | ⟨h,_⟩
     ·exact absurd h hts
     ·rw [hn,hk4] at h;exact absurd h (by decide)
     ·rw [hn] at h1 h2;exact ⟨h1,h2⟩
     ·rw [hn,hk4] at h;cases h
     ·rw [hn,hk4] at h;exact absurd h (by decide)
    refine ⟨fun _=>?_,fun h=>by simp at h;omega⟩
    intro H4 w18 hs18
    refine hcall n.a H4 w18 sl [] B (C13.hst h0 hs18) (Sp.jDZ hts ha1 ha.2) (.inl sa) ((Sp.Dep.made hmade.symm hts).2 ⟨by omega,.inl rfl⟩) _ ?_
    intro r9 r10 w22 sl2 M2 B2 C22 hd22 hi22 _ w23 hs23
    have C23:=C22.hst h0 hs23
    refine J2 H4 w23 sl2 _ B2 r10 _ _ C23 (fun h hd=>by have:=hd22.2 (inv hd).1;rw [h] at this;cases this) (fun _ h=>by omega) (fun h _=>⟨Sp.jDZ hts hb1 hb'.2,.inl sb,fun hd=>.pair (by rw [hn];exact hk4) (by rw [hn];exact hd22.1 h) (by rw [hn];exact hd),fun hd=>(inv hd).2,?_⟩) (fun h _=>by obtain ⟨i1,_,hi1,hit1⟩:=hi22 h;exact List.mem_map.2 ⟨_,List.getElem_mem hi1,hit1⟩)
    intro M3 i hi hit
    obtain ⟨i1,rfl,hi1,hit1⟩:=hi22 h
    have hi1':i1<(l++(([]++M2)++M3)).length:=by simp at hi1 ⊢;omega
    have e1:Sp.tAt (l++(([]++M2)++M3)) (i1:Int)=n.a:=by
     rw [← List.append_assoc,Sp.jPY hi1];exact hit1
    have e2:=Sp.jGB hi
    rw [hit] at e2
    clear hit
    generalize l++(([]++M2)++M3)=l' at *
    unfold Sp.fol;rw [if_neg hin',hn]
    simp [hk4,Sp.jAO hi,Sp.jAO hi1',e1,e2]
   ·rw [hn] at hk5
    rw [if_neg (by rw [hk5];decide),if_neg (by rw [hk5];decide),if_pos hk5] at hm;cases hm
    have ha:=kx n.a (Sp.jDJ (.inr (.inl hk5)))
    have ha1:=(Sp.zY.1 ha.1).1
    have sa:Sp.Sub L t n.a:=.kid (.refl t) (by rw [hn];exact Sp.jDJ (.inr (.inl hk5)))
    have inv:Sp.Drv L (fun x=>x∈Sp.zM S) t→Sp.Drv L (fun x=>x∈Sp.zM S) n.a:=fun hd=>by
     rcases hd.inv with h | h | ⟨h,_⟩ | ⟨_,h⟩ | ⟨h,_⟩
     ·exact absurd h hts
     ·rw [hn,hk5] at h;exact absurd h (by decide)
     ·rw [hn,hk5] at h;cases h
     ·rw [hn] at h;exact h
     ·rw [hn,hk5] at h;exact absurd h (by decide)
    refine ⟨fun _=>?_,fun h=>by simp at h;omega⟩
    intro H4 w18 hs18
    refine hcall n.a H4 w18 sl [] B (C13.hst h0 hs18) (Sp.jDZ hts ha1 ha.2) (.inl sa) ((Sp.Dep.made hmade.symm hts).2 ⟨by omega,.inl rfl⟩) _ ?_
    intro r9 r10 w22 sl2 M2 B2 C22 hd22 hi22 _ w23 hs23
    have C23:=C22.hst h0 hs23
    refine J2 H4 w23 sl2 _ B2 r10 _ _ C23 (fun h hd=>by have:=hd22.2 (inv hd);rw [h] at this;cases this) (fun h _=>⟨?_,.hash (by rw [hn];exact hk5) (by rw [hn];exact hd22.1 h)⟩) (fun _ h=>by omega) (fun h _=>by obtain ⟨i1,_,hi1,hit1⟩:=hi22 h;exact List.mem_map.2 ⟨_,List.getElem_mem hi1,hit1⟩)
    obtain ⟨i1,rfl,hi1,hit1⟩:=hi22 h
    have e1:=Sp.jGB hi1
    rw [hit1] at e1
    clear hit1
    have q1:=Sp.jAO hi1
    generalize l++([]++M2)=l' at *
    unfold Sp.fol;rw [if_neg hin',hn]
    simp [hk5,q1,e1]
   ·rw [hn] at hk6
    rw [if_neg (by rw [hk6];decide),if_neg (by rw [hk6];decide),if_neg (by rw [hk6];decide),if_pos hk6] at hm;cases hm
    have hnd:¬ Sp.Drv L (fun x=>x∈Sp.zM S) t:=fun hd=>by
     rcases hd.inv with h | h | ⟨h,_⟩ | ⟨h,_⟩ | ⟨h,_⟩
     ·exact hts h
     all_goals (rw [hn,hk6] at h;exact absurd h (by decide))
    refine ⟨fun h=>by simp at h,fun _=>?_⟩
    intro H4 w18 hs18
    exact J2 H4 w18 sl [] B false _ _ (C13.hst h0 hs18) (fun _=>hnd) (fun h=>by cases h) (fun h=>by cases h) (fun h=>by cases h)
   ·rw [hn] at hk7
    obtain ⟨x4,x5,x6,xf⟩:=Sp.jSV hk7
    rw [if_neg (by rw [xf];decide),if_neg x4,if_neg x5,if_neg x6] at hm
    generalize hko:Sp.tA L (Sp.xL n)=ko at *
    obtain ⟨key,kok⟩:=ko
    simp only [Prod.mk.injEq] at hm
    obtain ⟨rfl,rfl,rfl,rfl⟩:=hm
    have ha:=kx n.a (Sp.jDJ (.inr (.inr hk7)))
    have ha1:=(Sp.zY.1 ha.1).1
    have sa:Sp.Sub L t n.a:=.kid (.refl t) (by rw [hn];exact Sp.jDJ (.inr (.inr hk7)))
    have inv:Sp.Drv L (fun x=>x∈Sp.zM S) t→Sp.Drv L (fun x=>x∈Sp.zM S) n.a∧kok=true∧r4∈Sp.zM S:=fun hd=>by
     rcases hd.inv with h | h | ⟨h,_⟩ | ⟨h,_⟩ | ⟨_,h1,h2,h3⟩
     ·exact absurd h hts
     ·rw [hn,xf] at h;cases h
     ·rw [hn] at h;exact absurd h x4
     ·rw [hn] at h;exact absurd h x5
     ·rw [hn] at h1 h2 h3;rw [hko] at h2 h3;exact ⟨h1,h2,h3⟩
    refine ⟨fun hc=>?_,fun hc=>?_⟩
    ·rw [Bool.and_eq_true,Bool.and_eq_true] at hc
     obtain ⟨⟨hkok,hkey⟩,_⟩:=hc
     have hkey:=of_decide_eq_true hkey
     have hkn:=Sp.jHO (L:=L) (n:=Sp.xL n) (by rw [hko];exact hkok)
     rw [hko] at hkn
     have hk1:=(Sp.zY.1 hkn.1).1
     intro H4 w18 hs18
     refine hcall n.a H4 w18 sl [] B (C13.hst h0 hs18) (Sp.jDZ hts ha1 ha.2) (.inl sa) ((Sp.Dep.made hmade.symm hts).2 ⟨by omega,.inl rfl⟩) _ ?_
     intro r9 r10 w22 sl2 M2 B2 C22 hd22 hi22 _ w23 hs23
     have C23:=C22.hst h0 hs23
     refine J2 H4 w23 sl2 _ B2 r10 _ _ C23 (fun h hd=>by have:=hd22.2 (inv hd).1;rw [h] at this;cases this) (fun _ h=>by simp only at hk1;omega) (fun h _=>⟨Sp.jTF hts ht1 hkey,.inr hkey,fun _=>.signed (by rw [hn];exact hk7) (by rw [hn];exact hd22.1 h) (by rw [hn,hko];exact hkok) (by rw [hn,hko];exact hkey),fun _=>.seen hkey,?_⟩) (fun h _=>by obtain ⟨i1,_,hi1,hit1⟩:=hi22 h;exact List.mem_map.2 ⟨_,List.getElem_mem hi1,hit1⟩)
     intro M3 i hi hit
     obtain ⟨i1,rfl,hi1,hit1⟩:=hi22 h
     have hi1':i1<(l++(([]++M2)++M3)).length:=by simp at hi1 ⊢;omega
     have e1:Sp.tAt (l++(([]++M2)++M3)) (i1:Int)=n.a:=by
      rw [← List.append_assoc,Sp.jPY hi1];exact hit1
     have e2:Sp.tAt (l++(([]++M2)++M3)) (i:Int)=r4:=by rw [Sp.jGB hi];exact hit
     clear hit
     generalize l++(([]++M2)++M3)=l' at *
     unfold Sp.fol;rw [if_neg hin',hn]
     have hkey2:=hkn.2.1
     simp only at hkey2
     simp [hk7,x4,x5,Sp.jAO hi,Sp.jAO hi1',e1,e2,hkey2,Sp.vJ]
    ·intro H4 w18 hs18
     have hnk:(kok && decide (r4∈Sp.zM S))=false:=by
      have:decide (n.a>0)=true:=by simp;omega
      rw [this] at hc;simpa using hc
     refine J2 H4 w18 sl [] B _ _ _ (C13.hst h0 hs18) (fun _ hd=>?_) (fun h=>by rw [hnk] at h;cases h) (fun h=>by rw [hnk] at h;cases h) (fun h=>by rw [hnk] at h;cases h)
     obtain ⟨_,i2,i3⟩:=inv hd
     rw [i2,decide_eq_true i3] at hnk;cases hnk
  ·have htB:t∈B:=by simpa using hb
   intro H2 w4 hs4
   have C4:=C2.hst h0 hs4
   have hnB:(!decide (t∈B))=false:=by simp [htB]
   rw [hnB]
   exact J1f 0 0 0 H2 w4 sl [] B C4 (hp0.bar t htB)
theorem jKG (k p:Addr) (t:Int) (w0:World) {L:Sp.Pool} {G:List Int} {S:List Sp.Way} {F FP:NP} (hW:Sp.Wf L) (hk:Sp.KnowOk L G S) (h:qB w0 k p G S F) (hP:zV w0 p L FP) :
  Calls prog 116 #[.pointer (some k),.int .i64 t] w0 (fun e w'=>∃r:Sl,∃ok:Bool,e=.returned (.tuple #[r.v,.bool ok])∧∃l:List Sp.Step,RetO w0 185 4 (l.map jPZ) r w'∧(ok=true↔Sp.Drv L (fun x=>x∈Sp.zM S) t)∧(ok=false→l=[])∧(ok=true→l≠[]∧(∀i (hi:i<l.length),Sp.fol L G (l.take i) l[i]=true)∧(l.map Sp.Step.t).Nodup∧Sp.tAt l ((l.length:Int) - 1)=t∧∀s∈l,Sp.Sub L t s.t∨s.t∈Sp.zM S)∧(ok=true→∀x,x∈l.map Sp.Step.t↔Sp.Dp L S t x)):=by
 suffices key:∀K:Sl→Bool→WP,(∀r ok w' l,RetO w0 185 4 (l.map jPZ) r w'→(ok=true↔Sp.Drv L (fun x=>x∈Sp.zM S) t)→(ok=false→l=[])→(ok=true→l≠[]∧(∀i (hi:i<l.length),Sp.fol L G (l.take i) l[i]=true)∧(l.map Sp.Step.t).Nodup∧Sp.tAt l ((l.length:Int) - 1)=t∧∀s∈l,Sp.Sub L t s.t∨s.t∈Sp.zM S)→(ok=true→∀x,x∈l.map Sp.Step.t↔Sp.Dp L S t x)→K r ok w')→m_X1 (some k) t w0 K from
  w_X1 _ _ w0 _ (key _ (fun r ok w' l a b c d e=>⟨l,a,b,c,d,e⟩))
 intro K hK
 unfold m_X1
 intro p1 w1 h1
 have B1:=Box.of_new h1
 refine ⟨_,B1.cell0,Br.f rfl ?_⟩
 intro p2 w2 h2 p3 w3 h3 p4 w4 h4
 have B4:=Box.of_new h4
 refine ⟨B4.canW0 (by simp),?_⟩
 rintro _ rfl
 have X4:=Ext.setCell (w:=w4) p4 (.map (some p3.block))
 have B4':=B4.set0 (v:=.map (some p3.block))
 have s1:=h1.at_size;have s2:=h2.at_size;have s3:=h3.at_size;have s4:=h4.at_size
 have E1:Pure w0 w1:=Ext.new h1
 have E2:Pure w1 w2:=Ext.new h2
 have E3:Pure w2 w3:=Ext.new h3
 have E4:Pure w3 w4:=Ext.new h4
 have l1:=B1.lt
 have l2:=(Box.of_new h2).lt
 have l3:=(IMap.of_new (f:=jKR) h3).lt
 have l4:=B4.lt
 have z4:=X4.size
 generalize hw5:w4.setCell p4 (.map (some p3.block))=w5 at *
 intro p5 w6 h6 p6 w7 h7
 have B7:=Box.of_new h7
 refine ⟨B7.canW0 (by simp),?_⟩
 rintro _ rfl
 have X7:=Ext.setCell (w:=w7) p6 (.map (some p5.block))
 have B7':=B7.set0 (v:=.map (some p5.block))
 have s6:=h6.at_size;have s7:=h7.at_size
 have E6:Pure w5 w6:=Ext.new h6
 have E7:Pure w6 w7:=Ext.new h7
 have l6:=(IMap.of_new (f:=tru) h6).lt
 have l7:=B7.lt
 have z7:=X7.size
 generalize hw8:w7.setCell p6 (.map (some p5.block))=w8 at *
 intro p7 w9 h9
 have B9:=Box.of_new h9
 refine ⟨B9.canW0 (by simp),?_⟩
 rintro _ rfl
 have X9:=Ext.setCell (w:=w9) p7 (.func (.func 171) #[] #[.pointer (some p4),.pointer (some p6),.pointer (some p1),.pointer (some p7),.pointer (some p2)])
 have B9':=B9.set0 (v:=.func (.func 171) #[] #[.pointer (some p4),.pointer (some p6),.pointer (some p1),.pointer (some p7),.pointer (some p2)])
 have s9:=h9.at_size
 have E9:Pure w8 w9:=Ext.new h9
 have l9:=B9.lt
 have z9:=X9.size
 have g1:=E1.size;have g2:=E2.size;have g3:=E3.size;have g4:=E4.size;have g6:=E6.size;have g7:=E7.size;have g9:=E9.size
 generalize hw10:w9.setCell p7 (.func (.func 171) #[] #[.pointer (some p4),.pointer (some p6),.pointer (some p1),.pointer (some p7),.pointer (some p2)])=w10 at *
 have hnil:∀b,¬ Sl.nil.blk b:=fun b hb=>by obtain ⟨a,h,_⟩:=hb;cases h
 have T5:Pure w0 w5:=(((E1.trans E2).trans E3).trans E4).trans' X4 (fun i hi e=>by omega)
 have T8:Pure w5 w8:=(E6.trans E7).trans' X7 (fun i hi e=>by omega)
 have T10:Pure w8 w10:=E9.trans' X9 (fun i hi e=>by omega)
 have T:Pure w0 w10:=(T5.trans T8).trans T10
 have T2:Pure w2 w5:=(E3.trans E4).trans' X4 (fun i hi e=>by omega)
 have T1:Pure w1 w5:=E2.trans T2
 have T3:Pure w3 w5:=E4.trans' X4 (fun i hi e=>by omega)
 have T6:Pure w6 w8:=E7.trans' X7 (fun i hi e=>by omega)
 have T5':Pure w5 w10:=T8.trans T10
 have h0:SaysAt w10 k p p4 p6 p1 p7 p2 p3.block p5.block L G S F FP Sl.nil [] []:=by
  refine ⟨⟨(B4'.pure T5').cell0,(B7'.pure T10).cell0,(B1.pure (T1.trans T5')).cell0,B9'.cell0,(Box.of_new h2).pure (T2.trans T5'),(IMap.of_new h3).pure (T3.trans T5'),(IMap.of_new h6).pure (T6.trans T10),Rws.nil _ _ _,?_,by omega,by omega,by omega,hnil _,hnil _,hnil _⟩,h.pure T,hP.pure T,?_,?_⟩
  ·rintro b (rfl | rfl | rfl | hb)
   ·omega
   ·omega
   ·omega
   ·exact (hnil b hb).elim
  ·rintro b hb (rfl | rfl | rfl | hx)
   ·have:=h.lt hb;omega
   ·have:=h.lt hb;omega
   ·have:=h.lt hb;omega
   ·exact hnil b hx
  ·rintro b hb (rfl | rfl | rfl | hx)
   ·have:=hP.lt hb;omega
   ·have:=hP.lt hb;omega
   ·have:=hP.lt hb;omega
   ·exact hnil b hx
 refine ⟨_,h0.prf.a4,171,#[],_,rfl,call171,?_⟩
 refine (c_says k p p4 p6 p1 p7 p2 p3.block p5.block hW hk _ t w10 Sl.nil [] [] (Nat.lt_succ_self _) h0 (Sp.PrfOk.nil _ _ _)).mono ?_
 rintro _ w11 ⟨r1,ok,rfl,sl',M,B',hret⟩
 refine ⟨r1,ok,rfl,fun hc=>?_,fun hc=>?_⟩
 ·have hf:ok=false:=by simpa using hc
  subst hf
  refine hK Sl.nil false w11 [] ⟨Rws.nil _ _ _,fun b hb=>(hnil b hb).elim,T.trans' hret.ext (fun i hi hx=>?_)⟩ hret.drv (fun _=>rfl) (fun h=>by cases h) (fun h=>by cases h)
  rcases hx with rfl | rfl | rfl | hx
  ·omega
  ·omega
  ·omega
  ·exact (hnil _ hx).elim
 ·have ht:ok=true:=by simpa using hc
  subst ht
  have hst:=hret.st
  have hpf:=hret.prf
  have hidx:=hret.idx rfl
  simp only [List.nil_append] at hst hpf hidx
  obtain ⟨i,_,hi,hit⟩:=hidx
  refine ⟨sl',hst.prf.a5.cell0,?_⟩
  refine hK sl' true w11 M ⟨hst.prf.ls,fun b hb=>?_,T.trans' hret.ext (fun i hi hx=>?_)⟩ hret.drv (fun h=>by cases h) (fun _=>⟨?_,hpf.fol,hpf.nd,?_,fun s hs=>(hret.new s hs).2⟩) (fun _ x=>⟨fun hx=>?_,fun hx=>?_⟩)
  ·rcases hret.own b hb with h | h
   ·exact (hnil b h).elim
   ·have:=T.size;omega
  ·rcases hx with rfl | rfl | rfl | hx
   ·omega
   ·omega
   ·omega
   ·exact (hnil _ hx).elim
  ·intro e;subst e;simp at hi
  ·have:=hret.last rfl
   simp only [List.nil_append] at this
   rcases this with rfl | h
   ·simp at hi
   ·exact h
  ·obtain ⟨s,hs,rfl⟩:=List.mem_map.1 hx
   exact hret.dp s hs
  ·have hcl:=hret.cl
   simp only [List.nil_append] at hcl
   exact Sp.Dp.all hcl (List.mem_map.2 ⟨_,List.getElem_mem hi,hit⟩) hx
theorem jMC (k p:Addr) (t:Int) (w0:World) {L:Sp.Pool} {G:List Int} {S:List Sp.Way} {F FP:NP} (hW:Sp.Wf L) (hk:Sp.KnowOk L G S) (h:qB w0 k p G S F) (hP:zV w0 p L FP) :
  Calls prog 116 #[.pointer (some k),.int .i64 t] w0 (fun e w'=>∃r:Sl,∃ok:Bool,e=.returned (.tuple #[r.v,.bool ok])∧∃l:List Sp.Step,RetO w0 185 4 (l.map jPZ) r w'∧(ok=true↔Sp.Drv L (fun x=>x∈Sp.zM S) t)∧(ok=false→l=[])∧(ok=true→l≠[]∧(∀i (hi:i<l.length),Sp.fol L G (l.take i) l[i]=true)∧(l.map Sp.Step.t).Nodup∧Sp.tAt l ((l.length:Int) - 1)=t∧∀s∈l,Sp.Sub L t s.t∨s.t∈Sp.zM S)):=by
 refine (jKG k p t w0 hW hk h hP).mono ?_
 rintro _ w' ⟨r,ok,rfl,l,a,b,c,d,_⟩
 exact ⟨r,ok,rfl,l,a,b,c,d⟩
theorem jIA (k p:Addr) (t:Int) (w0:World) {L:Sp.Pool} {G:List Int} {S:List Sp.Way} {F FP:NP} (hW:Sp.Wf L) (hk:Sp.KnowOk L G S) (h:qB w0 k p G S F) (hP:zV w0 p L FP) :
  Calls prog 71 #[.pointer (some k),.int .i64 t] w0 (fun e w'=>∃r:Bool,e=.returned (.bool r)∧((r=true↔Sp.Drv L (fun x=>x∈Sp.zM S) t)∧Pure w0 w')):=by
 refine w_Y3 _ _ w0 (fun r w'=>(r=true↔Sp.Drv L (fun x=>x∈Sp.zM S) t)∧Pure w0 w') ?_
 unfold m_Y3
 refine (jMC k p t w0 hW hk h hP).mono ?_
 rintro _ w1 ⟨r,ok,rfl,l,hr,hd,_,_⟩
 exact ⟨r,ok,rfl,hd,hr.pure⟩
end Go.Proofs
end
section
open Go Go.SE
namespace Go.Sp
def yL (L:Pool) (t kind:Int):Node×Bool:=if inP L t=true∧(nodeOf L t).kind=kind then (nodeOf L t,false) else (jNA,true)
def uY (L:Pool) (t:Int):(ByteArray×Int)×Bool :=
 (((yL L (yL L t 4).1.a 3).1.text,(yL L t 4).1.b),(yL L t 4).2 || (yL L (yL L t 4).1.a 3).2)
def tY (L:Pool) (t:Int):(Int×ByteArray)×Bool :=
 let g:=uY L t
 let n:=yL L g.1.2 4
 (((yL L n.1.a 2).1.num,(yL L n.1.b 3).1.text),g.2 || n.2 || !decide (g.1.1=jPU) || (yL L n.1.a 2).2 || (yL L n.1.b 3).2)
end Go.Sp
namespace Go.Proofs
attribute [local irreducible] Calls
def jIE (w:World) (q:Option Addr) (L:Sp.Pool) (F:NP):Prop:=match q with
 | some p=>zV w p L F
 | none=>L=[]∧∀b,¬ F b
theorem jIE.ext {G:NP} {w w':World} {p:Option Addr} {L:Sp.Pool} {F:NP} (h:jIE w p L F) (hE:Ext G w w') (hd:∀b,F b→¬ G b):jIE w' p L F:=by
 cases p with
 | none=>exact h
 | some p=>exact zV.ext h hE hd
theorem jIE.pure {w w':World} {p:Option Addr} {L:Sp.Pool} {F:NP} (h:jIE w p L F) (hE:Pure w w'):jIE w' p L F:=h.ext hE (fun _ _ h=>h)
theorem jIE.lt {w:World} {p:Option Addr} {L:Sp.Pool} {F:NP} (h:jIE w p L F) {b:Nat} (hb:F b):b<w.heap.size:=by
 cases p with
 | none=>exact absurd hb (h.2 b)
 | some p=>exact zV.lt h hb
structure ReaderAt (w:World) (r:Addr) (p:Option Addr) (bad:Bool) (L:Sp.Pool) (F:NP):Prop where
 box:Box w r [.pointer p,.bool bad] 215
 pool:jIE w p L F
 ok:Sp.Ok L
 out:¬ F r.block
theorem ReaderAt.pure {w w':World} {r:Addr} {p:Option Addr} {bad:Bool} {L:Sp.Pool} {F:NP} (h:ReaderAt w r p bad L F) (E:Pure w w'):ReaderAt w' r p bad L F:=⟨h.box.pure E,h.pool.pure E,h.ok,h.out⟩
end Go.Proofs
end
section
open Go Go.SE
namespace Go.Sp
def tX (L:Pool) (t:Int):Letter×Bool :=
 let n:=nodeOf L t
 if (n.kind≠8∧n.kind≠9)∨1<n.frm∨n.to≠IntKind.i64.wrap (1 - n.frm) then (jHM,true)
 else (⟨1,n.frm,(tY L n.a).1.1,(tY L n.a).1.2,n.kind == 9⟩,(tY L n.a).2)
end Go.Sp
namespace Go.Proofs
attribute [local irreducible] Calls
end Go.Proofs
end
section
open Go Go.SE
namespace Go.Sp
def jBV (L:Pool) (who n:Int):Letter×Bool :=
 let m:=yL L n 4
 let a:=tX L m.1.a
 let b:=tX L m.1.b
 (⟨4,who,a.1.c,a.1.text,a.1.fake || b.1.fake⟩,m.2 || a.2 || b.2 || a.1.frm != 0 || b.1.frm != 1 || a.1.c != b.1.c || !decide (a.1.text=b.1.text))
def jAJ (L:Pool) (who body:Int):Letter×Bool :=
 let g:=uY L body
 if g.1.1=jFZ∧who=0 then (⟨3,0,(yL L g.1.2 2).1.num,⟨#[]⟩,false⟩,g.2 || (yL L g.1.2 2).2)
 else if g.1.1=jAF∧who=2 then (⟨5,0,(yL L g.1.2 2).1.num,⟨#[]⟩,false⟩,g.2 || (yL L g.1.2 2).2)
 else if g.1.1=jAE∧who=2 then (⟨6,0,(tY L g.1.2).1.1,(tY L g.1.2).1.2,false⟩,g.2 || (tY L g.1.2).2)
 else if g.1.1=jPU∧who≤1 then (⟨2,who,(tY L body).1.1,(tY L body).1.2,false⟩,g.2 || (tY L body).2)
 else if g.1.1=tG∧who≤1 then ((jBV L who g.1.2).1,g.2 || (jBV L who g.1.2).2)
 else (jHM,true)
end Go.Sp
namespace Go.Proofs
attribute [local irreducible] Calls
end Go.Proofs
end
section
open Go Go.SE
namespace Go.Sp
def jIV (L:Pool) (t:Int):Letter×Bool :=
 let n:=nodeOf L t
 if n.kind=7 then jAJ L n.frm n.a else if n.kind=8∨n.kind=9 then tX L t
 else if ((uY L t).2 || !decide ((uY L t).1.1=jPT))=true then (jHM,true)
 else (⟨7,0,(yL L (uY L t).1.2 2).1.num,⟨#[]⟩,false⟩,(yL L (uY L t).1.2 2).2)
end Go.Sp
namespace Go.Proofs
attribute [local irreducible] Calls
end Go.Proofs
end
section
open Go Go.SE
namespace Go.Proofs
attribute [local irreducible] Calls
end Go.Proofs
end
section
open Go Go.SE
namespace Go.SE
theorem Rws.lit {w w':World} {p:Addr} {cs:Array Value} {e:TypeId} {sz:Nat} {rs:List (List Value)} (hn:New w (.cells cs e) p w') (hc:cs.toList=rs.flatten) (hl:∀r∈rs,r.length=sz) (hm:rs.length≤maxLen):Rws w' e sz ⟨some p,rs.length,rs.length⟩ rs:=by
 obtain ⟨hp,hw⟩:=hn;have hsz:cs.size=rs.length*sz:=by rw [← vP hl,← hc,Array.length_toList]
 refine ⟨hl,rfl,.inr ⟨w.heap.size,cs,by rw [hp],?_,Nat.le_refl _,hm,hsz,?_⟩⟩
 ·rw [hw];exact heap_alloc_new w _
 ·rw [hc,List.take_of_length_le (by rw [vP hl];exact Nat.le_refl _)]
end Go.SE
namespace Go.Proofs
def jOR (l:Sp.Letter):List Value:=[.int .i64 l.kind,.int .i64 l.frm,.int .u64 l.c,.string l.text,.bool l.fake]
end Go.Proofs
end
section
open Go Go.SE
namespace Go.Proofs
open Tryz
attribute [local irreducible] Calls
theorem jDP (l:Sp.Letter) (hl:Sp.yV l.c) (w0:World) :
  Calls prog 12 #[.agg #[.int .i64 l.kind,.int .i64 l.frm,.int .u64 l.c,.string l.text,.bool l.fake]] w0 (fun e w'=>∃r:ByteArray,e=.returned (.string r)∧(r=Sp.jQF l∧Pure w0 w')):=by
 refine w_P4 _ _ _ _ _ w0 (fun r w'=>r=Sp.jQF l∧Pure w0 w') ?_
 unfold m_P4
 intro H1 w1 hs
 refine (jKE l hl w1).mono ?_
 rintro _ w2 ⟨r1,r2,rfl,_,hR⟩
 refine ⟨_,_,rfl,hR.pure.keptP,_,jQG underlying65 underlying5 underlying9 hR.rows.lst,rfl,hs.first.trans hR.pure⟩
theorem jFV (who c:Int) (x:ByteArray) (w0:World) :
  Calls prog 110 #[.agg #[.int .i64 who,.int .u64 c,.string x]] w0 (fun e w'=>∃r:Sl,e=.returned r.v∧RetO w0 30 5 ((Sp.evs who c x).map jOR) r w'):=by
 refine w_D2 _ _ _ w0 (fun r w'=>RetO w0 30 5 ((Sp.evs who c x).map jOR) r w') ?_
 unfold m_D2
 intro H1 w1 hs p2 w2 h2
 have E1:=hs.first
 have hp:=h2.at_size
 have z1:=E1.size
 exact ⟨Rws.lit (rs:=(Sp.evs who c x).map jOR) h2 rfl (by intro q hq;obtain ⟨t,_,rfl⟩:=List.mem_map.1 hq;rfl) (by simp [Sp.evs,maxLen]),fun b hb=>(by obtain ⟨a,ha,e⟩:=hb;cases ha;omega),E1.trans (Ext.new h2)⟩
def jUU (P:Program) (fq:FuncId) (fs cs:Array Value):Prop:=(∀args w,(callFunc fq args).run P w=.ok (.enter fq args) w)∧∀(t:Int) (w:World),Calls P fq (fs++#[(.int .i64 t)]++cs) w (fun e w'=>e=.returned (.bool true)∧Pure w w')
def lI (w0:World) (F0 X H:NP) (w:World) (f:Addr) (L:Sp.Pool) (G:List Int) (a b:Bool):Prop :=
 ∃F,jAP w f L G a b F∧Ext F0 w0 w∧(∀y,F y→(F0 y∨w0.heap.size≤y)∧¬ H y∧¬ X y)∧(∀y,X y→y<w.heap.size∧¬ H y)∧∀y,H y→y<w.heap.size
section
variable {w0 w w' wv:World} {F0 F F' X H H' Hv:NP} {f:Addr} {L L':Sp.Pool} {G G':List Int} {a b a' b':Bool}
theorem lI.hst (h:lI w0 F0 X H w f L G a b) (hs:Hst w0 H w H' w'):lI w0 F0 X H' w' f L G a b:=by
 obtain ⟨F,hF,E,h1,h2,_⟩:=h;have d1:=hs.disj (G:=F) (fun y hy=>⟨hF.lt hy,(h1 y hy).2.1⟩);have d2:=hs.disj (G:=X) h2;exact ⟨F,hF.ext hs.ext d1,E.hst hs,fun y hy=>⟨(h1 y hy).1,d1 y hy,(h1 y hy).2.2⟩,fun y hy=>⟨Nat.lt_of_lt_of_le (h2 y hy).1 hs.ext.size,d2 y hy⟩,hs.lt⟩
theorem lI.pureE (h:lI w0 F0 X H w f L G a b) (E:Pure w w'):lI w0 F0 X H w' f L G a b:=by
 obtain ⟨F,hF,E0,h1,h2,h3⟩:=h;exact ⟨F,hF.pure E,E0.thenPure E,h1,fun y hy=>⟨Nat.lt_of_lt_of_le (h2 y hy).1 E.size,(h2 y hy).2⟩,fun y hy=>Nat.lt_of_lt_of_le (h3 y hy) E.size⟩
theorem lI.step (h1:∀y,F y→(F0 y∨w0.heap.size≤y)∧¬ H y∧¬ X y) (h2:∀y,X y→y<w.heap.size∧¬ H y) (h3:∀y,H y→y<w.heap.size) (E0:Ext F0 w0 w) (hF:jAP w' f L' G' a' b' F') (E:Ext F w w') (hn:∀y,F' y→F y∨w.heap.size≤y) :
  lI w0 F0 X H w' f L' G' a' b'∧Kept H w w':=by
 have hb:=E0.size
 refine ⟨⟨F',hF,E0.trans' E (fun i hi hf=>by
  rcases (h1 i hf).1 with h | h
  ·exact h
  ·omega),fun y hy=>?_,fun y hy=>⟨Nat.lt_of_lt_of_le (h2 y hy).1 E.size,(h2 y hy).2⟩,fun y hy=>Nat.lt_of_lt_of_le (h3 y hy) E.size⟩,E.kept (fun y hy hf=>(h1 y hf).2.1 hy)⟩
 rcases hn y hy with h | h
 ·exact h1 y h
 ·exact ⟨.inr (Nat.le_trans hb h),fun hh=>by have:=h3 y hh;omega,fun hx=>by have:=(h2 y hx).1;omega⟩
theorem lI.start (h:jAP w f L G a b F) (E:Pure w0 w) (hF:∀y,F y→y<w0.heap.size) (hH:∀y,H y→w0.heap.size≤y∧y<w.heap.size) (hX:∀y,X y→w0.heap.size≤y∧y<w.heap.size∧¬ H y):lI w0 F X H w f L G a b :=
 ⟨F,h,Ext.pure E,fun y hy=>⟨.inl hy,fun hh=>by have:=(hH y hh).1;have:=hF y hy;omega,fun hx=>by have:=(hX y hx).1;have:=hF y hy;omega⟩,fun y hy=>(hX y hy).2,fun y hy=>(hH y hy).2⟩
theorem lI.done (h:lI w0 F0 X H w f L G a b):∃F',jAP w f L G a b F'∧Ext F0 w0 w∧∀y,F' y→F0 y∨w0.heap.size≤y:=by
 obtain ⟨F,hF,E,h1,_⟩:=h;exact ⟨F,hF,E,fun y hy=>(h1 y hy).1⟩
theorem lI.wf (h:lI w0 F0 X H w f L G a b):Sp.Wf L:=by obtain ⟨F,hF,_⟩:=h;exact hF.wf
end
theorem jMA (f:Addr) (who c:Int) (x:ByteArray) (fq:FuncId) (fs cs:Array Value) (hq:jUU prog fq fs cs) (w0:World) {L:Sp.Pool} {G:List Int} {a b:Bool} {F:NP} (h:jAP w0 f L G a b F) :
  Calls prog 51 #[.pointer (some f),.agg #[.int .i64 who,.int .u64 c,.string x],.func (.func fq) fs cs] w0 (fun e w'=>∃r:Int,e=.returned (.int .i64 r)∧(r=(Sp.xC L G who c x).1∧∃F',jAP w' f (Sp.xC L G who c x).2 G a b F'∧Ext F w0 w'∧∀y,F' y→F y∨w0.heap.size≤y)):=by
 suffices key:∀K:Int→WP,(∀w',(∃F',jAP w' f (Sp.xC L G who c x).2 G a b F'∧Ext F w0 w'∧∀y,F' y→F y∨w0.heap.size≤y)→K (Sp.xC L G who c x).1 w')→m_S (some f) who c x (.func (.func fq) fs cs) w0 K from
  w_S _ _ _ _ _ w0 _ (key _ (fun _ h=>⟨rfl,h⟩))
 intro K hK
 unfold m_S
 refine ⟨fun hc=>?_,fun hc=>?_⟩
 ·intro H2 w3 hs
  have e:Sp.xC L G who c x=(0,L):=by
   unfold Sp.xC Sp.uJ;rw [if_neg (by simpa using hc)]
  rw [e] at hK
  exact hK w3 ⟨F,h.pure hs.first,Ext.pure hs.first,fun y hy=>.inl hy⟩
 intro H2 w3 hs
 have hp:Sp.uJ who=true:=by
  unfold Sp.uJ;simp at hc ⊢;omega
 have e:Sp.xC L G who c x=Sp.yW G (Sp.evs who c x) L:=by unfold Sp.xC;rw [if_pos hp]
 rw [e] at hK
 have E1:=hs.first
 refine (jFV who c x w3).mono ?_
 rintro _ w5 ⟨r1,rfl,hR⟩
 refine ⟨_,rfl,hR.pure.keptP,?_⟩
 have E05:=E1.trans hR.pure
 have hrl:r1.len=2:=by rw [hR.rows.len];rfl
 have hFlt:∀y,F y→y<w0.heap.size:=fun y hy=>h.lt hy
 have hlen:(Sp.evs who c x).length=2:=rfl
 have hrows:=hR.rows
 have hFH:lI w0 F r1.blk H2 w5 f L G a b:=lI.start (h.pure E05) E05 hFlt (fun y hy=>⟨hs.old y hy,Nat.lt_of_lt_of_le (hs.lt y hy) hR.pure.size⟩) (fun y hy=>⟨by have:=hR.own y hy;have:=E1.size;omega,hrows.lt hy,fun hh=>by have:=hR.own y hy;have:=hs.lt y hh;omega⟩)
 generalize Sp.evs who c x=ls at *
 refine ⟨fun i H w=>∃n:Nat,i=n∧n≤ls.length∧∃L',lI w0 F r1.blk H w f L' G a b∧Sp.yW G ls L=Sp.yW G (ls.drop n) L'∧Own H w 30 5 r1 (ls.map jOR),fun i _=>((ls.length:Int) - i).toNat,⟨0,rfl,Nat.zero_le _,L,hFH,by simp,hrows,fun y hy hh=>by have:=hR.own y hy;have:=hs.lt y hh;omega⟩,?_⟩
 rintro _ Hl wl hsl ⟨n,rfl,hn,L',hF',hre,ho⟩
 unfold m_S_l1
 refine ⟨fun hlt=>?_,fun hlt=>?_⟩
 ·have hlt:n<ls.length:=by have:=of_decide_eq_true hlt;omega
  obtain ⟨a1,hat,hrow⟩:=ho.nth hlt
  have hd:ls.drop n=ls[n] :: ls.drop (n+1):=List.drop_eq_getElem_cons hlt
  rw [hd] at hre
  generalize hl:ls[n]=l at *
  obtain ⟨lk,lf,lc,lx,lg⟩:=l
  refine ⟨a1,hat,lk,lf,lc,lx,lg,hrow,fun H3 w7 hs7=>⟨fun _=>True,trivial,?_⟩⟩
  rintro w8 rfl
  have hs8:=(hs7.here).drew
  have hF8:=(hF'.hst hs7).pureE (Ext.drew w7)
  have ho8:=(ho.hst hs7).pure (Ext.drew w7)
  have hs8:Hst w0 H3 w7.drew H3 w7.drew:=hs8.here
  clear hs7 hF' ho hsl
  generalize w7.drew=w8 at *
  obtain ⟨F1,hF1,E8,d1,d2,d3⟩:=hF8
  obtain ⟨k,p,S,FK,FP,hA,hF⟩:=hF1
  refine ⟨f,rfl,some p,hA.box.cell rfl,?_⟩
  refine (jWC p ⟨lk,lf,lc,lx,lg⟩ w8 hA.pool hA.wf.ok).mono ?_
  rintro _ w9 ⟨r2,r3,rfl,e2,e3,FP',hP9,E9,hF9⟩
  obtain ⟨M,hM⟩:=Sp.jAN hA.wf.ok ⟨lk,lf,lc,lx,lg⟩
  have hW9:=Sp.uT hA.wf ⟨lk,lf,lc,lx,lg⟩
  have hM':=hM
  rw [hM] at hP9 hW9
  have hA9:=hA.grown hP9 hW9 E9 hF9
  obtain ⟨hF9',hk9⟩:=lI.step (F:=F1) (X:=r1.blk) d1 d2 d3 E8 ⟨k,p,S,FK,FP',hA9,fun _=>Iff.rfl⟩ (E9.mono (fun y _ hy=>(hF y).2 (.inr (.inr hy)))) (by
   rintro y (rfl | hy | hy)
   ·exact .inl ((hF _).2 (.inl rfl))
   ·exact .inl ((hF y).2 (.inr (.inl hy)))
   ·exact (hF9 y hy).imp (fun h=>(hF y).2 (.inr (.inr h))) id)
  have ho9:Own H3 w9 30 5 r1 (ls.map jOR):=ho8.ext (E9.mono (fun y _ hy=>(hF y).2 (.inr (.inr hy)))) (fun y hy hf=>(d1 y hf).2.2 hy)
  have hs9:=hs8.again hk9
  refine ⟨r2,r3,rfl,trivial,hk9,?_⟩
  rw [← hM'] at hF9' hA9 hW9
  have hdrv:Sp.Drv (zW L' ⟨lk,lf,lc,lx,lg⟩).2.2 (fun y=>y∈Sp.zM S) r2↔Sp.Drv (zW L' ⟨lk,lf,lc,lx,lg⟩).2.2 (Sp.Seen (zW L' ⟨lk,lf,lc,lx,lg⟩).2.2 G) r2 :=
   ⟨Sp.Drv.mono (fun t ht=>(hA9.ok.seen_iff t).1 ht),Sp.Drv.mono (fun t ht=>(hA9.ok.seen_iff t).2 ht)⟩
  rw [Sp.yW] at hre
  have next : ∀ w, lI w0 F r1.blk H3 w f (zW L' ⟨lk, lf, lc, lx, lg⟩).2.2 G a b → Own H3 w 30 5 r1 (ls.map jOR) → ¬ ((zW L' ⟨lk, lf, lc, lx, lg⟩).2.1 = 0 ∧ Sp.Drv (zW L' ⟨lk, lf, lc, lx, lg⟩).2.2 (Sp.Seen (zW L' ⟨lk, lf, lc, lx, lg⟩).2.2 G) (zW L' ⟨lk, lf, lc, lx, lg⟩).1) →
    (∃m:Nat,IntKind.i64.wrap ((n:Int)+1)=m∧m≤ls.length∧∃L',lI w0 F r1.blk H3 w f L' G a b∧Sp.yW G ls L=Sp.yW G (ls.drop m) L'∧Own H3 w 30 5 r1 (ls.map jOR))∧((ls.length:Int) - IntKind.i64.wrap ((n:Int)+1)).toNat<((ls.length:Int) - (n:Int)).toNat:=by
   intro w h1 h2 h3
   rw [vV hlt (by omega)]
   refine ⟨⟨n+1,rfl,hlt,_,h1,?_,h2⟩,jCE hlt⟩
   rw [hre,if_neg h3]
  refine ⟨fun hc=>?_,fun hc=>?_⟩
  ·have hc:r3=0:=beq_iff_eq.1 hc
   refine ⟨f,rfl,some k,hA9.box.cell0,?_⟩
   refine (jIA k p r2 w9 hA9.wf hA9.ok hA9.know hA9.pool).mono ?_
   rintro _ w11 ⟨r5,rfl,hr5,E11⟩
   refine ⟨_,rfl,E11.keptP,?_⟩
   have hF11:=hF9'.pureE E11
   have ho11:=ho9.pure E11
   unfold m_S_j2
   refine ⟨fun h5=>?_,fun h5=>?_⟩
   ·refine ⟨fq,fs,cs,rfl,hq.1,(hq.2 r2 w11).mono ?_⟩
    rintro _ w10 ⟨rfl,E10⟩
    refine ⟨true,rfl,E10.keptP,fun _=>?_,fun h=>by cases h⟩
    rw [hre,if_pos ⟨by rw [← e3];exact hc,by rw [← e2];exact hdrv.1 (hr5.1 h5)⟩] at hK
    rw [e2]
    exact hK _ (hF11.pureE E10).done
   ·exact next _ hF11 ho11 (fun h => by
     have:=hr5.2 (hdrv.2 (by rw [e2];exact h.2));rw [h5] at this;cases this)
  ·have hc:¬ r3=0:=fun h=>by rw [h] at hc;cases hc
   unfold m_S_j2
   refine ⟨fun h=>(by cases h),fun _=>?_⟩
   exact next _ hF9' ho9 (fun h=>hc (by rw [e3];exact h.1))
 ·have:n=ls.length:=by have:=of_decide_eq_false hlt;omega
  subst this
  rw [List.drop_length] at hre
  rw [hre] at hK
  exact hK wl hF'.done
theorem jMH:jUU prog 52 #[] #[]:=⟨call52,fun t w=>(p_H2 t w).mono (fun e w' h=>h)⟩
theorem jMB (f:Addr) (who c:Int) (x:ByteArray) (w0:World) {L:Sp.Pool} {G:List Int} {a b:Bool} {F:NP} (h:jAP w0 f L G a b F) :
  Calls prog 14 #[.pointer (some f),.agg #[.int .i64 who,.int .u64 c,.string x]] w0 (fun e w'=>∃r:Bool,e=.returned (.bool r)∧((r=true↔(Sp.xC L G who c x).1≠0)∧∃F',jAP w' f (Sp.xC L G who c x).2 G a b F'∧Ext F w0 w'∧∀y,F' y→F y∨w0.heap.size≤y)):=by
 refine w_E2 _ _ _ _ w0 (fun r w'=>(r=true↔(Sp.xC L G who c x).1≠0)∧∃F',jAP w' f (Sp.xC L G who c x).2 G a b F'∧Ext F w0 w'∧∀y,F' y→F y∨w0.heap.size≤y) ?_
 unfold m_E2
 intro H1 w1 hs
 have E1:=hs.first
 refine (jMA f who c x _ #[] #[] jMH w1 (h.pure E1)).mono ?_
 rintro _ w2 ⟨r,rfl,rfl,F',hF',E2,hn⟩
 have z1:=E1.size
 exact ⟨_,rfl,E2.kept0 hs.here (fun y hy=>h.lt hy),by simp,F',hF',(Ext.pure E1).trans E2,fun y hy=>(hn y hy).imp id (fun h=>by omega)⟩
theorem jCK (f:Addr) (who:Int) (w0:World) {L:Sp.Pool} {G:List Int} {a b:Bool} {F:NP} (h:jAP w0 f L G a b F) :
  Calls prog 53 #[.pointer (some f),.int .i64 who] w0 (fun e w'=>∃r:Bool,e=.returned (.bool r)∧(r=Sp.keyS L G who∧Pure w0 w')):=by
 refine w_F2 _ _ w0 (fun r w'=>r=Sp.keyS L G who∧Pure w0 w') ?_
 unfold m_F2
 obtain ⟨k,p,S,FK,FP,h,hF⟩:=h
 refine ⟨f,rfl,some p,h.box.cell rfl,?_⟩
 refine (jWA p (Sp.vJ who) w0 h.pool h.wf.ok).mono ?_
 rintro _ w1 ⟨r1,r2,rfl,hr,E1⟩
 have h1:=h.ext E1 (fun _ _ h=>h)
 refine ⟨r1,r2,rfl,?_⟩
 unfold Sp.keyS
 split at hr
 ·rename_i i hi
  obtain ⟨rfl,rfl⟩:=hr
  refine ⟨fun _=>?_,fun h=>(by cases h)⟩
  refine ⟨f,rfl,some k,h1.box.cell0,?_⟩
  refine (jGR k p ((i:Int)+1) w1 h1.know).mono ?_
  rintro _ w2 ⟨r3,rfl,rfl,E2⟩
  refine ⟨_,rfl,?_,E1.trans E2⟩
  rw [hi]
  classical
  exact decide_eq_decide.2 (h1.ok.seen_iff _)
 ·rename_i hi
  obtain ⟨rfl,rfl⟩:=hr
  refine ⟨fun h=>(by cases h),fun _=>⟨?_,E1⟩⟩
  rw [hi]
theorem jPG (f:Addr) (who:Int) (w0:World) {L:Sp.Pool} {G:List Int} {a b:Bool} {F:NP} (h:jAP w0 f L G a b F) :
  Calls prog 15 #[.pointer (some f),.int .i64 who] w0 (fun e w'=>∃r:Bool,e=.returned (.bool r)∧(r=Sp.jFR L G who∧Pure w0 w')):=by
 refine w_G2 _ _ w0 (fun r w'=>r=Sp.jFR L G who∧Pure w0 w') ?_
 unfold m_G2
 refine ⟨fun hc=>?_,fun hc=>?_⟩
 ·intro H1 w2 hs
  have hp:Sp.uJ who=true:=by unfold Sp.uJ;simpa using hc
  have E1:=hs.first
  refine (jCK f who w2 (h.pure E1)).mono ?_
  rintro _ w4 ⟨r1,rfl,e1,E2⟩
  refine ⟨_,rfl,E2.keptP,fun h1=>?_,fun h1=>?_⟩
  ·refine ⟨?_,E1.trans E2⟩
   unfold Sp.jFR;rw [hp,← e1,h1];rfl
  ·refine (jCK f 2 w4 ((h.pure E1).pure E2)).mono ?_
   rintro _ w5 ⟨r2,rfl,e2,E3⟩
   refine ⟨_,rfl,E3.keptP,?_,(E1.trans E2).trans E3⟩
   unfold Sp.jFR;rw [hp,← e1,h1,e2];rfl
 ·intro H1 w2 hs
  refine ⟨?_,hs.first⟩
  have hp:Sp.uJ who=false:=by unfold Sp.uJ;simpa using hc
  unfold Sp.jFR;rw [hp];rfl
section
variable {w0 w:World} {F0 X H:NP} {f:Addr} {L:Sp.Pool} {G:List Int} {a b:Bool}
theorem lI.binds (h:lI w0 F0 X H w f L G a b) (who c:Int) (x:ByteArray):Calls prog 14 #[.pointer (some f),.agg #[.int .i64 who,.int .u64 c,.string x]] w (fun e w'=>∃r:Bool,e=.returned (.bool r)∧(r=true↔(Sp.xC L G who c x).1≠0)∧lI w0 F0 X H w' f (Sp.xC L G who c x).2 G a b∧Kept H w w'):=by
 obtain ⟨F,hF,E,d1,d2,d3⟩:=h;refine (jMB f who c x w hF).mono ?_;rintro _ w' ⟨r,rfl,hr,F',hF',E',hn⟩;obtain ⟨k1,k2⟩:=lI.step d1 d2 d3 E hF' E' hn;exact ⟨r,rfl,hr,k1,k2⟩
theorem lI.hear (h:lI w0 F0 X H w f L G a b) (body:ByteArray):Calls prog 11 #[.pointer (some f),.string body] w (fun e w'=>∃r:Bool,e=.returned (.bool r)∧r=(Sp.xR L G body.data.toList).2.2∧lI w0 F0 X H w' f (Sp.xR L G body.data.toList).1 (Sp.xR L G body.data.toList).2.1 a b∧Kept H w w'):=by
 obtain ⟨F,hF,E,d1,d2,d3⟩:=h;refine (jPF f body w hF).mono ?_;rintro _ w' ⟨r,rfl,hr,F',hF',E',hn⟩;obtain ⟨k1,k2⟩:=lI.step d1 d2 d3 E hF' E' hn;exact ⟨r,rfl,hr,k1,k2⟩
theorem lI.corrupt (h:lI w0 F0 X H w f L G a b) (who:Int):Calls prog 13 #[.pointer (some f),.int .i64 who] w (fun e w'=>∃r:Int,e=.returned (.int .i64 r)∧r=(Sp.vQ L G a b who).1∧lI w0 F0 X H w' f (Sp.vQ L G a b who).2.1 (Sp.vQ L G a b who).2.2.1 (Sp.vQ L G a b who).2.2.2.1 (Sp.vQ L G a b who).2.2.2.2∧Kept H w w'):=by
 obtain ⟨F,hF,E,d1,d2,d3⟩:=h;refine (jHZ f who w hF).mono ?_;rintro _ w' ⟨r,rfl,hr,F',hF',E',hn⟩;obtain ⟨k1,k2⟩:=lI.step d1 d2 d3 E hF' E' hn;exact ⟨r,rfl,hr,k1,k2⟩
theorem lI.free (h:lI w0 F0 X H w f L G a b) (who:Int):Calls prog 15 #[.pointer (some f),.int .i64 who] w (fun e w'=>∃r:Bool,e=.returned (.bool r)∧r=Sp.jFR L G who∧lI w0 F0 X H w' f L G a b∧Kept H w w'):=by
 have h0:=h;obtain ⟨F,hF,_⟩:=h;refine (jPG f who w hF).mono ?_;rintro _ w' ⟨r,rfl,hr,E'⟩;exact ⟨r,rfl,hr,h0.pureE E',E'.keptP⟩
end
theorem lI.new (w:World):Calls prog 10 #[] w (fun e w'=>∃r:Option Addr,e=.returned (.pointer r)∧∃f F,r=some f∧jAP w' f [] [] false false F∧Pure w w'∧∀x,F x→w.heap.size≤x):=jFL w
end Go.Proofs
end
section
namespace Go.Sp
theorem jRB (L:Pool) (n:Node):(make L n).2.2.length≤L.length+1:=by
 rcases jCD L n with e | ⟨_,e⟩ <;> rw [e] <;> simp
end Go.Sp
end
section
open Go Go.SE
namespace Go.Sp
theorem jHW {L:Pool} {n:Node} (hp:vA n=0) (ha:(shapeOf n.kind).kids<1→n.a=0) (hb:(shapeOf n.kind).kids<2→n.b=0) (hf:zZ (shapeOf n.kind) n=0) (hk:∀k∈zI n,inP L k=true) :
  check L n=if 1+((zI n).map (sizeOf L)).sum>4096∨(zI n).foldl (fun d t=>max d (depthOf L t)) 0+1>64 then (0,0,52) else (1+((zI n).map (sizeOf L)).sum,(zI n).foldl (fun d t=>max d (depthOf L t)) 0+1,0):=by
 unfold check
 simp only
 rw [if_neg (by simp [hp]),if_neg (fun h=>?_),if_neg (by simp [hf]),if_neg (fun h=>?_)]
 ·obtain ⟨k,hk1,hk2⟩:=List.any_eq_true.1 h
  rw [hk k hk1] at hk2;cases hk2
 ·rw [Bool.or_eq_true,Bool.and_eq_true,Bool.and_eq_true] at h
  rcases h with ⟨h1,h2⟩ | ⟨h1,h2⟩
  ·rw [ha (of_decide_eq_true h1)] at h2;simp at h2
  ·rw [hb (of_decide_eq_true h1)] at h2;simp at h2
theorem mk_ok {L:Pool} {n:Node} (hW:Wf L) (hl:L.length<65536) (hp:vA n=0) (ha:(shapeOf n.kind).kids<1→n.a=0) (hb:(shapeOf n.kind).kids<2→n.b=0) (hf:zZ (shapeOf n.kind) n=0) (hk:∀k∈zI n,inP L k=true)
  {sz d:Int} (hs:1+((zI n).map (sizeOf L)).sum=sz) (hd:(zI n).foldl (fun d t=>max d (depthOf L t)) 0+1=d) :
  ((sz>4096∨d>64)→(make L n).2.1=52)∧(¬ (sz>4096∨d>64)→∃r M,make L n=(r,0,L++M)∧inP (L++M) r=true∧nodeOf (L++M) r=n∧Wf (L++M)∧sizeOf (L++M) r=sz∧depthOf (L++M) r=d∧(L++M).length≤L.length+1):=by
 have hc:=jHW hp ha hb hf hk
 rw [hs,hd] at hc
 refine ⟨fun h=>?_,fun h=>?_⟩
 ·rw [if_pos h] at hc
  unfold make;simp only [hc];rfl
 ·rw [if_neg h] at hc
  have h0:(make L n).2.1=0:=by
   unfold make;simp only [hc];rw [if_neg (by simp)];split
   ·rfl
   ·rw [if_neg (by omega)]
  obtain ⟨M,e⟩:=uZ L n
  obtain ⟨m1,m2,_⟩:=xQ h0
  have hw:=xP hW n
  have hfew:=jRB L n
  rw [e] at m1 m2 hw hfew
  refine ⟨(make L n).1,M,by rw [← e,← h0],m1,m2,hw,?_,?_,hfew⟩
  ·rw [(hw.node m1).2.2.2.2.2.1,m2,← hs]
   congr 2
   exact List.map_congr_left (fun k hk'=>jCQ (hk k hk'))
  ·rw [(hw.node m1).2.2.2.2.2.2,m2,← hd]
   congr 1
   have:∀(l:List Int) (d:Int),(∀k∈l,inP L k=true)→l.foldl (fun d k=>max d (depthOf (L++M) k)) d=l.foldl (fun d k=>max d (depthOf L k)) d:=by
    intro l;induction l with
    | nil=>intro d _;rfl
    | cons a l ih=>intro d hh;simp only [List.foldl_cons];rw [jBE (hh a (by simp))];exact ih _ (fun k hk=>hh k (by simp [hk]))
   exact this _ _ hk
theorem make_old {L:Pool} (hW:Wf L) {t:Int} (ht:inP L t=true):make L (nodeOf L t)=(t,0,L):=by
 obtain ⟨h1,h2,h3,h4,h5,h6,h7⟩:=hW.node ht;have hc:=jHW h1 h2 h3 h4 (fun k hk=>(h5 k hk).1);rw [← h6,← h7] at hc;obtain ⟨i,hi,rfl⟩:=tB ht;have hsz:=hW.ok.size L[i] (List.getElem_mem hi);have hdp:=hW.ok.depth L[i] (List.getElem_mem hi);have e1:sizeOf L ((i:Int)+1)=L[i].size:=by simp [sizeOf,jDL hi]
 have e2:depthOf L ((i:Int)+1)=L[i].depth:=by simp [depthOf,jDL hi]
 rw [if_neg (by omega)] at hc;have hfd:find L (nodeOf L ((i:Int)+1))=some i:=by rw [qC hi];exact Go.Proofs.jFI hW.ok (List.getElem?_eq_getElem hi)
 unfold make;simp only [hc,hfd];rw [if_neg (by simp)]
theorem jGM (k:Int):(shapeOf k).kids=0∨(shapeOf k).kids=1∨(shapeOf k).kids=2:=by
 unfold shapeOf noShape
 repeat' split
 all_goals simp
theorem jTU {L:Pool} (hW:Wf L):∀(m:Nat) (t:Int),t.toNat=m→inP L t=true→grow L (zH L t)=(t,0,L):=by
 intro m;induction m using Nat.strongRecOn with
 | _ m ih =>
 intro t hm ht;have hmk:=make_old hW ht;obtain ⟨h1,h2,h3,h4,h5,h6,h7⟩:=hW.node ht;have hpos:=(zY.1 ht).1;have kid:∀k∈zI (nodeOf L t),grow L (zH L k)=(k,0,L):=fun k hk=>by
  have:=zY.1 (h5 k hk).1;exact ih k.toNat (by have:=(h5 k hk).2;omega) k rfl (h5 k hk).1
 rw [vW hW ht,grow];generalize nodeOf L t=n at *;obtain ⟨k,f,t',u,x,a,b⟩:=n;unfold zI at kid ⊢;simp only at *;rcases jGM k with h | h | h
 ·rw [h] at kid ⊢;have ea:=h2 (by omega);have eb:=h3 (by omega);subst ea;subst eb;simpa [vE] using hmk
 ·rw [h] at kid ⊢;have eb:=h3 (by omega);subst eb;have k1:=kid a (by simp);simpa [vE,k1] using hmk
 ·rw [h] at kid ⊢;have k1:=kid a (by simp);have k2:=kid b (by simp);simpa [vE,k1,k2] using hmk
structure LP (T:Tree) (sz d:Int):Prop where
 s1:1≤sz
 d1:1≤d
 yes:∀i s,0≤i→0≤s→s+sz≤4096→i+d≤64→qD i s T=(0,s+sz)
 no:∀i s,0≤i→0≤s→(4096<s+sz∨64<i+d)→(qD i s T).1=52
theorem LP0 {k f t u:Int} {x:ByteArray} (h:qW ⟨k,f,t,u,x,0,0⟩ 0=0):LP (.mk k f t u x []) 1 1:=by
 refine ⟨by omega,by omega,fun i s hi hs h1 h2=>?_,fun i s hi hs h1=>?_⟩
 ·rw [qD,if_neg (by omega),if_neg (by omega)];simp [vK,h]
 ·rw [qD];split
  ·rfl
  ·rw [if_pos (by omega)]
theorem LP1 {k f t u:Int} {x:ByteArray} {A:Tree} {sa da:Int} (h:qW ⟨k,f,t,u,x,0,0⟩ 1=0) (hA:LP A sa da):LP (.mk k f t u x [A]) (1+sa) (da+1):=by
 have a1:=hA.s1;have a2:=hA.d1;refine ⟨by omega,by omega,fun i s hi hs h1 h2=>?_,fun i s hi hs h1=>?_⟩
 ·rw [qD,if_neg (by omega),if_neg (by omega)];simp only [List.length_cons,List.length_nil,vK,h,if_pos,hA.yes (i+1) (s+1) (by omega) (by omega) (by omega) (by omega)];simp;omega
 ·rw [qD];split
  ·rfl
  ·split
   ·rfl
   ·simp only [List.length_cons,List.length_nil,vK,h,if_pos];simpa using hA.no (i+1) (s+1) (by omega) (by omega) (by omega)
theorem LP2 {k f t u:Int} {x:ByteArray} {A B:Tree} {sa da sb db:Int} (h:qW ⟨k,f,t,u,x,0,0⟩ 2=0) (hA:LP A sa da) (hB:LP B sb db):LP (.mk k f t u x [A,B]) (1+(sa+sb)) (max da db+1):=by
 have a1:=hA.s1;have a2:=hA.d1;have b1:=hB.s1;have b2:=hB.d1;refine ⟨by omega,by omega,fun i s hi hs h1 h2=>?_,fun i s hi hs h1=>?_⟩
 ·rw [qD,if_neg (by omega),if_neg (by omega)];simp only [List.length_cons,List.length_nil,vK,h,if_pos,hA.yes (i+1) (s+1) (by omega) (by omega) (by omega) (by omega),hB.yes (i+1) (s+1+sa) (by omega) (by omega) (by omega) (by omega)];simp;omega
 ·rw [qD];split
  ·rfl
  ·split
   ·rfl
   ·simp only [List.length_cons,List.length_nil,vK,h,if_pos];by_cases hc:s+1+sa≤4096∧i+1+da≤64
    ·rw [hA.yes (i+1) (s+1) (by omega) (by omega) hc.1 hc.2];simpa using hB.no (i+1) (s+1+sa) (by omega) (by omega) (by omega)
    ·have:=hA.no (i+1) (s+1) (by omega) (by omega) (by omega);rw [this];simp
theorem jRC {L:Pool} (hW:Wf L):∀(m:Nat) (t:Int),t.toNat=m→inP L t=true→LP (zH L t) (sizeOf L t) (depthOf L t):=by
 intro m;induction m using Nat.strongRecOn with
 | _ m ih =>
 intro t hm ht;obtain ⟨h1,h2,h3,h4,h5,h6,h7⟩:=hW.node ht;have hpos:=(zY.1 ht).1;have kid:∀k∈zI (nodeOf L t),LP (zH L k) (sizeOf L k) (depthOf L k):=fun k hk=>by
  have:=zY.1 (h5 k hk).1;exact ih k.toNat (by have:=(h5 k hk).2;omega) k rfl (h5 k hk).1
 have own:∀len:Nat,(len:Int)=(shapeOf (nodeOf L t).kind).kids→qW ⟨(nodeOf L t).kind,(nodeOf L t).frm,(nodeOf L t).to,(nodeOf L t).num,(nodeOf L t).text,0,0⟩ len=0:=fun len hl=>by
  have e1:vA ⟨(nodeOf L t).kind,(nodeOf L t).frm,(nodeOf L t).to,(nodeOf L t).num,(nodeOf L t).text,0,0⟩=0:=h1;have e2:zZ (shapeOf (nodeOf L t).kind) ⟨(nodeOf L t).kind,(nodeOf L t).frm,(nodeOf L t).to,(nodeOf L t).num,(nodeOf L t).text,0,0⟩=0:=h4;unfold qW;simp only [e1];simp [hl,e2]
 rw [vW hW ht,h6,h7];generalize nodeOf L t=n at *;obtain ⟨k,f,t',u,x,a,b⟩:=n;unfold zI at kid ⊢;simp only at *;rcases jGM k with h | h | h
 ·rw [h];simpa using LP0 (own 0 (by omega))
 ·rw [h] at kid ⊢;have k1:=kid a (by simp);have:=LP1 (own 1 (by omega)) k1;have e:=k1.d1;simpa [Int.max_eq_right (show 0≤depthOf L a by omega)] using this
 ·rw [h] at kid ⊢;have k1:=kid a (by simp);have k2:=kid b (by simp);have:=LP2 (own 2 (by omega)) k1 k2;have e:=k1.d1;simpa [Int.max_eq_right (show 0≤depthOf L a by omega)] using this
end Go.Sp
end
section
namespace Go.Sp
theorem xO {L:Pool} {t k:Int} (h:inP L t=true) (hk:(nodeOf L t).kind=k):yL L t k=(nodeOf L t,false):=by unfold yL;rw [if_pos ⟨h,hk⟩]
section
variable {L:Pool} (hW:Wf L) {t:Int} (ht:inP L t=true)
include hW ht
theorem nd4 (hk:(nodeOf L t).kind=4):inP L (nodeOf L t).a=true∧inP L (nodeOf L t).b=true∧zH L t=qK (zH L (nodeOf L t).a) (zH L (nodeOf L t).b):=by
 have h:=(hW.node ht).1;have hp:=(hW.node ht).2.2.2.2.1;have hkk:zI (nodeOf L t)=[(nodeOf L t).a,(nodeOf L t).b]:=by unfold zI;rw [hk];rfl
 rw [hkk] at hp;refine ⟨(hp _ (by simp)).1,(hp _ (by simp)).1,?_⟩;rw [vW hW ht,hk,qK,hkk];unfold vA at h;rw [hk] at h;simp [shapeOf,isKind] at h;simp [h]
theorem nd7 (hk:(nodeOf L t).kind=7):inP L (nodeOf L t).a=true∧0≤(nodeOf L t).frm∧zH L t=yK (nodeOf L t).frm (zH L (nodeOf L t).a):=by
 have h:=(hW.node ht).1;have hf:=(hW.node ht).2.2.2.1;have hp:=(hW.node ht).2.2.2.2.1;have hkk:zI (nodeOf L t)=[(nodeOf L t).a]:=by unfold zI;rw [hk];rfl
 rw [hkk] at hp;refine ⟨(hp _ (by simp)).1,?_,?_⟩
 ·unfold zZ at hf;rw [hk] at hf;split at hf
  ·cases hf
  ·rename_i hh;simp [shapeOf,lG] at hh;omega
 rw [vW hW ht,hk,yK,hkk];unfold vA at h;rw [hk] at h;simp [shapeOf,isKind] at h;simp [h]
theorem nd89 (hk:(nodeOf L t).kind=8∨(nodeOf L t).kind=9):inP L (nodeOf L t).a=true∧0≤(nodeOf L t).frm∧(nodeOf L t).frm<16∧((nodeOf L t).to=1 - (nodeOf L t).frm→zH L t=yC (nodeOf L t).frm (zH L (nodeOf L t).a) ((nodeOf L t).kind == 9)):=by
 have h:=(hW.node ht).1;have hf:=(hW.node ht).2.2.2.1;have hp:=(hW.node ht).2.2.2.2.1;have hkk:zI (nodeOf L t)=[(nodeOf L t).a]:=by unfold zI;rcases hk with hk | hk <;> (rw [hk];rfl)
 rw [hkk] at hp;have hff:0≤(nodeOf L t).frm∧(nodeOf L t).frm<16:=by
  unfold zZ at hf;rcases hk with hk | hk <;>
  ·rw [hk] at hf;split at hf
   ·cases hf
   ·rename_i hh;simp [shapeOf,lG] at hh;omega
 refine ⟨(hp _ (by simp)).1,hff.1,hff.2,fun hto=>?_⟩;rw [vW hW ht,yC,hkk,← hto];unfold vA at h;rcases hk with hk | hk <;>
 ·rw [hk] at h ⊢;simp [shapeOf,isKind] at h;simp [h]
theorem yN {k f t' u:Int} {x:ByteArray} {ks:List Tree} (h:zH L t=.mk k f t' u x ks):(nodeOf L t).kind=k∧(nodeOf L t).frm=f∧(nodeOf L t).to=t'∧(nodeOf L t).num=u∧(nodeOf L t).text=x:=by
 rw [vW hW ht] at h;injection h with h1 h2 h3 h4 h5 h6;exact ⟨h1,h2,h3,h4,h5⟩
end
theorem jNR {n:Int} (h:0≤n∧n<16):IntKind.i64.wrap (1 - n)=1 - n:=IntWalk.i64_in _ (by omega)
section
variable {L:Pool} (hW:Wf L) {t:Int}
include hW
theorem jAW (ht:inP L t=true) {g:ByteArray} {y:Tree} (h:zH L t=qK (qH g) y):∃n,uY L t=((g,n),false)∧inP L n=true∧zH L n=y:=by
 have hk:=(yN hW ht (h.trans rfl)).1;obtain ⟨h1,h2,h3⟩:=nd4 hW ht hk;rw [h] at h3;have e1:qH g=zH L (nodeOf L t).a:=by simpa [qK] using (Tree.mk.inj h3).2.2.2.2.2 |> fun e=>(List.cons.inj e).1
 have e2:y=zH L (nodeOf L t).b:=by have:=(Tree.mk.inj h3).2.2.2.2.2;exact (List.cons.inj (List.cons.inj this).2).1
 have hka:=yN hW h1 (e1.symm.trans rfl);refine ⟨(nodeOf L t).b,?_,h2,e2.symm⟩;unfold uY;rw [xO ht hk];simp only;rw [xO h1 hka.1];simp [hka.2.2.2.2]
theorem jEV (ht:inP L t=true) {c:Int} {x:ByteArray} (h:zH L t=qG c x):tY L t=((c,x),false):=by
 obtain ⟨n,e1,hn,e⟩:=jAW hW ht h;have hk:=(yN hW hn (e.trans rfl)).1;obtain ⟨h1,h2,h3⟩:=nd4 hW hn hk;rw [e] at h3;have q1:jAX c=zH L (nodeOf L n).a:=(List.cons.inj (Tree.mk.inj h3).2.2.2.2.2).1;have q2:qH x=zH L (nodeOf L n).b:=(List.cons.inj (List.cons.inj (Tree.mk.inj h3).2.2.2.2.2).2).1;have k1:=yN hW h1 (q1.symm.trans rfl);have k2:=yN hW h2 (q2.symm.trans rfl);unfold tY;rw [e1];simp only;rw [xO hn hk];simp only;rw [xO h1 k1.1,xO h2 k2.1];simp [k1.2.2.2.1,k2.2.2.2.2]
theorem jHI (ht:inP L t=true) {c:Int} (h:zH L t=jAX c):(yL L t 2).1.num=c∧(yL L t 2).2=false:=by
 have k:=yN hW ht (h.trans rfl);rw [xO ht k.1];exact ⟨k.2.2.2.1,rfl⟩
theorem tW (ht:inP L t=true) {n c:Int} {x:ByteArray} {g:Bool} (hn:n=0∨n=1) (h:zH L t=yC n (qG c x) g):tX L t=(⟨1,n,c,x,g⟩,false):=by
 have k:=yN hW ht (h.trans rfl);have hk:(nodeOf L t).kind=8∨(nodeOf L t).kind=9:=by rw [k.1];cases g <;> simp
 obtain ⟨ha,h0,h16,hT⟩:=nd89 hW ht hk;have:=hT (by rw [k.2.2.1,k.2.1]);rw [h,k.2.1] at this;have q1:qG c x=zH L (nodeOf L t).a:=(List.cons.inj (Tree.mk.inj this).2.2.2.2.2).1;unfold tX;simp only;rw [if_neg,jEV hW ha q1.symm,k.1,k.2.1]
 ·cases g <;> rfl
 ·simp only [not_or,not_and,Classical.not_not];refine ⟨fun h8=>hk.resolve_left h8,by rw [k.2.1];omega,?_⟩;rw [k.2.2.1,jNR ⟨h0,h16⟩,k.2.1]
end
def IsL (x:Tree) (l:Letter):Prop:=vY l=0∧∃a b:Bool,(l.kind=4→l.fake=(a || b))∧x=vD l a b
theorem jGK {k f c:Int} {x:ByteArray} {g:Bool} (h:vY ⟨k,f,c,x,g⟩=0):(k=1∨k=2∨k=3∨k=4∨k=5∨k=6∨k=7)∧(f=0∨f=1)∧(qJ k=false→f=0)∧(qU k=false→x=⟨#[]⟩)∧(g=true→k=1∨k=4)∧x.size≤64:=by
 unfold vY at h;simp only at h;split at h
 ·cases h
 rename_i hh;split at h
 ·cases h
 simp only [not_or,not_and,Classical.not_not] at hh;obtain ⟨h1,h2,h3,h4,h5,h6⟩:=hh;refine ⟨by omega,?_,h4,h5,?_,by omega⟩
 ·by_cases h0:f=0
  ·exact .inl h0
  ·exact .inr (h3 h0)
 ·intro hg;by_cases h1:k=1
  ·exact .inl h1
  ·exact .inr (h6 hg h1)
theorem jRF {k f c:Int} {x:ByteArray} {g:Bool} (hk:1≤k∧k≤7) (hf:f=0∨f=1) (h1:qJ k=false→f=0) (h2:qU k=false→x=⟨#[]⟩) (h3:g=true→k=1∨k=4) (hx:x.size≤64):vY ⟨k,f,c,x,g⟩=0:=by
 unfold vY;simp only;rw [if_neg,if_neg (by omega)];simp only [not_or,not_and,Classical.not_not];refine ⟨by omega,by omega,fun h0=>hf.resolve_left h0,h1,h2,fun hg h1=>(h3 hg).resolve_left h1⟩
section
variable {L:Pool} (hW:Wf L) {t:Int}
include hW
theorem jIX (ht:inP L t=true) {who c:Int} {x:ByteArray} {a b:Bool} (h:zH L t=qK (yC 0 (qG c x) a) (yC 1 (qG c x) b)):jBV L who t=(⟨4,who,c,x,a || b⟩,false):=by
 have hk:=(yN hW ht (h.trans rfl)).1;obtain ⟨h1,h2,h3⟩:=nd4 hW ht hk;rw [h] at h3;have q1:=(List.cons.inj (Tree.mk.inj h3).2.2.2.2.2).1;have q2:=(List.cons.inj (List.cons.inj (Tree.mk.inj h3).2.2.2.2.2).2).1;unfold jBV;simp only;rw [xO ht hk];simp only;rw [tW hW h1 (.inl rfl) q1.symm,tW hW h2 (.inr rfl) q2.symm];simp
theorem jMU (ht:inP L t=true) {l:Letter} (h:IsL (zH L t) l):jIV L t=(l,false):=by
 obtain ⟨k,f,c,x,g⟩:=l;obtain ⟨h1,a,b,h4,hT⟩:=h;obtain ⟨hk,hf,hs,hx,hg,_⟩:=jGK h1;have tagged:∀{who:Int} {gg:ByteArray} {y:Tree},zH L t=yK who (qK (qH gg) y)→(nodeOf L t).kind=7∧(nodeOf L t).frm=who∧inP L (nodeOf L t).a=true∧zH L (nodeOf L t).a=qK (qH gg) y∧∃n,uY L (nodeOf L t).a=((gg,n),false)∧inP L n=true∧zH L n=y:=by
  intro who gg y e;have k:=yN hW ht (e.trans rfl);obtain ⟨q1,_,q3⟩:=nd7 hW ht k.1;rw [e] at q3;have q:=(List.cons.inj (Tree.mk.inj q3).2.2.2.2.2).1;exact ⟨k.1,k.2.1,q1,q.symm,jAW hW q1 q.symm⟩
 rcases hk with rfl | rfl | rfl | rfl | rfl | rfl | rfl
 ·have e:zH L t=yC f (qG c x) g:=hT;have k:=yN hW ht (e.trans rfl);unfold jIV;simp only;rw [if_neg (by rw [k.1];cases g <;> decide),if_pos (by rw [k.1];cases g <;> decide),tW hW ht hf e]
 ·have e:zH L t=yK f (qG c x):=hT;have:g=false:=by cases g with
   | false=>rfl
   | true=>exact absurd (hg rfl) (by omega)
  subst this;obtain ⟨k,kf,h1,h2,n,e1,hn,e2⟩:=tagged e;unfold jIV jAJ;simp only;rw [if_pos k,e1,kf];simp only;rw [if_neg (fun q=>absurd q.1 (by decide)),if_neg (fun q=>absurd q.1 (by decide)),if_neg (fun q=>absurd q.1 (by decide)),if_pos ⟨trivial,by omega⟩,jEV hW h1 h2];rfl
 ·obtain rfl:f=0:=hs rfl;obtain rfl:x=⟨#[]⟩:=hx rfl;have:g=false:=by cases g with
   | false=>rfl
   | true=>exact absurd (hg rfl) (by omega)
  subst this;have e:zH L t=yK 0 (qK (qH jFZ) (jAX c)):=hT;obtain ⟨k,kf,h1,h2,n,e1,hn,e2⟩:=tagged e;obtain ⟨u1,u2⟩:=jHI hW hn e2;unfold jIV jAJ;simp only;rw [if_pos k,e1,kf];simp only;rw [if_pos ⟨trivial,trivial⟩,u1,u2];rfl
 ·have e:zH L t=yK f (qK (qH tG) (qK (yC 0 (qG c x) (g && a)) (yC 1 (qG c x) (g && b)))):=hT;obtain ⟨k,kf,h1,h2,n,e1,hn,e2⟩:=tagged e;have hgg:((g && a) || (g && b))=g:=by
   have:=h4 rfl;simp only at this;subst this;cases a <;> cases b <;> rfl
  unfold jIV jAJ;simp only;rw [if_pos k,e1,kf];simp only;rw [if_neg (fun q=>absurd q.1 (by decide)),if_neg (fun q=>absurd q.1 (by decide)),if_neg (fun q=>absurd q.1 (by decide)),if_neg (fun q=>absurd q.1 (by decide)),if_pos ⟨trivial,by omega⟩,jIX hW hn e2,hgg];rfl
 ·obtain rfl:f=0:=hs rfl;obtain rfl:x=⟨#[]⟩:=hx rfl;have:g=false:=by cases g with
   | false=>rfl
   | true=>exact absurd (hg rfl) (by omega)
  subst this;have e:zH L t=yK 2 (qK (qH jAF) (jAX c)):=hT;obtain ⟨k,kf,h1,h2,n,e1,hn,e2⟩:=tagged e;obtain ⟨u1,u2⟩:=jHI hW hn e2;unfold jIV jAJ;simp only;rw [if_pos k,e1,kf];simp only;rw [if_neg (fun q=>absurd q.1 (by decide)),if_pos ⟨trivial,trivial⟩,u1,u2];rfl
 ·obtain rfl:f=0:=hs rfl;have:g=false:=by cases g with
   | false=>rfl
   | true=>exact absurd (hg rfl) (by omega)
  subst this;have e:zH L t=yK 2 (qK (qH jAE) (qG c x)):=hT;obtain ⟨k,kf,h1,h2,n,e1,hn,e2⟩:=tagged e;unfold jIV jAJ;simp only;rw [if_pos k,e1,kf];simp only;rw [if_neg (fun q=>absurd q.1 (by decide)),if_neg (fun q=>absurd q.1 (by decide)),if_pos ⟨trivial,trivial⟩,jEV hW hn e2];rfl
 ·obtain rfl:f=0:=hs rfl;obtain rfl:x=⟨#[]⟩:=hx rfl;have:g=false:=by cases g with
   | false=>rfl
   | true=>exact absurd (hg rfl) (by omega)
  subst this;have e:zH L t=qK (qH jPT) (jAX c):=hT;have k:=yN hW ht (e.trans rfl);obtain ⟨n,e1,hn,e2⟩:=jAW hW ht e;obtain ⟨u1,u2⟩:=jHI hW hn e2;unfold jIV;simp only;rw [if_neg (by rw [k.1];decide),if_neg (by rw [k.1];decide),e1];simp only;rw [if_neg (by simp),u1,u2]
end
end Go.Sp
end
section
open Go Go.SE
namespace Go.Sp
open Go.Proofs
inductive In (T:Tree):Tree→Prop
 | refl:In T T
 | fst {f t u:Int} {x:ByteArray} {a b:Tree}:In T (.mk 4 f t u x [a,b])→In T a
 | snd {f t u:Int} {x:ByteArray} {a b:Tree}:In T (.mk 4 f t u x [a,b])→In T b
 | shows {k f t u:Int} {x:ByteArray} {a:Tree}:uI k=true→In T (.mk k f t u x [a])→In T a
theorem In.trans {T y z:Tree} (h:In T y) (h2:In y z):In T z:=by
 induction h2 with
 | refl=>exact h
 | fst _ ih=>exact .fst ih
 | snd _ ih=>exact .snd ih
 | shows hk _ ih=>exact .shows hk ih
def Tree.kd:Tree→Int | .mk k _ _ _ _ _=>k
def Lo (y:Tree):Prop:=∀z,In y z→z.kd≠7∧z.kd≠6
theorem jVQ {T:Tree} (h4:∀f t u x a b,T=.mk 4 f t u x [a,b]→Lo a∧Lo b) (h7:∀k f t u x a,T=.mk k f t u x [a]→Lo a) {y:Tree} (h:In T y):y=T∨Lo y:=by
 induction h with
 | refl=>exact .inl rfl
 | fst _ ih =>
  rcases ih with e | e
  ·exact .inr (h4 _ _ _ _ _ _ e.symm).1
  ·exact .inr (fun z hz=>e z ((In.fst .refl).trans hz))
 | snd _ ih =>
  rcases ih with e | e
  ·exact .inr (h4 _ _ _ _ _ _ e.symm).2
  ·exact .inr (fun z hz=>e z ((In.snd .refl).trans hz))
 | shows hk _ ih =>
  rcases ih with e | e
  ·exact .inr (h7 _ _ _ _ _ _ e.symm)
  ·exact .inr (fun z hz=>e z ((In.shows hk .refl).trans hz))
theorem jTP {T:Tree} (h0:T.kd≠7∧T.kd≠6) (h4:∀f t u x a b,T=.mk 4 f t u x [a,b]→Lo a∧Lo b) (h7:∀k f t u x a,T=.mk k f t u x [a]→Lo a):Lo T:=fun z hz=>by
 rcases jVQ h4 h7 hz with rfl | h
 ·exact h0
 ·exact h z .refl
theorem jAZ (x:ByteArray):Lo (qH x):=jTP ⟨by simp [qH,Tree.kd],by simp [qH,Tree.kd]⟩ (fun _ _ _ _ _ _ h=>by simp [qH] at h) (fun _ _ _ _ _ _ h=>by simp [qH] at h)
theorem jNB (c:Int):Lo (jAX c):=jTP ⟨by simp [jAX,Tree.kd],by simp [jAX,Tree.kd]⟩ (fun _ _ _ _ _ _ h=>by simp [jAX] at h) (fun _ _ _ _ _ _ h=>by simp [jAX] at h)
theorem tZ {a b:Tree} (ha:Lo a) (hb:Lo b):Lo (qK a b):=jTP ⟨by simp [qK,Tree.kd],by simp [qK,Tree.kd]⟩ (fun _ _ _ _ _ _ h=>by simp [qK] at h;obtain ⟨_,_,_,_,rfl,rfl⟩:=h;exact ⟨ha,hb⟩) (fun _ _ _ _ _ _ h=>by simp [qK] at h)
theorem jLO {n:Int} {a:Tree} {g:Bool} (ha:Lo a):Lo (yC n a g):=jTP ⟨by cases g <;> simp [yC,Tree.kd],by cases g <;> simp [yC,Tree.kd]⟩ (fun _ _ _ _ _ _ h=>by simp [yC] at h) (fun _ _ _ _ _ _ h=>by simp [yC] at h;obtain ⟨_,_,_,_,_,rfl⟩:=h;exact ha)
theorem jFB (c:Int) (x:ByteArray):Lo (qG c x):=tZ (jAZ _) (tZ (jNB _) (jAZ _))
theorem jFD {n:Int} {a y:Tree} (ha:Lo a) (h:In (yK n a) y):y=yK n a∨Lo y:=jVQ (fun _ _ _ _ _ _ h=>by simp [yK] at h) (fun _ _ _ _ _ _ h=>by simp [yK] at h;obtain ⟨_,_,_,_,_,rfl⟩:=h;exact ha) h
theorem jJK (l:Letter) (a b:Bool) {y:Tree} (h:In (vD l a b) y):y=vD l a b∨Lo y:=by
 unfold vD at h ⊢;split at h
 ·rename_i e;rw [if_pos e];exact .inr (fun z hz=>jLO (jFB _ _) z (h.trans hz))
 rename_i e;rw [if_neg e];split at h
 ·rename_i e;rw [if_pos e];exact jFD (jFB _ _) h
 rename_i e;rw [if_neg e];split at h
 ·rename_i e;rw [if_pos e];exact jFD (tZ (jAZ _) (jNB _)) h
 rename_i e;rw [if_neg e];split at h
 ·rename_i e;rw [if_pos e];exact jFD (tZ (jAZ _) (tZ (jLO (jFB _ _)) (jLO (jFB _ _)))) h
 rename_i e;rw [if_neg e];split at h
 ·rename_i e;rw [if_pos e];exact jFD (tZ (jAZ _) (jNB _)) h
 rename_i e;rw [if_neg e];split at h
 ·rename_i e;rw [if_pos e];exact jFD (tZ (jAZ _) (jFB _ _)) h
 rename_i e;rw [if_neg e];exact .inr (fun z hz=>tZ (jAZ _) (jNB _) z (h.trans hz))
def jIF (n:Int):Tree:=.mk 6 n 0 0 ⟨#[]⟩ []
theorem jUN {n:Int} {y:Tree} (h:In (jIF n) y):y=jIF n:=by
 have top:∀z,In (jIF n) z→z=jIF n∨Lo z:=fun z hz=>jVQ (fun _ _ _ _ _ _ h=>by simp [jIF] at h) (fun _ _ _ _ _ _ h=>by simp [jIF] at h) hz;rcases top y h with h | h'
 ·exact h
 ·induction h with
  | refl=>rfl
  | fst h ih =>
   rcases top _ h with e | e
   ·simp [jIF] at e
   ·exact absurd (ih e) (by simp [jIF])
  | snd h ih =>
   rcases top _ h with e | e
   ·simp [jIF] at e
   ·exact absurd (ih e) (by simp [jIF])
  | shows hk h ih =>
   rcases top _ h with e | e
   ·simp [jIF] at e
   ·exact absurd (ih e) (by simp [jIF])
theorem jQC {L:Pool} {G:List Int} (hW:Wf L) (hG:∀g∈G,inP L g=true) {t:Int} (h:Seen L G t):inP L t=true∧∃g∈G,In (zH L g) (zH L t):=by
 induction h with
 | given hg=>exact ⟨hG _ hg,_,hg,.refl⟩
 | «from» _ ha ih =>
  rename_i r u t _
  obtain ⟨hu,g,hg,hi⟩:=ih
  refine ⟨(ha.inp hW hu).1,g,hg,?_⟩
  rw [vW hW hu] at hi
  rcases ha with ⟨_,hk,rfl⟩ | ⟨_,hk,rfl⟩ | ⟨_,hk,rfl⟩
  ·rw [hk,show zI (nodeOf L u)=[(nodeOf L u).a,(nodeOf L u).b] by simp [zI,hk,shapeOf]] at hi
   exact .fst hi
  ·rw [hk,show zI (nodeOf L u)=[(nodeOf L u).a,(nodeOf L u).b] by simp [zI,hk,shapeOf]] at hi
   exact .snd hi
  ·rw [show zI (nodeOf L u) = [(nodeOf L u).a] by
    simp only [uI,Bool.or_eq_true,beq_iff_eq] at hk;rcases hk with (hk | hk) | hk <;> simp [zI,hk,shapeOf]] at hi
   exact .shows hk hi
theorem jGO {l:Letter} (h:vY l=0):IsL (vD l true true) l:=⟨h,l.fake,l.fake,fun _=>by simp,by unfold vD;simp⟩
theorem jOV {L:Pool} (hW:Wf L) {t:Int} (ht:inP L t=true) {l m:Letter} (hl:vY l=0) (hm:vY m=0) (h1:zH L t=vD l true true) (h2:zH L t=vD m true true):l=m:=by
 have a:=jMU hW ht (l:=l) (by rw [h1];exact jGO hl);have b:=jMU hW ht (l:=m) (by rw [h2];exact jGO hm);exact (Prod.mk.inj (a.symm.trans b)).1
theorem jMN {A M:Pool} (hW:Wf (A++M)) {v:Int} (h:inP A v=true):zH (A++M) v=zH A v:=lN hW _ v rfl h
theorem of_old {L:Pool} (hW:Wf L) {t:Int} (ht:inP L t=true):of L (zH L t)=(t,0,L):=by
 have h:=jRC hW _ t rfl ht;obtain ⟨i,hi,rfl⟩:=tB ht;have hsz:=hW.ok.size L[i] (List.getElem_mem hi);have hdp:=hW.ok.depth L[i] (List.getElem_mem hi);have e1:sizeOf L ((i:Int)+1)=L[i].size:=by simp [sizeOf,jDL hi]
 have e2:depthOf L ((i:Int)+1)=L[i].depth:=by simp [depthOf,jDL hi]
 have:=h.yes 0 0 (by omega) (by omega) (by omega) (by omega);unfold of;rw [this,if_neg (by simp),jTU hW _ _ rfl ht];simp
theorem jAH:(vT []).1=none:=by unfold vT;simp
theorem jFE {L:Pool} {G:List Int} (hW:Wf L) (hN:uN L) {l:Letter} (hl:yV l.c) :
  ∃M,(xR L G (yX l).1).1=L++M∧Wf (L++M)∧uN (L++M)∧(((xR L G (yX l).1).2.2=false∧(xR L G (yX l).1).2.1=G) ∨
   ((xR L G (yX l).1).2.2=true∧vY l=0∧∃t,(xR L G (yX l).1).2.1=jGU G t∧inP (L++M) t=true∧zH (L++M) t=vD l true true)):=by
 obtain ⟨M,hM⟩:=jNJ L (yX l).1
 have w1:=jRR hW (yX l).1
 have n1:=jRS hN (yX l).1
 rw [hM] at w1 n1
 refine ⟨M,?_⟩
 unfold xR
 by_cases h0:(lM L (yX l).1).2.1≠0
 ·rw [if_pos h0];exact ⟨hM,w1,n1,.inl ⟨rfl,rfl⟩⟩
 rw [if_neg h0]
 have h0:(lM L (yX l).1).2.1=0:=Classical.byContradiction h0
 refine ⟨hM,w1,n1,.inr ⟨rfl,?_⟩⟩
 obtain ⟨d1,d2,d3,d4⟩:=jVU hW h0
 by_cases he:(zW [] l).2.1≠0
 ·have e:(yX l).1=[]:=by unfold yX;rw [if_pos he]
  rw [e] at h0
  have:(lM L []).2.1=(vT []).2.1:=by unfold lM;rw [jAH]
  rw [this] at h0
  exact absurd h0 (lT jAH)
 have he:(zW [] l).2.1=0:=Classical.byContradiction he
 have hle:vY l=0:=by
  unfold zW at he;split at he
  ·exact he
  ·rename_i h;exact Classical.byContradiction h
 have hb:zW [] l=of [] (vD l true true):=by unfold zW;rw [if_neg (by omega)]
 obtain ⟨t1,t2,_⟩:=jQW Wf.nil (by rw [← hb];exact he)
 have hw0:=uT Wf.nil l
 have hn0:=tI uN.nil hl
 rw [← hb] at t1 t2
 have e:yX l=jKS (zW [] l).2.2 (zW [] l).1:=by unfold yX;rw [if_neg (by omega)]
 have el:jKS (zW [] l).2.2 (zW [] l).1=(yY (zW [] l).2.2 (zW [] l).1,0):=by
  unfold jKS;rw [if_pos t1];split
  ·rename_i hlong;exfalso;have:(yX l).1=[]:=by rw [e];unfold jKS;rw [if_pos t1,if_pos hlong]
   rw [this] at h0;have:(lM L []).2.1=(vT []).2.1:=by unfold lM;rw [jAH]
   rw [this] at h0;exact absurd h0 (lT jAH)
  ·rfl
 have et:(yX l).1=yY (zW [] l).2.2 (zW [] l).1:=by rw [e,el]
 obtain ⟨q,q1,q2,q3,q4⟩:=jOI hw0 hn0 t1 (by rw [← et];exact d4)
 rw [← et] at q1
 have ed:lM L (yX l).1=((yA L q q.length).1,(yA L q q.length).2.1,0,(yA L q q.length).2.2):=by unfold lM;rw [q1]
 rw [ed] at h0
 obtain ⟨c1,c2,c3⟩:=jHV hW q2 q3 h0
 rw [ed] at hM d2
 simp only at hM d2
 refine ⟨hle,(yA L q q.length).1,?_,by rw [← hM];exact d2,by rw [← hM,c3,q4,t2]⟩
 rw [ed];simp only
 exact jHR d2
structure Hon (L:Pool) (G:List Int) (ls:List Letter) (K:Int→Prop):Prop where
 wf:Wf L
 nums:uN L
 inp:∀g∈G,inP L g=true
 of:∀g∈G,(∃l∈ls,vY l=0∧zH L g=vD l true true)∨∃n,K n∧zH L g=jIF n
 all:∀l∈ls,∃g∈G,vY l=0∧zH L g=vD l true true
theorem Hon.nil:Hon [] [] [] (fun _=>False):=⟨Wf.nil,uN.nil,by simp,by simp,by simp⟩
section
variable {L M:Pool} {G:List Int} {ls:List Letter} {K:Int→Prop}
theorem Hon.app (h:Hon L G ls K) (w:Wf (L++M)) (n:uN (L++M)):Hon (L++M) G ls K :=
 ⟨w,n,fun g hg=>jBB (h.inp g hg),fun g hg=>by rw [jMN w (h.inp g hg)];exact h.of g hg,fun l hl=>by
  obtain ⟨g,hg,h1,h2⟩:=h.all l hl;exact ⟨g,hg,h1,by rw [jMN w (h.inp g hg)];exact h2⟩⟩
theorem Hon.give (h:Hon L G ls K) {l:Letter} {t:Int} (hl:vY l=0) (ht:inP L t=true) (e:zH L t=vD l true true):Hon L (jGU G t) (ls++[l]) K:=by
 refine ⟨h.wf,h.nums,fun g hg=>?_,fun g hg=>?_,fun m hm=>?_⟩
 ·rcases yS.1 hg with hg | rfl
  ·exact h.inp g hg
  ·exact ht
 ·rcases yS.1 hg with hg | rfl
  ·rcases h.of g hg with ⟨m,hm,h1⟩ | h1
   ·exact .inl ⟨m,by simp [hm],h1⟩
   ·exact .inr h1
  ·exact .inl ⟨l,by simp,hl,e⟩
 ·rcases List.mem_append.1 hm with hm | hm
  ·obtain ⟨g,hg,h1⟩:=h.all m hm;exact ⟨g,yS.2 (.inl hg),h1⟩
  ·simp at hm;subst hm;exact ⟨t,yS.2 (.inr rfl),hl,e⟩
theorem Hon.key (h:Hon L G ls K) {n t:Int} (ht:inP L t=true) (e:zH L t=jIF n):Hon L (jGU G t) ls (fun x=>K x∨x=n):=by
 refine ⟨h.wf,h.nums,fun g hg=>?_,fun g hg=>?_,fun m hm=>?_⟩
 ·rcases yS.1 hg with hg | rfl
  ·exact h.inp g hg
  ·exact ht
 ·rcases yS.1 hg with hg | rfl
  ·rcases h.of g hg with h1 | ⟨m,hm,h1⟩
   ·exact .inl h1
   ·exact .inr ⟨m,.inl hm,h1⟩
  ·exact .inr ⟨n,.inr rfl,e⟩
 ·obtain ⟨g,hg,h1⟩:=h.all m hm;exact ⟨g,yS.2 (.inl hg),h1⟩
theorem Hon.seen_key (h:Hon L G ls K) {t n:Int} (hs:Seen L G t) (e:zH L t=jIF n):K n:=by
 obtain ⟨_,g,hg,hi⟩:=jQC h.wf h.inp hs;rcases h.of g hg with ⟨l,_,_,e2⟩ | ⟨m,hm,e2⟩
 ·rw [e2,e] at hi;rcases jJK l _ _ hi with h1 | h1
  ·exfalso;unfold vD at h1
   repeat' split at h1
   all_goals simp [jIF,yC,yK,qK] at h1
   all_goals (split at h1 <;> omega)
  ·exact absurd rfl (h1 _ .refl).2
 ·rw [e2,e] at hi;have:=jUN hi;injection this with _ h2;rw [h2];exact hm
theorem Hon.seen_sign (h:Hon L G ls K) {t n:Int} {D:Tree} (hs:Seen L G t) (e:zH L t=yK n D) {l:Letter} (hl:vY l=0) (el:yK n D=vD l true true):l∈ls:=by
 obtain ⟨ht,g,hg,hi⟩:=jQC h.wf h.inp hs;rcases h.of g hg with ⟨m,hm,he,e2⟩ | ⟨m,hm,e2⟩
 ·rw [e2,e] at hi;rcases jJK m _ _ hi with h1 | h1
  ·rw [jOV h.wf ht hl he (e.trans el) (e.trans h1)];exact hm
  ·exact absurd rfl (h1 _ .refl).1
 ·rw [e2,e] at hi;have:=jUN hi;simp [jIF,yK] at this
theorem Hon.drv_sign (h:Hon L G ls K) {t n:Int} {D:Tree} (hs:Drv L (Seen L G) t) (ht:inP L t=true) (e:zH L t=yK n D) (hn:¬ K n) {l:Letter} (hl:vY l=0) (el:yK n D=vD l true true):l∈ls:=by
 obtain ⟨k1,k2,_⟩:=yN h.wf ht (e.trans rfl);rcases hs.inv with h1 | h1 | ⟨h1,_⟩ | ⟨h1,_⟩ | ⟨_,_,h2,h3⟩
 ·exact h.seen_sign h1 e hl el
 ·rw [k1] at h1;cases h1
 ·rw [k1] at h1;cases h1
 ·rw [k1] at h1;cases h1
 ·exfalso;obtain ⟨o1,o2,_⟩:=jHO h2;have:xL (nodeOf L t)=n:=by unfold xL;rw [if_neg (by rw [k1];decide),k2]
  rw [this] at o1 o2 h3;refine hn (h.seen_key h3 ?_);rw [vW h.wf o1,o2];rfl
theorem jKJ {l:Letter} (h:(zW L l).2.1=0) (hW:Wf L):vY l=0∧inP (zW L l).2.2 (zW L l).1=true∧zH (zW L l).2.2 (zW L l).1=vD l true true:=by
 have hle:vY l=0:=by
  unfold zW at h;split at h
  ·exact h
  ·rename_i h2;exact Classical.byContradiction h2
 have hb:zW L l=of L (vD l true true):=by unfold zW;rw [if_neg (by omega)]
 obtain ⟨t1,t2,_⟩:=jQW hW (by rw [← hb];exact h);rw [← hb] at t1 t2;exact ⟨hle,t1,t2⟩
theorem Hon.reach (hn:∀n,K n→n≠2):∀(es:List Letter) (L:Pool),Hon L G ls K→(∀l∈es,yV l.c)→(∀l∈es,∃n D,¬ K n∧vD l true true=yK n D)→((yW G es L).1≠0↔∃l∈es,l∈ls)
 | [],L,h,_,_=>by simp [yW]
 | l :: es,L,h,hc,hs=>by
  obtain ⟨M,hM⟩:=jAN h.wf.ok l;have w1:=uT h.wf l;have n1:=tI h.nums (hc l (by simp));rw [yW];have ih:=Hon.reach hn es (zW L l).2.2 (by rw [hM] at w1 n1 ⊢;exact h.app w1 n1) (fun m hm=>hc m (by simp [hm])) (fun m hm=>hs m (by simp [hm]));split
  ·rename_i hcond;obtain ⟨b1,b2,b3⟩:=jKJ hcond.1 h.wf;refine iff_of_true ?_ ⟨l,by simp,?_⟩
   ·have:=(zY.1 b2).1;simp only;omega
   ·obtain ⟨n,D,hk,e⟩:=hs l (by simp);have h':Hon (zW L l).2.2 G ls K:=by rw [hM] at w1 n1 ⊢;exact h.app w1 n1
    exact h'.drv_sign hcond.2 b2 (b3.trans e) hk b1 e.symm
  ·rename_i hcond;rw [ih];constructor
   ·rintro ⟨m,hm,hm2⟩;exact ⟨m,by simp [hm],hm2⟩
   ·rintro ⟨m,hm,hm2⟩;rcases List.mem_cons.1 hm with rfl | hm
    ·exfalso;obtain ⟨g,hg,hle,e⟩:=h.all m hm2;have hb:zW L m=(g,0,L):=by
      unfold zW;rw [if_neg (by omega),← e];exact of_old h.wf (h.inp g hg)
     rw [hb] at hcond;exact hcond ⟨rfl,.seen (.given hg)⟩
    ·exact ⟨m,hm,hm2⟩
theorem Hon.binds (h:Hon L G ls K) {who c:Int} {x:ByteArray} (hw:who=0∨who=1) (hc:yV c) (hk:¬ K who) (hk2:¬ K 2):((xC L G who c x).1≠0↔⟨2,who,c,x,false⟩∈ls∨⟨6,0,c,x,false⟩∈ls):=by
 unfold xC uJ;rw [if_pos (by rcases hw with rfl | rfl <;> rfl),Hon.reach (K:=K) (ls:=ls) (fun n hn e=>hk2 (e▸hn)) _ _ h (by intro l hl;simp [evs] at hl;rcases hl with rfl | rfl <;> exact hc) (by
  intro l hl;simp [evs] at hl;rcases hl with rfl | rfl
  ·exact ⟨who,_,hk,rfl⟩
  ·exact ⟨2,_,hk2,rfl⟩)]
 simp [evs]
theorem Hon.keyS (h:Hon L G ls K) {n:Int} (hk:¬ K n):keyS L G n=false:=by
 unfold Sp.keyS;split
 ·rename_i i hi;obtain ⟨h1,h2⟩:=jJO hi
  classical
  refine decide_eq_false fun hs=>hk (h.seen_key hs ?_);rw [vW h.wf (zY.2 ⟨by omega,by omega⟩),h2];rfl
 ·rfl
theorem Hon.free (h:Hon L G ls K) {who:Int} (hk:¬ K who) (hk2:¬ K 2):jFR L G who=false:=by
 unfold jFR;rw [h.keyS hk,h.keyS hk2];simp
end
theorem jEY {k f t u:Int} {x:ByteArray} {len:Nat} (h:qW ⟨k,f,t,u,x,0,0⟩ len=0):vA ⟨k,f,t,u,x,0,0⟩=0∧(len:Int)=(shapeOf k).kids∧zZ (shapeOf k) ⟨k,f,t,u,x,0,0⟩=0:=by
 unfold qW at h;simp only at h;by_cases h1:vA ⟨k,f,t,u,x,0,0⟩=0
 ·rw [if_pos h1] at h;by_cases h2:(len:Int)≠(shapeOf k).kids
  ·rw [if_pos h2] at h;simp at h
  ·rw [if_neg h2] at h;exact ⟨h1,Classical.byContradiction h2,by simpa using h⟩
 ·rw [if_neg h1] at h;rw [if_neg h1] at h;exact absurd h h1
theorem jTO {L:Pool} {n:Node} (hW:Wf L) (hp:vA n=0) (ha:(shapeOf n.kind).kids<1→n.a=0) (hb:(shapeOf n.kind).kids<2→n.b=0) (hf:zZ (shapeOf n.kind) n=0) (hk:∀k∈zI n,inP L k=true)
  {sz d:Int} (hs:1+((zI n).map (sizeOf L)).sum=sz) (hd:(zI n).foldl (fun d t=>max d (depthOf L t)) 0+1=d) (h:¬ (sz>4096∨d>64)) :
  (∃r M,make L n=(r,0,L++M)∧inP (L++M) r=true∧nodeOf (L++M) r=n∧Wf (L++M)∧sizeOf (L++M) r=sz∧depthOf (L++M) r=d∧(L++M).length≤L.length+1)∨((make L n).2.1=6∧65536≤L.length):=by
 by_cases hl:L.length<65536
 ·exact .inl ((mk_ok hW hl hp ha hb hf hk hs hd).2 h)
 have hc:=jHW hp ha hb hf hk
 rw [hs,hd,if_neg h] at hc
 cases hfd:find L n with
 | none =>
  right
  unfold make;simp only [hc,hfd]
  rw [if_neg (by simp),if_pos (by omega)]
  exact ⟨rfl,by omega⟩
 | some i =>
  left
  obtain ⟨hi,e⟩:=jCH hfd
  have hm:make L n=((i:Int)+1,0,L):=by unfold make;simp only [hc,hfd];rw [if_neg (by simp)]
  have hin:inP L ((i:Int)+1)=true:=zY.2 ⟨by omega,by omega⟩
  have hn:nodeOf L ((i:Int)+1)=n:=by rw [qC hi,e]
  have hw:=hW.node hin
  rw [hn] at hw
  refine ⟨_,[],by rw [hm,List.append_nil],by rw [List.append_nil];exact hin,by rw [List.append_nil];exact hn,by rw [List.append_nil];exact hW,?_,?_,by simp⟩
  ·rw [List.append_nil,← hs,hw.2.2.2.2.2.1]
  ·rw [List.append_nil,← hd,hw.2.2.2.2.2.2]
abbrev Grown (L:Pool) (T:Tree) (sz d:Int) (q:Int×Int×Pool):Prop:=(∃r M,q=(r,0,L++M)∧inP (L++M) r=true∧Wf (L++M)∧sizeOf (L++M) r=sz∧depthOf (L++M) r=d∧((L++M).length:Int)≤L.length+sz)∨(q.2.1=6∧65536<L.length+sz)
structure GP (T:Tree) (sz d:Int):Prop extends LP T sz d where
 grw:∀L,Wf L→sz≤4096→d≤64→Grown L T sz d (grow L T)
theorem GP0 {k f t u:Int} {x:ByteArray} (h:qW ⟨k,f,t,u,x,0,0⟩ 0=0):GP (.mk k f t u x []) 1 1:=by
 refine ⟨LP0 h,fun L hW h1 h2=>?_⟩;obtain ⟨o1,o2,o3⟩:=jEY h;have hk:zI ⟨k,f,t,u,x,0,0⟩=[]:=by simp [zI,← o2]
 rw [grow,vE];rcases jTO (n:=⟨k,f,t,u,x,0,0⟩) hW o1 (fun _=>rfl) (fun _=>rfl) o3 (by rw [hk];simp) (sz:=1) (d:=1) (by rw [hk];rfl) (by rw [hk];rfl) (by omega) with ⟨r,M,e,i,_,w,s,dd,l⟩ | ⟨e,l⟩
 ·exact .inl ⟨r,M,e,i,w,s,dd,by omega⟩
 ·exact .inr ⟨e,by omega⟩
theorem GP1 {k f t u:Int} {x:ByteArray} {A:Tree} {sa da:Int} (h:qW ⟨k,f,t,u,x,0,0⟩ 1=0) (hA:GP A sa da):GP (.mk k f t u x [A]) (1+sa) (da+1):=by
 refine ⟨LP1 h hA.toLP,fun L hW h1 h2=>?_⟩;obtain ⟨o1,o2,o3⟩:=jEY h;have s1:=hA.s1;have d1:=hA.d1;rw [grow];rcases hA.grw L hW (by omega) (by omega) with ⟨r,M,e,i,w,s,dd,l⟩ | ⟨e,l⟩
 ·rw [vE,e,if_neg (by simp),if_pos rfl,vE];have hk:zI ⟨k,f,t,u,x,r,0⟩=[r]:=by simp [zI,← o2]
  rcases jTO (n:=⟨k,f,t,u,x,r,0⟩) w o1 (fun hh=>by simp only at hh;omega) (fun _=>rfl) o3 (by rw [hk];intro k hk;simp at hk;rw [hk];exact i) (sz:=1+sa) (d:=da+1) (by rw [hk];simp [s]) (by rw [hk];simp [dd];omega) (by omega) with ⟨r',M',e',i',_,w',s',dd',l'⟩ | ⟨e',l'⟩
  ·exact .inl ⟨r',M++M',by rw [← List.append_assoc];exact e',by rw [← List.append_assoc];exact i',by rw [← List.append_assoc];exact w',by rw [← List.append_assoc];exact s',by rw [← List.append_assoc];exact dd',by rw [← List.append_assoc];omega⟩
  ·exact .inr ⟨e',by omega⟩
 ·rw [vE,if_pos (by rw [e];decide)];exact .inr ⟨e,by omega⟩
theorem GP2 {k f t u:Int} {x:ByteArray} {A B:Tree} {sa da sb db:Int} (h:qW ⟨k,f,t,u,x,0,0⟩ 2=0) (hA:GP A sa da) (hB:GP B sb db):GP (.mk k f t u x [A,B]) (1+(sa+sb)) (max da db+1):=by
 refine ⟨LP2 h hA.toLP hB.toLP,fun L hW h1 h2=>?_⟩;obtain ⟨o1,o2,o3⟩:=jEY h;have s1:=hA.s1;have d1:=hA.d1;have s2:=hB.s1;have d2:=hB.d1;rw [grow];rcases hA.grw L hW (by omega) (by omega) with ⟨r,M,e,i,w,s,dd,l⟩ | ⟨e,l⟩
 ·rw [vE,e,if_neg (by simp),if_pos rfl];simp only;rcases hB.grw (L++M) w (by omega) (by omega) with ⟨r2,M2,e2,i2,w2,ss2,dd2,l2⟩ | ⟨e2,l2⟩
  ·rw [vE,e2,if_neg (by simp),if_neg (by omega),vE];have hk:zI ⟨k,f,t,u,x,r,r2⟩=[r,r2]:=by simp [zI,← o2]
   rcases jTO (n:=⟨k,f,t,u,x,r,r2⟩) w2 o1 (fun hh=>by simp only at hh;omega) (fun hh=>by simp only at hh;omega) o3 (by rw [hk];intro k hk;simp at hk;rcases hk with rfl | rfl;exact jBB i;exact i2) (sz:=1+(sa+sb)) (d:=max da db+1) (by rw [hk];simp [-List.append_assoc,jCQ i,s,ss2]) (by rw [hk];simp [-List.append_assoc,jBE i,dd,dd2];omega) (by omega) with ⟨r',M',e',i',_,w',s',dd',l'⟩ | ⟨e',l'⟩
   ·exact .inl ⟨r',M++M2++M',by rw [← List.append_assoc,← List.append_assoc];exact e',by rw [← List.append_assoc,← List.append_assoc];exact i',by rw [← List.append_assoc,← List.append_assoc];exact w',by rw [← List.append_assoc,← List.append_assoc];exact s',by rw [← List.append_assoc,← List.append_assoc];exact dd',by rw [← List.append_assoc,← List.append_assoc];omega⟩
   ·exact .inr ⟨e',by omega⟩
  ·rw [vE,if_pos (by rw [e2];decide)];exact .inr ⟨e2,by omega⟩
 ·rw [vE,if_pos (by rw [e];decide)];exact .inr ⟨e,by omega⟩
theorem GP.of {T:Tree} {sz d:Int} (h:GP T sz d) (hs:sz≤4096) (hd:d≤64) {L:Pool} (hW:Wf L):(Sp.of L T).2.1=0∨(Sp.of L T=(0,6,L)∧65536<L.length+sz):=by
 unfold Sp.of;rw [h.yes 0 0 (by omega) (by omega) (by omega) (by omega),if_neg (by simp)];rcases h.grw L hW hs hd with ⟨r,M,e,_⟩ | ⟨e,l⟩
 ·rw [e];simp
 ·rw [if_pos (by rw [e];decide),e];exact .inr ⟨rfl,l⟩
theorem jBC {x:ByteArray} (h:x.size≤64):GP (qH x) 1 1:=GP0 (by
 have e1:vA ⟨3,0,0,0,x,0,0⟩=0:=by kernel_rfl
 have e2:zZ (shapeOf 3) ⟨3,0,0,0,x,0,0⟩=0:=by show (if false=true then (50:Int) else if x.size>64 then 1 else 0)=0;rw [if_neg (by simp),if_neg (by omega)]
 unfold qW;simp only [e1];simpa [shapeOf] using e2)
theorem jNE (c:Int):GP (jAX c) 1 1:=GP0 (by kernel_rfl)
theorem jAA {a b:Tree} {sa da sb db:Int} (ha:GP a sa da) (hb:GP b sb db):GP (qK a b) (1+(sa+sb)) (max da db+1):=GP2 (by kernel_rfl) ha hb
theorem jFG {n:Int} (hn:n=0∨n=1∨n=2) {a:Tree} {sa da:Int} (ha:GP a sa da):GP (yK n a) (1+sa) (da+1):=GP1 (by rcases hn with rfl | rfl | rfl <;> kernel_rfl) ha
theorem jLP {n:Int} (hn:n=0∨n=1) {a:Tree} {g:Bool} {sa da:Int} (ha:GP a sa da):GP (yC n a g) (1+sa) (da+1):=by
 unfold yC;cases g
 ·exact GP1 (by rcases hn with rfl | rfl <;> kernel_rfl) ha
 ·exact GP1 (by rcases hn with rfl | rfl <;> kernel_rfl) ha
theorem jVR (c:Int) {x:ByteArray} (h:x.size≤64):GP (qG c x) 5 3:=jAA (jBC (by decide)) (jAA (jNE c) (jBC h))
theorem jJL {l:Letter} (hf:l.frm=0∨l.frm=1) (hx:l.text.size≤64) (a b:Bool):∃sz d,GP (vD l a b) sz d∧sz≤40∧d≤20:=by
 unfold vD;have hd:=jVR l.c hx;split;· exact ⟨_,_,jLP hf hd,by omega,by omega⟩
 split;· exact ⟨_,_,jFG (hf.imp id .inl) hd,by omega,by omega⟩
 split;· exact ⟨_,_,jFG (.inl rfl) (jAA (jBC (by decide)) (jNE _)),by omega,by omega⟩
 split;· exact ⟨_,_,jFG (hf.imp id .inl) (jAA (jBC (by decide)) (jAA (jLP (.inl rfl) hd) (jLP (.inr rfl) hd))),by omega,by omega⟩
 split;· exact ⟨_,_,jFG (.inr (.inr rfl)) (jAA (jBC (by decide)) (jNE _)),by omega,by omega⟩
 split;· exact ⟨_,_,jFG (.inr (.inr rfl)) (jAA (jBC (by decide)) hd),by omega,by omega⟩
 exact ⟨_,_,jAA (jBC (by decide)) (jNE _),by omega,by omega⟩
section
variable {L M:Pool} {G:List Int} {ls:List Letter} {K:Int→Prop}
theorem jGF:∀(es:List Letter) (L:Pool),Wf L→∃M,(yW G es L).2=L++M
 | [],L,_=>⟨[],(List.append_nil L).symm⟩
 | l :: es,L,hW=>by
  obtain ⟨M,hM⟩:=jAN hW.ok l;rw [yW];split
  ·exact ⟨M,hM⟩
  ·obtain ⟨M2,h2⟩:=jGF es (zW L l).2.2 (uT hW l);exact ⟨M++M2,by rw [h2,hM,List.append_assoc]⟩
theorem jET:∀(es:List Letter) (L:Pool),Wf L→uN L→(∀l∈es,yV l.c)→Wf (yW G es L).2∧uN (yW G es L).2
 | [],L,hW,hN,_=>⟨hW,hN⟩
 | l :: es,L,hW,hN,hc=>by
  have w1:=uT hW l;have n1:=tI hN (hc l (by simp));rw [yW];split
  ·exact ⟨w1,n1⟩
  ·exact jET es _ w1 n1 (fun m hm=>hc m (by simp [hm]))
theorem Hon.bound (h:Hon L G ls K) (who:Int) {c:Int} (x:ByteArray) (hc:yV c):Hon (xC L G who c x).2 G ls K:=by
 unfold xC;split
 ·obtain ⟨M,hM⟩:=jGF (G:=G) (evs who c x) L h.wf;obtain ⟨w1,n1⟩:=jET (G:=G) (evs who c x) L h.wf h.nums (by intro l hl;simp [evs] at hl;rcases hl with rfl | rfl <;> exact hc);rw [hM] at w1 n1 ⊢;exact h.app w1 n1
 ·exact h
theorem gp_len {T:Tree} {sz d:Int} (h:GP T sz d) (hs:sz≤4096) (hd:d≤64) (hW:Wf L):((of L T).2.2.length:Int)≤L.length+sz:=by
 have:=h.s1;unfold of;rw [h.yes 0 0 (by omega) (by omega) (by omega) (by omega),if_neg (by simp)];rcases h.grw L hW hs hd with ⟨r,M,e,_,_,_,_,l⟩ | ⟨e,l⟩
 ·rw [e];simpa using l
 ·rw [if_pos (by rw [e];decide)];simp only;omega
theorem jPJ (hW:Wf L) (l:Letter):(zW L l).2.2.length≤L.length+40:=by
 unfold zW;split
 ·simp
 ·rename_i h;have h:vY l=0:=Classical.byContradiction h;obtain ⟨k,f,c,x,g⟩:=l;obtain ⟨_,hf,_,_,_,hx⟩:=jGK h;obtain ⟨sz,d,hg,hs,hd⟩:=jJL (l:=⟨k,f,c,x,g⟩) hf hx true true;have:=gp_len hg (by omega) (by omega) hW;omega
theorem jGE:∀(es:List Letter) (L:Pool),Wf L→(yW G es L).2.length≤L.length+40*es.length
 | [],L,_=>by simp [yW]
 | l :: es,L,hW=>by
  have h1:=jPJ hW l;have h2:=jGE es _ (uT hW l);rw [yW];split
  ·simp only [List.length_cons];omega
  ·simp only [List.length_cons];omega
theorem jKL (hW:Wf L) (who c:Int) (x:ByteArray):(xC L G who c x).2.length≤L.length+80:=by
 unfold xC;split
 ·have:=jGE (G:=G) (evs who c x) L hW;simpa [evs] using this
 ·simp
theorem jTT (hW:Wf L) (hl:L.length<65536) {n:Int} (hn:n=0∨n=1∨n=2):(make L (vJ n)).2.1=0∧(make L (vJ n)).2.2.length≤L.length+1:=by
 have hk:zI (vJ n)=[]:=rfl;rcases jTO (n:=vJ n) hW (by rcases hn with rfl | rfl | rfl <;> kernel_rfl) (fun _=>rfl) (fun _=>rfl) (by rcases hn with rfl | rfl | rfl <;> kernel_rfl) (by rw [hk];simp) (sz:=1) (d:=1) (by rw [hk];rfl) (by rw [hk];rfl) (by omega) with ⟨r,M,e,_,_,_,_,_,l⟩ | ⟨_,l⟩
 ·rw [e];exact ⟨rfl,l⟩
 ·omega
theorem jND (hW:Wf L) {k n:Int} (hk:inP L k=true) (e:nodeOf L k=vJ n):zH L k=jIF n:=by
 rw [vW hW hk,e];rfl
theorem Hon.corrupt (h:Hon L G ls K) (hl:L.length<65536) (a b:Bool) {who:Int} (hw:who=0∨who=1) :
  ∃M k,vQ L G a b who=(0,L++M,jGU G k,a || (who == 0),b || (who == 1))∧Hon (L++M) (jGU G k) ls (fun x=>K x∨x=who)∧inP (L++M) k=true∧nodeOf (L++M) k=vJ who∧(L++M).length≤L.length+1:=by
 obtain ⟨m0,ml⟩:=jTT h.wf hl (n:=who) (by omega)
 obtain ⟨M,hM⟩:=uZ L (vJ who)
 obtain ⟨m1,m2,_⟩:=xQ m0
 have w1:=xP h.wf (vJ who)
 have n1:uN (make L (vJ who)).2.2:=h.nums.make jDS
 rw [hM] at m1 m2 w1 n1 ml
 refine ⟨M,(make L (vJ who)).1,?_,(h.app w1 n1).key m1 (jND w1 m1 m2),m1,m2,ml⟩
 unfold vQ
 rw [if_neg (by unfold uJ;rcases hw with rfl | rfl <;> simp),if_neg (by rw [m0];simp),hM,jHR m1]
theorem jVP (hW:Wf L) {k n:Int} (hk:inP L k=true) (e:nodeOf L k=vJ n) (hG:k∈G):keyS L G n=true:=by
 obtain ⟨i,hi,rfl⟩:=tB hk;have hfd:find L (vJ n)=some i:=by rw [← e,qC hi];exact jFI hW.ok (List.getElem?_eq_getElem hi)
 unfold keyS;rw [hfd]
 classical
 exact decide_eq_true (.given hG)
theorem jHU {X:Int→Prop} (hW:Wf L):∀(n:Nat) (t:Int),inP L t=true→(∃y,zH L t=qH y)∨(∃y,zH L t=jAX y)→Drv L X t
 | _,t,ht,h=>.free (by
  rcases h with ⟨y,e⟩ | ⟨y,e⟩
  ·rw [(yN hW ht (e.trans rfl)).1];rfl
  ·rw [(yN hW ht (e.trans rfl)).1];rfl)
theorem jNI {X:Int→Prop} (hW:Wf L) {t:Int} (ht:inP L t=true) {A B:Tree} (e:zH L t=qK A B):∃a b,inP L a=true∧inP L b=true∧zH L a=A∧zH L b=B∧(Drv L X a→Drv L X b→Drv L X t):=by
 have hk:=(yN hW ht (e.trans rfl)).1;obtain ⟨i1,i2,e2⟩:=nd4 hW ht hk;rw [e] at e2;unfold qK at e2;simp only [Tree.mk.injEq,List.cons.injEq,and_true,true_and] at e2;exact ⟨_,_,i1,i2,e2.1.symm,e2.2.symm,fun h1 h2=>.pair hk h1 h2⟩
theorem jTY {X:Int→Prop} (hW:Wf L) {t c:Int} {x:ByteArray} (ht:inP L t=true) (e:zH L t=qG c x):Drv L X t:=by
 obtain ⟨a,b,ia,ib,ea,eb,h⟩:=jNI (X:=X) hW ht (e.trans rfl);obtain ⟨a2,b2,ia2,ib2,ea2,eb2,h2⟩:=jNI (X:=X) hW ib eb;exact h (jHU hW 0 _ ia (.inl ⟨_,ea⟩)) (h2 (jHU hW 0 _ ia2 (.inr ⟨_,ea2⟩)) (jHU hW 0 _ ib2 (.inl ⟨_,eb2⟩)))
theorem jRI (hW:Wf L) (hl:L.length<65000) {k who c:Int} {x:ByteArray} (hw:who=0∨who=1) (hx:x.size≤64) (hk:inP L k=true) (e:nodeOf L k=vJ who) (hG:k∈G):(xC L G who c x).1≠0:=by
 have hle:vY ⟨2,who,c,x,false⟩=0:=jRF (by omega) hw (by simp [qJ]) (by simp [qU,qJ]) (by simp) hx;obtain ⟨sz,d,hg,hs,hd⟩:=jJL (l:=⟨2,who,c,x,false⟩) hw hx true true;have hb:zW L ⟨2,who,c,x,false⟩=of L (vD ⟨2,who,c,x,false⟩ true true):=by unfold zW;rw [if_neg (by omega)]
 have h0:(zW L ⟨2,who,c,x,false⟩).2.1=0:=by
  rw [hb];rcases hg.of (by omega) (by omega) hW with h | ⟨_,h⟩
  ·exact h
  ·omega
 obtain ⟨_,b2,b3⟩:=jKJ h0 hW;have w1:=uT hW ⟨2,who,c,x,false⟩;obtain ⟨M,hM⟩:=jAN hW.ok ⟨2,who,c,x,false⟩;unfold xC;rw [if_pos (by unfold uJ;rcases hw with rfl | rfl <;> rfl)];unfold evs;rw [yW,if_pos]
 ·have:=(zY.1 b2).1;simp only;omega
 refine ⟨h0,?_⟩;rw [hM] at b2 b3 w1 ⊢;obtain ⟨k1,k2,_⟩:=yN w1 b2 (b3.trans rfl);obtain ⟨i7,_,e7⟩:=nd7 w1 b2 k1;rw [k2,b3] at e7;have e7:yK who (qG c x)=yK who (zH (L++M) (nodeOf (L++M) (zW L ⟨2,who,c,x,false⟩).1).a):=e7;unfold yK at e7;simp only [Tree.mk.injEq,List.cons.injEq,and_true,true_and] at e7;obtain ⟨i,hi,rfl⟩:=tB hk;have hfd:find (L++M) (vJ who)=some i:=by
  have e':nodeOf (L++M) ((i:Int)+1)=vJ who:=by rw [jCT hk];exact e
  have hi':i<(L++M).length:=by simp;omega
  rw [← e',qC hi'];exact jFI w1.ok (List.getElem?_eq_getElem hi')
 refine .sign (i:=i) (by rw [k1];rfl) (jTY w1 i7 e7.symm) ?_ (.given hG);rw [show xL (nodeOf (L++M) (zW L ⟨2,who,c,x,false⟩).1)=who by unfold xL;rw [if_neg (by rw [k1];decide),k2]];exact hfd
end
def f23:Letter:=⟨2,1,7,⟨#[116]⟩,false⟩
theorem jRP:(xR [] [] (yX f23).1).2.2=true∧(xR [] [] (yX f23).1).1.length≤100:=by
 refine ⟨by kernel_rfl,of_decide_eq_true (by kernel_rfl)⟩
theorem hear_x (L:Pool) (G:List Int):xR L G [120]=(L,G,false):=by
 have h0:(vT [120]).1=none:=by kernel_rfl
 have:(vT [120]).2.1≠0:=lT h0;unfold xR lM;rw [h0];simp only;rw [if_pos this]
theorem jRQ:∃L G,xR [] [] (yX f23).1=(L,G,true)∧Hon L G [f23] (fun _=>False)∧L.length≤100:=by
 obtain ⟨h1,h2⟩:=jRP;obtain ⟨M,e1,w1,n1,h | ⟨_,hle,t,e2,ht,htr⟩⟩:=jFE (G:=[]) Wf.nil uN.nil (l:=f23) ⟨by decide,by decide⟩
 ·rw [h1] at h;cases h.1
 ·have:=((Hon.nil.app w1 n1).give hle ht htr);rw [List.nil_append] at this e1;exact ⟨M,jGU [] t,Prod.ext e1 (Prod.ext e2 h1),this,by rw [e1] at h2;exact h2⟩
end Go.Sp
end
section
open Go Go.SE
namespace Go.Proofs
open Tryz
attribute [local irreducible] Calls
theorem jCR (l:Sp.Letter):(Sp.jQF l).data.toList=(Sp.yX l).1:=by unfold Sp.jQF;simp
theorem jAB (w0:World):Calls prog 9 #[] w0 (fun e w'=>∃r:Bool,e=.returned (.bool r)∧(r=true∧Pure w0 w')):=by
 refine w_H w0 (fun r w'=>r=true∧Pure w0 w') ?_;unfold m_H;refine (jFL w0).mono ?_;rintro _ w1 ⟨_,rfl,f,F,rfl,hF,E1,hn⟩;refine ⟨some f,rfl,E1.keptP,fun h=>(by cases h),fun _=>?_⟩;have h1:lI w0 None None None w1 f [] [] false false:=⟨F,hF,E1,fun y hy=>⟨.inr (hn y hy),id,id⟩,fun y hy=>hy.elim,fun y hy=>hy.elim⟩;clear hF hn;refine (jDP Sp.f23 ⟨by decide,by decide⟩ w1).mono ?_;rintro _ w11 ⟨_,rfl,rfl,E2⟩;refine ⟨_,rfl,E2.keptP,?_⟩;refine ((h1.pureE E2).hear (Sp.jQF Sp.f23)).mono ?_;rintro _ w12 ⟨_,rfl,rfl,h3,k3⟩;obtain ⟨L,G,e,hon,hl⟩:=Sp.jRQ;rw [jCR,e] at h3;refine ⟨_,rfl,k3,fun h=>?_,fun _=>?_⟩
 ·rw [jCR,e] at h;cases h
 clear k3 h1 E1 E2;refine (h3.hear ⟨#[120]⟩).mono ?_;rintro _ w13 ⟨_,rfl,rfl,h4,k4⟩;have ex:Sp.xR L G (ByteArray.mk #[120]).data.toList=(L,G,false):=Sp.hear_x L G;rw [ex] at h4;refine ⟨_,rfl,k4,?_⟩;rw [ex];clear k4 h3;unfold m_H_j1;refine ⟨fun h=>(by cases h),fun _=>?_⟩;have hk:¬ (fun _:Int=>False) 0:=id;refine (h4.binds 1 7 ⟨#[116]⟩).mono ?_;rintro _ w8 ⟨r6,rfl,hr6,h5,k5⟩;have b1:=hon.binds (who:=1) (c:=7) (x:=⟨#[116]⟩) (.inr rfl) ⟨by decide,by decide⟩ id id;have hon2:=hon.bound 1 (c:=7) ⟨#[116]⟩ ⟨by decide,by decide⟩;have hl2:=Sp.jKL (G:=G) hon.wf 1 7 ⟨#[116]⟩;have t6:r6=true:=hr6.2 (b1.2 (.inl (by simp [Sp.f23])));subst t6;refine ⟨_,rfl,k5,fun _=>?_,fun h=>(by cases h)⟩;generalize (Sp.xC L G 1 7 ⟨#[116]⟩).2=L2 at *;refine (h5.binds 0 7 ⟨#[116]⟩).mono ?_;rintro _ w10 ⟨r8,rfl,hr8,h6,k6⟩;have b2:=hon2.binds (who:=0) (c:=7) (x:=⟨#[116]⟩) (.inl rfl) ⟨by decide,by decide⟩ id id;have hon3:=hon2.bound 0 (c:=7) ⟨#[116]⟩ ⟨by decide,by decide⟩;have hl3:=Sp.jKL (G:=G) hon2.wf 0 7 ⟨#[116]⟩;have t8:r8=false:=Bool.eq_false_iff.2 (fun h=>by
  have:=b2.1 (hr8.1 h);simp [Sp.f23] at this)
 subst t8;refine ⟨_,rfl,k6,?_⟩;generalize (Sp.xC L2 G 0 7 ⟨#[116]⟩).2=L3 at *;unfold m_H_j6;refine ⟨fun _=>?_,fun h=>(by cases h)⟩;refine (h6.free 1).mono ?_;rintro _ w9 ⟨_,rfl,rfl,h7,k7⟩;refine ⟨_,rfl,k7,?_⟩;rw [hon3.free (who:=1) id id];unfold m_H_j2;refine ⟨fun _=>?_,fun h=>(by cases h)⟩;obtain ⟨M,k,ec,hon4,ik,nk,hl4⟩:=hon3.corrupt (by omega) false false (who:=0) (.inl rfl);refine (h7.corrupt 0).mono ?_;rintro _ w6 ⟨_,rfl,rfl,h8,k8⟩;rw [ec] at h8;refine ⟨_,rfl,k8,fun w7 hs7=>?_⟩;have h9:=h8.hst hs7;rw [ec];unfold m_H_j3;refine ⟨fun _=>?_,fun h=>(by cases h)⟩;refine (h9.corrupt 2).mono ?_;rintro _ w4 ⟨_,rfl,rfl,h10,k10⟩;have e2:∀a b,Sp.vQ (L3++M) (Sp.jGU G k) a b 2=(2,L3++M,Sp.jGU G k,a,b):=fun a b=>by unfold Sp.vQ;rw [if_pos (by decide)]
 rw [e2] at h10;refine ⟨_,rfl,k10,fun w5 hs5=>?_⟩;have h11:=h10.hst hs5;rw [e2];unfold m_H_j4;refine ⟨fun _=>?_,fun h=>(by cases h)⟩;refine (h11.free 0).mono ?_;rintro _ w3 ⟨_,rfl,rfl,h12,k12⟩;refine ⟨_,rfl,k12,?_⟩;have hf:Sp.jFR (L3++M) (Sp.jGU G k) 0=true:=by
  unfold Sp.jFR;rw [Sp.jVP hon4.wf ik nk (Sp.yS.2 (.inr rfl))];rfl
 rw [hf];unfold m_H_j5;refine ⟨fun _=>?_,fun h=>(by cases h)⟩;refine (h12.binds 0 9 ⟨#[120]⟩).mono ?_;rintro _ w2 ⟨r2,rfl,hr2,h13,k13⟩;refine ⟨_,rfl,k13,hr2.2 (Sp.jRI hon4.wf (by omega) (.inl rfl) (by decide) ik nk (Sp.yS.2 (.inr rfl))),?_⟩;obtain ⟨_,_,E,_⟩:=h13.done;exact E
end Go.Proofs
end
section
open Go Go.SE
namespace Go.Sp
open Go.Proofs
theorem jCV (k f c:Int) (x:ByteArray) (g:Bool) (k' f' c':Int) (x':ByteArray):((k == k') && ((f == f') && ((c == c') && ((decide (x=x')) && (g == false)))))=decide ((⟨k,f,c,x,g⟩:Letter)=⟨k',f',c',x',false⟩):=by
 rw [Bool.eq_iff_iff];simp [Letter.mk.injEq]
theorem Hon.other {L:Pool} {G:List Int} {ls:List Letter} (h:Hon L G ls (fun _=>False)) (a b:Bool) {who o:Int} (hw:who=0∨who=1) (ho:o≠who) :
  ∃K,Hon (vQ L G a b o).2.1 (vQ L G a b o).2.2.1 ls K∧¬ K who∧¬ K 2:=by
 unfold vQ
 split
 ·exact ⟨_,h,id,id⟩
 ·rename_i hp
  have ho':o=0∨o=1:=by unfold uJ at hp;simp at hp;omega
  obtain ⟨M,hM⟩:=uZ L (vJ o)
  have w1:=xP h.wf (vJ o)
  have n1:uN (make L (vJ o)).2.2:=h.nums.make jDS
  split
  ·rw [hM] at w1 n1 ⊢
   exact ⟨_,h.app w1 n1,id,id⟩
  ·rename_i h0
   obtain ⟨m1,m2,_⟩:=xQ (Classical.byContradiction h0)
   rw [hM] at w1 n1 m1 m2 ⊢
   rw [jHR m1]
   exact ⟨_,(h.app w1 n1).key m1 (jND w1 m1 m2),fun hk=>hk.elim id (fun e=>ho e.symm),fun hk=>hk.elim id (fun e=>by omega)⟩
end Go.Sp
namespace Go.Proofs
open Tryz
attribute [local irreducible] Calls
theorem lI.pure0 {w0 w:World} {X H:NP} {f:Addr} {L:Sp.Pool} {G:List Int} {a b:Bool} (h:lI w0 None X H w f L G a b):Pure w0 w:=by
 obtain ⟨_,_,E,_⟩:=h.done;exact E
theorem jCZ {S:NP} (l1:Sl) (ls:List Sp.Letter) (other who c:Int) (x:ByteArray) (hc:Sp.yV c) (w0:World) (hL:Lst S w0 5 l1 (ls.map jOR)) (hN:∀l∈ls,Sp.yV l.c) :
  Calls prog 3 #[l1.v,.int .i64 other,.agg #[.int .i64 who,.int .u64 c,.string x]] w0 (fun e w'=>∃r:Bool,e=.returned (.bool r)∧(r=true∧Pure w0 w')):=by
 suffices key:∀K:Bool→WP,(∀w',Pure w0 w'→K true w')→m_I l1 other who c x w0 K from
  w_I _ _ _ _ _ w0 _ (key _ (fun _ h=>⟨rfl,h⟩))
 intro K hK
 unfold m_I
 have hll:l1.len=ls.length:=by rw [hL.len];simp
 refine ⟨fun h=>?_,fun h=>?_⟩
 ·intro H3 w3 hs
  refine (jAB w3).mono ?_
  rintro _ w5 ⟨_,rfl,rfl,E⟩
  exact ⟨_,rfl,E.keptP,hK _ (hs.first.trans E)⟩
 intro H3 w3 hs
 have hw:who=0∨who=1:=by
  simp only [Bool.or_eq_false_iff,Bool.and_eq_false_iff,bne_eq_false_iff_eq] at h;exact h.2
 have hfew:ls.length≤60:=by
  simp only [Bool.or_eq_false_iff,decide_eq_false_iff_not] at h;omega
 have E1:=hs.first
 refine (jFL w3).mono ?_
 rintro _ w6 ⟨_,rfl,f,F,rfl,hF,E6,hn⟩
 refine ⟨some f,rfl,E6.keptP,fun h=>(by cases h),fun _=>?_⟩
 have z1:=E1.size
 have h1:lI w0 None None H3 w6 f [] [] false false:=⟨F,hF,E1.trans E6,fun y hy=>⟨.inr (by have:=hn y hy;omega),fun hh=>by have:=hs.lt y hh;have:=hn y hy;omega,id⟩,fun y hy=>hy.elim,fun y hy=>Nat.lt_of_lt_of_le (hs.lt y hy) E6.size⟩
 refine ⟨fun bd i H w=>∃n:Nat,i=n∧n≤ls.length∧∃L G tk,lI w0 None None H w f L G false false∧Sp.Hon L G tk (fun _=>False)∧(bd=true↔(⟨2,who,c,x,false⟩:Sp.Letter)∈tk∨(⟨6,0,c,x,false⟩:Sp.Letter)∈tk),fun _ i _=>((ls.length:Int) - i).toNat,⟨0,rfl,Nat.zero_le _,[],[],[],h1,Sp.Hon.nil,by simp⟩,?_⟩
 clear h1 hF hn E6 hs E1
 rintro bd _ Hl wl hsl ⟨n,rfl,hn,L,G,tk,hF,hon,hb⟩
 unfold m_I_l1
 have El:=hF.pure0
 refine ⟨fun hlt=>?_,fun hlt=>?_⟩
 ·have hlt:=uC hll hlt
  obtain ⟨a1,hat,_,hrow⟩:=(hL.pure El).nth hlt
  have hmc:=hN _ (List.getElem_mem hlt)
  have rows:∀w,Pure w0 w→Row w a1 (jOR ls[n]):=fun w E=>by
   obtain ⟨a2,hat2,_,hrow2⟩:=(hL.pure E).nth hlt;have:a1=a2:=by
    obtain ⟨_,_,b,hb,rfl⟩:=hat;obtain ⟨_,_,b',hb',rfl⟩:=hat2;rw [hb] at hb';cases hb';rfl
   rw [this];exact hrow2
  generalize ls[n]=m at *
  obtain ⟨mk,mf,mc,mx,mg⟩:=m
  refine ⟨a1,hat,mx,hrow 3 (by simp [jOR]),fun _=>?_,fun _=>?_⟩
  ·refine (jAB wl).mono ?_
   rintro _ w5 ⟨_,rfl,rfl,E⟩
   exact ⟨_,rfl,E.keptP,hK _ (El.trans E)⟩
  refine ⟨a1,hat,mk,mf,mc,mx,mg,hrow,?_⟩
  refine (jDP ⟨mk,mf,mc,mx,mg⟩ hmc wl).mono ?_
  rintro _ w8 ⟨_,rfl,rfl,E8⟩
  refine ⟨_,rfl,E8.keptP,?_⟩
  refine ((hF.pureE E8).hear _).mono ?_
  rintro _ w9 ⟨_,rfl,rfl,h9,k9⟩
  refine ⟨_,rfl,k9,?_⟩
  rw [jCR] at h9 ⊢
  obtain ⟨M,e1,w1,n1,hh⟩:=Sp.jFE (G:=G) hon.wf hon.nums (l:=⟨mk,mf,mc,mx,mg⟩) hmc
  rw [e1] at h9
  have hona:=hon.app w1 n1
  have next : ∀ bd' w' tk' G', lI w0 None None Hl w' f (L ++ M) G' false false → Sp.Hon (L ++ M) G' tk' (fun _ => False) → (bd' = true ↔ (⟨2, who, c, x, false⟩ : Sp.Letter) ∈ tk' ∨ (⟨6, 0, c, x, false⟩ : Sp.Letter) ∈ tk') →
    (∃m:Nat,IntKind.i64.wrap ((n:Int)+1)=m∧m≤ls.length∧∃L G tk,lI w0 None None Hl w' f L G false false∧Sp.Hon L G tk (fun _=>False)∧(bd'=true↔(⟨2,who,c,x,false⟩:Sp.Letter)∈tk∨(⟨6,0,c,x,false⟩:Sp.Letter)∈tk))∧((ls.length:Int) - IntKind.i64.wrap ((n:Int)+1)).toNat<((ls.length:Int) - (n:Int)).toNat:=by
   intro bd' w' tk' G' g1 g2 g3
   rw [vV hlt (by omega)]
   exact ⟨⟨n+1,rfl,hlt,_,G',tk',g1,g2,g3⟩,jCE hlt⟩
  rcases hh with ⟨hf,hG⟩ | ⟨ht,hle,t,hG,hin,htr⟩
  ·rw [hG] at h9
   rw [hf]
   refine ⟨fun h=>(by cases h),fun _=>?_⟩
   unfold m_I_j2
   exact next bd w9 tk G h9 hona hb
  ·rw [hG] at h9
   rw [ht]
   have hon2:=hona.give hle hin htr
   refine ⟨fun _=>⟨fun hb1=>?_,fun hb1=>?_⟩,fun h=>(by cases h)⟩
   ·intro w10 hs10
    unfold m_I_j2
    refine next true w10 _ _ (h9.hst hs10) hon2 (iff_of_true rfl ?_)
    rcases hb.1 hb1 with h | h
    ·exact .inl (by simp [h])
    ·exact .inr (by simp [h])
   ·refine ⟨a1,hat,fun w10 hs10=>?_⟩
    have h10:=h9.hst hs10
    have r10:=rows w10 h10.pure0
    have hb0:¬ ((⟨2,who,c,x,false⟩:Sp.Letter)∈tk∨(⟨6,0,c,x,false⟩:Sp.Letter)∈tk):=fun h=>by rw [hb.2 h] at hb1;cases hb1
    refine ⟨mk,mf,mc,mx,mg,r10,fun h2=>?_,fun h2=>?_⟩
    ·rw [Sp.jCV] at h2
     have h2:=of_decide_eq_true h2
     unfold m_I_j2
     exact next true w10 _ _ h10 hon2 (iff_of_true rfl (.inl (by simp [h2])))
    ·rw [Sp.jCV] at h2
     have h2:=of_decide_eq_false h2
     refine ⟨a1,hat,mk,mf,mc,mx,mg,r10,?_⟩
     rw [Sp.jCV]
     unfold m_I_j2
     refine next _ w10 _ _ h10 hon2 ?_
     simp only [decide_eq_true_eq,List.mem_append,List.mem_singleton]
     constructor
     ·intro h;exact .inr (.inr h.symm)
     ·rintro ((h | h) | (h | h))
      ·exact absurd (.inl h) hb0
      ·exact absurd h.symm h2
      ·exact absurd (.inr h) hb0
      ·exact h.symm
 ·have fin : ∀ w L G Kk a b, lI w0 None None Hl w f L G a b → Sp.Hon L G tk Kk → ¬ Kk who → ¬ Kk 2 → m_I_j3 who c x (some f) bd Hl w K := by
   intro w L G Kk a b g1 g2 g3 g4;unfold m_I_j3;refine (g1.binds who c x).mono ?_;rintro _ w11 ⟨r6,rfl,hr6,g5,k5⟩;have b1:=g2.binds (x:=x) hw hc g3 g4;have g6:=g2.bound who x hc;have er:r6=bd:=Bool.eq_iff_iff.2 (hr6.trans (b1.trans hb.symm));subst er;refine ⟨_,rfl,k5,fun _=>?_,fun h=>by simp at h⟩;refine (g5.free who).mono ?_;rintro _ w13 ⟨_,rfl,rfl,g7,k7⟩;refine ⟨_,rfl,k7,?_⟩;rw [g6.free g3 g4];unfold m_I_j4;refine ⟨fun _=>?_,fun h=>(by cases h)⟩;refine (jAB w13).mono ?_;rintro _ w5 ⟨_,rfl,rfl,E⟩;exact ⟨_,rfl,E.keptP,hK _ (g7.pure0.trans E)⟩
  refine ⟨fun ho=>?_,fun ho=>?_⟩
  ·have ho:other≠who:=bne_iff_ne.1 ho
   obtain ⟨Kk,hk,hk1,hk2⟩:=hon.other false false hw ho
   refine (hF.corrupt other).mono ?_
   rintro _ w14 ⟨_,rfl,rfl,g1,k1⟩
   exact ⟨_,rfl,k1,fin _ _ _ Kk _ _ g1 hk hk1 hk2⟩
  ·exact fin _ _ _ _ _ _ hF hon id id
end Go.Proofs
end
section
namespace Go.SE
open Go.ChangeShapes Go.WideShapes Go.ChangeAt Go.RowKit
section
variable {H:Type} {enc:TypeId×Value→H} {P:Program}
theorem jCL (hl:laidOutB P=true) {W W':World} (hb:Below W.heap.size W W'):∀(ts:List TypeId) (vs:List Value) (ds:List (DataW H)) (ps:List MemPlace),(ts.all fun t=>P.readableRec t && decide (t<P.types.size))=true →
  DataW.TrodAll enc P W 0 (fun _=>true) true ts vs ds ps→(∀x∈ps,x.block<W.heap.size)→DataW.TrodAll enc P W' 0 (fun b=>decide (b<W.heap.size)) true ts vs ds ps
 | [],_,_,_,_,h,_=>by
  obtain ⟨rfl,rfl,rfl⟩:=trodAll_nil h;exact h
 | t :: ts,_,_,_,hr,h,hlt=>by
  obtain ⟨v,vs1,d,ds1,a,b,rfl,rfl,rfl,h1,h2⟩:=trodAll_cons h;simp only [List.all_cons,Bool.and_eq_true,decide_eq_true_eq] at hr;exact ⟨a,b,Below.trod hl hr.1.1 hr.1.2 h1 hb (fun x hx=>hlt x (by simp [hx])),jCL hl hb ts vs1 ds1 b (by simpa using hr.2) h2 (fun x hx=>hlt x (by simp [hx])),rfl⟩
theorem jTQ {f:Func} {s:ChangeSpec} {W W':World} {args:Array Value} {ds gs:List (DataW H)} {before:List MemPlace} {t:TypeId} (hl:laidOutB P=true)
  (hv:s.vars=[]) (hf:∀ds:List (DataW H),ds.length=f.params.size→s.fn H ds={ results:=[.lit (.bool true)],args:=ds }) (hrt:f.resultTypes=#[t]) (ht:P.underlying t=some .bool)
  (hr:(f.params.toList.all fun t=>P.readableRec t && decide (t<P.types.size))=true)
  (hW:DataW.Whole enc P f.params.toList s.vars false W args.toList ds gs before) (E:Pure W W') :
  s.post enc P f false true false false W args (.bool true) W':=by
 have hW':=hW
 obtain ⟨p,q,hA,hV,rfl,hfz,hnd⟩:=hW
 rw [hv] at hV
 obtain ⟨rfl,rfl⟩:=trodVars_none hV
 have hlen:ds.length=f.params.size:=by
  have:∀(ts:List TypeId) (vs:List Value) (ds:List (DataW H)) (ps:List MemPlace),DataW.TrodAll enc P W 0 (fun _=>true) true ts vs ds ps→ds.length=ts.length:=by
   intro ts;induction ts with
   | nil=>intro vs ds ps h;obtain ⟨_,rfl,_⟩:=trodAll_nil h;rfl
   | cons t ts ih =>
    intro vs ds ps h
    obtain ⟨v,vs1,d,ds1,a,b,_,rfl,_,_,h2⟩:=trodAll_cons h
    simp [ih _ _ _ h2]
  simpa using this _ _ _ _ hA
 have hfn:=hf ds hlen
 have hfn':s.fn H (ds++[])={ results:=[.lit (.bool true)],args:=ds }:=by rw [List.append_nil];exact hfn
 have hlt:∀x∈p,x.block<W.heap.size:=fun x hx=>by simpa using hW'.lt x (by simp [hx])
 have bel:=E.below
 refine ⟨ds,[],p++[],[],p,[],hW',?_,?_,?_,bel.frame _,fun h=>by cases h⟩
 ·rw [hfn',hrt];exact trodAll_mk1 (shut_bool ht _)
 ·rw [hfn'];exact jCL hl bel _ _ _ _ hr hA hlt
 ·rw [hfn',hv];exact hV
theorem jOW {C:Checked} {os:Os} {f:FuncId} {fn:Func} {s:ChangeSpec} {t:TypeId} (hl:laidOutB C.prog=true)
  (hv:s.vars=[]) (hf:∀ds:List (DataW H),ds.length=fn.params.size→s.fn H ds={ results:=[.lit (.bool true)],args:=ds }) (hrt:fn.resultTypes=#[t]) (ht:C.prog.underlying t=some .bool)
  (hr:(fn.params.toList.all fun t=>C.prog.readableRec t && decide (t<C.prog.types.size))=true)
  (own:ownKnob C.prog.godebug=none) (started:os.Started) (noInit:C.prog.inits.idxOf? f=none) (hfn:C.prog.funcs[f]?=some fn)
  (witness:∃(w:World) (tape:Tape) (i:Input),w.os=os∧(w.forCall tape i).Shaped C.prog∧i.vars=[]∧Input.okWide C.prog (w.forCall tape i) .any w.heap.size f i ∧
   s.pre6 enc C.prog fn [] false (w.forCall tape i).memory i.args∧({}:Assume).holds C.prog (lone (Frame.enter C.prog f i.args .normal) [] (w.forCall tape i)))
  (contract:∀(W:World) (base:Nat) (args:Array Value) (ds:List (DataW H)) (p:List MemPlace),
   (∀(j:Nat) t v,fn.params[j]?=some t→args[j]?=some v→Value.okWide C.prog W .any base t v) →
   DataW.TrodAll enc C.prog W 0 (fun _=>true) true fn.params.toList args.toList ds p→(∀x∈p,x.block<W.heap.size) →
   Calls C.prog f args W (fun e W'=>∃r:Bool,e=.returned (.bool r)∧(r=true∧Pure W W'))) :
  ReturnsInHanded {} C os f .any (s.pre6 enc C.prog fn [] false) (s.post enc C.prog fn false true false false):=by
 refine returnsInHanded_of_change own started noInit hfn witness ?_
 intro W base args ds gs before hval hW _ _
 have hW':=hW
 obtain ⟨p,q,hA,hV,rfl,hfz,hnd⟩:=hW
 refine (contract W base args ds p hval hA (fun x hx=>by simpa using hW'.lt x (by simp [hx]))).mono fun e W' ⟨r,he,h1,h2⟩=>?_
 subst h1
 exact ⟨_,he,jTQ hl hv hf hrt ht hr hW' h2⟩
end
end Go.SE
namespace Go.SE
open Go.ChangeShapes Go.WideShapes Go.ChangeAt Go.RowKit
section
variable {P:Program} {W:World} {r:Reach} {b0:Nat} {t:TypeId} {v:Value}
theorem jJD {fs:Array Field} {ts:List TypeId} (ht:P.underlying t=some (.struct fs)) (hc:P.cellTypes P.depth t=some ts) (hn:P.cellsOf t=ts.length) (h:Value.okWide P W r b0 t v) :
  ∃cs:Array Value,v=.agg cs∧cs.size=ts.length∧∀(i:Nat) (u:TypeId) (c:Value),ts[i]?=some u→cs[i]?=some c→Cell.okWide P W r b0 u c:=by
 unfold Value.okWide at h
 rw [ht] at h
 obtain ⟨cs,rfl,hs,ts',hts,_,hall⟩:=h
 rw [hc] at hts
 cases hts
 refine ⟨cs,rfl,hs.trans hn,fun i u c hu hcs=>?_⟩
 obtain ⟨u',hu',hok⟩:=hall i c hcs
 have hlt:i<ts.length:=(List.getElem?_eq_some_iff.1 hu).1
 rw [Nat.mod_eq_of_lt hlt,hu] at hu'
 cases hu'
 exact hok
theorem jQV {e:TypeId} (ht:P.underlying t=some (.slice e)) (h:Value.okWide P W r b0 t v):∃a n c,v=.slice a n c:=by
 unfold Value.okWide at h;rw [ht] at h;simp only at h;unfold Cell.okWide at h;rw [ht] at h;cases v <;> simp [Cell.ok,ht] at h;exact ⟨_,_,_,rfl⟩
end
end Go.SE
end
section
open Go Go.SE
namespace Go.Proofs
theorem jCU {α β:Type} {f:α→Option β}:∀{l:List α} {r:List β},l.mapM f=some r→r.length=l.length∧∀(i:Nat) (a:α),l[i]?=some a→∃b,f a=some b∧r[i]?=some b
 | [],r,h=>by
  have:r=[]:=by simpa using h.symm
  subst this;exact ⟨rfl,fun i a h=>by simp at h⟩
 | x :: xs,r,h=>by
  rw [List.mapM_cons] at h;cases hx:f x with
  | none=>simp [hx] at h
  | some y =>
   cases hxs:xs.mapM f with
   | none=>simp [hx,hxs] at h
   | some ys =>
    have:r=y :: ys:=by simpa [hx,hxs] using h.symm
    subst this
    obtain ⟨h1,h2⟩:=jCU hxs
    refine ⟨by simp [h1],fun i a ha=>?_⟩
    cases i with
    | zero=>cases ha;exact ⟨y,hx,rfl⟩
    | succ i=>exact h2 i a (by simpa using ha)
theorem jRX {w:World} {base:Nat} {a:Addr} {n:Nat} {cs:List Value} (h:w.cells? base a n=some cs):cs.length=n∧Row w a cs:=by
 obtain ⟨_,h1,h2⟩:=World.cells?_some h;exact ⟨h1,fun j hj=>h2 j (by omega)⟩
section
variable {H:Type} {enc:TypeId×Value→H} {P:Program} {W:World} {base:Nat} {sp:Nat→Bool} {held:Bool}
theorem jEL {t:TypeId} {k:IntKind} (ht:P.underlying t=some (.int k)) {n:Nat} {c:Value} {x:DataW H×List MemPlace} (h:DataW.trod enc P W base sp held n t [c]=some x):∃m,c=.int k m:=by
 cases n with
 | zero=>cases h
 | succ n =>
  rw [DataW.trod_step] at h
  unfold DataW.trodStep at h
  rw [ht] at h
  cases c <;> simp at h
  obtain ⟨⟨rfl,_⟩,_⟩:=h
  exact ⟨_,rfl⟩
theorem jMM {t:TypeId} (ht:P.underlying t=some (.int .u64)) {n:Nat} {c:Value} {x:DataW H×List MemPlace} (h:DataW.trod enc P W base sp held n t [c]=some x):∃m,c=.int .u64 m∧Sp.yV m:=by
 cases n with
 | zero=>cases h
 | succ n =>
  rw [DataW.trod_step] at h
  unfold DataW.trodStep at h
  rw [ht] at h
  cases c with
  | int k z =>
   simp only at h
   split at h
   ·rename_i hw
    obtain ⟨rfl,hw⟩:=hw
    have h1:IntKind.u64.min=0:=by rfl
    have h2:IntKind.u64.max=18446744073709551615:=by rfl
    simp only [Lit.wf,Bool.and_eq_true,decide_eq_true_eq,h1,h2] at hw
    exact ⟨z,rfl,by omega,by omega⟩
   ·cases h
  | _=>simp at h
theorem jIN {t:TypeId} (ht:P.underlying t=some .string) {n:Nat} {c:Value} {x:DataW H×List MemPlace} (h:DataW.trod enc P W base sp held n t [c]=some x):∃m,c=.string m:=by
 cases n with
 | zero=>cases h
 | succ n =>
  rw [DataW.trod_step] at h
  unfold DataW.trodStep at h
  rw [ht] at h
  cases c <;> simp at h
  exact ⟨_,rfl⟩
theorem jLA {t e:TypeId} (ht:P.underlying t=some (.slice e)) {n:Nat} {c:Value} {x:DataW H×List MemPlace} (h:DataW.trod enc P W base sp held (n+1) t [c]=some x) :
  c=.slice none 0 0∨∃a len cap,c=.slice (some a) len cap∧len≤cap∧cap≤maxLen∧∀i,i<len→∃cs y,W.cells? base (a.add (i*P.cellsOf e)) (P.cellsOf e)=some cs∧DataW.trod enc P W base sp held n e cs=some y:=by
 rw [DataW.trod_step] at h
 unfold DataW.trodStep at h
 rw [ht] at h
 cases c with
 | slice a len cap =>
  cases a with
  | none =>
   cases len with
   | zero=>cases cap with
    | zero=>exact .inl rfl
    | succ c=>simp at h
   | succ l=>simp at h
  | some a =>
   right
   simp only at h
   split at h
   ·rename_i hc
    refine ⟨a,len,cap,rfl,hc.2.1,hc.2.2,fun i hi=>?_⟩
    cases hm:(List.range len).mapM fun i=>(W.cells? base (a.add (i*P.cellsOf e)) (P.cellsOf e)).bind (DataW.trod enc P W base sp held n e) with
    | none=>rw [hm] at h;cases h
    | some r =>
     obtain ⟨b,hb,_⟩:=(jCU hm).2 i i (by simp [hi])
     obtain ⟨cs,h1,h2⟩:=Option.bind_eq_some_iff.1 hb
     exact ⟨cs,b,h1,h2⟩
   ·cases h
 | _=>simp at h
end
section
variable {H:Type} {enc:TypeId×Value→H} {P:Program} {W:World} {base:Nat} {sp:Nat→Bool} {held:Bool}
theorem row_lt {a:Addr} {v:Value} {vs:List Value} (h:Row W a (v :: vs)):a.block<W.heap.size:=by
 have:=h 0 (by simp);have:=World.block_lt_of_cell? W (a.add 0) this;rwa [zX] at this
theorem jJI {α:Type} {tS e:TypeId} {sz:Nat} {f:α→List Value} (hS:P.underlying tS=some (.slice e)) (hc:P.cellsOf e=sz) (hf:∀a,∃v vs,f a=v :: vs) (x0:α)
  (hel:∀(n:Nat) (cs:List Value) (x:DataW H×List MemPlace),DataW.trod enc P W base sp held n e cs=some x→∃a,cs=f a) {n:Nat} {c:Value} {x:DataW H×List MemPlace} (h:DataW.trod enc P W base sp held n tS [c]=some x) :
  ∃s:Sl,∃xs:List α,c=s.v∧Lst (fun b=>b<W.heap.size) W sz s (xs.map f):=by
 cases n with
 | zero=>cases h
 | succ n =>
  rcases jLA hS h with rfl | ⟨a,len,cap,rfl,hle,hcm,hall⟩
  ·exact ⟨Sl.nil,[],rfl,⟨rfl,fun i hi=>by simp at hi⟩⟩
  ·rw [hc] at hall
   have hex:∀i,∃q:α,i<len→Row W (a.add (i*sz)) (f q):=by
    intro i;by_cases hi:i<len
    ·obtain ⟨cs,y,h1,h2⟩:=hall i hi;obtain ⟨q,rfl⟩:=hel n cs y h2;exact ⟨q,fun _=>(jRX h1).2⟩
    ·exact ⟨x0,fun h=>absurd h hi⟩
   obtain ⟨q,hq⟩:=Classical.axiomOfChoice hex
   refine ⟨⟨some a,len,cap⟩,(List.range len).map q,rfl,⟨by simp,fun i hi=>?_⟩⟩
   have hi:i<len:=by simpa using hi
   have hr:=hq i hi
   obtain ⟨v,vs,e⟩:=hf (q i)
   refine ⟨a.add (i*sz),⟨by omega,by simpa using hi,a,rfl,by simp⟩,?_,by simpa using hr⟩
   rw [e] at hr;exact row_lt hr
theorem jEM {t:TypeId} {fs:Array Field} (ht:P.underlying t=some (.struct fs)) {n:Nat} {cs:List Value} {x:DataW H×List MemPlace} (h:DataW.trod enc P W base sp held n t cs=some x) :
  ∃m,cs.length=P.cellsOf t∧∀(i:Nat) (f:Field),fs.toList[i]?=some f→∃y,DataW.trod enc P W base sp held m f.type ((cs.drop f.offset).take (P.cellsOf f.type))=some y:=by
 cases n with
 | zero=>cases h
 | succ n =>
  rw [DataW.trod_step] at h
  unfold DataW.trodStep at h
  rw [ht] at h
  simp only at h
  split at h
  ·rename_i hl
   cases hm:fs.toList.mapM (fun f=>DataW.trod enc P W base sp held n f.type ((cs.drop f.offset).take (P.cellsOf f.type))) with
   | none=>rw [hm] at h;cases h
   | some r =>
    refine ⟨n,hl,fun i f hf=>?_⟩
    obtain ⟨b,hb,_⟩:=(jCU hm).2 i f hf
    exact ⟨b,hb⟩
  ·cases h
end
section
variable {H:Type} {enc:TypeId×Value→H} {W:World} {base:Nat} {sp:Nat→Bool} {held:Bool}
end
end Go.Proofs
end
section
open Go Go.SE
namespace Go.Proofs
open Tryz
section
variable {H:Type} {enc:TypeId×Value→H} {P:Program} {W:World} {base:Nat} {sp:Nat→Bool} {held:Bool}
theorem jNX {t:TypeId} (ht:P.underlying t=some .bool) {n:Nat} {c:Value} {x:DataW H×List MemPlace} (h:DataW.trod enc P W base sp held n t [c]=some x):∃m,c=.bool m:=by
 cases n with
 | zero=>cases h
 | succ n =>
  rw [DataW.trod_step] at h
  unfold DataW.trodStep at h
  rw [ht] at h
  cases c <;> simp at h
  exact ⟨_,rfl⟩
end
set_option maxRecDepth 100000 in
theorem jFQ {H:Type} {enc:TypeId×Value→H} {W:World} {base:Nat} {sp:Nat→Bool} {held:Bool} {n:Nat} {cs:List Value} {x:DataW H×List MemPlace} (h:DataW.trod enc prog W base sp held n 30 cs=some x):∃l:Sp.Letter,cs=jOR l∧Sp.yV l.c:=by
 obtain ⟨m,hl,hf⟩:=jEM underlying30 h;rw [show (prog.cellsOf 30)=5 by kernel_rfl] at hl;match cs,hl with
 | [c0,c1,c2,c3,c4],_ =>
  obtain ⟨_,h0⟩:=hf 0 _ rfl
  obtain ⟨_,h1⟩:=hf 1 _ rfl
  obtain ⟨_,h2⟩:=hf 2 _ rfl
  obtain ⟨_,h3⟩:=hf 3 _ rfl
  obtain ⟨_,h4⟩:=hf 4 _ rfl
  simp only [show (prog.cellsOf 3)=1 by kernel_rfl,show (prog.cellsOf 23)=1 by kernel_rfl,show (prog.cellsOf 9)=1 by kernel_rfl,show (prog.cellsOf 4)=1 by kernel_rfl] at h0 h1 h2 h3 h4
  obtain ⟨m0,rfl⟩:=jEL underlying3 h0
  obtain ⟨m1,rfl⟩:=jEL underlying3 h1
  obtain ⟨m2,rfl,hm⟩:=jMM underlying23 h2
  obtain ⟨m3,rfl⟩:=jIN underlying9 h3
  obtain ⟨m4,rfl⟩:=jNX underlying4 h4
  exact ⟨⟨m0,m1,m2,m3,m4⟩,rfl,hm⟩
set_option maxRecDepth 100000 in
theorem jOU {H:Type} {enc:TypeId×Value→H} {W:World} {base:Nat} {sp:Nat→Bool} {held:Bool} {n:Nat} {c:Value} {x:DataW H×List MemPlace} (h:DataW.trod enc prog W base sp held n 22 [c]=some x):∃s:Sl,∃l:List Sp.Letter,c=s.v∧Lst (fun b=>b<W.heap.size) W 5 s (l.map jOR)∧∀m∈l,Sp.yV m.c:=by
 obtain ⟨s,xs,e,hL⟩:=jJI (α:={l:Sp.Letter // Sp.yV l.c}) (sz:=5) (f:=fun l=>jOR l.1) underlying22 (by kernel_rfl) (fun a=>⟨_,_,rfl⟩) ⟨⟨0,0,0,⟨#[]⟩,false⟩,by decide,by decide⟩ (fun _ _ _ h=>by
  obtain ⟨l,e,hl⟩:=jFQ h;exact ⟨⟨l,hl⟩,e⟩) h
 refine ⟨s,xs.map Subtype.val,e,by rw [List.map_map];exact hL,fun m hm=>?_⟩;obtain ⟨y,_,rfl⟩:=List.mem_map.1 hm;exact y.2
set_option maxRecDepth 100000 in
theorem jTZ {H:Type} {enc:TypeId×Value→H} {W:World} {base:Nat} {sp:Nat→Bool} {held:Bool} {n:Nat} {cs:List Value} {x:DataW H×List MemPlace} (h:DataW.trod enc prog W base sp held n 25 cs=some x):∃who c:Int,∃y:ByteArray,cs=[.int .i64 who,.int .u64 c,.string y]∧Sp.yV c:=by
 obtain ⟨m,hl,hf⟩:=jEM underlying25 h;rw [show (prog.cellsOf 25)=3 by kernel_rfl] at hl;match cs,hl with
 | [c0,c1,c2],_ =>
  obtain ⟨_,h0⟩:=hf 0 _ rfl
  obtain ⟨_,h1⟩:=hf 1 _ rfl
  obtain ⟨_,h2⟩:=hf 2 _ rfl
  simp only [show (prog.cellsOf 3)=1 by kernel_rfl,show (prog.cellsOf 23)=1 by kernel_rfl,show (prog.cellsOf 9)=1 by kernel_rfl] at h0 h1 h2
  obtain ⟨m0,rfl⟩:=jEL underlying3 h0
  obtain ⟨m1,rfl,hm⟩:=jMM underlying23 h1
  obtain ⟨m2,rfl⟩:=jIN underlying9 h2
  exact ⟨m0,m1,m2,rfl,hm⟩
end Go.Proofs
end
