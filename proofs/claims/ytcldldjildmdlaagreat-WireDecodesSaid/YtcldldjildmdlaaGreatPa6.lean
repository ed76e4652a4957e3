import Derived.Test.YtcldldjildmdlaaGreatPa5
import Derived.Test.YtcldldjildmdlaaGreatPa4
import Derived.Test.YtcldldjildmdlaaGreatPa3
import Derived.Test.YtcldldjildmdlaaGreatPa0
import Derived.ProofKit
import Derived.Carry
import Derived.OpenShut
import Derived.Stop.Joined
section
open Go Go.SE
namespace Go.Proofs
attribute [local irreducible] Calls CallsD
def stp (bs:List UInt8) (c:Bool) (f:Fld) (s:Raw×Rd):Raw×Rd:=if c then (f.raw bs s.2 s.1,f.rd bs s.2) else s
theorem stp_f (bs:List UInt8) (f:Fld) (s:Raw×Rd):stp bs false f s=s:=rfl
theorem stp_snd (bs:List UInt8) (u f t a b kd:Nat) (tx:List UInt8) (r:Rd):stp bs true .snd (⟨u,tx,f,t,a,b,kd⟩,r)=(⟨u,tx,f,t,a,(rNum bs r).1,2⟩,(rNum bs r).2):=rfl
theorem stp_fst (bs:List UInt8) (u f t a b kd:Nat) (tx:List UInt8) (r:Rd):stp bs true .fst (⟨u,tx,f,t,a,b,kd⟩,r)=(⟨u,tx,f,t,(rNum bs r).1,b,1⟩,(rNum bs r).2):=rfl
theorem stp_text (bs:List UInt8) (u f t a b kd:Nat) (tx:List UInt8) (r:Rd):stp bs true .text (⟨u,tx,f,t,a,b,kd⟩,r)=(⟨u,(rText bs 64 r).1,f,t,a,b,kd⟩,(rText bs 64 r).2):=rfl
theorem stp_num (bs:List UInt8) (u f t a b kd:Nat) (tx:List UInt8) (r:Rd):stp bs true .num (⟨u,tx,f,t,a,b,kd⟩,r)=(⟨(rNum bs r).1,tx,f,t,a,b,kd⟩,(rNum bs r).2):=rfl
theorem stp_to (bs:List UInt8) (u f t a b kd:Nat) (tx:List UInt8) (r:Rd):stp bs true .to_ (⟨u,tx,f,t,a,b,kd⟩,r)=(⟨u,tx,f,(rNum bs r).1,a,b,kd⟩,(rNum bs r).2):=rfl
theorem stp_from (bs:List UInt8) (u f t a b kd:Nat) (tx:List UInt8) (r:Rd):stp bs true .from_ (⟨u,tx,f,t,a,b,kd⟩,r)=(⟨u,tx,(rNum bs r).1,t,a,b,kd⟩,(rNum bs r).2):=rfl
theorem rdFlds_opt (bs : List UInt8) (k : Nat) (h1 : 1 ≤ k) (h9 : k ≤ 9) (s : Raw × Rd) : rdFlds bs (flds (k : Int)) s =
  stp bs (s_A (k:Int) == 2) .snd (stp bs (decide (s_A (k:Int)≥1)) .fst (stp bs ((k:Int) == 3) .text (stp bs ((k:Int) == 2) .num (stp bs (((k:Int) == 8) || ((k:Int) == 9)) .to_ (stp bs (s_J (k:Int)) .from_ s))))):=by
 obtain ⟨x,r⟩:=s
 rw [ref05_kids]
 have:k=1∨k=2∨k=3∨k=4∨k=5∨k=6∨k=7∨k=8∨k=9:=by omega
 rcases this with e | e | e | e | e | e | e | e | e <;> subst e <;> simp [flds,stp,s_J,Sp.shapeOf,rdFlds]
structure NdF (k:Nat) (x:Raw):Prop where
 frm:s_J (k:Int)=false→x.frm=0
 to:(((k:Int) == 8) || ((k:Int) == 9))=false→x.to=0
 kids:s_A (k:Int)=(x.kids:Int)
theorem rd_facts (bs:List UInt8) (k:Nat) (h1:1≤k) (h9:k≤9) (r:Rd):NdF k (rdFlds bs (flds (k:Int)) (noRaw,r)).1:=by
 have:k=1∨k=2∨k=3∨k=4∨k=5∨k=6∨k=7∨k=8∨k=9:=by omega
 refine ⟨?_,?_,?_⟩
 ·rcases this with e | e | e | e | e | e | e | e | e <;> subst e <;> simp [flds,s_J,rdFlds,Fld.raw,noRaw]
 ·rcases this with e | e | e | e | e | e | e | e | e <;> subst e <;> simp [flds,rdFlds,Fld.raw,noRaw]
 ·rw [ref05_kids]
  rcases this with e | e | e | e | e | e | e | e | e <;> subst e <;> simp [flds,Sp.shapeOf,rdFlds,Fld.raw,noRaw]
theorem ref_field (n:Nat):s_B (n:Int)=if 1073741824<n then 1073741824 else (n:Int):=by
 unfold s_B
 by_cases h:1073741824<n
 ·rw [if_pos h,show decide ((n:Int)>1073741824)=true by simp;omega];rfl
 ·rw [if_neg h,show decide ((n:Int)>1073741824)=false by simp;omega];exact wrap_id (by omega)
def zNode:List Value:=[.int .i64 0,.int .i64 0,.int .i64 0,.int .u64 0,.string ⟨#[]⟩,.int .i64 0,.int .i64 0]
structure NdAt (S:NP) (w0:World) (H:NP) (w:World) (p1 a:Addr) (s:Sl) (bs:List UInt8) (r:Rd):Prop where
 rd:RfS S w a s bs r
 box:Box w p1 zNode 86
 vis:∀b,(b=a.block∨S b∨b=p1.block)→¬ H b∧b<w.heap.size
 ext:Ext (·=a.block) w0 w
 at_:r.at_≤bs.length
 o1:w0.heap.size≤p1.block
 d1:p1.block≠a.block∧¬ S p1.block
section
variable {S:NP} {w0 w w':World} {H H':NP} {p1 a:Addr} {s:Sl} {bs:List UInt8} {r:Rd}
theorem NdAt.hst (h:NdAt S w0 H w p1 a s bs r) (hs:Hst w0 H w H' w'):NdAt S w0 H' w' p1 a s bs r:=by
 have d:∀b,(b=a.block∨S b∨b=p1.block)→¬ H' b:=hs.disj (fun b hb=>⟨(h.vis b hb).2,(h.vis b hb).1⟩)
 exact ⟨h.rd.ext hs.ext (fun b hb=>d b (hb.elim .inl (fun h=>.inr (.inl h)))),h.box.ext hs.ext (d _ (.inr (.inr rfl))),fun b hb=>⟨d b hb,by have:=(h.vis b hb).2;have:=hs.ext.size;omega⟩,h.ext.hst hs,h.at_,h.o1,h.d1⟩
theorem NdAt.hS (h:NdAt S w0 H w p1 a s bs r):∀b,(b=a.block∨S b)→b<w.heap.size:=fun b hb=>(h.vis b (hb.elim .inl (fun h=>.inr (.inl h)))).2
theorem NdAt.next {r':Rd} (h:NdAt S w0 H w p1 a s bs r) (hR:RfS S w' a s bs r') (E:Ext (·=a.block) w w') (hat:r'.at_≤bs.length):NdAt S w0 H w' p1 a s bs r'∧Kept H w w' :=
 ⟨⟨hR,h.box.ext E h.d1.1,fun b hb=>⟨(h.vis b hb).1,by have:=(h.vis b hb).2;have:=E.size;omega⟩,h.ext.trans E,hat,h.o1,h.d1⟩,E.kept (fun b hb e=>(h.vis _ (.inl rfl)).1 (e▸hb))⟩
theorem NdAt.num (h : NdAt S w0 H w p1 a s bs r) {R : Int → WP} (hR : ∀ w', NdAt S w0 H w' p1 a s bs (rNum bs r).2 → R ((rNum bs r).1 : Int) w') :
  Calls Tryz.prog 84 #[.pointer (some a)] w (fun e w'=>∃x:Int,e=.returned (.int .u64 x)∧Kept H w w'∧R x w'):=by
 refine (c_rNum a s bs r w h.rd h.at_ h.hS).mono ?_
 rintro _ w' ⟨_,rfl,rfl,hR',E⟩
 obtain ⟨g1,g2⟩:=h.next hR' E (rNum_at bs r h.at_).2
 exact ⟨_,rfl,g2,hR w' g1⟩
def NdP (S:NP) (w0:World) (a:Addr) (s:Sl) (bs:List UInt8) (k i:Nat) (K:Int→Int→Int→Int→ByteArray→Int→Int→Int→WP) (fin:Raw×Rd):Prop :=
 ∀kd f t u tx va vb e w',e=((nodeErr k i fin.1 fin.2.err:Nat):Int)→(e=0→(⟨kd,f,t,u,tx,va,vb⟩:Sp.Node)=fin.1.node k)→RfS S w' a s bs fin.2→Ext (·=a.block) w0 w'→K kd f t u tx va vb e w'
variable (k i:Nat) (hk:1≤k∧k≤9) (hi:i≤100000) {K:Int→Int→Int→Int→ByteArray→Int→Int→Int→WP}
include hk hi
theorem c_nd6 (x : Raw) (h : NdAt S w0 H w p1 a s bs r) (hF : NdF k x) (hK : NdP S w0 a s bs k i K (x, r)) :
  m_D_j6 (some a) i p1 k k (s_B x.frm) (s_B x.to) x.num ⟨x.text.toArray⟩ 0 0 (s_B x.a) (s_B x.b) w0 H w K:=by
 unfold m_D_j6
 have hwk:IntKind.i64.wrap (k:Int)=(k:Int):=wrap_id (by omega)
 rw [hwk]
 have fin : ∀ (c : List Value) (kd f t u : Int) (tx : ByteArray) (va vb : Int) (e : Nat) (H' : NP) (w1 w2 : World), NdAt S w0 H' w1 p1 a s bs r → w2 = storeRow w1 p1 [.int .i64 kd, .int .i64 f, .int .i64 t, .int .u64 u, .string tx, .int .i64 va, .int .i64 vb] → e = nodeErr k i x r.err → (e = 0 → (⟨kd, f, t, u, tx, va, vb⟩ : Sp.Node) = x.node k) →
   Row w2 p1 [.int .i64 kd,.int .i64 f,.int .i64 t,.int .u64 u,.string tx,.int .i64 va,.int .i64 vb]∧K kd f t u tx va vb e w2:=by
  intro c kd f t u tx va vb e H' w1 w2 h1 e2 he hn
  have X:Ext (·=p1.block) w1 w2:=by rw [e2];exact Ext.storeRow _ _ _
  have B:Box w2 p1 [.int .i64 kd,.int .i64 f,.int .i64 t,.int .u64 u,.string tx,.int .i64 va,.int .i64 vb] 86:=by rw [e2];exact h1.box.store rfl
  refine ⟨B.row,hK _ _ _ _ _ _ _ _ _ (by rw [he]) (fun h0=>hn (by omega)) (h1.rd.ext X (fun b hb e=>?_)) (h1.ext.trans' X (fun j hj e=>by have:=h1.o1;omega))⟩
  rcases hb with rfl | hb
  ·exact h1.d1.1 e.symm
  ·exact h1.d1.2 (e▸hb)
 have can:∀{H':NP} {w1:World},NdAt S w0 H' w1 p1 a s bs r→(∀j,j<7→CanW w1 (p1.add j)):=fun h1 j hj=>h1.box.canW (by simpa [zNode] using hj)
 refine ⟨a,rfl,_,h.rd.errC,fun hc=>?_,fun hc=>?_⟩
 ·have he:r.err≠0:=by have:=bne_iff_ne.1 hc;omega
  have hne:nodeErr k i x r.err=r.err:=by unfold nodeErr;rw [if_pos he]
  refine ⟨fun w'=>RfS S w' a s bs r,h.rd.pure (Ext.drew w),?_⟩
  rintro w11 e11
  have h11:NdAt S w0 H w11 p1 a s bs r:=by
   have E:Pure w w11:=by rw [e11];exact Ext.drew w
   exact (h.next (h.rd.pure E) (Ext.pure E) h.at_).1
  refine ⟨a,rfl,_,fun w' hw'=>hw'.errC,can h11,(h11.vis _ (.inr (.inr rfl))).1,?_⟩
  rintro w12 e12
  obtain ⟨g1,g2⟩:=fin [] _ _ _ _ _ _ _ r.err H w11 w12 h11 e12 hne.symm (fun h0=>absurd h0 he)
  have X:Ext (·=p1.block) w11 w12:=by rw [e12];exact Ext.storeRow _ _ _
  refine ⟨h11.rd.ext X (fun b hb e=>?_),_,_,_,_,_,_,_,g1,g2⟩
  rcases hb with rfl | hb
  ·exact h11.d1.1 e.symm
  ·exact h11.d1.2 (e▸hb)
 have he:r.err=0:=by
  have:((r.err:Int) != 0)=false:=hc
  simpa using this
 have hfr:=hF.frm
 have hto:=hF.to
 have hkd:=hF.kids
 have h89:(((k:Int) == 8) || ((k:Int) == 9))=decide (k=8∨k=9):=by
  rw [Bool.eq_iff_iff];simp;omega
 rintro y1 hy1
 have hy:y1=decide (16≤x.frm∨16≤x.to∨((k=8∨k=9)∧x.frm=x.to)):=by
  rw [hy1,ref_field,ref_field,h89]
  rw [h89] at hto
  rw [Bool.eq_iff_iff]
  simp only [Bool.or_eq_true,Bool.and_eq_true,decide_eq_true_eq,beq_iff_eq]
  by_cases hn:s_J (k:Int)=true
  ·by_cases h8:k=8∨k=9
   ·simp only [hn,h8,true_and]
    split <;> split <;> omega
   ·have ht:=hto (by simp [h8])
    simp only [hn,h8,ht,true_and,false_and,or_false]
    split <;> omega
  ·have hn':s_J (k:Int)=false:=by simpa using hn
   have hf:=hfr hn'
   have h8:¬ (k=8∨k=9):=by
    rintro (rfl | rfl) <;> exact absurd hn' (by decide)
   have ht:=hto (by simp [h8])
   simp only [hn',h8,hf,ht,false_and,or_false]
   simp
 rw [hy]
 refine ⟨fun hc1=>?_,fun hc1=>?_⟩
 ·have hc1:=of_decide_eq_true hc1
  intro H9 w19 hs19
  have h19:=h.hst hs19
  refine ⟨can h19,(h19.vis _ (.inr (.inr rfl))).1,fun w26 e26=>?_⟩
  obtain ⟨g1,g2⟩:=fin [] _ _ _ _ _ _ _ 50 H9 w19 w26 h19 e26 (by unfold nodeErr;rw [if_neg (by omega),if_pos hc1]) (fun h0=>by cases h0)
  exact ⟨_,_,_,_,_,_,_,g1,g2⟩
 have hc1:=of_decide_eq_false hc1
 rintro y2 hy2
 have hy:y2=decide ((0<x.kids∧i≤x.a)∨(1<x.kids∧i≤x.b)):=by
  rw [hy2,ref_field,ref_field,hkd]
  have hle:x.kids≤2:=by
   rw [ref05_kids] at hkd
   rcases Sp.kids_le (k:Int) with e | e | e <;> rw [e] at hkd <;> omega
  rw [Bool.eq_iff_iff]
  simp only [Bool.or_eq_true,Bool.and_eq_true,decide_eq_true_eq,beq_iff_eq]
  split <;> split <;> omega
 rw [hy]
 refine ⟨fun hc2=>?_,fun hc2=>?_⟩
 ·have hc2:=of_decide_eq_true hc2
  intro H17 w31 hs31
  have h31:=h.hst hs31
  refine ⟨can h31,(h31.vis _ (.inr (.inr rfl))).1,fun w36 e36=>?_⟩
  obtain ⟨g1,g2⟩:=fin [] _ _ _ _ _ _ _ 71 H17 w31 w36 h31 e36 (by unfold nodeErr;rw [if_neg (by omega),if_neg hc1,if_pos hc2]) (fun h0=>by cases h0)
  exact ⟨_,_,_,_,_,_,_,g1,g2⟩
 have hc2:=of_decide_eq_false hc2
 intro H21 w43 hs43
 have h43:=h.hst hs43
 refine ⟨can h43,(h43.vis _ (.inr (.inr rfl))).1,fun w45 e45=>?_⟩
 have hle:x.kids≤2:=by
  rw [ref05_kids] at hkd
  rcases Sp.kids_le (k:Int) with e | e | e <;> rw [e] at hkd <;> omega
 have hnode:(⟨(k:Int),s_B x.frm,s_B x.to,x.num,⟨x.text.toArray⟩,cond (decide (s_A (k:Int)≥1)) (IntKind.i64.wrap (s_B x.a+1)) 0,cond ((s_A (k:Int):Int) == 2) (IntKind.i64.wrap (s_B x.b+1)) 0⟩:Sp.Node)=x.node k:=by
  have ef:s_B x.frm=x.frm:=by rw [ref_field,if_neg (by omega)]
  have et:s_B x.to=x.to:=by rw [ref_field,if_neg (by omega)]
  have ea:cond (decide (s_A (k:Int)≥1)) (IntKind.i64.wrap (s_B x.a+1)) 0=(if 0<x.kids then (x.a:Int)+1 else 0):=by
   rw [hkd]
   by_cases h0:0<x.kids
   ·rw [if_pos h0,decide_eq_true (by omega),ref_field,if_neg (by omega)]
    show IntKind.i64.wrap ((x.a:Int)+1)=_
    rw [IntWalk.i64_in _ (by omega)]
   ·rw [if_neg h0,decide_eq_false (by omega)];rfl
  have eb:cond ((s_A (k:Int):Int) == 2) (IntKind.i64.wrap (s_B x.b+1)) 0=(if 1<x.kids then (x.b:Int)+1 else 0):=by
   rw [hkd]
   by_cases h0:1<x.kids
   ·rw [if_pos h0,show ((x.kids:Int) == 2)=true by simp;omega,ref_field,if_neg (by omega)]
    show IntKind.i64.wrap ((x.b:Int)+1)=_
    rw [IntWalk.i64_in _ (by omega)]
   ·rw [if_neg h0,show ((x.kids:Int) == 2)=false by simp;omega];rfl
  rw [ef,et,ea,eb];rfl
 obtain ⟨g1,g2⟩:=fin [] _ _ _ _ _ _ _ 0 H21 w43 w45 h43 e45 (by unfold nodeErr;rw [if_neg (by omega),if_neg hc1,if_neg hc2]) (fun _=>hnode)
 exact ⟨_,_,_,_,_,_,_,g1,g2⟩
theorem c_nd5 (u f t av kd : Nat) (tx : List UInt8) (h : NdAt S w0 H w p1 a s bs r) (hF : NdF k (stp bs (s_A (k : Int) == 2) .snd (⟨u, tx, f, t, av, 0, kd⟩, r)).1) (hK : NdP S w0 a s bs k i K (stp bs (s_A (k : Int) == 2) .snd (⟨u, tx, f, t, av, 0, kd⟩, r))) :
  m_D_j5 (some a) i p1 k k (s_B f) (s_B t) u ⟨tx.toArray⟩ 0 0 (s_B av) w0 H w K:=by
 unfold m_D_j5
 have hwk:IntKind.i64.wrap (k:Int)=(k:Int):=wrap_id (by omega)
 rw [hwk]
 refine ⟨fun hc w10 hs10=>?_,fun hc w10 hs10=>?_⟩
 ·rw [hc,stp_snd] at hF hK
  exact (h.hst hs10).num (fun w' h' w47 hs47=>c_nd6 k i hk hi ⟨u,tx,f,t,av,(rNum bs r).1,2⟩ (h'.hst hs47) hF hK)
 ·rw [hc,stp_f] at hF hK
  exact c_nd6 k i hk hi ⟨u,tx,f,t,av,0,kd⟩ (h.hst hs10) hF hK
theorem c_nd4 (u f t : Nat) (tx : List UInt8) (h : NdAt S w0 H w p1 a s bs r) (hF : NdF k (stp bs (s_A (k : Int) == 2) .snd (stp bs (decide (s_A (k : Int) ≥ 1)) .fst (⟨u, tx, f, t, 0, 0, 0⟩, r))).1) (hK : NdP S w0 a s bs k i K (stp bs (s_A (k : Int) == 2) .snd (stp bs (decide (s_A (k : Int) ≥ 1)) .fst (⟨u, tx, f, t, 0, 0, 0⟩, r)))) :
  m_D_j4 (some a) i p1 k k (s_B f) (s_B t) u ⟨tx.toArray⟩ 0 0 w0 H w K:=by
 unfold m_D_j4
 have hwk:IntKind.i64.wrap (k:Int)=(k:Int):=wrap_id (by omega)
 rw [hwk]
 refine ⟨fun hc w9 hs9=>?_,fun hc w9 hs9=>?_⟩
 ·rw [hc,stp_fst] at hF hK
  exact (h.hst hs9).num (fun w' h' w49 hs49=>c_nd5 k i hk hi u f t (rNum bs r).1 1 tx (h'.hst hs49) hF hK)
 ·rw [hc,stp_f] at hF hK
  exact c_nd5 k i hk hi u f t 0 0 tx (h.hst hs9) hF hK
theorem c_nd3 (u f t : Nat) (h : NdAt S w0 H w p1 a s bs r) (hF : NdF k (stp bs (s_A (k : Int) == 2) .snd (stp bs (decide (s_A (k : Int) ≥ 1)) .fst (stp bs ((k : Int) == 3) .text (⟨u, [], f, t, 0, 0, 0⟩, r)))).1) (hK : NdP S w0 a s bs k i K (stp bs (s_A (k : Int) == 2) .snd (stp bs (decide (s_A (k : Int) ≥ 1)) .fst (stp bs ((k : Int) == 3) .text (⟨u, [], f, t, 0, 0, 0⟩, r))))) :
  m_D_j3 (some a) i p1 k k (s_B f) (s_B t) u ⟨#[]⟩ 0 0 w0 H w K:=by
 unfold m_D_j3
 have hwk:IntKind.i64.wrap (k:Int)=(k:Int):=wrap_id (by omega)
 rw [hwk]
 refine ⟨fun hc=>?_,fun hc=>?_⟩
 ·rw [hc,stp_text] at hF hK
  refine (c_rText a s bs r w 64 (by omega) h.rd h.at_ h.hS).mono ?_
  rintro _ w' ⟨_,rfl,rfl,hR',E⟩
  obtain ⟨g1,g2⟩:=h.next hR' E (rText_at bs 64 r h.at_).2
  exact ⟨_,rfl,g2,fun w51 hs51=>c_nd4 k i hk hi u f t (rText bs 64 r).1 (g1.hst hs51) hF hK⟩
 ·rw [hc,stp_f] at hF hK
  exact c_nd4 k i hk hi u f t [] h hF hK
theorem c_nd2 (f t : Nat) (h : NdAt S w0 H w p1 a s bs r) (hF : NdF k (stp bs (s_A (k : Int) == 2) .snd (stp bs (decide (s_A (k : Int) ≥ 1)) .fst (stp bs ((k : Int) == 3) .text (stp bs ((k : Int) == 2) .num (⟨0, [], f, t, 0, 0, 0⟩, r))))).1) (hK : NdP S w0 a s bs k i K (stp bs (s_A (k : Int) == 2) .snd (stp bs (decide (s_A (k : Int) ≥ 1)) .fst (stp bs ((k : Int) == 3) .text (stp bs ((k : Int) == 2) .num (⟨0, [], f, t, 0, 0, 0⟩, r)))))) :
  m_D_j2 (some a) i p1 k k (s_B f) (s_B t) 0 ⟨#[]⟩ 0 0 w0 H w K:=by
 unfold m_D_j2
 have hwk:IntKind.i64.wrap (k:Int)=(k:Int):=wrap_id (by omega)
 rw [hwk]
 refine ⟨fun hc=>?_,fun hc=>?_⟩
 ·rw [hc,stp_num] at hF hK
  exact h.num (fun w' h' w53 hs53=>c_nd3 k i hk hi (rNum bs r).1 f t (h'.hst hs53) hF hK)
 ·rw [hc,stp_f] at hF hK
  exact c_nd3 k i hk hi 0 f t h hF hK
theorem c_nd1 (f : Nat) (h : NdAt S w0 H w p1 a s bs r) (hF : NdF k (stp bs (s_A (k : Int) == 2) .snd (stp bs (decide (s_A (k : Int) ≥ 1)) .fst (stp bs ((k : Int) == 3) .text (stp bs ((k : Int) == 2) .num (stp bs (((k : Int) == 8) || ((k : Int) == 9)) .to_ (⟨0, [], f, 0, 0, 0, 0⟩, r)))))).1)
  (hK:NdP S w0 a s bs k i K (stp bs (s_A (k:Int) == 2) .snd (stp bs (decide (s_A (k:Int)≥1)) .fst (stp bs ((k:Int) == 3) .text (stp bs ((k:Int) == 2) .num (stp bs (((k:Int) == 8) || ((k:Int) == 9)) .to_ (⟨0,[],f,0,0,0,0⟩,r))))))) :
  m_D_j1 (some a) i p1 k k (s_B f) 0 0 ⟨#[]⟩ 0 0 w0 H w K:=by
 unfold m_D_j1
 have hwk:IntKind.i64.wrap (k:Int)=(k:Int):=wrap_id (by omega)
 rw [hwk]
 refine ⟨fun hc H3 w8 hs8=>?_,fun hc H3 w8 hs8=>?_⟩
 ·rw [hc,stp_to] at hF hK
  exact (h.hst hs8).num (fun w' h' w56 hs56=>c_nd2 k i hk hi f (rNum bs r).1 (h'.hst hs56) hF hK)
 ·rw [hc,stp_f] at hF hK
  exact c_nd2 k i hk hi f 0 (h.hst hs8) hF hK
end
theorem c_rNode {S : NP} (a : Addr) (s : Sl) (bs : List UInt8) (r : Rd) (i : Nat) (w0 : World) (h : RfS S w0 a s bs r) (hat : r.at_ < bs.length) (he : r.err = 0) (hS : ∀ b, (b = a.block ∨ S b) → b < w0.heap.size) (hi : i ≤ 100000) :
  Calls Tryz.prog 40 #[.pointer (some a),.int .i64 i] w0 (fun e w'=>∃kd f t u:Int,∃tx:ByteArray,∃va vb x:Int,e=.returned (.tuple #[.agg #[.int .i64 kd,.int .i64 f,.int .i64 t,.int .u64 u,.string tx,.int .i64 va,.int .i64 vb],.int .i64 x]) ∧
   (∃r':Rd,(if isKindN bs[r.at_].toNat=true then x=((nodeErr bs[r.at_].toNat i (rdFlds bs (flds bs[r.at_].toNat) (noRaw,⟨r.at_+1,0,r.spot⟩)).1 (rdFlds bs (flds bs[r.at_].toNat) (noRaw,⟨r.at_+1,0,r.spot⟩)).2.err:Nat):Int)∧(x=0→(⟨kd,f,t,u,tx,va,vb⟩:Sp.Node)=(rdFlds bs (flds bs[r.at_].toNat) (noRaw,⟨r.at_+1,0,r.spot⟩)).1.node bs[r.at_].toNat)∧r'=(rdFlds bs (flds bs[r.at_].toNat) (noRaw,⟨r.at_+1,0,r.spot⟩)).2 else x=70∧r'=⟨r.at_+1,0,r.spot⟩)∧RfS S w' a s bs r'∧Ext (·=a.block) w0 w')):=by
 generalize hkk:bs[r.at_].toNat=k
 have hk256:k<256:=by rw [← hkk];exact bs[r.at_].toNat_lt
 refine w_D _ _ w0 (fun kd f t u tx va vb x w'=>∃r':Rd,(if isKindN k=true then x=((nodeErr k i (rdFlds bs (flds k) (noRaw,⟨r.at_+1,0,r.spot⟩)).1 (rdFlds bs (flds k) (noRaw,⟨r.at_+1,0,r.spot⟩)).2.err:Nat):Int)∧(x=0→(⟨kd,f,t,u,tx,va,vb⟩:Sp.Node)=(rdFlds bs (flds k) (noRaw,⟨r.at_+1,0,r.spot⟩)).1.node k)∧r'=(rdFlds bs (flds k) (noRaw,⟨r.at_+1,0,r.spot⟩)).2 else x=70∧r'=⟨r.at_+1,0,r.spot⟩)∧RfS S w' a s bs r'∧Ext (·=a.block) w0 w') ?_
 unfold m_D
 intro p1 w1 n1
 have E1:Pure w0 w1:=Ext.new n1
 have B1:Box w1 p1 zNode 86:=Box.of_newA n1
 have b1:=n1.at_size
 have z1:=E1.size
 refine (c_rByte a s bs r w1 (h.pure E1) hat he).mono ?_
 rintro _ w2 ⟨_,rfl,rfl,hR2,X2⟩
 rw [hkk]
 have z2:=X2.size
 have dp:p1.block≠a.block∧¬ S p1.block:=⟨fun e=>by have:=hS _ (.inl e);omega,fun hh=>by have:=hS _ (.inr hh);omega⟩
 have N2:NdAt S w0 None w2 p1 a s bs ⟨r.at_+1,0,r.spot⟩:=⟨hR2,B1.ext X2 dp.1,fun b hb=>⟨id,by
  rcases hb with hb | hb | hb
  ·have:=hS b (.inl hb);omega
  ·have:=hS b (.inr hb);omega
  ·have:=B1.lt;omega⟩,(Ext.pure E1).trans X2,by simp only;omega,by omega,dp⟩
 have hwk:IntKind.i64.wrap (k:Int)=(k:Int):=wrap_id (by omega)
 refine ⟨_,rfl,X2.kept (fun b hb=>hb.elim),?_⟩
 rw [hwk]
 have hkN:((decide ((k:Int)<1)) || (decide ((k:Int)>9)))=!isKindN k:=by
  rw [Bool.eq_iff_iff];unfold isKindN;simp;omega
 rw [hkN]
 refine ⟨fun hc=>?_,fun hc=>?_⟩
 ·have hc:¬ isKindN k=true:=by simpa using hc
  intro H2 w5 hs5
  have N5:=N2.hst hs5
  refine ⟨fun j hj=>N5.box.canW (by simpa [zNode] using hj),(N5.vis _ (.inr (.inr rfl))).1,?_⟩
  rintro w6 e6
  have X:Ext (·=p1.block) w5 w6:=by rw [e6];exact Ext.storeRow _ _ _
  have B:Box w6 p1 [.int .i64 (k:Int),.int .i64 0,.int .i64 0,.int .u64 0,.string ⟨#[]⟩,.int .i64 0,.int .i64 0] 86:=by rw [e6];exact N5.box.store rfl
  refine ⟨_,_,_,_,_,_,_,B.row,_,by rw [if_neg hc];exact ⟨rfl,rfl⟩,N5.rd.ext X (fun b hb e=>?_),N5.ext.trans' X (fun j hj e=>by omega)⟩
  rcases hb with rfl | hb
  ·exact dp.1 e.symm
  ·exact dp.2 (e▸hb)
 ·have hc:isKindN k=true:=by simpa using hc
  have hk19:1≤k∧k≤9:=by unfold isKindN at hc;simpa using hc
  have hF:=rd_facts bs k hk19.1 hk19.2 ⟨r.at_+1,0,r.spot⟩
  have hop:=rdFlds_opt bs k hk19.1 hk19.2 (noRaw,⟨r.at_+1,0,r.spot⟩)
  have hP:NdP S w0 a s bs k i (fun kd f t u tx va vb x w'=>∃r':Rd,(if isKindN k=true then x=((nodeErr k i (rdFlds bs (flds k) (noRaw,⟨r.at_+1,0,r.spot⟩)).1 (rdFlds bs (flds k) (noRaw,⟨r.at_+1,0,r.spot⟩)).2.err:Nat):Int)∧(x=0→(⟨kd,f,t,u,tx,va,vb⟩:Sp.Node)=(rdFlds bs (flds k) (noRaw,⟨r.at_+1,0,r.spot⟩)).1.node k)∧r'=(rdFlds bs (flds k) (noRaw,⟨r.at_+1,0,r.spot⟩)).2 else x=70∧r'=⟨r.at_+1,0,r.spot⟩)∧RfS S w' a s bs r'∧Ext (·=a.block) w0 w') (rdFlds bs (flds k) (noRaw,⟨r.at_+1,0,r.spot⟩)) :=
   fun kd f t u tx va vb e w' g1 g2 g3 g4=>⟨_,by rw [if_pos hc];exact ⟨g1,g2,rfl⟩,g3,g4⟩
  generalize (fun (kd f t u:Int) (tx:ByteArray) (va vb x:Int) (w':World)=>∃r':Rd,(if isKindN k=true then x=((nodeErr k i (rdFlds bs (flds k) (noRaw,⟨r.at_+1,0,r.spot⟩)).1 (rdFlds bs (flds k) (noRaw,⟨r.at_+1,0,r.spot⟩)).2.err:Nat):Int)∧(x=0→(⟨kd,f,t,u,tx,va,vb⟩:Sp.Node)=(rdFlds bs (flds k) (noRaw,⟨r.at_+1,0,r.spot⟩)).1.node k)∧r'=(rdFlds bs (flds k) (noRaw,⟨r.at_+1,0,r.spot⟩)).2 else x=70∧r'=⟨r.at_+1,0,r.spot⟩)∧RfS S w' a s bs r'∧Ext (·=a.block) w0 w')=K at *
  rw [hop,show noRaw=⟨0,[],0,0,0,0,0⟩ from rfl] at hF hP
  refine ⟨fun hn H2 w7 hs7=>?_,fun hn H2 w7 hs7=>?_⟩
  ·rw [hn,stp_from] at hF hP
   exact (N2.hst hs7).num (fun w' h' w59 hs59=>c_nd1 k i hk19 hi (rNum bs ⟨r.at_+1,0,r.spot⟩).1 (h'.hst hs59) hF hP)
  ·rw [hn,stp_f] at hF hP
   exact c_nd1 k i hk19 hi 0 (N2.hst hs7) hF hP
end Go.Proofs
end
section
open Go Go.SE
namespace Go.Sp
open Go.Proofs
theorem make_find {L:Pool} (hW:Wf L) {n:Node} {i:Nat} (h:find L n=some i):make L n=((i:Int)+1,0,L):=by
 obtain ⟨hi,e⟩:=find_some h
 have hv:inP L ((i:Int)+1)=true:=inP_iff.2 ⟨by omega,by omega⟩
 have hn:nodeOf L ((i:Int)+1)=n:=by rw [nodeOf_lt hi,e]
 obtain ⟨_,c2,c3,_,c5,_⟩:=hW.node hv
 rw [hn] at c2 c3 c5
 have hR:Ren L L ((i:Int)+1) n:=by
  refine ⟨?_,?_,?_,?_,?_,fun k hk=>(c5 k hk).1,?_,c2,c3⟩ <;> rw [hn]
 exact hR.make_old hW hW hv hv rfl
theorem make_new {L:Pool} {n:Node} (h:find L n=none) (h0:(make L n).2.1=0):(make L n).2.2.length=L.length+1:=by
 have hc:=(make_node h0).2.2
 unfold make at h0 ⊢
 simp only [h] at h0 ⊢
 rw [if_neg (by rw [hc];simp)] at h0 ⊢
 split at h0
 ·simp at h0
 ·rename_i hf;rw [if_neg hf];simp
theorem inRow_ge:∀(l:List Int) (i:Nat),i≤inRow i l∧inRow i l≤i+l.length:=by
 intro l
 induction l with
 | nil=>intro i;simp [inRow]
 | cons s l ih =>
  intro i
  rw [inRow]
  split
  ·have:=ih (i+1);rw [List.length_cons];omega
  ·simp
theorem inRow_next:∀(l:List Int) (i j:Nat) (h:j<l.length),i+j≤inRow i l→l[j]=((i+j:Nat):Int)+1→i+j+1≤inRow i l:=by
 intro l
 induction l with
 | nil=>intro i j h;simp at h
 | cons s l ih =>
  intro i j h h1 h2
  rw [inRow] at h1 ⊢
  cases j with
  | zero =>
   simp only [List.getElem_cons_zero,Nat.add_zero] at h2
   rw [if_pos h2]
   have:=(inRow_ge l (i+1)).1;omega
  | succ j =>
   simp only [List.getElem_cons_succ] at h2
   split
   ·rename_i hs
    rw [if_pos hs] at h1
    have:=ih (i+1) j (by simpa using h) (by omega) (by rw [h2];congr 2;omega)
    omega
   ·rename_i hs;rw [if_neg hs] at h1;omega
end Go.Sp
namespace Go.Proofs
attribute [local irreducible] Calls CallsD
def RrOut (w0 w':World) (bs:List UInt8) (x:Option Addr):Prop :=
 (∀q,(rdText bs).1=some q→∃p F,x=some p∧PoolR w' p q F∧∀b,F b→w0.heap.size≤b)∧((rdText bs).1=none→x=none)
def RrV (a:Addr) (S FR:NP) (pl:Sl) (b:Nat):Prop:=FR b∨b=a.block∨S b∨pl.blk b
structure RrAt (w0:World) (H:NP) (w:World) (q a:Addr) (s:Sl) (bs:List UInt8) (L:Sp.Pool) (r:Rd) (S FR:NP) (ps:List Nat) (pl:Sl):Prop where
 pool:PoolR w q L FR
 rd:RfS S w a s bs r
 rows:Rws w 3 1 pl (tmr (ps.map Int.ofNat))
 pure:Pure w0 w
 own:∀b,RrV a S FR pl b→w0.heap.size≤b∧¬ H b
 lt:∀b,(b=a.block∨S b)→b<w.heap.size
 dR:∀b,FR b→b≠a.block∧¬ S b∧¬ pl.blk b
 dp:∀b,pl.blk b→b≠a.block∧¬ S b
theorem RrAt.vlt {w0 w:World} {H:NP} {q a:Addr} {s:Sl} {bs:List UInt8} {L:Sp.Pool} {r:Rd} {S FR:NP} {ps:List Nat} {pl:Sl} (h:RrAt w0 H w q a s bs L r S FR ps pl):∀b,RrV a S FR pl b→b<w.heap.size:=by
 rintro b (hb | hb | hb | hb)
 ·exact h.pool.lt hb
 ·exact h.lt b (.inl hb)
 ·exact h.lt b (.inr hb)
 ·exact h.rows.lt hb
theorem RrAt.hst {w0 w w':World} {H H':NP} {q a:Addr} {s:Sl} {bs:List UInt8} {L:Sp.Pool} {r:Rd} {S FR:NP} {ps:List Nat} {pl:Sl} (h:RrAt w0 H w q a s bs L r S FR ps pl) (hs:Hst w0 H w H' w'):RrAt w0 H' w' q a s bs L r S FR ps pl:=by
 have d:∀b,RrV a S FR pl b→¬ H' b:=hs.disj (fun b hb=>⟨h.vlt b hb,(h.own b hb).2⟩)
 exact ⟨h.pool.ext hs.ext (fun b hb=>d b (.inl hb)),h.rd.ext hs.ext (fun b hb=>d b (hb.elim (fun h=>.inr (.inl h)) (fun h=>.inr (.inr (.inl h))))),h.rows.ext hs.ext (fun b hb=>d b (.inr (.inr (.inr hb)))),h.pure.hst hs,fun b hb=>⟨(h.own b hb).1,d b hb⟩,fun b hb=>by have:=h.lt b hb;have:=hs.ext.size;omega,h.dR,h.dp⟩
theorem RrAt.pureE {w0 w w':World} {H:NP} {q a:Addr} {s:Sl} {bs:List UInt8} {L:Sp.Pool} {r:Rd} {S FR:NP} {ps:List Nat} {pl:Sl} (h:RrAt w0 H w q a s bs L r S FR ps pl) (E:Pure w w'):RrAt w0 H w' q a s bs L r S FR ps pl :=
 ⟨h.pool.pure E,h.rd.pure E,h.rows.pure E,h.pure.trans E,h.own,fun b hb=>by have:=h.lt b hb;have:=E.size;omega,h.dR,h.dp⟩
theorem c_rRead {S0 : NP} (sb : Sl) (bs : List UInt8) (w0 : World) (hs : Lst S0 w0 1 sb (byr bs)) :
  Calls Tryz.prog 11 #[sb.v] w0 (fun e w'=>∃x:Option Addr,∃y z:Int,e=.returned (.tuple #[.pointer x,.int .i64 y,.int .i64 z])∧(y=(rdText bs).2.1∧z=((rdText bs).2.2:Int)∧RrOut w0 w' bs x∧Pure w0 w')):=by
 refine w_T sb w0 (fun x y z w'=>y=(rdText bs).2.1∧z=((rdText bs).2.2:Int)∧RrOut w0 w' bs x∧Pure w0 w') ?_
 unfold m_T
 have hl:sb.len=bs.length:=by rw [hs.len,byr_len]
 have bad:∀(e:Int) (n:Nat) (w':World),rdText bs=(none,e,n)→Pure w0 w'→e=(rdText bs).2.1∧(n:Int)=((rdText bs).2.2:Int)∧RrOut w0 w' bs none∧Pure w0 w':=fun e n w' h E=>by
  rw [h];exact ⟨rfl,rfl,⟨fun q hq=>(by rw [h] at hq;cases hq),fun _=>rfl⟩,E⟩
 refine (c_ref05_New w0).mono ?_
 rintro _ w1 ⟨_,rfl,q,FR0,rfl,hP,E1,hFR⟩
 refine ⟨_,rfl,E1.keptP,fun hc=>?_,fun hc=>?_⟩
 ·have hc:4096<bs.length:=by have:=of_decide_eq_true hc;omega
  exact bad 1 0 w1 (by unfold rdText;rw [if_pos hc]) E1
 have hc:bs.length≤4096:=by have:=of_decide_eq_false hc;omega
 refine ⟨fun hc2=>?_,fun hc2=>?_⟩
 ·have hc2:bs.length=0:=by have:=beq_iff_eq.1 hc2;omega
  exact bad 3 0 w1 (by unfold rdText;rw [if_neg (by omega),if_pos hc2]) E1
 have hc2:bs.length≠0:=by have:=beq_eq_false_iff_ne.1 hc2;omega
 have htxt:rdText bs=rdGo bs bs.length [] ⟨0,0,0⟩ []:=by unfold rdText;rw [if_neg (by omega),if_neg hc2]
 refine (c_rNew sb bs w1 (hs.pure E1) (by omega)).mono ?_
 rintro _ w2 ⟨_,rfl,a,s,rfl,hR,E2,ha,hsb⟩
 refine ⟨_,rfl,E2.keptP,?_⟩
 have z1:=E1.size;have z2:=E2.size
 have la:a.block<w2.heap.size:=hR.box.lt
 have hnil:∀b,¬ Sl.nil.blk b:=fun b hb=>by obtain ⟨a,h,_⟩:=hb;cases h
 have R2:RrAt w0 None w2 q a s bs [] ⟨0,0,0⟩ s.blk FR0 [] Sl.nil :=
  ⟨hP.pure E2,hR,Rws.nil _ _ _,E1.trans E2,fun b hb=>⟨by
   rcases hb with hb | hb | hb | hb
   ·exact hFR b hb
   ·omega
   ·have:=hsb b hb;omega
   ·exact (hnil b hb).elim,id⟩,fun b hb=>hb.elim (fun h=>by omega) (fun h=>(hsb b h).2),fun b hb=>by have:=hP.lt hb;exact ⟨by omega,fun hh=>by have:=hsb b hh;omega,hnil b⟩,fun b hb=>(hnil b hb).elim⟩
 refine ⟨fun pl Hl w=>∃(L:Sp.Pool) (r:Rd) (ps:List Nat) (FR:NP) (n:Nat),RrAt w0 Hl w q a s bs L r s.blk FR ps pl∧Sp.Wf L∧ps.length=L.length∧ps.length≤r.at_∧r.at_≤bs.length∧r.err=0∧bs.length - r.at_≤n∧rdGo bs n L r ps=rdText bs,fun pl _=>bs.length+1 - pl.len,⟨[],⟨0,0,0⟩,[],FR0,bs.length,R2,Sp.Wf.nil,rfl,Nat.zero_le _,Nat.zero_le _,rfl,Nat.le_refl _,htxt.symm⟩,?_⟩
 rintro pl Hl wl hst ⟨L,r,ps,FR,n,hRe,hW,hps,hpr,hra,hre,hn,hgo⟩
 unfold m_T_l1
 have hpl:pl.len=ps.length:=by rw [hRe.rows.len,tmr_len,List.length_map]
 have hok:=hW.ok
 have hfew:=hok.few
 refine (c_rLeft a s bs r wl hRe.rd hra).mono ?_
 rintro _ w3 ⟨_,rfl,rfl,E3⟩
 have R3:=hRe.pureE E3
 have poolLen:∀{w:World} {L:Sp.Pool} {F:NP},PoolR w q L F→∃v:Sl,w.cell? q=some v.v∧v.len=L.length:=fun h=>by
  obtain ⟨sa,sb,sc,h,_⟩:=h
  exact ⟨sa,h.box.cell0,by rw [h.r1.len];simp⟩
 refine ⟨_,rfl,E3.keptP,fun hc3=>?_,fun hc3=>?_⟩
 ·have hlt:r.at_<bs.length:=by have:=of_decide_eq_true hc3;omega
  obtain ⟨n,rfl⟩:∃k,n=k+1:=⟨n - 1,by omega⟩
  rw [rdGo,if_pos hlt] at hgo
  obtain ⟨v2,hv2,hv2l⟩:=poolLen R3.pool
  refine ⟨a,rfl,_,R3.rd.atC,q,rfl,v2,hv2,?_⟩
  rw [hv2l]
  refine (c_rNode a s bs r L.length w3 R3.rd hlt hre (fun b hb=>R3.lt b hb) (by omega)).mono ?_
  rintro _ w4 ⟨kd,f,t,u,tx,va,vb,x,rfl,r',hx,hR4,X4⟩
  have hstep:=rdStep_eq bs L r hlt hre
  generalize bs[r.at_].toNat=k at *
  have z3:=E3.size;have z4:=X4.size
  have R4:RrAt w0 Hl w4 q a s bs L r' s.blk FR ps pl:=⟨R3.pool.ext X4 (fun b hb e=>(hRe.dR b hb).1 e),hR4,R3.rows.ext X4 (fun b hb e=>(hRe.dp b hb).1 e),R3.pure.trans' X4 (fun i hi e=>by have:=(hRe.own i (.inr (.inl e))).1;omega),hRe.own,fun b hb=>by have:=R3.lt b hb;omega,hRe.dR,hRe.dp⟩
  refine ⟨_,_,_,_,_,_,_,_,rfl,X4.kept (fun b hb e=>(hRe.own _ (.inr (.inl rfl))).2 (e▸hb)),fun hc4=>?_,fun hc4=>⟨q,rfl,?_⟩⟩
  ·have hx0:x≠0:=bne_iff_ne.1 hc4
   have he:(rdStep bs L r).2.1=x:=by
    rw [hstep]
    split at hx
    ·rename_i hk
     rw [if_pos hk]
     unfold rdIn
     rw [if_pos (by intro h0;apply hx0;rw [hx.1,h0];rfl)]
     exact hx.1.symm
    ·rename_i hk
     rw [if_neg hk];exact hx.1.symm
   intro H1 w6 hs6
   rw [if_pos (by rw [he];exact hx0),he] at hgo
   exact bad _ _ w6 hgo.symm (R4.hst hs6).pure
  ·have hx0:x=0:=by simpa using hc4
   have hk:isKindN k=true:=by
    by_cases hk:isKindN k=true
    ·exact hk
    ·rw [if_neg hk] at hx;rw [hx.1] at hx0;cases hx0
   rw [if_pos hk] at hx
   obtain ⟨hx1,hx2',hx3⟩:=hx
   have hx2:=hx2' hx0
   clear hx2'
   rw [if_pos hk] at hstep
   generalize rdFlds bs (flds k) (noRaw,⟨r.at_+1,0,r.spot⟩)=st at *
   obtain ⟨X,rX⟩:=st
   simp only at hx1 hx2 hx3
   subst hx3
   have hne:nodeErr k L.length X r'.err=0:=by omega
   have hin:rdIn L k (X,r')=(if (Sp.find L (X.node k)).isSome=true then (L,72,r') else ((Sp.make L (X.node k)).2.2,(Sp.make L (X.node k)).2.1,r')):=by
    unfold rdIn;simp only;rw [if_neg (by rw [hne];simp)]
   rw [hin,← hx2] at hstep
   intro H1 w6 hs6
   have R6:=R4.hst hs6
   obtain ⟨v3,hv3,hv3l⟩:=poolLen R6.pool
   refine ⟨v3,hv3,?_⟩
   refine (c_ref05_Make q ⟨kd,f,t,u,tx,va,vb⟩ w6 R6.pool hok).mono ?_
   rintro _ w7 ⟨r5,r6,rfl,he56,FR',hP7,X7,hF7⟩
   have he6:=congrArg Prod.snd he56
   simp only at he6
   have hH1:∀b,H1 b→b<w6.heap.size:=fun b hb=>hs6.lt b hb
   have z6:=hs6.ext.size
   have z7:=X7.size
   have hpure7:Pure w0 w7:=R6.pure.trans' X7 (fun i hi hb=>by have:=(hRe.own i (.inl hb)).1;omega)
   refine ⟨r5,r6,rfl,X7.kept (fun b hb hh=>(R6.own b (.inl hh)).2 hb),fun hc5=>?_,fun hc5=>⟨q,rfl,?_⟩⟩
   ·have h60:(Sp.make L ⟨kd,f,t,u,tx,va,vb⟩).2.1≠0:=by rw [← he6];exact bne_iff_ne.1 hc5
    have hfn:¬ (Sp.find L ⟨kd,f,t,u,tx,va,vb⟩).isSome=true:=fun hs=>by
     obtain ⟨i,hi⟩:=Option.isSome_iff_exists.1 hs
     rw [Sp.make_find hW hi] at h60;exact h60 rfl
    rw [if_neg hfn] at hstep
    rw [hstep] at hgo
    simp only at hgo
    rw [if_pos h60,← he6] at hgo
    exact bad _ _ w7 hgo.symm hpure7
   ·have h60:(Sp.make L ⟨kd,f,t,u,tx,va,vb⟩).2.1=0:=by rw [← he6];simpa using hc5
    obtain ⟨v4,hv4,hv4l⟩:=poolLen hP7
    refine ⟨v4,hv4,fun hc6=>?_,fun hc6=>?_⟩
    ·have hc6:(Sp.make L ⟨kd,f,t,u,tx,va,vb⟩).2.2.length=L.length:=by have:=beq_iff_eq.1 hc6;omega
     have hfs:(Sp.find L ⟨kd,f,t,u,tx,va,vb⟩).isSome=true:=by
      cases hf:Sp.find L ⟨kd,f,t,u,tx,va,vb⟩ with
      | some i=>rfl
      | none=>have:=Sp.make_new hf h60;omega
     rw [if_pos hfs] at hstep
     rw [hstep] at hgo
     simp only at hgo
     rw [if_pos (by decide)] at hgo
     exact bad 72 _ w7 hgo.symm hpure7
    ·have hc6:(Sp.make L ⟨kd,f,t,u,tx,va,vb⟩).2.2.length≠L.length:=by have:=beq_eq_false_iff_ne.1 hc6;omega
     have hfn:¬ (Sp.find L ⟨kd,f,t,u,tx,va,vb⟩).isSome=true:=fun hs=>by
      obtain ⟨i,hi⟩:=Option.isSome_iff_exists.1 hs
      rw [Sp.make_find hW hi] at hc6;exact hc6 rfl
     have hlen7:(Sp.make L ⟨kd,f,t,u,tx,va,vb⟩).2.2.length=L.length+1:=Sp.make_new (by simpa using hfn) h60
     rw [if_neg hfn] at hstep
     have hat:=rdStep_at bs L r hlt hre (by rw [hstep];exact h60)
     rw [hstep] at hgo hat
     simp only at hgo hat
     rw [if_neg (by simpa using h60)] at hgo
     have hW7:=Sp.make_wf hW ⟨kd,f,t,u,tx,va,vb⟩
     generalize Sp.make L ⟨kd,f,t,u,tx,va,vb⟩=mk at *
     intro p2 w8 n8
     have E8:Pure w7 w8:=Ext.new n8
     have b8:=n8.at_size
     have z8:=E8.size
     have hdr:∀b,FR' b→b≠a.block∧¬ s.blk b∧¬ pl.blk b:=fun b hb=>(hF7 b hb).elim (hRe.dR b) (fun h=>⟨by have:=R6.lt a.block (.inl rfl);omega,fun hh=>by have:=R6.lt b (.inr hh);omega,fun hh=>by have:=R6.rows.lt hh;omega⟩)
     have Rw8:=(R6.rows.ext X7 (fun b hb hh=>(hRe.dR b hh).2.2 hb)).pure E8
     obtain ⟨s1,w9,hr9,hR9,X9,hb9⟩:=Rw8.append (P:=Tryz.prog) (ty:=43) (c:=1) slT_int (Box.of_newA n8).row rfl rfl (by rw [tmr_len,List.length_map];omega) (by rw [tmr_len,List.length_map];simp only [maxLen];omega)
     have hpo:∀b,pl.blk b→w0.heap.size≤b∧¬ H1 b:=fun b hb=>R6.own b (.inr (.inr (.inr hb)))
     have hpure9:Pure w0 w9:=(hpure7.trans E8).trans' X9 (fun i hi hb=>by have:=(hpo i hb).1;omega)
     have z9:=X9.size
     refine ⟨s1,w9,hr9,X9.kept (fun b hb hh=>(hpo b hh).2 hb),⟨mk.2.2,r',ps++[r.at_],FR',n,⟨(hP7.pure E8).ext X9 (fun b hb hh=>(hdr b hb).2.2 hh),((R6.rd.ext X7 (fun b hb hh=>?_)).pure E8).ext X9 (fun b hb hh=>?_),?_,hpure9,fun b hb=>?_,fun b hb=>by have:=R6.lt b hb;omega,fun b hb=>⟨(hdr b hb).1,(hdr b hb).2.1,fun hh=>?_⟩,fun b hb=>?_⟩,hW7,by rw [List.length_append,List.length_singleton];omega,by rw [List.length_append,List.length_singleton];omega,hat.2.1,hat.2.2,by omega,hgo⟩,?_⟩
     ·rcases hb with hb | hb
      ·exact (hRe.dR b hh).1 hb
      ·exact (hRe.dR b hh).2.1 hb
     ·rcases hb with hb | hb
      ·exact (hRe.dp b hh).1 hb
      ·exact (hRe.dp b hh).2 hb
     ·have:tmr ((ps++[r.at_]).map Int.ofNat)=tmr (ps.map Int.ofNat)++[[.int .i64 (r.at_:Int)]]:=by simp [tmr]
      rw [this];exact hR9
     ·rcases hb with hb | hb | hb | hb
      ·rcases hF7 b hb with h | h
       ·exact R6.own b (.inl h)
       ·exact ⟨by have:=R6.pure.size;omega,fun hh=>by have:=hH1 b hh;omega⟩
      ·exact R6.own b (.inr (.inl hb))
      ·exact R6.own b (.inr (.inr (.inl hb)))
      ·rcases hb9 b hb with h | h
       ·exact hpo b h
       ·exact ⟨by have:=R6.pure.size;omega,fun hh=>by have:=hH1 b hh;omega⟩
     ·rcases hb9 b hh with h | h
      ·exact (hdr b hb).2.2 h
      ·have:=hP7.lt hb;omega
     ·rcases hb9 b hb with h | h
      ·exact hRe.dp b h
      ·exact ⟨by have:=R6.lt a.block (.inl rfl);omega,fun hh=>by have:=R6.lt b (.inr hh);omega⟩
     ·have h1:s1.len=ps.length+1:=by rw [hR9.len,List.length_append,tmr_len,List.length_map];rfl
      show bs.length+1 - s1.len<bs.length+1 - pl.len
      omega
 ·have hge:¬ r.at_<bs.length:=by have:=of_decide_eq_false hc3;omega
  rw [rdGo_end hge] at hgo
  obtain ⟨v5,hv5,hv5l⟩:=poolLen R3.pool
  refine ⟨q,rfl,v5,hv5,?_⟩
  rw [hv5l]
  refine (c_ref05_Subs q L.length w3 hW R3.pool).mono ?_
  rintro _ w10 ⟨r7,rfl,hr7⟩
  have R10:=R3.pureE hr7.pure
  refine ⟨r7,rfl,hr7.kept,?_⟩
  have hfew2:=Sp.subs_few hW L.length
  unfold rdEnd at hgo
  simp only at hgo
  have hw3:∀b,Hl b→b<w3.heap.size:=fun b hb=>by have:=hst.lt b hb;have:=E3.size;omega
  have o7:∀b,r7.blk b→¬ Hl b∧b<w10.heap.size:=fun b hb=>⟨fun hh=>by have:=hw3 b hh;have:=hr7.own b hb;omega,hr7.rows.lt hb⟩
  generalize Sp.subs L L.length=xs at *
  have hrow:=(Sp.inRow_ge xs 0).2
  refine ⟨fun i H w=>∃j:Nat,i=j∧j≤L.length∧j≤inRow 0 xs∧RrAt w0 H w q a s bs L r s.blk FR ps pl∧Rws w 30 1 r7 (tmr xs)∧(∀b,r7.blk b→¬ H b),fun i _=>((L.length:Int) - i).toNat,⟨0,rfl,Nat.zero_le _,Nat.zero_le _,R10,hr7.rows,fun b hb=>(o7 b hb).1⟩,?_⟩
  rintro _ H2 w2' hst2 ⟨j,rfl,hj,hjr,RL,hX,hv7⟩
  unfold m_T_l2
  obtain ⟨v6,hv6,hv6l⟩:=poolLen RL.pool
  have h7l:r7.len=xs.length:=by rw [hX.len,tmr_len]
  have tell:∀(h:j<ps.length) (w11:World),inRow 0 xs=j→Hst w0 H2 w2' H2 w11→∃a7:Addr,At pl j 1 a7∧∀(w11:World),Hst w0 H2 w2' H2 w11→∃v7:Int,w11.cell? a7=some (.int .i64 v7)∧(73=(rdText bs).2.1∧v7=((rdText bs).2.2:Int)∧RrOut w0 w11 bs none∧Pure w0 w11):=by
   intro h w hi _
   obtain ⟨a7,hat,_,hrw⟩:=tm_nth RL.rows.lst (j:=j) (by simpa using h)
   refine ⟨a7,hat,fun w11 hs11=>?_⟩
   have R11:=RL.hst hs11
   obtain ⟨a7',hat',_,hv'⟩:=tm_nth R11.rows.lst (j:=j) (by simpa using h)
   have:a7'=a7:=by
    obtain ⟨_,_,b1,hb1,rfl⟩:=hat
    obtain ⟨_,_,b2,hb2,rfl⟩:=hat'
    rw [hb1] at hb2;cases hb2;rfl
   subst this
   refine ⟨_,hv',?_⟩
   rw [List.getElem_map]
   have hlt:inRow 0 xs<ps.length:=by omega
   rw [dif_pos hlt] at hgo
   have he:ps[inRow 0 xs]=ps[j]:=by simp only [hi]
   rw [he] at hgo
   exact bad 73 _ w11 hgo.symm R11.pure
  refine ⟨q,rfl,v6,hv6,fun hc=>?_,fun hc=>?_⟩
  ·have hlt:j<L.length:=by have:=of_decide_eq_true hc;omega
   refine ⟨fun hc7=>?_,fun hc7=>?_⟩
   ·have hge7:xs.length≤j:=by have:=of_decide_eq_true hc7;omega
    exact tell (by omega) w2' (by omega) hst2.here
   ·have hlt7:j<xs.length:=by have:=of_decide_eq_false hc7;omega
    obtain ⟨a8,hat8,_,hv8⟩:=tm_nth hX.lst hlt7
    refine ⟨a8,hat8,_,hv8,?_⟩
    rw [wrap_succ hlt (by omega)]
    refine ⟨fun hc8=>?_,fun hc8=>?_⟩
    ·have hne:xs[j]≠((j+1:Nat):Int):=bne_iff_ne.1 hc8
     have hi:inRow 0 xs=j:=by
      rcases Nat.lt_or_ge j (inRow 0 xs) with h | h
      ·exfalso
       have:=(Sp.inRow_get xs 0 (inRow 0 xs) (by omega)).2 j hlt7 h
       apply hne;rw [this];omega
      ·omega
     exact tell (by omega) w2' hi hst2.here
    ·have heq:xs[j]=((j+1:Nat):Int):=by simpa using hc8
     exact ⟨⟨j+1,rfl,hlt,by have:=Sp.inRow_next xs 0 j hlt7 (by omega) (by rw [heq];omega);omega,RL,hX,hv7⟩,lt_dec hlt⟩
  ·have hge2:j=L.length:=by have:=of_decide_eq_false hc;omega
   have hlt:¬ inRow 0 xs<ps.length:=by omega
   rw [dif_neg hlt] at hgo
   rw [← hgo]
   exact ⟨rfl,rfl,⟨fun q' hq'=>by rw [← hgo] at hq';cases hq';exact ⟨q,FR,rfl,RL.pool,fun b hb=>(RL.own b (.inl hb)).1⟩,fun hn=>by rw [← hgo] at hn;cases hn⟩,RL.pure⟩
end Go.Proofs
end
section
open Go Go.SE
namespace Go.Sp
open Go.Proofs
theorem copyGo_own {Lq:Pool} {x:Int}:∀(l:List Int) (L:Pool) (own:Int→Int),x ∉ l→(copyGo Lq l L own).2.2 x=own x:=by
 intro l
 induction l with
 | nil=>intro L own _;rfl
 | cons z l ih =>
  intro L own h
  simp only [List.mem_cons,not_or] at h
  obtain ⟨y,e,L',hm⟩:∃y e L',make L { nodeOf Lq z with a:=own (nodeOf Lq z).a,b:=own (nodeOf Lq z).b }=(y,e,L'):=⟨_,_,_,rfl⟩
  rw [copyGo_cons Lq z l L own rfl hm]
  split
  ·rfl
  ·rw [ih _ _ h.2,if_neg h.1]
end Go.Sp
namespace Go.Proofs
attribute [local irreducible] Calls CallsD
structure CrAt (w0:World) (H:NP) (w:World) (p q:Addr) (Lc Lq:Sp.Pool) (s1 r2:Sl) (A xs:List Int) (FP F' FQ:NP):Prop where
 pp:PoolR w p Lc F'
 pq:PoolR w q Lq FQ
 at_:Rws w 30 1 s1 (tmr A)
 subs:Rws w 30 1 r2 (tmr xs)
 ext:Ext FP w0 w
 own:∀b,(F' b∨FQ b∨s1.blk b∨r2.blk b)→¬ H b
 oF:∀b,F' b→FP b∨w0.heap.size≤b
 oS:∀b,(s1.blk b∨r2.blk b)→w0.heap.size≤b
 dis:∀b,F' b→¬ FQ b∧¬ s1.blk b∧¬ r2.blk b
 dS:∀b,s1.blk b→¬ FQ b∧¬ r2.blk b
section
variable {w0 w w':World} {H H':NP} {p q:Addr} {Lc Lq:Sp.Pool} {s1 r2:Sl} {A xs:List Int} {FP F' FQ:NP}
theorem CrAt.vlt (h:CrAt w0 H w p q Lc Lq s1 r2 A xs FP F' FQ):∀b,(F' b∨FQ b∨s1.blk b∨r2.blk b)→b<w.heap.size:=by
 rintro b (hb | hb | hb | hb)
 ·exact h.pp.lt hb
 ·exact h.pq.lt hb
 ·exact h.at_.lt hb
 ·exact h.subs.lt hb
theorem CrAt.hst (h:CrAt w0 H w p q Lc Lq s1 r2 A xs FP F' FQ) (hs:Hst w0 H w H' w'):CrAt w0 H' w' p q Lc Lq s1 r2 A xs FP F' FQ:=by
 have d:=hs.disj (fun b hb=>⟨h.vlt b hb,h.own b hb⟩)
 exact ⟨h.pp.ext hs.ext (fun b hb=>d b (.inl hb)),h.pq.ext hs.ext (fun b hb=>d b (.inr (.inl hb))),h.at_.ext hs.ext (fun b hb=>d b (.inr (.inr (.inl hb)))),h.subs.ext hs.ext (fun b hb=>d b (.inr (.inr (.inr hb)))),h.ext.hst hs,d,h.oF,h.oS,h.dis,h.dS⟩
end
theorem c_ref05_Copy (p q : Addr) (t : Int) (w0 : World) {L Lq : Sp.Pool} {FP FQ : NP} (hW : Sp.Wf L) (hQ : Sp.Wf Lq) (hP : PoolR w0 p L FP) (hPQ : PoolR w0 q Lq FQ) (hd : ∀ b, FP b → ¬ FQ b) :
  Calls Tryz.prog 37 #[.pointer (some p),.pointer (some q),.int .i64 t] w0 (fun e w'=>∃r1 r2:Int,e=.returned (.tuple #[.int .i64 r1,.int .i64 r2])∧(r1=(copyS L Lq t).1∧r2=(copyS L Lq t).2.1∧∃F',PoolR w' p (copyS L Lq t).2.2 F'∧Ext FP w0 w'∧∀b,F' b→FP b∨w0.heap.size≤b)):=by
 refine w_K _ _ _ w0 (fun r1 r2 w'=>r1=(copyS L Lq t).1∧r2=(copyS L Lq t).2.1∧∃F',PoolR w' p (copyS L Lq t).2.2 F'∧Ext FP w0 w'∧∀b,F' b→FP b∨w0.heap.size≤b) ?_
 unfold m_K
 refine (c_ref05_In q t w0 hPQ).mono ?_
 rintro _ w1 ⟨_,rfl,rfl,rfl⟩
 refine ⟨_,rfl,Kept.refl _,fun hc=>?_,fun hc=>?_⟩
 ·have hin:Sp.inP Lq t=false:=by simpa using hc
  have e:copyS L Lq t=(0,51,L):=by unfold copyS;rw [if_neg (by rw [hin];simp)]
  rw [e]
  exact ⟨rfl,rfl,FP,hP,Ext.refl _,fun b hb=>.inl hb⟩
 have hin:Sp.inP Lq t=true:=by simpa using hc
 refine (c_ref05_Subs q t w1 hQ hPQ).mono ?_
 rintro _ w2 ⟨r2,rfl,hr2⟩
 have E2:=hr2.pure
 have z2:=E2.size
 have poolLen:∀{w:World} {a:Addr} {L:Sp.Pool} {F:NP},PoolR w a L F→∃v:Sl,w.cell? a=some v.v∧v.len=L.length:=fun h=>by
  obtain ⟨sa,sb,sc,h,_⟩:=h
  exact ⟨sa,h.box.cell0,by rw [h.r1.len];simp⟩
 obtain ⟨v1,hv1,hv1l⟩:=poolLen (hPQ.pure E2)
 have hLq:=hQ.ok.few
 refine ⟨r2,rfl,E2.keptP,q,rfl,v1,hv1,?_⟩
 rw [hv1l,show IntKind.i64.wrap ((Lq.length:Int)+1)=((Lq.length+1:Nat):Int) by rw [i64 (by omega) (by omega)];omega]
 obtain ⟨w3, hmk, hR3, E3⟩ := Rws.make (P := Tryz.prog) slT_tm (zr := [.int .i64 0]) (fun i z hi hz => by
   have h1:Tryz.prog.info? 30=some Tryz.t30:=by kernel_rfl
   rw [h1] at hi;cases hi
   have h2:Tryz.t30.zero=some (.int .i64 0):=by kernel_rfl
   rw [h2] at hz;cases hz;rfl) (k:=.i64) (k':=.i64) (n:=Lq.length+1) (by omega) (by simp only [maxLen];omega) w2
 refine ⟨_,w3,hmk,E3.keptP,?_⟩
 generalize hs1e:(Sl.mk (some ⟨w2.heap.size,0,none⟩) (Lq.length+1) (Lq.length+1))=s1 at *
 have hs1b:∀x,s1.blk x→x=w2.heap.size:=fun x hx=>by subst hs1e;obtain ⟨a,ha,rfl⟩:=hx;cases ha;rfl
 have hrep:List.replicate (Lq.length+1) [Value.int .i64 0]=tmr (List.replicate (Lq.length+1) 0):=by simp [tmr]
 rw [hrep] at hR3
 have z3:=E3.size
 have P3:=(hP.pure E2).pure E3
 obtain ⟨v2,hv2,hv2l⟩:=poolLen P3
 refine ⟨p,rfl,v2,hv2,?_⟩
 have hfew:=Sp.subs_few hQ t
 have hsub:∀u∈Sp.subs Lq t,Sp.inP Lq u=true:=fun u hu=>subs_in hQ hu
 have hnd:=Sp.subs_nodup hQ t
 have htin:t∈Sp.subs Lq t:=self_sub hQ hin
 generalize hcs:copyS L Lq t=cs at *
 have hcs':cs=if (copyGo Lq (Sp.subs Lq t) L (fun _=>0)).2.1≠0 then (0,(copyGo Lq (Sp.subs Lq t) L (fun _=>0)).2.1,L) else ((copyGo Lq (Sp.subs Lq t) L (fun _=>0)).2.2 t,0,(copyGo Lq (Sp.subs Lq t) L (fun _=>0)).1):=by rw [← hcs];unfold copyS;rw [if_pos hin]
 generalize Sp.subs Lq t=xs at *
 have h00:copyGo Lq (xs.take 0) L (fun _=>0)=(L,0,fun _=>0):=by rw [List.take_zero];rfl
 have C3:CrAt w1 None w3 p q L Lq s1 r2 (List.replicate (Lq.length+1) 0) xs FP FP FQ:=⟨P3,(hPQ.pure E2).pure E3,hR3,hr2.rows.pure E3,Ext.pure (E2.trans E3),fun _ _ h=>h,fun b hb=>.inl hb,fun b hb=>hb.elim (fun h=>by have:=hs1b b h;omega) (hr2.own b),fun b hb=>⟨hd b hb,fun hh=>by have:=hs1b b hh;have:=hP.lt hb;omega,fun hh=>by have:=hr2.own b hh;have:=hP.lt hb;omega⟩,fun b hb=>⟨fun hh=>by have:=hs1b b hb;have:=hPQ.lt hh;omega,fun hh=>by have:=hs1b b hb;have:=hr2.rows.lt hh;omega⟩⟩
 refine ⟨fun i H w=>∃(j:Nat) (A:List Int) (F':NP),i=j∧j≤xs.length∧(copyGo Lq (xs.take j) L (fun _=>0)).2.1=0∧A.length=Lq.length+1∧(∀x:Nat,x≤Lq.length→A[x]?=some ((copyGo Lq (xs.take j) L (fun _=>0)).2.2 (x:Int)))∧CrAt w1 H w p q (copyGo Lq (xs.take j) L (fun _=>0)).1 Lq s1 r2 A xs FP F' FQ,fun i _=>((xs.length:Int) - i).toNat,⟨0,List.replicate (Lq.length+1) 0,FP,rfl,Nat.zero_le _,by rw [h00],by rw [List.length_replicate],fun x hx=>by rw [h00,List.getElem?_replicate,if_pos (by omega)],by rw [h00];exact C3⟩,?_⟩
 rintro _ Hl wl hst ⟨j,A,F',rfl,hj,h0,hAl,hA,hC⟩
 unfold m_K_l1
 have hlen:r2.len=xs.length:=by rw [hC.subs.len,tmr_len]
 refine ⟨fun hc=>?_,fun hc=>?_⟩
 ·have hc:=lt_of_dec hlen hc
  have hzin:=hsub xs[j] (List.getElem_mem _)
  have hz:=Sp.inP_iff.1 hzin
  have htk:xs.take (j+1)=xs.take j++[xs[j]]:=List.take_succ_eq_append_getElem hc
  have hsplit:xs=xs.take j++xs[j] :: xs.drop (j+1):=by rw [← List.drop_eq_getElem_cons hc,List.take_append_drop]
  obtain ⟨a4,hat4,_,hv4⟩:=tm_nth hC.subs.lst hc
  obtain ⟨v3,a5,hv3,hFq,hat5,hrow5,hF5⟩:∃(v3:Sl) (a5:Addr),wl.cell? q=some v3.v∧FQ q.block∧At v3 (IntKind.i64.wrap (xs[j] - 1)) 7 a5∧Row wl a5 (nrow (Sp.nodeOf Lq xs[j]))∧FQ a5.block:=by
   obtain ⟨sa,sb,sc,h,hF⟩:=hC.pq
   obtain ⟨e,he,⟨a,g1,g2⟩,_⟩:=h.at1 hzin hQ.ok
   refine ⟨sa,a,h.box.cell0,(hF _).2 (.inl rfl),g1,?_,(hF _).2 (.inr (.inl (at_blk g1)))⟩
   have:Sp.nodeOf Lq xs[j]=e.node:=by simp only [Sp.nodeOf,he,Option.map_some,Option.getD_some]
   rw [this];exact g2
  obtain ⟨_,c2,c3,_,c5,_⟩:=hQ.node hzin
  have kid:∀y:Int,(y=(Sp.nodeOf Lq xs[j]).a∨y=(Sp.nodeOf Lq xs[j]).b)→y=0∨(1≤y∧y≤Lq.length):=by
   intro y hy
   rcases Sp.kids_le (Sp.nodeOf Lq xs[j]).kind with e | e | e
   ·have:=c2 (by omega);have:=c3 (by omega);left;rcases hy with h | h <;> omega
   ·have hb:=c3 (by omega)
    rcases hy with h | h
    ·right
     have:=(c5 y (by unfold Sp.kidsOf;rw [e,h];simp)).1
     exact Sp.inP_iff.1 this
    ·left;omega
   ·right
    have:=(c5 y (by unfold Sp.kidsOf;rw [e];rcases hy with h | h <;> simp [h])).1
    exact Sp.inP_iff.1 this
  have hz0:(copyGo Lq (xs.take j) L (fun _=>0)).2.2 0=0:=Sp.copyGo_own _ _ _ (fun h=>by have:=Sp.inP_iff.1 (hsub 0 (List.mem_of_mem_take h));omega)
  have hfail:=fun n=>@Sp.copyGo_fail Lq (xs.take j) (xs.drop (j+1)) xs[j] L (fun _=>0) h0 n
  have hnext:=fun n=>@Sp.copyGo_next Lq (xs.take j) xs[j] L (fun _=>0) h0 n
  have hgrow:=Sp.copyGo_grows Lq (xs.take j) L (fun _=>0)
  have hwc:=Sp.copyGo_wf (Lq:=Lq) (xs.take j) L (fun _=>0) hW
  rw [← htk] at hnext
  rw [← hsplit] at hfail
  generalize hnz:Sp.nodeOf Lq xs[j]=n at *
  generalize xs[j]=z at *
  generalize copyGo Lq (xs.take j) L (fun _=>0)=cg at *
  have rdA:∀(y:Int),1≤y→y≤Lq.length→∀{H:NP} {w:World} {F':NP},CrAt w1 H w p q cg.1 Lq s1 r2 A xs FP F' FQ→∃a9:Addr,At s1 y 1 a9∧s1.blk a9.block∧w.cell? a9=some (.int .i64 (cg.2.2 y)):=by
   intro y h1 h2 H w F' h
   have hy:((y.toNat:Nat):Int)=y:=by omega
   have hlt:y.toNat<A.length:=by omega
   obtain ⟨a9,g1,_,g3⟩:=tm_nth h.at_.lst hlt
   have hAy:=hA y.toNat (by omega)
   rw [List.getElem?_eq_getElem hlt,hy] at hAy
   have hAy:=Option.some.inj hAy
   rw [hy] at g1
   exact ⟨a9,g1,at_blk g1,by rw [g3,hAy]⟩
  have kH:=hC.own
  refine ⟨q,rfl,v3,hv3,kH _ (.inr (.inl hFq)),a4,hat4,z,hv4,kH _ (.inr (.inr (.inr (at_blk hat4)))),a5,hat5,n.kind,n.frm,n.to,n.num,n.text,n.a,n.b,hrow5,kH _ (.inr (.inl hF5)),?_⟩
  have hnn:({ n with a:=cg.2.2 n.a,b:=cg.2.2 n.b }:Sp.Node)=⟨n.kind,n.frm,n.to,n.num,n.text,cg.2.2 n.a,cg.2.2 n.b⟩:=rfl
  have j3 : ∀ (va vb : Int) (H : NP) (w : World), va = cg.2.2 n.a → vb = cg.2.2 n.b → Hst w1 H w H w → CrAt w1 H w p q cg.1 Lq s1 r2 A xs FP F' FQ →
    m_K_j3 (some p) r2 s1 v2 j n.kind n.frm n.to n.num n.text va vb H w (fun y'0 H' w'=>(∃(j:Nat) (A:List Int) (F':NP),y'0=j∧j≤xs.length∧(copyGo Lq (xs.take j) L (fun _=>0)).2.1=0∧A.length=Lq.length+1∧(∀x:Nat,x≤Lq.length→A[x]?=some ((copyGo Lq (xs.take j) L (fun _=>0)).2.2 (x:Int)))∧CrAt w1 H' w' p q (copyGo Lq (xs.take j) L (fun _=>0)).1 Lq s1 r2 A xs FP F' FQ)∧((xs.length:Int) - y'0).toNat<((xs.length:Int) - (j:Int)).toNat) (fun r1 r2 w'=>r1=cs.1∧r2=cs.2.1∧∃F',PoolR w' p cs.2.2 F'∧Ext FP w1 w'∧∀b,F' b→FP b∨w1.heap.size≤b):=by
   rintro va vb H w rfl rfl hsw h
   unfold m_K_j3
   refine (c_ref05_Make p ⟨n.kind,n.frm,n.to,n.num,n.text,cg.2.2 n.a,cg.2.2 n.b⟩ w h.pp hwc.ok).mono ?_
   rintro _ w10 ⟨r3,r4,rfl,he,F2,hP2,X10,hF2⟩
   have he1:=congrArg Prod.fst he
   have he2:=congrArg Prod.snd he
   simp only at he1 he2
   have hHlt:∀b,H b→b<w.heap.size:=fun b hb=>hsw.lt b hb
   have z10:=X10.size
   have zw:=h.ext.size
   have C10:CrAt w1 H w10 p q (Sp.make cg.1 ⟨n.kind,n.frm,n.to,n.num,n.text,cg.2.2 n.a,cg.2.2 n.b⟩).2.2 Lq s1 r2 A xs FP F2 FQ :=
    ⟨hP2,h.pq.ext X10 (fun b hb hh=>(h.dis b hh).1 hb),h.at_.ext X10 (fun b hb hh=>(h.dis b hh).2.1 hb),h.subs.ext X10 (fun b hb hh=>(h.dis b hh).2.2 hb),h.ext.trans' X10 (fun i hi hh=>(h.oF i hh).elim id (fun h=>by omega)),fun b hb=>by
     rcases hb with hb | hb
     ·exact (hF2 b hb).elim (fun h1=>h.own b (.inl h1)) (fun h1 hh=>by have:=hHlt b hh;omega)
     ·exact h.own b (.inr hb),fun b hb=>(hF2 b hb).elim (h.oF b) (fun h1=>.inr (by omega)),h.oS,fun b hb=>(hF2 b hb).elim (h.dis b) (fun h1=>⟨fun hh=>by have:=h.pq.lt hh;omega,fun hh=>by have:=h.at_.lt hh;omega,fun hh=>by have:=h.subs.lt hh;omega⟩),h.dS⟩
   refine ⟨r3,r4,rfl,X10.kept (fun b hb hh=>h.own b (.inl hh) hb),fun hc4=>?_,fun hc4=>?_⟩
   ·have h5:(Sp.make cg.1 ⟨n.kind,n.frm,n.to,n.num,n.text,cg.2.2 n.a,cg.2.2 n.b⟩).2.1≠0:=by rw [← he2];exact bne_iff_ne.1 hc4
    have hf:=hfail _ hnn h5
    rw [← he2] at hf
    have hcs2:cs=(0,r4,L):=by rw [hcs',hf,if_pos (by rw [he2];exact h5)]
    obtain ⟨Mg,hMg⟩:=hgrow
    obtain ⟨M2,hM2⟩:=Sp.make_app cg.1 ⟨n.kind,n.frm,n.to,n.num,n.text,cg.2.2 n.a,cg.2.2 n.b⟩
    rw [hM2,hMg,List.append_assoc] at hP2
    rw [hv2l]
    refine (c_ref05_cut p L.length w10 hP2 (by rw [List.length_append];omega)).mono ?_
    rintro _ w11 ⟨rfl,hP3,X11⟩
    rw [List.take_left] at hP3
    refine ⟨rfl,X11.kept (fun b hb hh=>C10.own b (.inl hh) hb),?_⟩
    rw [hcs2]
    exact ⟨rfl,rfl,F2,hP3,C10.ext.trans' X11 (fun i hi hh=>(C10.oF i hh).elim id (fun h=>by omega)),C10.oF⟩
   ·have h5:(Sp.make cg.1 ⟨n.kind,n.frm,n.to,n.num,n.text,cg.2.2 n.a,cg.2.2 n.b⟩).2.1=0:=by rw [← he2];simpa using hc4
    have hn:=hnext _ hnn h5
    rw [← he1] at hn
    obtain ⟨a6,hat6,_,hv6⟩:=tm_nth C10.subs.lst hc
    have hv6':w10.cell? a6=some (.int .i64 z):=by
     have:a6=a4:=by
      obtain ⟨_,_,b1,hb1,rfl⟩:=hat6
      obtain ⟨_,_,b2,hb2,rfl⟩:=hat4
      rw [hb1] at hb2;cases hb2;rfl
     subst this
     obtain ⟨a6',hat6',_,hv6''⟩:=tm_nth hC.subs.lst hc
     have:a6'=a6:=by
      obtain ⟨_,_,b1,hb1,rfl⟩:=hat6'
      obtain ⟨_,_,b2,hb2,rfl⟩:=hat6
      rw [hb1] at hb2;cases hb2;rfl
     subst this
     rw [hv4] at hv6''
     rw [hv6];exact hv6''.symm
    obtain ⟨a7,hat7,hb7,hw7,hset⟩:=tmr_put C10.at_ (k:=z) (j:=z.toNat) (by omega) (by omega)
    refine ⟨a6,hat6,z,hv6',a7,hat7,hw7,C10.own _ (.inr (.inr (.inl hb7))),?_⟩
    rintro w12 e12
    obtain ⟨hA12,X12⟩:=hset r3
    rw [← e12] at hA12 X12
    refine ⟨⟨j+1,A.set z.toNat r3,F2,wrap_succ hc (by omega),hc,by rw [hn],by rw [List.length_set];exact hAl,fun x hx=>?_,?_⟩,by rw [wrap_succ hc (by omega)];exact lt_dec hc⟩
    ·rw [hn]
     simp only
     by_cases e:(x:Int)=z
     ·rw [if_pos e,show z.toNat=x by omega,List.getElem?_set_self (by omega)]
     ·rw [if_neg e,List.getElem?_set_ne (by omega)];exact hA x hx
    ·rw [hn]
     exact ⟨C10.pp.ext X12 (fun b hb hh=>(C10.dis b hb).2.1 hh),C10.pq.ext X12 (fun b hb hh=>(C10.dS b hh).1 hb),hA12,C10.subs.ext X12 (fun b hb hh=>(C10.dS b hh).2 hb),C10.ext.trans' X12 (fun i hi hh=>by have:=C10.oS i (.inl hh);omega),C10.own,C10.oF,C10.oS,C10.dis,C10.dS⟩
  have j2 : ∀ (va : Int) (H : NP) (w : World), va = cg.2.2 n.a → Hst w1 H w H w → CrAt w1 H w p q cg.1 Lq s1 r2 A xs FP F' FQ →
    m_K_j2 (some p) r2 s1 v2 j n.kind n.frm n.to n.num n.text va n.b w1 H w (fun y'0 H' w'=>(∃(j:Nat) (A:List Int) (F':NP),y'0=j∧j≤xs.length∧(copyGo Lq (xs.take j) L (fun _=>0)).2.1=0∧A.length=Lq.length+1∧(∀x:Nat,x≤Lq.length→A[x]?=some ((copyGo Lq (xs.take j) L (fun _=>0)).2.2 (x:Int)))∧CrAt w1 H' w' p q (copyGo Lq (xs.take j) L (fun _=>0)).1 Lq s1 r2 A xs FP F' FQ)∧((xs.length:Int) - y'0).toNat<((xs.length:Int) - (j:Int)).toNat) (fun r1 r2 w'=>r1=cs.1∧r2=cs.2.1∧∃F',PoolR w' p cs.2.2 F'∧Ext FP w1 w'∧∀b,F' b→FP b∨w1.heap.size≤b):=by
   rintro va H w hva hsw h
   unfold m_K_j2
   refine ⟨fun hc=>?_,fun hc=>?_⟩
   ·have hb:=(kid n.b (.inr rfl)).resolve_left (fun e=>by have:=of_decide_eq_true hc;omega)
    obtain ⟨a8,g1,g2,g3⟩:=rdA n.b hb.1 hb.2 h
    exact ⟨a8,g1,_,g3,fun w13 hs13=>j3 va _ H w13 hva rfl hs13.here (h.hst hs13)⟩
   ·have hb:n.b=0:=(kid n.b (.inr rfl)).resolve_right (fun e=>by have:=of_decide_eq_false hc;omega)
    exact j3 va n.b H w hva (by rw [hb,hz0]) hsw h
  refine ⟨fun hc2=>?_,fun hc2=>?_⟩
  ·have ha:=(kid n.a (.inl rfl)).resolve_left (fun e=>by have:=of_decide_eq_true hc2;omega)
   obtain ⟨a9,g1,g2,g3⟩:=rdA n.a ha.1 ha.2 hC
   refine ⟨a9,g1,fun H2 w7 hs7=>?_⟩
   have h7:=hC.hst hs7
   obtain ⟨a9',g1',_,g3'⟩:=rdA n.a ha.1 ha.2 h7
   have:a9'=a9:=by
    obtain ⟨_,_,b1,hb1,rfl⟩:=g1'
    obtain ⟨_,_,b2,hb2,rfl⟩:=g1
    rw [hb1] at hb2;cases hb2;rfl
   subst this
   exact ⟨_,g3',fun w14 hs14=>j2 _ H2 w14 rfl hs14.here (h7.hst hs14)⟩
  ·have ha:n.a=0:=(kid n.a (.inl rfl)).resolve_right (fun e=>by have:=of_decide_eq_false hc2;omega)
   exact fun H2 w7 hs7=>j2 n.a H2 w7 (by rw [ha,hz0]) hs7.here (hC.hst hs7)
 ·have hc:=eq_of_dec hlen hj hc
  subst hc
  rw [List.take_length] at h0 hA hC
  have ht:=Sp.inP_iff.1 hin
  have hlt:t.toNat<A.length:=by omega
  obtain ⟨a10,g1,_,g3⟩:=tm_nth hC.at_.lst hlt
  have hAt:=hA t.toNat (by omega)
  rw [List.getElem?_eq_getElem hlt] at hAt
  have ht2:((t.toNat:Nat):Int)=t:=by omega
  rw [ht2] at hAt g1
  have hAt:=Option.some.inj hAt
  refine ⟨a10,g1,_,g3,?_⟩
  rw [hcs',if_neg (by rw [h0];exact fun h=>h rfl)]
  exact ⟨hAt,rfl,F',hC.pp,hC.ext,hC.oF⟩
end Go.Proofs
end
section
namespace Go.Sp
theorem make_few8 (L:Pool) (n:Node):(make L n).2.2.length≤L.length+1:=by
 rcases make_pool L n with e | ⟨_,e⟩ <;> rw [e] <;> simp
theorem grow_few8 (t:Tree):∀L,(grow L t).2.2.length≤L.length+cnt t:=by
 induction t using Tree.ind with
 | h k f t u x ks ih =>
  have:∀(ks:List Tree),(∀i (hi:i<ks.length),∀L,(grow L ks[i]).2.2.length≤L.length+cnt ks[i])→∀n i L,(growAll n i L ks).2.2.length≤L.length+1+cntAll ks:=by
   intro ks
   induction ks with
   | nil=>intro _ n i L;unfold growAll;have:=make_few8 L n;simp only [cntAll];omega
   | cons t ts iht =>
    intro hh n i L
    have h0:=hh 0 (by simp) L
    simp only [List.getElem_cons_zero] at h0
    unfold growAll
    simp only [cntAll]
    split
    ·simp only;omega
    ·have:=iht (fun i hi=>hh (i+1) (by simpa using hi)) (if i=0 then { n with a:=(grow L t).1 } else { n with b:=(grow L t).1 }) (i+1) (grow L t).2.2
     omega
  intro L
  have:=this ks ih ⟨k,f,t,u,x,0,0⟩ 0 L
  unfold grow
  rw [cnt];omega
theorem of_few8 (L:Pool) (t:Tree):(of L t).2.2.length≤L.length+cnt t:=by
 have:=grow_few8 t L
 unfold of
 split
 ·simp only;omega
 ·split
  ·simp only;omega
  ·exact this
end Go.Sp
end
section
open Go Go.SE
namespace Go.Sp
def poolOf (ts:List Tree):Pool:=ts.foldl (fun L t=>(of L t).2.2) []
theorem poolOf_ok (ts:List Tree):Wf (poolOf ts)∧(poolOf ts).length≤cntAll ts:=by
 have:∀(ts:List Tree) L,Wf L→Wf (ts.foldl (fun L t=>(of L t).2.2) L)∧(ts.foldl (fun L t=>(of L t).2.2) L).length≤L.length+cntAll ts:=by
  intro ts
  induction ts with
  | nil=>intro L h;exact ⟨h,by simp [cntAll]⟩
  | cons t ts ih =>
   intro L h
   obtain ⟨h1,h2⟩:=ih _ (of_wf h t)
   have:=of_few8 L t
   exact ⟨h1,by rw [List.foldl_cons,cntAll];omega⟩
 obtain ⟨h1,h2⟩:=this ts [] Wf.nil
 exact ⟨h1,by unfold poolOf;simpa using h2⟩
end Go.Sp
namespace Go.Proofs
attribute [local irreducible] Calls
structure Pl2 (w0:World) (H:NP) (w:World) (p q:Addr) (L1 L2:Sp.Pool) (F1 F2:NP):Prop where
 pure:Pure w0 w
 pool:PoolAt w p L1 F1
 ref:PoolR w q L2 F2
 o1:∀b,F1 b→w0.heap.size≤b∧¬ H b∧¬ F2 b
 o2:∀b,F2 b→w0.heap.size≤b∧¬ H b
section
variable {w0 w w':World} {H H':NP} {p q:Addr} {L1 L2:Sp.Pool} {F1 F2:NP}
theorem Pl2.pureE (h:Pl2 w0 H w p q L1 L2 F1 F2) (E:Pure w w'):Pl2 w0 H w' p q L1 L2 F1 F2:=⟨h.pure.trans E,h.pool.pure E,h.ref.pure E,h.o1,h.o2⟩
theorem Pl2.first (h:Pl2 w H w' p q L1 L2 F1 F2) (E:Pure w0 w):Pl2 w0 H w' p q L1 L2 F1 F2 :=
 ⟨E.trans h.pure,h.pool,h.ref,fun b hb=>⟨Nat.le_trans E.size (h.o1 b hb).1,(h.o1 b hb).2⟩,fun b hb=>⟨Nat.le_trans E.size (h.o2 b hb).1,(h.o2 b hb).2⟩⟩
theorem Pl2.hst (h:Pl2 w0 H w p q L1 L2 F1 F2) (hs:Hst w0 H w H' w'):Pl2 w0 H' w' p q L1 L2 F1 F2:=by
 have d:∀b,b<w.heap.size→¬ H b→¬ H' b:=fun b h1 h2=>hs.disj (G:=(·=b)) (fun c e=>by subst e;exact ⟨h1,h2⟩) b rfl
 have d1:∀b,F1 b→¬ H' b:=fun b hb=>d b (h.pool.lt hb) (h.o1 b hb).2.1
 have d2:∀b,F2 b→¬ H' b:=fun b hb=>d b (h.ref.lt hb) (h.o2 b hb).2
 exact ⟨h.pure.hst hs,h.pool.ext hs.ext d1,h.ref.ext hs.ext d2,fun b hb=>⟨(h.o1 b hb).1,d1 b hb,(h.o1 b hb).2.2⟩,fun b hb=>⟨(h.o2 b hb).1,d2 b hb⟩⟩
theorem Pl2.of1 (h:Pl2 w0 H w p q L1 L2 F1 F2) (hH:∀b,H b→b<w.heap.size) {L:Sp.Pool} {F:NP} (hP:PoolAt w' p L F) (hE:Ext F1 w w') (hF:∀b,F b→F1 b∨w.heap.size≤b):Pl2 w0 H w' p q L L2 F F2:=by
 refine ⟨h.pure.trans' hE (fun i hi hb=>by have:=(h.o1 i hb).1;omega),hP,h.ref.ext hE (fun b hb h1=>(h.o1 b h1).2.2 hb),fun b hb=>?_,h.o2⟩
 rcases hF b hb with h1 | h1
 ·exact h.o1 b h1
 ·exact ⟨by have:=h.pure.size;omega,fun hh=>by have:=hH b hh;omega,fun hh=>by have:=h.ref.lt hh;omega⟩
theorem Pl2.of2 (h:Pl2 w0 H w p q L1 L2 F1 F2) (hH:∀b,H b→b<w.heap.size) {L:Sp.Pool} {F:NP} (hP:PoolR w' q L F) (hE:Ext F2 w w') (hF:∀b,F b→F2 b∨w.heap.size≤b):Pl2 w0 H w' p q L1 L F1 F:=by
 refine ⟨h.pure.trans' hE (fun i hi hb=>by have:=(h.o2 i hb).1;omega),h.pool.ext hE (fun b hb h1=>(h.o1 b hb).2.2 h1),hP,fun b hb=>⟨(h.o1 b hb).1,(h.o1 b hb).2.1,fun hh=>?_⟩,fun b hb=>?_⟩
 ·rcases hF b hh with h1 | h1
  ·exact (h.o1 b hb).2.2 h1
  ·have:=h.pool.lt hb;omega
 ·rcases hF b hb with h1 | h1
  ·exact h.o2 b h1
  ·exact ⟨by have:=h.pure.size;omega,fun hh=>by have:=hH b hh;omega⟩
end
end Go.Proofs
end
section
open Go Go.SE
namespace Go.Sp
open Go.Proofs
theorem cnt_mem7 {ts:List Tree} {t:Tree} (h:t∈ts):cnt t≤cntAll ts:=by
 induction ts with
 | nil=>cases h
 | cons x ts ih =>
  rw [cntAll]
  rcases List.mem_cons.1 h with rfl | h
  ·omega
  ·have:=ih h;omega
theorem poolOf_nums (ts:List Tree) (h:∀i (hi:i<ts.length),NumT ts[i]):Nums (poolOf ts):=by
 have:∀(ts:List Tree) L,(∀t∈ts,NumT t)→Nums L→Nums (ts.foldl (fun L t=>(of L t).2.2) L):=by
  intro ts
  induction ts with
  | nil=>intro L _ h;exact h
  | cons t ts ih=>intro L hh h;exact ih _ (fun x hx=>hh x (List.mem_cons_of_mem _ hx)) (h.of (hh t (by simp)))
 exact this ts [] (fun t ht=>by obtain ⟨i,hi,rfl⟩:=List.mem_iff_getElem.1 ht;exact h i hi) Nums.nil
end Go.Sp
namespace Go.Proofs
attribute [local irreducible] Calls CallsD
theorem c_law07_both {S : NP} (ts : List Sp.Tree) (s : Sl) (w0 : World) (hT : TreeAt S w0 s (.mk 0 0 0 0 ⟨#[]⟩ ts)) (hS : ∀ b, S b → b < w0.heap.size) (hn : ts.length ≤ 1000) (hc : Sp.cntAll ts ≤ 900000) :
  Calls Tryz.prog 7 #[s.v] w0 (fun e w'=>∃r1:Option Addr,∃r2:Option Addr,e=.returned (.tuple #[.pointer r1,.pointer r2])∧∃p q F1 F2,r1=some p∧r2=some q∧Pl2 w0 None w' p q (Sp.poolOf ts) (Sp.poolOf ts) F1 F2):=by
 refine w_N1 _ w0 (fun r1 r2 w'=>∃p q F1 F2,r1=some p∧r2=some q∧Pl2 w0 None w' p q (Sp.poolOf ts) (Sp.poolOf ts) F1 F2) ?_
 cases hT with
 | mk _ _ _ _ _ _ _ rs len fit row kid =>
 unfold m_N1
 refine (c_New w0).mono ?_
 rintro _ w1 ⟨_,rfl,p,rfl,E1,F1,hP1,hF1⟩
 refine ⟨_,rfl,?_⟩
 refine (c_ref05_New w1).mono ?_
 rintro _ w2 ⟨_,rfl,q,F2,rfl,hP2,E2,hF2⟩
 refine ⟨_,rfl,fun hc=>(by cases hc),fun _=>?_⟩
 have S0:Pl2 w0 None w2 p q [] [] F1 F2:=⟨E1.trans E2,hP1.pure E2,hP2,
  fun b hb=>⟨hF1 b hb,id,fun h2=>by have:=hF2 b h2;have:=hP1.lt hb;omega⟩,fun b hb=>⟨by have:=hF2 b hb;have:=E1.size;omega,id⟩⟩
 refine ⟨fun i w'=>∃j:Nat,i=j∧j≤ts.length∧∃F1 F2,Pl2 w0 None w' p q (Sp.poolOf (ts.take j)) (Sp.poolOf (ts.take j)) F1 F2,fun i _=>((ts.length:Int) - i).toNat,⟨0,rfl,Nat.zero_le _,F1,F2,S0⟩,?_⟩
 rintro _ wl ⟨j,rfl,hj,F1,F2,hq⟩
 unfold m_N1_l1
 refine ⟨fun h=>?_,fun h=>?_⟩
 ·have hlt:=lt_of_dec len h
  have htk:ts.take (j+1)=ts.take j++[ts[j]]:=List.take_succ_eq_append_getElem hlt
  obtain ⟨hW,_⟩:=Sp.poolOf_ok (ts.take j)
  have hstep:Sp.poolOf (ts.take (j+1))=(Sp.of (Sp.poolOf (ts.take j)) ts[j]).2.2:=by rw [htk];unfold Sp.poolOf;rw [List.foldl_append];rfl
  have hcj:Sp.cnt ts[j]≤Sp.cntAll ts:=Sp.cnt_mem7 (List.getElem_mem hlt)
  generalize Sp.poolOf (ts.take j)=Q at *
  obtain ⟨a,hat,hSa,hrow⟩:=row j hlt
  have hkid:=kid j hlt
  generalize ts[j]=x at *
  generalize rs j=sx at *
  obtain ⟨xk,xf,xt,xu,xx,xks⟩:=x
  have hrl:Row wl a (trow (.mk xk xf xt xu xx xks) sx):=hq.pure.row hrow (fun h=>h)
  refine ⟨a,hat,_,_,_,_,_,sx,hrl,?_⟩
  have zl:=hq.pure.size
  refine (c_ref05_Lent (.mk xk xf xt xu xx xks) sx wl (by omega) (hkid.pure hq.pure) (fun b hb=>by have:=hS b hb;omega)).mono ?_
  rintro _ w3 ⟨sL,rfl,hTL,E3⟩
  refine ⟨_,_,_,_,_,_,rfl,?_⟩
  have hq3:=hq.pureE E3
  refine (c_Of (S:=fun b=>wl.heap.size≤b∧b<w3.heap.size) p (.mk xk xf xt xu xx xks) sL w3 hTL.lt hq3.pool hW.ok (fun b hb hh=>by have:=hq.pool.lt hb;omega) (fun b hb=>hb.2)).mono ?_
  rintro _ w4 ⟨r3,r4,rfl,h34,F1',hP4,E4,hF4⟩
  refine ⟨_,_,rfl,?_⟩
  have hq4:=hq3.of1 (fun b hb=>hb.elim) hP4 E4 hF4
  have hr4:Row w4 a (trow (.mk xk xf xt xu xx xks) sx):=hq4.pure.row hrow (fun h=>h)
  refine ⟨a,hat,_,_,_,_,_,sx,hr4,?_⟩
  refine (c_ref05_Of (S:=S) q (.mk xk xf xt xu xx xks) sx w4 (hkid.pure hq4.pure) hq4.ref hW.ok (fun b hb hh=>by have:=(hq4.o2 b hb).1;have:=hS b hh;omega) (fun b hb=>by have:=hS b hb;have:=hq4.pure.size;omega)).mono ?_
  rintro _ w5 ⟨r5,r6,rfl,h56,F2',hP5,E5,hF5⟩
  have hq5:=hq4.of2 (fun b hb=>hb.elim) hP5 E5 hF5
  refine ⟨_,_,rfl,⟨j+1,wrap_succ hlt (by omega),hlt,F1',F2',?_⟩,by rw [wrap_succ hlt (by omega)];exact lt_dec hlt⟩
  rw [hstep];exact hq5
 ·have hge:=eq_of_dec len hj h
  subst hge
  rw [List.take_length] at hq
  exact ⟨p,q,F1,F2,rfl,rfl,hq⟩
end Go.Proofs
end
section
open Go Go.SE
namespace Go.Proofs
attribute [local irreducible] Calls
theorem c_ref05_Tree (p : Addr) {L : Sp.Pool} (hW : Sp.Wf L) : ∀ (n : Nat) (t : Int) (w0 : World) (F : NP), t.toNat = n → PoolR w0 p L F →
  Calls Tryz.prog 16 #[.pointer (some p),.int .i64 t] w0 (RetT w0.heap.size w0 (Sp.treeOf L t)):=by
 intro n
 induction n using Nat.strongRecOn with
 | _ n ih =>
 intro t w0 F hn hP
 suffices key:∀K:Int→Int→Int→Int→ByteArray→Sl→WP,(∀k f t' u x s' w' ks,Sp.treeOf L t=.mk k f t' u x ks→TreeAt (w0.heap.size≤·) w' s' (.mk k f t' u x ks)→Pure w0 w'→K k f t' u x s' w')→m_R (some p) t w0 K by
  refine (w_R _ _ w0 (fun k f t' u x s' w'=>∃ks,Sp.treeOf L t=.mk k f t' u x ks∧TreeAt (w0.heap.size≤·) w' s' (.mk k f t' u x ks)∧Pure w0 w') (key _ (fun k f t' u x s' w' ks h1 h2 h3=>⟨ks,h1,h2,h3⟩))).mono ?_
  rintro _ w' ⟨k,f,t',u,x,s',rfl,ks,h1,h2,h3⟩
  rw [h1]
  exact ⟨s',rfl,h2,h3⟩
 intro K hK
 have hok:=hW.ok
 have hnil:∀b,¬ Sl.nil.blk b:=fun b hb=>by obtain ⟨a,h,_⟩:=hb;cases h
 unfold m_R
 intro H1 w1 hs1
 have E1:=hs1.first
 refine (c_ref05_Node p t w1 (hP.pure E1) hok).mono ?_
 rintro _ w2 ⟨k,f,t',u,x,a,b,r,rfl,⟨hnd,hr⟩,E2⟩
 have E02:=E1.trans E2
 have hs2:=hs1.again E2.keptP
 refine ⟨_,_,_,_,_,_,_,_,rfl,E2.keptP,fun h=>?_,fun h=>?_⟩
 ·intro H2 w5 hs5
  have hin:Sp.inP L t=false:=by rw [← hr];simpa using h
  exact hK _ _ _ _ _ _ _ [] (by rw [Sp.treeOf_none hin];rfl) TreeAt.leaf (E02.hst hs5)
 ·have hin:Sp.inP L t=true:=by rw [← hr];simpa using h
  have htr:=Sp.treeOf_in hW hin
  have hnode:=hW.node hin
  rw [← hnd] at htr hnode
  simp only at htr hnode
  obtain ⟨_,_,_,_,hkid,_,_⟩:=hnode
  have hpos:=Sp.inP_iff.1 hin
  rw [ref05_kids]
  have J1 : ∀ (xs : Sl) (H : NP) (w : World) (ps : List (Sp.Tree × Sl)) (S' : NP), Hst w0 H w H w → Pure w0 w → Own H w 49 6 xs (ps.map prow) → ps.length ≤ 1 → (∀ p ∈ ps, TreeAt S' w p.2 p.1) → (∀ b, S' b → w0.heap.size ≤ b ∧ b < w.heap.size ∧ ¬ H b ∧ ¬ xs.blk b) → (∀ b, xs.blk b → w0.heap.size ≤ b) →
    ((Sp.shapeOf k).kids=2→ps.map Prod.fst=[Sp.treeOf L a])→((Sp.shapeOf k).kids≠2→ps.map Prod.fst=(Sp.kidsOf ⟨k,f,t',u,x,a,b⟩).map (Sp.treeOf L)) →
    m_R_j1 (some p) k b k f t' u x xs w0 H w K:=by
   intro xs H w ps S' hs E O hpl hkids hS' hxs h2 h1
   unfold m_R_j1
   rw [ref05_kids]
   refine ⟨fun h=>?_,fun h=>?_⟩
   ·have hk2:(Sp.shapeOf k).kids=2:=by simpa using h
    have hps:=h2 hk2
    intro w9 hs9
    have E9:=E.hst hs9
    have O9:=O.hst hs9
    have E10:Pure w9 w9.drew:=Ext.drew w9
    refine ⟨fun _=>True,trivial,?_⟩
    rintro _ rfl
    have hb:=hkid b (by simp [Sp.kidsOf,hk2])
    have hbp:=Sp.inP_iff.1 hb.1
    refine (ih b.toNat (by omega) b w9.drew F rfl (hP.pure (E9.trans E10))).mono ?_
    rintro _ w11 ⟨s',rfl,hTb,E11⟩
    generalize hTt:Sp.treeOf L b=tb at *
    obtain ⟨k2,f2,t2,u2,x2,ks2⟩:=tb
    refine ⟨_,_,_,_,_,s',rfl,trivial,E11.keptP,?_⟩
    intro p5 w12 h12
    have E12:Pure w11 w12:=Ext.new h12
    refine ⟨trivial,?_⟩
    have hs12:Hst w0 H w12 H w12:=(hs9.again E10.keptP).again (E11.trans E12).keptP
    obtain ⟨s1,w13,hr13,hO13,hE13,hk13,hb13⟩:=(O9.pure ((E10.trans E11).trans E12)).append (P:=Tryz.prog) (ty:=22) (c:=1) slT_tree hs12 (r:=trow (.mk k2 f2 t2 u2 x2 ks2) s') (Box.of_new h12).row rfl (trow_one _ _) (by simp;omega) (by simp [maxLen];omega)
    refine ⟨s1,w13,hr13,trivial,hk13,?_⟩
    intro w15 hs15
    have zd:w9.drew.heap.size=w9.heap.size:=rfl
    have z9:=hs9.ext.size
    have z11:=E11.size
    have z12:=E12.size
    have z13:=hE13.size
    have hS9:∀b,S' b→w0.heap.size≤b∧b<w9.heap.size∧¬ H b∧¬ xs.blk b:=fun b hb=>⟨(hS' b hb).1,by have:=(hS' b hb).2.1;omega,(hS' b hb).2.2.1,(hS' b hb).2.2.2⟩
    have hvs:∀b,s1.blk b→b<w13.heap.size∧¬ H b:=fun b hb=>⟨hO13.rows.lt hb,hO13.vis b hb⟩
    have hR15:=hO13.rows.ext hs15.ext (hs15.disj (G:=s1.blk) hvs)
    have e1:ps.map prow++[trow (.mk k2 f2 t2 u2 x2 ks2) s']=(ps++[((.mk k2 f2 t2 u2 x2 ks2:Sp.Tree),s')]).map prow:=by simp [prow]
    rw [e1] at hR15
    have hT:=TreeAt.of_pairs (S:=fun b=>w0.heap.size≤b) (k:=k) (f:=f) (t:=t') (u:=u) (x:=x) hR15 (fun b hb=>(hb13 b hb).elim (hxs b) (fun h=>by have:=E9.size;omega)) (fun q hq=>?_) (by simp;omega)
    ·have e2 : (ps ++ [((.mk k2 f2 t2 u2 x2 ks2 : Sp.Tree), s')]).map Prod.fst = (Sp.kidsOf ⟨k, f, t', u, x, a, b⟩).map (Sp.treeOf L) := by
      rw [List.map_append,hps];simp [Sp.kidsOf,hk2,hTt]
     rw [e2] at hT
     exact hK _ _ _ _ _ _ _ _ htr hT ((((E9.trans E10).trans E11).trans E12).trans' hE13 (fun i hi hb=>by have:=hxs i hb;omega) |>.hst hs15)
    ·rcases List.mem_append.1 hq with h | h
     ·have q1:=(hkids q h).hst hs9 (fun b hb=>⟨(hS' b hb).2.1,(hS' b hb).2.2.1⟩)
      have q2:=(q1.pure ((E10.trans E11).trans E12)).ext hE13 (fun b hb hy=>(hS' b hb).2.2.2 hy)
      exact (q2.hst hs15 (fun b hb=>⟨by have:=(hS9 b hb).2.1;omega,(hS' b hb).2.2.1⟩)).mono (fun b hb=>(hS' b hb).1)
     ·simp only [List.mem_singleton] at h;subst h
      have q1:=(hTb.lt.pure E12).ext hE13 (fun b hb hy=>by have:=O9.rows.lt hy;have:=hb.1;omega)
      exact (q1.hst hs15 (fun b hb=>⟨by have:=hb.2;omega,fun hh=>by have:=hs9.lt b hh;have:=hb.1;omega⟩)).mono (fun b hb=>by have:=hb.1;have:=E9.size;omega)
   ·have hk2:(Sp.shapeOf k).kids≠2:=by simpa using h
    intro w16 hs16
    have O16:=O.hst hs16
    have hT:=TreeAt.of_pairs (S:=fun b=>w0.heap.size≤b) (k:=k) (f:=f) (t:=t') (u:=u) (x:=x) O16.rows hxs (fun q hq=>((hkids q hq).hst hs16 (fun b hb=>⟨(hS' b hb).2.1,(hS' b hb).2.2.1⟩)).mono (fun b hb=>(hS' b hb).1)) (by omega)
    rw [h1 hk2] at hT
    exact hK _ _ _ _ _ _ _ _ htr hT (E.hst hs16)
  have hkk:=Sp.kids_le k
  refine ⟨fun h=>?_,fun h=>?_⟩
  ·have hk1:1≤(Sp.shapeOf k).kids:=by have:=of_decide_eq_true h;omega
   intro H3 w8 hs8
   have E8:=E02.hst hs8
   have E17:Pure w8 w8.drew:=Ext.drew w8
   refine ⟨fun _=>True,trivial,?_⟩
   rintro _ rfl
   have ha:=hkid a (by rcases hkk with h | h | h <;> simp [Sp.kidsOf,h] <;> omega)
   have hap:=Sp.inP_iff.1 ha.1
   refine (ih a.toNat (by omega) a w8.drew F rfl (hP.pure (E8.trans E17))).mono ?_
   rintro _ w18 ⟨s',rfl,hTa,E18⟩
   generalize hTt:Sp.treeOf L a=ta at *
   obtain ⟨k2,f2,t2,u2,x2,ks2⟩:=ta
   refine ⟨_,_,_,_,_,s',rfl,trivial,E18.keptP,?_⟩
   intro p6 w19 h19
   have E19:Pure w18 w19:=Ext.new h19
   refine ⟨trivial,?_⟩
   have hs19:Hst w0 H3 w19 H3 w19:=(hs8.again E17.keptP).again (E18.trans E19).keptP
   obtain ⟨s2,w20,hr20,hO20,hE20,hk20,hb20⟩:=(Own.nil (sz:=6) (e:=49) H3 w19).append (P:=Tryz.prog) (ty:=22) (c:=1) slT_tree hs19 (r:=trow (.mk k2 f2 t2 u2 x2 ks2) s') (Box.of_new h19).row rfl (trow_one _ _) (by simp) (by simp [maxLen])
   refine ⟨s2,w20,hr20,trivial,hk20,?_⟩
   intro w21 hs21
   have zd:w8.drew.heap.size=w8.heap.size:=rfl
   have z18:=E18.size
   have z19:=E19.size
   have z20:=hE20.size
   have z21:=hs21.ext.size
   have E20:Pure w19 w20:=hE20.mono (fun b _ hb=>hnil b hb)
   have hs2n:∀b,s2.blk b→w19.heap.size≤b:=fun b hb=>(hb20 b hb).elim (fun h=>(hnil b h).elim) id
   refine J1 s2 H3 w21 [((.mk k2 f2 t2 u2 x2 ks2:Sp.Tree),s')] (fun b=>w8.heap.size≤b∧b<w18.heap.size) hs21.here ((((E8.trans E17).trans E18).trans E19).trans E20 |>.hst hs21) ?_ (by simp) ?_ ?_ (fun b hb=>by have:=hs2n b hb;have:=E8.size;omega) (fun _=>by simp) (fun hne=>?_)
   ·have:=hO20.hst hs21;simpa [prow] using this
   ·intro q hq
    simp only [List.mem_singleton] at hq;subst hq
    exact ((hTa.lt.pure E19).pure E20).hst hs21 (fun b hb=>⟨by have:=hb.2;omega,fun hh=>by have:=hs8.lt b hh;have:=hb.1;omega⟩)
   ·rintro b ⟨h1,h2⟩
    exact ⟨by have:=E8.size;omega,by omega,fun hh=>by have:=hs8.lt b hh;omega,fun hh=>by have:=hs2n b hh;omega⟩
   ·rcases hkk with h | h | h
    ·omega
    ·simp [Sp.kidsOf,h,hTt]
    ·exact absurd h hne
  ·have hk0:(Sp.shapeOf k).kids=0:=by have:=of_decide_eq_false h;omega
   intro H3 w8 hs8
   exact J1 Sl.nil H3 w8 [] (fun _=>False) hs8.here (E02.hst hs8) (Own.nil _ _) (by simp) (by simp) (fun b h=>h.elim) (fun b h=>(hnil b h).elim) (fun h=>by omega) (fun _=>by simp [Sp.kidsOf,hk0])
end Go.Proofs
end
section
open Go Go.SE
namespace Go.Proofs
attribute [local irreducible] Calls CallsD
theorem c_rDecode {S0 : NP} (p : Addr) (sb : Sl) (bs : List UInt8) (w0 : World) {L : Sp.Pool} {FP : NP} (hW : Sp.Wf L) (hP : PoolR w0 p L FP) (hs : Lst S0 w0 1 sb (byr bs)) :
  Calls Tryz.prog 9 #[.pointer (some p),sb.v] w0 (fun e w'=>∃t x y:Int,e=.returned (.tuple #[.int .i64 t,.int .i64 x,.int .i64 y])∧(t=(decS L bs).1∧x=(decS L bs).2.1∧y=((decS L bs).2.2.1:Int)∧∃F',PoolR w' p (decS L bs).2.2.2 F'∧Ext FP w0 w'∧∀b,F' b→FP b∨w0.heap.size≤b)):=by
 refine w_U2 _ _ w0 (fun t x y w'=>t=(decS L bs).1∧x=(decS L bs).2.1∧y=((decS L bs).2.2.1:Int)∧∃F',PoolR w' p (decS L bs).2.2.2 F'∧Ext FP w0 w'∧∀b,F' b→FP b∨w0.heap.size≤b) ?_
 unfold m_U2
 refine (c_rRead sb bs w0 hs).mono ?_
 rintro _ w1 ⟨x,y,z,rfl,hy,hz',hout,E1⟩
 refine ⟨_,_,_,rfl,?_⟩
 cases hq:(rdText bs).1 with
 | none =>
  have hd:decS L bs=(0,(rdText bs).2.1,(rdText bs).2.2,L):=by unfold decS;rw [hq]
  have he:y≠0:=by rw [hy];exact Sp.rdText_err hq
  refine ⟨fun _=>?_,fun hc=>absurd (by simpa using hc) he⟩
  rw [hd]
  exact ⟨rfl,hy,hz',FP,hP.pure E1,Ext.pure E1,fun b hb=>.inl hb⟩
 | some q =>
  obtain ⟨a,F,rfl,hPq,hF⟩:=hout.1 q hq
  obtain ⟨g1,_,g3,_⟩:=Sp.rdText_get hq
  have h0:=Sp.rdText_ok hq
  have hd:decS L bs=((copyS L q q.length).1,(copyS L q q.length).2.1,0,(copyS L q q.length).2.2):=by unfold decS;rw [hq]
  rw [h0] at hy
  obtain ⟨v1,hv1,hv1l⟩:∃v:Sl,w1.cell? a=some v.v∧v.len=q.length:=by
   obtain ⟨sa,sb,sc,h,_⟩:=hPq
   exact ⟨sa,h.box.cell0,by rw [h.r1.len];simp⟩
  refine ⟨fun hc=>absurd hy (by simpa using hc),fun _=>⟨a,rfl,v1,hv1,?_⟩⟩
  rw [hv1l]
  refine (c_ref05_Copy p a q.length w1 hW g1 (hP.pure E1) hPq (fun b hb hh=>by have:=hP.lt hb;have:=hF b hh;omega)).mono ?_
  rintro _ w3 ⟨r1,r2,rfl,h1,h2,F',hP',E3,hF'⟩
  refine ⟨_,_,rfl,?_⟩
  rw [hd]
  exact ⟨h1,h2,rfl,F',hP',(Ext.pure E1).trans E3,fun b hb=>(hF' b hb).imp id (fun h=>by have:=E1.size;omega)⟩
theorem c_law07_WireDecodes {ST SB : NP} (ts : List Sp.Tree) (s sb : Sl) (bs : List UInt8) (w0 : World) (hT : TreeAt ST w0 s (.mk 0 0 0 0 ⟨#[]⟩ ts)) (hST : ∀ b, ST b → b < w0.heap.size) (hN : ∀ i (hi : i < ts.length), Sp.NumT ts[i]) (hb : Lst SB w0 1 sb (byr bs)) :
  Calls Tryz.prog 3 #[s.v,sb.v] w0 (fun e w'=>∃r:Bool,e=.returned (.bool r)∧(r=true∧Pure w0 w')):=by
 refine w_E1 _ _ w0 (fun r w'=>r=true∧Pure w0 w') ?_
 unfold m_E1
 refine (c_law07_large ts s w0 hT hST).mono ?_
 rintro _ w17 ⟨r20,rfl,hr,E17⟩
 refine ⟨_,rfl,E17.keptP,?_⟩
 intro H w hs18
 have E18:Pure w0 w:=E17.hst hs18
 have hHlt:∀b,H b→w0.heap.size≤b∧b<w.heap.size:=fun b hb=>⟨hs18.old b hb,hs18.lt b hb⟩
 have hlen:sb.len=bs.length:=by rw [hb.len,byr_len]
 unfold m_E1_j1
 refine ⟨fun hc=>?_,fun hc=>?_⟩
 ·refine (c_live7 w).mono ?_
  rintro _ w2 ⟨_,rfl,rfl,E2⟩
  exact ⟨_,rfl,E2.keptP,rfl,E18.trans E2⟩
 rw [Bool.or_eq_false_iff] at hc
 obtain ⟨hn,hcn⟩:=hr hc.1
 have hbl:bs.length≤8192:=by have:=of_decide_eq_false hc.2;omega
 have z18:=E18.size
 refine (c_law07_both ts s w (hT.pure E18) (fun b hb=>by have:=hST b hb;omega) (by omega) (by omega)).mono ?_
 rintro _ w2 ⟨_,_,rfl,p,q,F1,F2,rfl,rfl,hq⟩
 have E2:=hq.pure
 have hq2:Pl2 w0 H w2 p q (Sp.poolOf ts) (Sp.poolOf ts) F1 F2:=⟨E18.trans E2,hq.pool,hq.ref,fun b hb=>⟨by have:=(hq.o1 b hb).1;omega,fun hh=>by have:=(hq.o1 b hb).1;have:=(hHlt b hh).2;omega,(hq.o1 b hb).2.2⟩,fun b hb=>⟨by have:=(hq.o2 b hb).1;omega,fun hh=>by have:=(hq.o2 b hb).1;have:=(hHlt b hh).2;omega⟩⟩
 have hH2:∀b,H b→b<w2.heap.size:=fun b hb=>by have:=(hHlt b hb).2;have:=E2.size;omega
 obtain ⟨hW,_⟩:=Sp.poolOf_ok ts
 have hNu:=Sp.poolOf_nums ts hN
 generalize Sp.poolOf ts=L at *
 refine ⟨_,_,rfl,E2.keptP,fun hc=>(by cases hc),fun _=>?_⟩
 intro p1 w3 n1
 have E3:Pure w2 w3:=Ext.new n1
 have hq3:=hq2.pureE E3
 have R0:Rws w3 5 1 ⟨some p1,0,0⟩ []:=Rws.empty n1
 have bp1:=n1.at_size
 have z2:=hq2.pure.size;have z3:=E3.size
 obtain ⟨s1,w4,hr4,hR,X4,hs1⟩:=R0.appendL (P:=Tryz.prog) (ty:=23) slT_by (hb.pure hq3.pure) (byr_sz bs) (byr_one bs) (by rw [byr_len];simp;omega) (by rw [byr_len];simp only [maxLen,List.length_nil];omega)
 rw [List.nil_append] at hR
 have o2:∀b,(Sl.mk (some p1) 0 0).blk b→b=p1.block:=fun b hb=>by obtain ⟨a,ha,rfl⟩:=hb;cases ha;rfl
 have os1:∀b,s1.blk b→w2.heap.size≤b:=fun b hb=>(hs1 b hb).elim (fun h=>by have:=o2 b h;omega) (fun h=>by omega)
 have E24:Pure w2 w4:=E3.trans' X4 (fun i hi hb=>by have:=o2 i hb;omega)
 have hq4:=hq2.pureE E24
 have z4:=E24.size
 have hH4:∀b,H b→b<w4.heap.size:=fun b hb=>by have:=hH2 b hb;omega
 have dF:∀b,(F1 b∨F2 b)→¬ s1.blk b:=fun b hb hh=>by have:=os1 b hh;exact hb.elim (fun h=>by have:=hq2.pool.lt h;omega) (fun h=>by have:=hq2.ref.lt h;omega)
 refine ⟨s1,w4,hr4,X4.kept (fun b hb hh=>by have:=o2 b hh;have:=hH2 b hb;omega),?_⟩
 refine (c_Decode p s1 bs w4 hW hq4.pool hR.lst (rws_hz hR)).mono ?_
 rintro _ w5 ⟨r4,r5,r6,rfl,h4,h5,h6,F1',hP5,X5,hF5⟩
 have hq5:=hq4.of1 hH4 hP5 X5 hF5
 have z5:=X5.size
 have hH5:∀b,H b→b<w5.heap.size:=fun b hb=>by have:=hH4 b hb;omega
 refine ⟨_,_,_,rfl,X5.kept (fun b hb hh=>(hq4.o1 b hh).2.1 hb),?_⟩
 refine (c_rDecode q sb bs w5 hW hq5.ref (hb.pure hq5.pure)).mono ?_
 rintro _ w6 ⟨r7,r8,r9,rfl,h7,h8,h9,F2',hP6,X6,hF6⟩
 have hq6:=hq5.of2 hH5 hP6 X6 hF6
 have z6:=X6.size
 refine ⟨_,_,_,rfl,X6.kept (fun b hb hh=>(hq5.o2 b hh).2 hb),?_⟩
 have R6:Rws w6 5 1 s1 (byr bs):=(hR.ext X5 (fun b hb hh=>dF b (.inl hh) hb)).ext X6 (fun b hb hh=>dF b (.inr hh) hb)
 refine (c_Check s1 bs w6 R6.lst (rws_hz R6)).mono ?_
 rintro _ w7 ⟨r10,r11,rfl,h10,h11,E7⟩
 have hq7:=hq6.pureE E7
 refine ⟨_,_,rfl,E7.keptP,?_⟩
 refine (c_rRead sb bs w7 (hb.pure hq7.pure)).mono ?_
 rintro _ w8 ⟨r12,r13,r14,rfl,h13,h14,_,E8⟩
 have hq8:=hq7.pureE E8
 refine ⟨_,_,_,rfl,E8.keptP,?_⟩
 obtain ⟨sa,sb2,sc,hSp,hFsp⟩:=hq8.ref
 have hsal:sa.len=(decS L bs).2.2.2.length:=by rw [hSp.r1.len];simp
 have R8:=(R6.pure E7).pure E8
 have hW':=Sp.decS_wf hW bs
 let C:=fun w':World=>w'.cell? q=some sa.v∧Rws w' 5 1 s1 (byr bs)∧Lst SB w' 1 sb (byr bs)∧Pl2 w0 H w' p q (decS L bs).2.2.2 (decS L bs).2.2.2 F1' F2'
 have hC8:C w8:=⟨hSp.box.cell0,R8,hb.pure hq8.pure,hq8⟩
 have hCp:∀{a b:World},C a→Pure a b→C b:=fun h E=>⟨E.cell h.1 id,h.2.1.pure E,h.2.2.1.pure E,h.2.2.2.pureE E⟩
 refine ⟨C,hCp hC8 (Ext.drew w8),?_⟩
 rintro w9 e9
 have hC9:C w9:=by rw [e9];exact hCp hC8 (Ext.drew w8)
 have t1:r4=r7:=by rw [h4,h7]
 have t2:r5=r8:=by rw [h5,h8]
 have t3:r6=r9:=by rw [h6,h9]
 have t4:r10=r13:=by rw [h10,h13]
 have t5:r11=r14:=by rw [h11,h14]
 subst t1 t2 t3 t4 t5
 refine ⟨fun _=>?_,fun hc=>absurd rfl (beq_eq_false_iff_ne.1 hc)⟩
 refine (p_D1 _ w9).mono ?_
 rintro _ w10 ⟨rfl,E10⟩
 have hC10:=hCp hC9 E10
 refine ⟨_,rfl,hC10,E10.keptP,fun _=>⟨fun _=>?_,fun hc=>absurd rfl (beq_eq_false_iff_ne.1 hc)⟩,fun hc=>absurd rfl (beq_eq_false_iff_ne.1 hc)⟩
 refine (p_D1 _ w10).mono ?_
 rintro _ w11 ⟨rfl,E11⟩
 have hC11:=hCp hC10 E11
 refine ⟨_,rfl,hC11,E11.keptP,fun _=>⟨fun _=>?_,fun hc=>absurd rfl (beq_eq_false_iff_ne.1 hc)⟩,fun hc=>absurd rfl (beq_eq_false_iff_ne.1 hc)⟩
 refine ⟨q,rfl,sa,fun w' hw'=>hw'.1,?_⟩
 refine (c_term_Len p w11 hC11.2.2.2.pool).mono ?_
 rintro _ w12 ⟨_,rfl,rfl,rfl⟩
 refine ⟨_,rfl,hC11,Kept.refl _,fun _=>?_,fun hc=>absurd (by rw [hsal]) (beq_eq_false_iff_ne.1 hc)⟩
 refine (c_Tree p hW' _ r4 w12 F1' rfl hC11.2.2.2.pool).mono ?_
 rintro _ w13 ⟨sx,rfl,hT13,E13⟩
 have hC13:=hCp hC11 E13
 generalize hX:Sp.treeOf (decS L bs).2.2.2 r4=X at *
 obtain ⟨xk,xf,xt,xu,xx,xks⟩:=X
 refine ⟨_,_,_,_,_,_,rfl,hC13,E13.keptP,?_⟩
 refine (c_ref05_Tree q hW' _ r4 w13 F2' rfl hC13.2.2.2.ref).mono ?_
 rintro _ w14 ⟨sy,rfl,hT14,E14⟩
 have hC14:=hCp hC13 E14
 rw [hX] at hT14 ⊢
 refine ⟨_,_,_,_,_,_,rfl,hC14,E14.keptP,?_⟩
 refine (c_ref05_Same (S:=fun b=>b<w14.heap.size) (.mk xk xf xt xu xx xks) (.mk xk xf xt xu xx xks) sx sy w14 ((hT13.pure E14).lt.mono (fun b hb=>hb.2)) (hT14.lt.mono (fun b hb=>hb.2)) (fun _ h=>h)).mono ?_
 rintro _ w15 ⟨r18,rfl,h18,E15⟩
 have hC15:=hCp hC14 E15
 have h18:r18=true:=by rw [h18];exact (Sp.same_iff _ _).2 rfl
 refine ⟨_,rfl,hC15,E15.keptP,fun _=>⟨_,fun w' hw'=>str_of hw'.2.1.lst,_,fun w' hw'=>str_of hw'.2.2.1,fun _=>?_,fun hc=>absurd rfl (of_decide_eq_false hc)⟩,fun hc=>(by rw [h18] at hc;cases hc)⟩
 refine (c_live7 w15).mono ?_
 rintro _ w16 ⟨_,rfl,rfl,E16⟩
 exact ⟨_,rfl,hCp hC15 E16,E16.keptP,rfl,hC15.2.2.2.pure.trans E16⟩
end Go.Proofs
end
section
namespace Go.SE
open Go.ChangeShapes Go.WideShapes Go.ChangeAt Go.RowKit
section
variable {H:Type} {enc:TypeId×Value→H} {P:Program}
theorem below_trodAll (hl : laidOutB P = true) {W W' : World} (hb : Below W.heap.size W W') : ∀ (ts : List TypeId) (vs : List Value) (ds : List (DataW H)) (ps : List MemPlace), (ts.all fun t => P.readableRec t && decide (t < P.types.size)) = true →
  DataW.TrodAll enc P W 0 (fun _=>true) true ts vs ds ps→(∀x∈ps,x.block<W.heap.size)→DataW.TrodAll enc P W' 0 (fun b=>decide (b<W.heap.size)) true ts vs ds ps
 | [],_,_,_,_,h,_=>by
  obtain ⟨rfl,rfl,rfl⟩:=trodAll_nil h
  exact h
 | t :: ts,_,_,_,hr,h,hlt=>by
  obtain ⟨v,vs1,d,ds1,a,b,rfl,rfl,rfl,h1,h2⟩:=trodAll_cons h
  simp only [List.all_cons,Bool.and_eq_true,decide_eq_true_eq] at hr
  exact ⟨a,b,Below.trod hl hr.1.1 hr.1.2 h1 hb (fun x hx=>hlt x (by simp [hx])),below_trodAll hl hb ts vs1 ds1 b (by simpa using hr.2) h2 (fun x hx=>hlt x (by simp [hx])),rfl⟩
theorem law_post {f : Func} {s : ChangeSpec} {W W' : World} {args : Array Value} {ds gs : List (DataW H)} {before : List MemPlace} {t : TypeId} (hl : laidOutB P = true)
  (hv:s.vars=[]) (hf:∀ds:List (DataW H),ds.length=f.params.size→s.fn H ds={ results:=[.lit (.bool true)],args:=ds }) (hrt:f.resultTypes=#[t]) (ht:P.underlying t=some .bool)
  (hr:(f.params.toList.all fun t=>P.readableRec t && decide (t<P.types.size))=true)
  (hW:DataW.Whole enc P f.params.toList s.vars false W args.toList ds gs before) (E:Pure W W') :
  s.post enc P f false true false false W args (.bool true) W':=by
 have hW':=hW
 obtain ⟨p,q,hA,hV,rfl,hfz,hnd⟩:=hW
 rw [hv] at hV
 obtain ⟨rfl,rfl⟩:=trodVars_none hV
 have hlen:ds.length=f.params.size:=by
  have:∀(ts:List TypeId) (vs:List Value) (ds:List (DataW H)) (ps:List MemPlace),DataW.TrodAll enc P W 0 (fun _=>true) true ts vs ds ps→ds.length=ts.length:=by
   intro ts
   induction ts with
   | nil=>intro vs ds ps h;obtain ⟨_,rfl,_⟩:=trodAll_nil h;rfl
   | cons t ts ih =>
    intro vs ds ps h
    obtain ⟨v,vs1,d,ds1,a,b,_,rfl,_,_,h2⟩:=trodAll_cons h
    simp [ih _ _ _ h2]
  simpa using this _ _ _ _ hA
 have hfn:=hf ds hlen
 have hfn':s.fn H (ds++[])={ results:=[.lit (.bool true)],args:=ds }:=by rw [List.append_nil];exact hfn
 have hlt:∀x∈p,x.block<W.heap.size:=fun x hx=>by simpa using hW'.lt x (by simp [hx])
 have bel:=E.below
 refine ⟨ds,[],p++[],[],p,[],hW',?_,?_,?_,bel.frame _,fun h=>by cases h⟩
 ·rw [hfn',hrt];exact trodAll_mk1 (shut_bool ht _)
 ·rw [hfn'];exact below_trodAll hl bel _ _ _ _ hr hA hlt
 ·rw [hfn',hv];exact hV
theorem law_lifted {C : Checked} {os : Os} {f : FuncId} {fn : Func} {s : ChangeSpec} {t : TypeId} (hl : laidOutB C.prog = true)
  (hv:s.vars=[]) (hf:∀ds:List (DataW H),ds.length=fn.params.size→s.fn H ds={ results:=[.lit (.bool true)],args:=ds }) (hrt:fn.resultTypes=#[t]) (ht:C.prog.underlying t=some .bool)
  (hr:(fn.params.toList.all fun t=>C.prog.readableRec t && decide (t<C.prog.types.size))=true)
  (own:ownKnob C.prog.godebug=none) (started:os.Started) (noInit:C.prog.inits.idxOf? f=none) (hfn:C.prog.funcs[f]?=some fn)
  (witness:∃(w:World) (tape:Tape) (i:Input),w.os=os∧(w.forCall tape i).Shaped C.prog∧i.vars=[]∧Input.okWide C.prog (w.forCall tape i) .any w.heap.size f i ∧
   s.pre6 enc C.prog fn [] false (w.forCall tape i).memory i.args∧({}:Assume).holds C.prog (lone (Frame.enter C.prog f i.args .normal) [] (w.forCall tape i)))
  (contract:∀(W:World) (base:Nat) (args:Array Value) (ds:List (DataW H)) (p:List MemPlace),
   (∀(j:Nat) t v,fn.params[j]?=some t→args[j]?=some v→Value.okWide C.prog W .any base t v) →
   DataW.TrodAll enc C.prog W 0 (fun _=>true) true fn.params.toList args.toList ds p→(∀x∈p,x.block<W.heap.size) →
   Calls C.prog f args W (fun e W'=>∃r:Bool,e=.returned (.bool r)∧(r=true∧Pure W W'))) :
  ReturnsInHanded {} C os f .any (s.pre6 enc C.prog fn [] false) (s.post enc C.prog fn false true false false):=by
 refine returnsInHanded_of_change own started noInit hfn witness ?_
 intro W base args ds gs before hval hW _ _
 have hW':=hW
 obtain ⟨p,q,hA,hV,rfl,hfz,hnd⟩:=hW
 refine (contract W base args ds p hval hA (fun x hx=>by simpa using hW'.lt x (by simp [hx]))).mono fun e W' ⟨r,he,h1,h2⟩=>?_
 subst h1
 exact ⟨_,he,law_post hl hv hf hrt ht hr hW' h2⟩
end
end Go.SE
namespace Go.SE
open Go.ChangeShapes Go.WideShapes Go.ChangeAt Go.RowKit
section
variable {P:Program} {W:World} {r:Reach} {b0:Nat} {t:TypeId} {v:Value}
theorem okWide_sl {e:TypeId} (ht:P.underlying t=some (.slice e)) (h:Value.okWide P W r b0 t v):∃a n c,v=.slice a n c:=by
 unfold Value.okWide at h
 rw [ht] at h
 simp only at h
 unfold Cell.okWide at h
 rw [ht] at h
 cases v <;> simp [Cell.ok,ht] at h
 exact ⟨_,_,_,rfl⟩
end
end Go.SE
end
section
open Go Go.SE
namespace Go.Proofs
theorem mapM_facts {α β:Type} {f:α→Option β}:∀{l:List α} {r:List β},l.mapM f=some r→r.length=l.length∧∀(i:Nat) (a:α),l[i]?=some a→∃b,f a=some b∧r[i]?=some b
 | [],r,h=>by
  have:r=[]:=by simpa using h.symm
  subst this
  exact ⟨rfl,fun i a h=>by simp at h⟩
 | x :: xs,r,h=>by
  rw [List.mapM_cons] at h
  cases hx:f x with
  | none=>simp [hx] at h
  | some y =>
   cases hxs:xs.mapM f with
   | none=>simp [hx,hxs] at h
   | some ys =>
    have:r=y :: ys:=by simpa [hx,hxs] using h.symm
    subst this
    obtain ⟨h1,h2⟩:=mapM_facts hxs
    refine ⟨by simp [h1],fun i a ha=>?_⟩
    cases i with
    | zero=>cases ha;exact ⟨y,hx,rfl⟩
    | succ i=>exact h2 i a (by simpa using ha)
theorem cells_row {w:World} {base:Nat} {a:Addr} {n:Nat} {cs:List Value} (h:w.cells? base a n=some cs):cs.length=n∧Row w a cs:=by
 obtain ⟨_,h1,h2⟩:=World.cells?_some h
 exact ⟨h1,fun j hj=>h2 j (by omega)⟩
section
variable {H:Type} {enc:TypeId×Value→H} {P:Program} {W:World} {base:Nat} {sp:Nat→Bool} {held:Bool}
theorem trod_int1 {t:TypeId} {k:IntKind} (ht:P.underlying t=some (.int k)) {n:Nat} {c:Value} {x:DataW H×List MemPlace} (h:DataW.trod enc P W base sp held n t [c]=some x):∃m,c=.int k m:=by
 cases n with
 | zero=>cases h
 | succ n =>
  rw [DataW.trod_step] at h
  unfold DataW.trodStep at h
  rw [ht] at h
  cases c <;> simp at h
  obtain ⟨⟨rfl,_⟩,_⟩:=h
  exact ⟨_,rfl⟩
theorem trod_u64 {t:TypeId} (ht:P.underlying t=some (.int .u64)) {n:Nat} {c:Value} {x:DataW H×List MemPlace} (h:DataW.trod enc P W base sp held n t [c]=some x):∃m,c=.int .u64 m∧Sp.isNum m:=by
 cases n with
 | zero=>cases h
 | succ n =>
  rw [DataW.trod_step] at h
  unfold DataW.trodStep at h
  rw [ht] at h
  cases c with
  | int k z =>
   simp only at h
   split at h
   ·rename_i hw
    obtain ⟨rfl,hw⟩:=hw
    have h1:IntKind.u64.min=0:=by rfl
    have h2:IntKind.u64.max=18446744073709551615:=by rfl
    simp only [Lit.wf,Bool.and_eq_true,decide_eq_true_eq,h1,h2] at hw
    exact ⟨z,rfl,by omega,by omega⟩
   ·cases h
  | _=>simp at h
theorem trod_str1 {t:TypeId} (ht:P.underlying t=some .string) {n:Nat} {c:Value} {x:DataW H×List MemPlace} (h:DataW.trod enc P W base sp held n t [c]=some x):∃m,c=.string m:=by
 cases n with
 | zero=>cases h
 | succ n =>
  rw [DataW.trod_step] at h
  unfold DataW.trodStep at h
  rw [ht] at h
  cases c <;> simp at h
  exact ⟨_,rfl⟩
theorem trod_slice1 {t e : TypeId} (ht : P.underlying t = some (.slice e)) {n : Nat} {c : Value} {x : DataW H × List MemPlace} (h : DataW.trod enc P W base sp held (n + 1) t [c] = some x) :
  c=.slice none 0 0∨∃a len cap,c=.slice (some a) len cap∧len≤cap∧cap≤maxLen∧∀i,i<len→∃cs y,W.cells? base (a.add (i*P.cellsOf e)) (P.cellsOf e)=some cs∧DataW.trod enc P W base sp held n e cs=some y:=by
 rw [DataW.trod_step] at h
 unfold DataW.trodStep at h
 rw [ht] at h
 cases c with
 | slice a len cap =>
  cases a with
  | none =>
   cases len with
   | zero=>cases cap with
    | zero=>exact .inl rfl
    | succ c=>simp at h
   | succ l=>simp at h
  | some a =>
   right
   simp only at h
   split at h
   ·rename_i hc
    refine ⟨a,len,cap,rfl,hc.2.1,hc.2.2,fun i hi=>?_⟩
    cases hm:(List.range len).mapM fun i=>(W.cells? base (a.add (i*P.cellsOf e)) (P.cellsOf e)).bind (DataW.trod enc P W base sp held n e) with
    | none=>rw [hm] at h;cases h
    | some r =>
     obtain ⟨b,hb,_⟩:=(mapM_facts hm).2 i i (by simp [hi])
     obtain ⟨cs,h1,h2⟩:=Option.bind_eq_some_iff.1 hb
     exact ⟨cs,b,h1,h2⟩
   ·cases h
 | _=>simp at h
structure TreeTypes (P:Program) (tS tT:TypeId):Prop where
 ex:∃ti tu ts:TypeId,∃f0 f1 f2 f3 f4 f5:Field,P.underlying tS=some (.slice tT)∧P.underlying tT=some (.struct #[f0,f1,f2,f3,f4,f5])∧P.cellsOf tT=6 ∧
  (f0.type=ti∧f1.type=ti∧f2.type=ti∧f3.type=tu∧f4.type=ts∧f5.type=tS)∧(f0.offset=0∧f1.offset=1∧f2.offset=2∧f3.offset=3∧f4.offset=4∧f5.offset=5) ∧
  P.underlying ti=some (.int .i64)∧P.underlying tu=some (.int .u64)∧P.underlying ts=some .string∧P.cellsOf ti=1∧P.cellsOf tu=1∧P.cellsOf ts=1∧P.cellsOf tS=1
theorem trod_tree {tS tT : TypeId} (hTT : TreeTypes P tS tT) : ∀ n : Nat,
  (∀(c:Value) (x:DataW H×List MemPlace),DataW.trod enc P W base sp held n tS [c]=some x→∃s:Sl,∃ts:List Sp.Tree,c=s.v∧(∀(k f t u:Int) (tx:ByteArray),TreeAt (fun _=>True) W s (.mk k f t u tx ts))∧∀i (hi:i<ts.length),Sp.NumT ts[i]) ∧
  (∀(cs:List Value) (x:DataW H×List MemPlace),DataW.trod enc P W base sp held n tT cs=some x→∃t s,cs=trow t s∧TreeAt (fun _=>True) W s t∧Sp.NumT t):=by
 obtain ⟨ti,tu,tx,f0,f1,f2,f3,f4,f5,hS,hT,hc6,⟨e0,e1,e2,e3,e4,e5⟩,⟨o0,o1,o2,o3,o4,o5⟩,ui,uu,us,ci,cu,cs1,cS⟩:=hTT.ex
 intro n
 induction n with
 | zero=>exact ⟨fun c x h=>(by cases h),fun cs x h=>(by cases h)⟩
 | succ n ih =>
  refine ⟨fun c x h=>?_,fun cs x h=>?_⟩
  ·rcases trod_slice1 hS h with rfl | ⟨a,len,cap,rfl,hle,hcm,hel⟩
   ·exact ⟨Sl.nil,[],rfl,fun k f t u tx=>.mk k f t u tx [] Sl.nil (fun _=>Sl.nil) rfl (by simp) (fun i h=>by simp at h) (fun i h=>by simp at h),fun i hi=>absurd hi (Nat.not_lt_zero i)⟩
   ·rw [hc6] at hel
    have hex:∀i,∃q:Sp.Tree×Sl,i<len→Row W (a.add (i*6)) (trow q.1 q.2)∧TreeAt (fun _=>True) W q.2 q.1∧Sp.NumT q.1:=by
     intro i
     by_cases hi:i<len
     ·obtain ⟨cs,y,h1,h2⟩:=hel i hi
      obtain ⟨tr,s,e,hTr⟩:=ih.2 cs y h2
      exact ⟨(tr,s),fun _=>⟨e▸(cells_row h1).2,hTr⟩⟩
     ·exact ⟨(Sp.Tree.mk 0 0 0 0 ⟨#[]⟩ [],Sl.nil),fun h=>absurd h hi⟩
    obtain ⟨q,hq⟩:=Classical.axiomOfChoice hex
    refine ⟨⟨some a,len,cap⟩,(List.range len).map fun i=>(q i).1,rfl,?_,fun i hi=>by rw [List.getElem_map,List.getElem_range];exact (hq i (by simpa using hi)).2.2⟩
    refine fun k f t u tx=>.mk k f t u tx _ _ (fun i=>(q i).2) (by simp) (by simp only [maxLen] at hcm;simp;omega) (fun i h=>?_) (fun i h=>?_)
    ·have hi:i<len:=by simpa using h
     refine ⟨a.add (i*6),⟨by omega,by simpa using hi,a,rfl,by simp⟩,trivial,?_⟩
     simpa using (hq i hi).1
    ·have hi:i<len:=by simpa using h
     simpa using (hq i hi).2.1
  ·rw [DataW.trod_step] at h
   unfold DataW.trodStep at h
   rw [hT] at h
   simp only at h
   split at h
   ·rename_i hl
    rw [hc6] at hl
    match cs,hl with
    | [c0,c1,c2,c3,c4,c5],_ =>
     cases hm:([f0,f1,f2,f3,f4,f5]:List Field).mapM (fun f=>DataW.trod enc P W base sp held n f.type ((([c0,c1,c2,c3,c4,c5]:List Value).drop f.offset).take (P.cellsOf f.type))) with
     | none=>rw [hm] at h;cases h
     | some r =>
      have hf:=(mapM_facts hm).2
      obtain ⟨_,h0,_⟩:=hf 0 f0 rfl
      obtain ⟨_,h1,_⟩:=hf 1 f1 rfl
      obtain ⟨_,h2,_⟩:=hf 2 f2 rfl
      obtain ⟨_,h3,_⟩:=hf 3 f3 rfl
      obtain ⟨_,h4,_⟩:=hf 4 f4 rfl
      obtain ⟨_,h5,_⟩:=hf 5 f5 rfl
      rw [e0,o0,ci] at h0;rw [e1,o1,ci] at h1;rw [e2,o2,ci] at h2;rw [e3,o3,cu] at h3;rw [e4,o4,cs1] at h4;rw [e5,o5,cS] at h5
      obtain ⟨m0,rfl⟩:=trod_int1 ui h0
      obtain ⟨m1,rfl⟩:=trod_int1 ui h1
      obtain ⟨m2,rfl⟩:=trod_int1 ui h2
      obtain ⟨m3,rfl,hu⟩:=trod_u64 uu h3
      obtain ⟨m4,rfl⟩:=trod_str1 us h4
      obtain ⟨s,ts,rfl,hTr,hNr⟩:=ih.1 c5 _ h5
      exact ⟨.mk m0 m1 m2 m3 m4 ts,s,rfl,hTr m0 m1 m2 m3 m4,.mk _ _ _ _ _ _ hu hNr⟩
   ·cases h
theorem trees_of_trodN {tS tT : TypeId} (hTT : TreeTypes P tS tT) {v : Value} {d : DataW H} {ps : List MemPlace} (h : DataW.Trod enc P W base sp held tS v d ps) (hv : ∃ a n c, v = .slice a n c) :
  ∃s:Sl,∃ts:List Sp.Tree,v=s.v∧TreeAt (fun b=>b<W.heap.size) W s (.mk 0 0 0 0 ⟨#[]⟩ ts)∧∀i (hi:i<ts.length),Sp.NumT ts[i]:=by
 obtain ⟨n,h⟩:=h
 obtain ⟨a,m,c,rfl⟩:=hv
 obtain ⟨s,ts,e,hT,hN⟩:=(trod_tree hTT n).1 _ _ h
 exact ⟨s,ts,e,(hT 0 0 0 0 ⟨#[]⟩).lt.mono (fun b hb=>hb.2),hN⟩
end
theorem treeTypes:TreeTypes Tryz.prog 22 49 :=
 ⟨3,47,9,_,_,_,_,_,_,Tryz.underlying22,Tryz.underlying49,by kernel_rfl,⟨rfl,rfl,rfl,rfl,rfl,rfl⟩,⟨rfl,rfl,rfl,rfl,rfl,rfl⟩,Tryz.underlying3,Tryz.underlying47,Tryz.underlying9,by kernel_rfl,by kernel_rfl,by kernel_rfl,by kernel_rfl⟩
end Go.Proofs
end
section
open Go Go.SE
namespace Go.Sp
def Dep (L:Pool) (S:List Way) (t y:Int):Prop :=
 (∃v∈S,v.t=t∧v.rule≠0∧y=v.frm)∨(t ∉ wkeys S∧0<y∧(y=(madeS L S t).1∨y=(madeS L S t).2.1))
inductive Dp (L:Pool) (S:List Way):Int→Int→Prop
 | refl (t:Int):Dp L S t t
 | step {t y z:Int}:Dep L S t y→Dp L S y z→Dp L S t z
theorem Dep.made {L:Pool} {S:List Way} {t y a b:Int} {f m:Bool} (h:madeS L S t=(a,b,f,m)) (ht:t ∉ wkeys S):Dep L S t y↔0<y∧(y=a∨y=b):=by
 unfold Dep
 rw [h]
 constructor
 ·rintro (⟨v,hv,rfl,_⟩ | ⟨_,h⟩)
  ·exact absurd (List.mem_map.2 ⟨v,hv,rfl⟩) ht
  ·exact h
 ·exact fun h=>.inr ⟨ht,h⟩
theorem Dep.way {L:Pool} {S:List Way} {t y r f:Int} (hn:(wkeys S).Nodup) (hl:SE.look (S.map fun v=>(v.t,(v.rule,v.frm))) t=some (r,f)):Dep L S t y↔r≠0∧y=f:=by
 have hm:=look_mem hl
 obtain ⟨v,hv,e⟩:=List.mem_map.1 hm
 simp only [Prod.mk.injEq] at e
 obtain ⟨rfl,rfl,rfl⟩:=e
 have hk:v.t∈wkeys S:=List.mem_map.2 ⟨v,hv,rfl⟩
 unfold Dep
 constructor
 ·rintro (⟨u,hu,e,hr,rfl⟩ | ⟨h,_⟩)
  ·have hnd:((S.map fun v=>(v.t,(v.rule,v.frm))).map Prod.fst).Nodup:=by rw [List.map_map];exact hn
   have h2:=look_of_mem hnd (List.mem_map.2 ⟨u,hu,rfl⟩)
   rw [e,hl] at h2
   simp only [Option.some.injEq,Prod.mk.injEq] at h2
   exact ⟨by rw [h2.1];exact hr,h2.2.symm⟩
  ·exact absurd hk h
 ·rintro ⟨h1,rfl⟩
  exact .inl ⟨v,hv,rfl,h1,rfl⟩
theorem Dp.all {L:Pool} {S:List Way} {M:List Step} (hc:∀s∈M,∀y,Dep L S s.t y→y∈M.map Step.t) {t x:Int} (ht:t∈M.map Step.t) (h:Dp L S t x):x∈M.map Step.t:=by
 induction h with
 | refl=>exact ht
 | step hd _ ih =>
  obtain ⟨s,hs,rfl⟩:=List.mem_map.1 ht
  exact ih (hc s hs _ hd)
end Go.Sp
namespace Go.Proofs
attribute [local irreducible] Calls
def strow (s:Sp.Step):List Value:=[.int .i64 s.rule,.int .i64 s.a,.int .i64 s.b,.int .i64 s.t]
def tru (_:Unit):Value:=.bool true
def bmap (B:List Int):List (Int×Unit):=B.map fun t=>(t,())
theorem bmap_snoc (B:List Int) (t:Int):bmap (B++[t])=bmap B++[(t,())]:=by simp [bmap]
def PW (ma mb:Nat) (c5:Addr) (sl:Sl) (b:Nat):Prop:=b=ma∨b=mb∨b=c5.block∨sl.blk b
def says (f:FuncId) (c1 c2 c3 c4 c5:Addr):Value:=.func (.func f) #[] #[.pointer (some c1),.pointer (some c2),.pointer (some c3),.pointer (some c4),.pointer (some c5)]
structure PrfAt (w:World) (k:Addr) (c1 c2 c3 c4 c5:Addr) (ma mb:Nat) (sl:Sl) (l:List Sp.Step) (B:List Int):Prop where
 a1:w.cell? c1=some (.map (some ma))
 a2:w.cell? c2=some (.map (some mb))
 a3:w.cell? c3=some (.pointer (some k))
 a4:w.cell? c4=some (says 92 c1 c2 c3 c4 c5)
 a5:Box w c5 [sl.v] 101
 am:IMap ikey w ma (Sp.amap l)
 bm:IMap tru w mb (bmap B)
 ls:Rws w 157 4 sl (l.map strow)
 d:∀b,PW ma mb c5 sl b→b≠c1.block∧b≠c2.block∧b≠c3.block∧b≠c4.block
 n1:ma≠mb
 n2:ma≠c5.block
 n3:mb≠c5.block
 n4:¬ sl.blk ma
 n5:¬ sl.blk mb
 n6:¬ sl.blk c5.block
structure SaysAt (w:World) (k p:Addr) (c1 c2 c3 c4 c5:Addr) (ma mb:Nat) (L:Sp.Pool) (G:List Int) (S:List Sp.Way) (F FP:NP) (sl:Sl) (l:List Sp.Step) (B:List Int):Prop where
 prf:PrfAt w k c1 c2 c3 c4 c5 ma mb sl l B
 know:KnowAt w k p G S F
 pool:PoolAt w p L FP
 dF:∀b,F b→¬ PW ma mb c5 sl b
 dP:∀b,FP b→¬ PW ma mb c5 sl b
section
variable {w w':World} {k p c1 c2 c3 c4 c5:Addr} {ma mb:Nat} {L:Sp.Pool} {G:List Int} {S:List Sp.Way} {F FP:NP} {sl:Sl} {l:List Sp.Step} {B:List Int}
theorem PrfAt.ext {X:NP} (h:PrfAt w k c1 c2 c3 c4 c5 ma mb sl l B) (hE:Ext X w w') (h1:∀b,PW ma mb c5 sl b→¬ X b) (x1:¬ X c1.block) (x2:¬ X c2.block) (x3:¬ X c3.block) (x4:¬ X c4.block):PrfAt w' k c1 c2 c3 c4 c5 ma mb sl l B :=
 ⟨hE.cell h.a1 x1,hE.cell h.a2 x2,hE.cell h.a3 x3,hE.cell h.a4 x4,h.a5.ext hE (h1 _ (.inr (.inr (.inl rfl)))),h.am.ext hE (h1 _ (.inl rfl)),h.bm.ext hE (h1 _ (.inr (.inl rfl))),h.ls.ext hE (fun b hb=>h1 b (.inr (.inr (.inr hb)))),h.d,h.n1,h.n2,h.n3,h.n4,h.n5,h.n6⟩
theorem PrfAt.lt (h:PrfAt w k c1 c2 c3 c4 c5 ma mb sl l B) {b:Nat} (hb:PW ma mb c5 sl b):b<w.heap.size:=by
 rcases hb with rfl | rfl | rfl | hb
 ·exact h.am.lt
 ·exact h.bm.lt
 ·exact h.a5.lt
 ·exact h.ls.lt hb
theorem SaysAt.ext {X:NP} {n:Nat} (h:SaysAt w k p c1 c2 c3 c4 c5 ma mb L G S F FP sl l B) (hE:Ext X w w') (hn:∀b,X b→n≤b) (z1:∀b,PW ma mb c5 sl b→b<n∨¬ X b) (zc:c1.block<n∧c2.block<n∧c3.block<n∧c4.block<n) (zF:∀b,F b→b<n) (zP:∀b,FP b→b<n):SaysAt w' k p c1 c2 c3 c4 c5 ma mb L G S F FP sl l B:=by
 have hx:∀b,b<n→¬ X b:=fun b hb hX=>by have:=hn b hX;omega
 exact ⟨h.prf.ext hE (fun b hb=>(z1 b hb).elim (hx b) id) (hx _ zc.1) (hx _ zc.2.1) (hx _ zc.2.2.1) (hx _ zc.2.2.2),h.know.ext hE (fun b hb=>hx b (zF b hb)),h.pool.ext hE (fun b hb=>hx b (zP b hb)),h.dF,h.dP⟩
theorem SaysAt.pure (h:SaysAt w k p c1 c2 c3 c4 c5 ma mb L G S F FP sl l B) (E:Pure w w'):SaysAt w' k p c1 c2 c3 c4 c5 ma mb L G S F FP sl l B :=
 ⟨h.prf.ext E (fun _ _ h=>h) (fun h=>h) (fun h=>h) (fun h=>h) (fun h=>h),h.know.pure E,h.pool.pure E,h.dF,h.dP⟩
theorem SaysAt.zc (h:SaysAt w k p c1 c2 c3 c4 c5 ma mb L G S F FP sl l B):c1.block<w.heap.size∧c2.block<w.heap.size∧c3.block<w.heap.size∧c4.block<w.heap.size :=
 ⟨World.block_lt_of_cell? w _ h.prf.a1,World.block_lt_of_cell? w _ h.prf.a2,World.block_lt_of_cell? w _ h.prf.a3,World.block_lt_of_cell? w _ h.prf.a4⟩
theorem PrfAt.bar (h:PrfAt w k c1 c2 c3 c4 c5 ma mb sl l B) (t:Int):∃w',(Instr.mapUpdate 153 (.map (some mb)) (.int .i64 t) (.bool true)).run Tryz.prog w=.ok () w'∧(∃B',(B'=B∨B'=B++[t])∧PrfAt w' k c1 c2 c3 c4 c5 ma mb sl l B')∧Ext (·=mb) w w':=by
 have hd:=h.d mb (.inr (.inl rfl))
 have back:∀{w':World} {B':List Int},IMap tru w' mb (bmap B')→Ext (·=mb) w w'→PrfAt w' k c1 c2 c3 c4 c5 ma mb sl l B':=fun hI hE =>
  ⟨hE.cell h.a1 (fun e=>hd.1 e.symm),hE.cell h.a2 (fun e=>hd.2.1 e.symm),hE.cell h.a3 (fun e=>hd.2.2.1 e.symm),hE.cell h.a4 (fun e=>hd.2.2.2 e.symm),h.a5.ext hE (fun e=>h.n3 e.symm),h.am.ext hE h.n1,hI,h.ls.ext hE (fun b hb e=>h.n5 (e▸hb)),h.d,h.n1,h.n2,h.n3,h.n4,h.n5,h.n6⟩
 cases hl:SE.look (bmap B) t with
 | none =>
  obtain ⟨w',h1,h2,h3⟩:=h.bm.put (P:=Tryz.prog) (T:=153) Tryz.underlying153 Tryz.underlying30 hl ()
  exact ⟨w',h1,⟨_,.inr rfl,back (by rw [bmap_snoc];exact h2) h3⟩,h3⟩
 | some v =>
  cases v
  obtain ⟨w',h1,h2,h3⟩:=h.bm.again (P:=Tryz.prog) (T:=153) Tryz.underlying153 Tryz.underlying30 hl
  exact ⟨w',h1,⟨_,.inl rfl,back h2 h3⟩,h3⟩
end
structure SaysRet (w0:World) (k p:Addr) (c1 c2 c3 c4 c5:Addr) (ma mb:Nat) (L:Sp.Pool) (G:List Int) (S:List Sp.Way) (F FP:NP) (sl:Sl) (l:List Sp.Step) (t r:Int) (ok:Bool) (w':World) (sl':Sl) (M:List Sp.Step) (B':List Int):Prop where
 st:SaysAt w' k p c1 c2 c3 c4 c5 ma mb L G S F FP sl' (l++M) B'
 prf:Sp.PrfOk L G (fun x=>x∈Sp.wkeys S) (l++M) B'
 new:∀s∈M,Sp.rank S s.t≤Sp.rank S t∧(Sp.Sub L t s.t∨s.t∈Sp.wkeys S)
 idx:ok=true→∃i,r=((i:Nat):Int)∧∃hi:i<(l++M).length,(l++M)[i].t=t
 drv:ok=true↔Sp.Drv L (fun x=>x∈Sp.wkeys S) t
 ext:Ext (PW ma mb c5 sl) w0 w'
 own:∀b,sl'.blk b→sl.blk b∨w0.heap.size≤b
 last:ok=true→M=[]∨Sp.tAt (l++M) (((l++M).length:Int) - 1)=t
 dp:∀s∈M,Sp.Dp L S t s.t
 cl:∀s∈M,∀y,Sp.Dep L S s.t y→y∈(l++M).map Sp.Step.t
structure SaysCur (w0:World) (H:NP) (w:World) (k p:Addr) (c1 c2 c3 c4 c5:Addr) (ma mb:Nat) (L:Sp.Pool) (G:List Int) (S:List Sp.Way) (F FP:NP) (sl:Sl) (l:List Sp.Step) (t:Int) (sl1:Sl) (M B:_):Prop where
 st:SaysAt w k p c1 c2 c3 c4 c5 ma mb L G S F FP sl1 (l++M) B
 prf:Sp.PrfOk L G (fun x=>x∈Sp.wkeys S) (l++M) B
 new:∀s∈M,Sp.rank S s.t<Sp.rank S t∧(Sp.Sub L t s.t∨s.t∈Sp.wkeys S)
 ext:Ext (PW ma mb c5 sl) w0 w
 own:∀b,sl1.blk b→sl.blk b∨w0.heap.size≤b
 vis:∀b,sl1.blk b→¬ H b
 hs:Hst w0 H w H w
 dp:∀s∈M,Sp.Dp L S t s.t
 cl:∀s∈M,∀y,Sp.Dep L S s.t y→y∈(l++M).map Sp.Step.t
section
variable {w0 w w':World} {H H':NP} {k p c1 c2 c3 c4 c5:Addr} {ma mb:Nat} {L:Sp.Pool} {G:List Int} {S:List Sp.Way} {F FP:NP} {sl sl1 sl2:Sl} {l M M2:List Sp.Step} {B0 B B2:List Int} {t:Int}
theorem PW.old (h:SaysAt w0 k p c1 c2 c3 c4 c5 ma mb L G S F FP sl l B0) (ho:∀b,sl1.blk b→sl.blk b∨w0.heap.size≤b):∀b,PW ma mb c5 sl1 b→b<w0.heap.size→PW ma mb c5 sl b:=by
 rintro b (hb | hb | hb | hb) hlt
 ·exact .inl hb
 ·exact .inr (.inl hb)
 ·exact .inr (.inr (.inl hb))
 ·exact (ho b hb).elim (fun h=>.inr (.inr (.inr h))) (fun h=>by omega)
theorem SaysCur.nh (h:SaysCur w0 H w k p c1 c2 c3 c4 c5 ma mb L G S F FP sl l t sl1 M B) (h0:SaysAt w0 k p c1 c2 c3 c4 c5 ma mb L G S F FP sl l B0):∀b,PW ma mb c5 sl1 b→¬ H b:=by
 have old:∀b,b<w0.heap.size→¬ H b:=fun b hb hh=>by have:=h.hs.old b hh;omega
 rintro b (rfl | rfl | rfl | hb)
 ·exact old _ (h0.prf.lt (.inl rfl))
 ·exact old _ (h0.prf.lt (.inr (.inl rfl)))
 ·exact old _ (h0.prf.lt (.inr (.inr (.inl rfl))))
 ·exact h.vis b hb
theorem SaysCur.hst (h:SaysCur w0 H w k p c1 c2 c3 c4 c5 ma mb L G S F FP sl l t sl1 M B) (h0:SaysAt w0 k p c1 c2 c3 c4 c5 ma mb L G S F FP sl l B0) (hs:Hst w0 H w H' w'):SaysCur w0 H' w' k p c1 c2 c3 c4 c5 ma mb L G S F FP sl l t sl1 M B:=by
 have dj:=hs.disj (G:=PW ma mb c5 sl1) (fun b hb=>⟨h.st.prf.lt hb,h.nh h0 b hb⟩)
 exact ⟨h.st.ext hs.ext hs.old (fun b hb=>.inr (dj b hb)) h0.zc (fun b hb=>h0.know.lt hb) (fun b hb=>h0.pool.lt hb),h.prf,h.new,h.ext.hst hs,h.own,fun b hb=>dj b (.inr (.inr (.inr hb))),hs.here,h.dp,h.cl⟩
theorem SaysCur.step {u r : Int} {ok : Bool} (h : SaysCur w0 H w k p c1 c2 c3 c4 c5 ma mb L G S F FP sl l t sl1 M B) (h0 : SaysAt w0 k p c1 c2 c3 c4 c5 ma mb L G S F FP sl l B0) (hr : SaysRet w k p c1 c2 c3 c4 c5 ma mb L G S F FP sl1 (l ++ M) u r ok w' sl2 M2 B2) (hu : Sp.rank S u < Sp.rank S t) (hsub : Sp.Sub L t u ∨ u ∈ Sp.wkeys S) (hcl : ∀ x, u ∈ Sp.wkeys S → Sp.rank S x ≤ Sp.rank S u → x ∈ Sp.wkeys S) (hdep : Sp.Dep L S t u) :
  Kept H w w'∧SaysCur w0 H w' k p c1 c2 c3 c4 c5 ma mb L G S F FP sl l t sl2 (M++M2) B2:=by
 have hk:Kept H w w':=hr.ext.kept (fun b hb hx=>h.nh h0 b hx hb)
 refine ⟨hk,by rw [← List.append_assoc];exact hr.st,by rw [← List.append_assoc];exact hr.prf,fun s hs=>?_,h.ext.trans' hr.ext (fun i hi hb=>PW.old h0 h.own i hb hi),fun b hb=>?_,fun b hb hh=>?_,h.hs.again hk,fun s hs=>?_,fun s hs y hy=>?_⟩
 ·rcases List.mem_append.1 hs with hs | hs
  ·exact h.new s hs
  ·obtain ⟨q1,q2⟩:=hr.new s hs
   refine ⟨by omega,?_⟩
   rcases q2 with q2 | q2
   ·rcases hsub with h1 | h1
    ·exact .inl (h1.trans q2)
    ·exact .inr (hcl _ h1 q1)
   ·exact .inr q2
 ·rcases hr.own b hb with h1 | h1
  ·exact h.own b h1
  ·right;have:=h.ext.size;omega
 ·rcases hr.own b hb with h1 | h1
  ·exact h.vis b h1 hh
  ·have:=h.hs.lt b hh;omega
 ·rcases List.mem_append.1 hs with hs | hs
  ·exact h.dp s hs
  ·exact .step hdep (hr.dp s hs)
 ·rw [← List.append_assoc]
  rcases List.mem_append.1 hs with hs | hs
  ·rw [List.map_append];exact List.mem_append_left _ (h.cl s hs y hy)
  ·exact hr.cl s hs y hy
end
end Go.Proofs
end
section
open Go Go.SE
namespace Go.Proofs
section
variable {H:Type} {enc:TypeId×Value→H} {P:Program} {W:World} {base:Nat} {sp:Nat→Bool} {held:Bool}
theorem row_lt {a:Addr} {v:Value} {vs:List Value} (h:Row W a (v :: vs)):a.block<W.heap.size:=by
 have:=h 0 (by simp)
 have:=World.block_lt_of_cell? W (a.add 0) this
 rwa [add_block] at this
theorem list_of_trod {α : Type} {tS e : TypeId} {sz : Nat} {f : α → List Value} (hS : P.underlying tS = some (.slice e)) (hc : P.cellsOf e = sz) (hf : ∀ a, ∃ v vs, f a = v :: vs) (x0 : α)
  (hel:∀(n:Nat) (cs:List Value) (x:DataW H×List MemPlace),DataW.trod enc P W base sp held n e cs=some x→∃a,cs=f a) {n:Nat} {c:Value} {x:DataW H×List MemPlace} (h:DataW.trod enc P W base sp held n tS [c]=some x) :
  ∃s:Sl,∃xs:List α,c=s.v∧Lst (fun b=>b<W.heap.size) W sz s (xs.map f):=by
 cases n with
 | zero=>cases h
 | succ n =>
  rcases trod_slice1 hS h with rfl | ⟨a,len,cap,rfl,hle,hcm,hall⟩
  ·exact ⟨Sl.nil,[],rfl,⟨rfl,fun i hi=>by simp at hi⟩⟩
  ·rw [hc] at hall
   have hex:∀i,∃q:α,i<len→Row W (a.add (i*sz)) (f q):=by
    intro i
    by_cases hi:i<len
    ·obtain ⟨cs,y,h1,h2⟩:=hall i hi
     obtain ⟨q,rfl⟩:=hel n cs y h2
     exact ⟨q,fun _=>(cells_row h1).2⟩
    ·exact ⟨x0,fun h=>absurd h hi⟩
   obtain ⟨q,hq⟩:=Classical.axiomOfChoice hex
   refine ⟨⟨some a,len,cap⟩,(List.range len).map q,rfl,⟨by simp,fun i hi=>?_⟩⟩
   have hi:i<len:=by simpa using hi
   have hr:=hq i hi
   obtain ⟨v,vs,e⟩:=hf (q i)
   refine ⟨a.add (i*sz),⟨by omega,by simpa using hi,a,rfl,by simp⟩,?_,by simpa using hr⟩
   rw [e] at hr;exact row_lt hr
end
section
variable {H:Type} {enc:TypeId×Value→H} {W:World} {base:Nat} {sp:Nat→Bool} {held:Bool}
end
end Go.Proofs
end
section
open Go Go.SE
namespace Go.Proofs
section
variable {H:Type} {enc:TypeId×Value→H} {P:Program} {W:World} {base:Nat} {sp:Nat→Bool} {held:Bool}
theorem bytes_of_trod {tS e : TypeId} (hS : P.underlying tS = some (.slice e)) (he : P.underlying e = some (.int .u8)) (hc : P.cellsOf e = 1) {v : Value} {d : DataW H} {ps : List MemPlace} (h : DataW.Trod enc P W base sp held tS v d ps) (hv : ∃ a n c, v = .slice a n c) :
  ∃s:Sl,∃bs:List UInt8,v=s.v∧Lst (fun b=>b<W.heap.size) W 1 s (byr bs)∧(s.a=none→s=Sl.nil):=by
 obtain ⟨n,h⟩:=h
 obtain ⟨a,m,c,rfl⟩:=hv
 have hz:=h
 have:=list_of_trod (f:=fun b:UInt8=>[Value.int .u8 (b.toNat:Int)]) hS hc (fun a=>⟨_,_,rfl⟩) 0 (fun n cs x h=>?_) h
 ·obtain ⟨s,bs,e1,hL⟩:=this
  refine ⟨s,bs,e1,hL,fun hn=>?_⟩
  cases n with
  | zero=>cases hz
  | succ n =>
   change DataW.trod enc P W base sp held (n+1) tS [_]=_ at hz
   rcases trod_slice1 hS hz with e2 | ⟨a',l',c',e2,_⟩
   ·rw [e1] at e2
    obtain ⟨sa,sl,sc⟩:=s
    simp only [Sl.v,Value.slice.injEq] at e2
    obtain ⟨rfl,rfl,rfl⟩:=e2;rfl
   ·rw [e1] at e2
    obtain ⟨sa,sl,sc⟩:=s
    simp only [Sl.v,Value.slice.injEq] at e2
    simp only at hn
    rw [hn] at e2
    cases e2.1
 ·cases n with
  | zero=>cases h
  | succ n =>
   rw [DataW.trod_step] at h
   unfold DataW.trodStep at h
   rw [he] at h
   cases cs with
   | nil=>simp at h
   | cons c l =>
    cases l with
    | cons c2 l2=>cases c <;> simp at h
    | nil =>
     cases c with
     | int k z =>
      simp only at h
      split at h
      ·rename_i hw
       obtain ⟨rfl,hw⟩:=hw
       have hr:0≤z∧z<256:=by
        have h1:IntKind.u8.min=0:=by rfl
        have h2:IntKind.u8.max=255:=by rfl
        simp only [Lit.wf,Bool.and_eq_true,decide_eq_true_eq,h1,h2] at hw
        omega
       refine ⟨UInt8.ofNat z.toNat,?_⟩
       have:((UInt8.ofNat z.toNat).toNat:Int)=z:=by simp [UInt8.toNat_ofNat];omega
       rw [this]
      ·cases h
     | _=>simp at h
end
end Go.Proofs
end
