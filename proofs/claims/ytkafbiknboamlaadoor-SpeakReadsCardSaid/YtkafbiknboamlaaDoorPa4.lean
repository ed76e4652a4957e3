import Derived.Test.YtkafbiknboamlaaDoorPa3
import Derived.Test.YtkafbiknboamlaaDoorPa1
import Derived.ProofKit
import Derived.Carry
import Derived.OpenShut
import Derived.Stop.Joined
import Derived.Test.YtkafbiknboamlaaDoorPa2
section
open Go Go.SE
namespace Go.Proofs
open Tryd
attribute [local irreducible] Calls
theorem jGB (c k:Nat) (h:k≤c) (hc:c<256):IntKind.u8.wrap ((c:Int) - (k:Int))=((c - k:Nat):Int):=by
 rw [show (c:Int) - (k:Int)=((c - k:Nat):Int) by omega];simp [IntKind.wrap,IntKind.bits,IntKind.signed];omega
abbrev NumK (w0:World) (a:Addr) (x:ByteArray) (q:Sp.Rr Nat) (m f:Int) (w':World):Prop :=
 RSt w' a x (q.bind fun n i=>(Sp.vZ (bts x) i).bind fun _ j=>.ok n j)∧Ext (·=a.block) w0 w'∧∀n i,q=.ok n i→f=(i:Int)∧∀v j,Sp.vZ (bts x) i=.ok v j→m=(v:Int)
theorem jGM {w0 w':World} {a:Addr} {x:ByteArray} {n i:Nat} {m:Int} {R:Sp.Rr Nat} (e:Sp.vZ (bts x) i=R) (h:RSt w' a x (R.bind fun _ j=>.ok n j)) (E:Ext (·=a.block) w0 w') (hm:∀v j,R=.ok v j→m=(v:Int)):NumK w0 a x (.ok n i) m (i:Int) w':=by
 refine ⟨?_,E,?_⟩
 ·show RSt w' a x ((Sp.vZ (bts x) i).bind fun _ j=>.ok n j);rw [e];exact h
 ·intro n' i' e';cases e';exact ⟨rfl,fun v j ev=>hm v j (by rw [← e];exact ev)⟩
theorem num_j1 {w0 w:World} {H:NP} {a:Addr} {x:ByteArray} {n i j:Nat} {wide:Bool} (hi:i≤(bts x).length) (hn:n≤4096) (hc:(bts x).length≤10000000) (hij:i≤j) (hj:j≤(bts x).length) (hP:(Sp.jX (bts x) i).length=j - i) (hw:wide=decide (18446744073709551616≤Sp.decV (Sp.jX (bts x) i)))
  (hR:Rdr w a x j n 0 0) (E:Ext (·=a.block) w0 w) (hna:¬ H a.block) :
  m_F_j1 (some a) (i:Int) ((Sp.decV (Sp.jX (bts x) i) % 18446744073709551616:Nat):Int) wide H w (fun m f w'=>NumK w0 a x (.ok n i) m f w'):=by
 unfold m_F_j1
 have st:RSt w a x (.ok n j):=⟨hR,hj,hn⟩
 refine ⟨a,rfl,_,zD hR,fun h=>?_,fun h=>?_⟩
 ·have hji:j=i:=by have:=beq_iff_eq.1 h;omega
  subst hji
  have h0:Sp.jX (bts x) j=[]:=List.length_eq_zero_iff.1 (by omega)
  refine (yJ a x j n w st).mono ?_
  rintro _ w1 ⟨rfl,h1,E1⟩
  refine ⟨rfl,E1.kept (fun b hb e=>hna (e▸hb)),jGM (R:=.no (if j=(bts x).length then 3 else 60) j) ?_ h1 (E.trans E1) (fun _ _ h=>by cases h)⟩
  unfold Sp.vZ
  by_cases hlt:j<(bts x).length
  ·rw [List.getElem?_eq_getElem hlt]
   simp only
   have hd:Sp.isDig (bts x)[j]=false:=by
    cases hd:Sp.isDig (bts x)[j] with
    | false=>rfl
    | true=>rw [Sp.vH hlt hd] at h0;cases h0
   rw [if_pos hd,if_neg (show ¬ j=(bts x).length by omega)]
  ·rw [List.getElem?_eq_none (by omega)]
   simp only
   rw [if_pos (show j=(bts x).length by omega)]
 ·have hji:i<j:=by have:=beq_eq_false_iff_ne.1 h;omega
  have hlt:i<(bts x).length:=by omega
  have hd:Sp.isDig (bts x)[i]=true:=by
   cases hd:Sp.isDig (bts x)[i] with
   | true=>rfl
   | false=>rw [Sp.yC hlt hd] at hP;simp at hP;omega
  have hs:=Sp.vH hlt hd
  have spn:∀b,Sp.qR (Sp.jX (bts x) i)=b→Sp.vZ (bts x) i=if b=true then .no 61 i else .ok (Sp.decV (Sp.jX (bts x) i)) j:=fun b hb=>by
   unfold Sp.vZ;rw [List.getElem?_eq_getElem hlt];simp only;rw [if_neg (by rw [hd];decide),hb,show i+(Sp.jX (bts x) i).length=j by omega]
  have hbad:Sp.qR (Sp.jX (bts x) i)=(wide || (decide (1<j - i) && decide ((bts x)[i]=48))):=by
   unfold Sp.qR;rw [← hw,hP,hs,List.head?_cons];congr 2
  have bad:∀{w':World} {m:Int},Sp.qR (Sp.jX (bts x) i)=true→RSt w' a x (.no 61 i)→Ext (·=a.block) w w'→NumK w0 a x (.ok n i) m (i:Int) w':=fun {w' m} hb h1 E1=>jGM (R:=.no 61 i) (by rw [spn _ hb,if_pos rfl]) h1 (E.trans E1) (fun _ _ h=>by cases h)
  have good:Sp.qR (Sp.jX (bts x) i)=false→NumK w0 a x (.ok n i) ((Sp.decV (Sp.jX (bts x) i) % 18446744073709551616:Nat):Int) (i:Int) w:=fun hb=>jGM (R:=.ok (Sp.decV (Sp.jX (bts x) i)) j) (by rw [spn _ hb,if_neg (by simp)]) st E (fun v j' h=>by
   cases h;have:Sp.decV (Sp.jX (bts x) i)<18446744073709551616:=by
    have:wide=false:=by rw [hbad] at hb;cases wide <;> simp_all
    rw [hw] at this;have:=of_decide_eq_false this;omega
   omega)
  refine ⟨fun hwd=>?_,fun hwd=>⟨a,rfl,_,hR.cell0,_,qP x i hlt w,fun h48=>⟨a,rfl,_,zD hR,fun h2=>?_,fun h2=>?_⟩,fun h48=>?_⟩⟩
  ·refine (vB a x 61 i (by decide) (.ok n j) w st).mono ?_
   rintro _ w1 ⟨rfl,h1,E1⟩
   exact ⟨rfl,E1.kept (fun b hb e=>hna (e▸hb)),bad (by rw [hbad,hwd];rfl) h1 E1⟩
  ·rw [zV (show i≤(bts x).length by omega) (by omega)] at h2
   have h2:=of_decide_eq_true h2
   have h48:(bts x)[i]=48:=by
    have:=beq_iff_eq.1 h48;apply UInt8.toNat_inj.1;show (bts x)[i].toNat=48;omega
   refine (vB a x 61 i (by decide) (.ok n j) w st).mono ?_
   rintro _ w1 ⟨rfl,h1,E1⟩
   exact ⟨rfl,E1.kept (fun b hb e=>hna (e▸hb)),bad (by rw [hbad,decide_eq_true (show 1<j - i by omega),decide_eq_true h48];simp) h1 E1⟩
  ·rw [zV (show i≤(bts x).length by omega) (by omega)] at h2
   have h2:=of_decide_eq_false h2
   exact good (by rw [hbad,hwd,decide_eq_false (show ¬ 1<j - i by omega)];rfl)
  ·have h48:(bts x)[i]≠48:=fun e=>by rw [e] at h48;exact absurd h48 (by decide)
   exact good (by rw [hbad,hwd,decide_eq_false h48];simp)
set_option maxHeartbeats 1000000 in
theorem jFP (a:Addr) (x:ByteArray) (q:Sp.Rr Nat) (w0:World) (h:RSt w0 a x q) (hc:(bts x).length≤10000000) :
  Calls prog 57 #[.pointer (some a)] w0 (fun e w'=>∃m f:Int,e=.returned (.tuple #[.int .u64 m,.int .i64 f])∧NumK w0 a x q m f w'):=by
 refine w_F (some a) w0 (fun m f w'=>NumK w0 a x q m f w') ?_
 unfold m_F
 have hl:=kO x
 cases q with
 | no er k =>
  obtain ⟨h0,i,n,hi,h1⟩:=h
  exact ⟨a,rfl,_,zD h1,a,rfl,_,vA h1,Br.t (by simpa using h0) ⟨⟨h0,i,n,hi,h1⟩,Ext.refl _,fun _ _ e=>by cases e⟩⟩
 | ok n i =>
  obtain ⟨h1,hi,hn⟩:=h
  refine ⟨a,rfl,_,zD h1,a,rfl,_,vA h1,Br.f rfl ?_⟩
  have nH:∀{H:NP} {w w':World},Hst w0 H w H w'→¬ H a.block:=fun hs hh=>by have:=hs.old _ hh;have:=h1.lt;omega
  refine ⟨fun n2 wide2 H w=>(∀b,H b→w0.heap.size≤b)∧∃(j:Nat) (P:List UInt8),Sp.jX (bts x) i=P++Sp.jX (bts x) j∧j=i+P.length∧j≤(bts x).length∧n2=((Sp.decV P % 18446744073709551616:Nat):Int)∧wide2=decide (18446744073709551616≤Sp.decV P)∧Rdr w a x j n 0 0∧Ext (·=a.block) w0 w,
   fun _ _ w=>match w.cell? (a.add 1) with | some (.int _ k)=>((bts x).length - k.toNat) | _=>0,⟨fun b hb=>hb.elim,i,[],rfl,rfl,hi,rfl,rfl,h1,Ext.refl _⟩,?_⟩
  rintro _ _ Hl wl hsl ⟨hHl,j,P,hD,hj,hjl,rfl,rfl,hR,hE⟩
  unfold m_F_l2
  have hna:=nH hsl
  refine ⟨a,rfl,fun w7 hs7=>?_⟩
  have h7:=hR.ext hs7.ext hna
  have E7:Ext (·=a.block) w0 w7:=hE.trans' hs7.ext (fun b hb hh=>by have:=hHl _ hh;omega)
  have done:Sp.jX (bts x) j=[]→m_F_j3 (some a) (i:Int) ((Sp.decV P % 18446744073709551616:Nat):Int) (decide (18446744073709551616≤Sp.decV P)) false w0 Hl w7 (fun y'0 y'1 H' w'=>((∀b,H' b→w0.heap.size≤b)∧∃(j:Nat) (P:List UInt8),Sp.jX (bts x) i=P++Sp.jX (bts x) j∧j=i+P.length∧j≤(bts x).length∧y'0=((Sp.decV P % 18446744073709551616:Nat):Int)∧y'1=decide (18446744073709551616≤Sp.decV P)∧Rdr w' a x j n 0 0∧Ext (·=a.block) w0 w')∧(match w'.cell? (a.add 1) with | some (.int _ k)=>((bts x).length - k.toNat) | _=>0)<(match wl.cell? (a.add 1) with | some (.int _ k)=>((bts x).length - k.toNat) | _=>0)) (fun m f w'=>NumK w0 a x (.ok n i) m f w'):=fun e0=>by
   unfold m_F_j3;have hP:Sp.jX (bts x) i=P:=by rw [hD,e0,List.append_nil]
   refine Br.f rfl ?_;rw [← hP] at hj ⊢;exact num_j1 hi hn hc (by omega) hjl (by omega) rfl h7 E7 hna
  have hdj:∀hlt:j<(bts x).length,¬ (48≤(bts x)[j].toNat∧(bts x)[j].toNat≤57)→Sp.jX (bts x) j=[]:=fun hlt hh=>Sp.yC hlt (by unfold Sp.isDig;rw [Bool.and_eq_false_iff,decide_eq_false_iff_not,decide_eq_false_iff_not];omega)
  refine ⟨_,zD h7,a,rfl,x,h7.cell0,fun hc=>?_,fun hc=>done (Sp.xA (by have:=of_decide_eq_false hc;omega))⟩
  have hlt:j<(bts x).length:=by have:=of_decide_eq_true hc;omega
  refine ⟨a,rfl,x,h7.cell0,a,rfl,_,zD h7,_,qP x j hlt w7,fun hb=>?_,fun hb=>done (hdj hlt (by have:=of_decide_eq_false hb;omega))⟩
  have hb:=of_decide_eq_true hb
  refine ⟨a,rfl,x,h7.cell0,a,rfl,_,zD h7,_,qP x j hlt w7,?_⟩
  by_cases hb2:(bts x)[j].toNat≤57
  ·rw [decide_eq_true (show ((bts x)[j].toNat:Int)≤57 by omega)]
   unfold m_F_j3
   refine Br.t rfl ⟨a,rfl,fun w4 hs4=>?_⟩
   have r4:=h7.ext hs4.ext hna
   have E4:Ext (·=a.block) w0 w4:=E7.trans' hs4.ext (fun b hb hh=>by have:=hHl _ hh;omega)
   have hd:=jGB (bts x)[j].toNat 48 (by omega) (UInt8.toNat_lt _)
   refine ⟨_,r4.cell0,a,rfl,_,zD r4,_,qP x j hlt w4,?_⟩
   have hstep:Sp.jX (bts x) j=(bts x)[j] :: Sp.jX (bts x) (j+1):=Sp.vH hlt (by unfold Sp.isDig;rw [Bool.and_eq_true,decide_eq_true_eq,decide_eq_true_eq];omega)
   have hsn:=Sp.jDE P (bts x)[j]
   generalize (bts x)[j]=c at *
   have hclt:=c.toNat_lt
   rw [show (c.toNat:Int) - 48=(c.toNat:Int) - ((48:Nat):Int) from rfl,hd]
   obtain ⟨d,hdd⟩:∃d,d=c.toNat - 48:=⟨_,rfl⟩
   rw [← hdd] at hsn ⊢
   have hd9:d≤9:=by omega
   have e1:IntKind.u64.wrap (d:Int)=(d:Int):=by rw [IntKind.wrap_u64];omega
   have e2:IntKind.u64.wrap (18446744073709551615 - (d:Int))=((18446744073709551615 - d:Nat):Int):=by rw [IntKind.wrap_u64];omega
   rw [e1,e2]
   refine ⟨_,jCF (18446744073709551615 - d) (by omega),a,rfl,fun H1 w5 hs5=>?_⟩
   have hn1:¬ H1 a.block:=fun hh=>by have:=hs5.here.old _ hh;have:=h1.lt;omega
   have r5:=r4.ext hs5.ext hn1
   have E5:Ext (·=a.block) w0 w5:=E4.trans' hs5.ext (fun b hb hh=>by have:=hs5.here.old b hh;omega)
   refine ⟨_,zD r5,a,rfl,r5.canW (i:=1) (by simp),hn1,?_⟩
   rintro w6 rfl
   rw [zV (show j≤(bts x).length by omega) (by omega)]
   refine ⟨⟨fun b hb=>hs5.here.old b hb,j+1,P++[c],by rw [hD,hstep,List.append_assoc];rfl,by simp;omega,hlt,?_,?_,kM r5 (j+1),E5.trans kP⟩,?_⟩
   ·rw [hsn,IntKind.wrap_u64,IntKind.wrap_u64]
    omega
   ·rw [hsn]
    by_cases hV:18446744073709551616≤Sp.decV P
    ·rw [decide_eq_true hV,Bool.or_true,decide_eq_true (show 18446744073709551616≤10*Sp.decV P+d by omega)]
    ·rw [decide_eq_false hV,Bool.or_false,Nat.mod_eq_of_lt (by omega)]
     by_cases hV2:18446744073709551616≤10*Sp.decV P+d
     ·rw [decide_eq_true hV2,decide_eq_true (by omega)]
     ·rw [decide_eq_false hV2,decide_eq_false (by omega)]
   ·show (match (w5.setCell (a.add 1) (.int .i64 ((j+1:Nat):Int))).cell? (a.add 1) with | some (.int _ k)=>((bts x).length - k.toNat) | _=>0)<(match wl.cell? (a.add 1) with | some (.int _ k)=>((bts x).length - k.toNat) | _=>0)
    rw [zD (kM r5 (j+1)),zD hR]
    simp only
    omega
  ·rw [decide_eq_false (show ¬ ((bts x)[j].toNat:Int)≤57 by omega)]
   exact done (hdj hlt (by omega))
theorem lM (a:Addr) (x:ByteArray) (nt:Int) (q:Sp.Rr Nat) (w0:World) (h:RSt w0 a x q) (hc:(bts x).length≤10000000) :
  Calls prog 56 #[.pointer (some a),.int .i64 nt] w0 (fun e w'=>∃m:Int,e=.returned (.int .i64 m)∧(RSt w' a x (q.bind fun n i=>(Sp.zP (bts x) nt i).bind fun _ j=>.ok n j)∧Ext (·=a.block) w0 w'∧∀n i v j,q=.ok n i→Sp.zP (bts x) nt i=.ok v j→m=(v:Int))):=by
 refine w_U1 (some a) nt w0 (fun m w'=>RSt w' a x (q.bind fun n i=>(Sp.zP (bts x) nt i).bind fun _ j=>.ok n j)∧Ext (·=a.block) w0 w'∧∀n i v j,q=.ok n i→Sp.zP (bts x) nt i=.ok v j→m=(v:Int)) ?_
 unfold m_U1
 refine (jFP a x q w0 h hc).mono ?_
 rintro _ w1 ⟨m,f,rfl,h1,E1,hv⟩
 refine ⟨m,f,rfl,a,rfl,?_⟩
 have bad:∀{er:Int} {k:Nat},RSt w1 a x (.no er k)→∃v1:Int,w1.cell? (a.add 3)=some (.int .i64 v1)∧v1≠0:=fun h=>by
  obtain ⟨h0,i,n,hi,h⟩:=h;exact ⟨_,vA h,h0⟩
 cases q with
 | no er k =>
  obtain ⟨v1,hv1,h0⟩:=bad h1
  have hb:((v1:Int) == 0)=false:=by simpa using h0
  exact ⟨v1,hv1,Br.f (by rw [hb];rfl) ⟨a,rfl,v1,hv1,Br.t (by simpa using h0) ⟨h1,E1,fun _ _ _ _ e=>by cases e⟩⟩⟩
 | ok n i =>
  obtain ⟨rfl,hv2⟩:=hv n i rfl
  have h1:RSt w1 a x ((Sp.vZ (bts x) i).bind fun _ j=>.ok n j):=h1
  obtain ⟨R,hR⟩:∃R,Sp.vZ (bts x) i=R:=⟨_,rfl⟩
  have hN:Sp.zP (bts x) nt i=R.bind fun n j=>if 16≤n∨(n:Int)=nt then .no 50 i else .ok n j:=by unfold Sp.zP;rw [hR]
  have fin : ∀ {Y : Sp.Rr Nat} {m' : Int} {w' : World}, Sp.zP (bts x) nt i = Y → RSt w' a x (Y.bind fun _ j => .ok n j) → Ext (· = a.block) w0 w' → (∀ v j, Y = .ok v j → m' = (v : Int)) →
    (RSt w' a x ((Sp.Rr.ok n i).bind fun n i=>(Sp.zP (bts x) nt i).bind fun _ j=>.ok n j)∧Ext (·=a.block) w0 w'∧∀n' i' v j,Sp.Rr.ok n i=.ok n' i'→Sp.zP (bts x) nt i'=.ok v j→m'=(v:Int)):=fun e h E hm =>
   ⟨by show RSt _ a x ((Sp.zP (bts x) nt i).bind fun _ j=>.ok n j);rw [e];exact h,E,fun n' i' v j e1 e2=>by cases e1;exact hm v j (e▸e2)⟩
  rw [hR] at h1 hv2
  cases R with
  | no er k =>
   obtain ⟨v1,hv1,h0⟩:=bad h1
   have hb:((v1:Int) == 0)=false:=by simpa using h0
   exact ⟨v1,hv1,Br.f (by rw [hb];rfl) ⟨a,rfl,v1,hv1,Br.t (by simpa using h0) (fin hN h1 E1 (fun _ _ h=>by cases h))⟩⟩
  | ok v j =>
   obtain rfl:=hv2 v j rfl
   by_cases hh:16≤v∨(v:Int)=nt
   ·have hb : (((0 : Int) == 0) && ((decide ((v : Int) ≥ 16)) || ((IntKind.i64.wrap (v : Int) : Int) == nt))) = true := by
     by_cases h16:16≤v
     ·rw [decide_eq_true (show (v:Int)≥16 by omega)];rfl
     ·rw [IntWalk.i64_in _ (by omega),show ((v:Int) == nt)=true by have:=hh.resolve_left h16;simpa using this];simp
    have hN:Sp.zP (bts x) nt i=.no 50 i:=hN.trans (if_pos hh)
    refine ⟨0,vA h1.1,Br.t hb ?_⟩
    refine (vB a x 50 i (by decide) (.ok n j) w1 h1).mono ?_
    rintro _ w5 ⟨rfl,h5,E5⟩
    refine ⟨rfl,a,rfl,?_⟩
    have h5':=h5
    obtain ⟨h0,i',n',hi',r5⟩:=h5'
    exact ⟨_,vA r5,Br.t (by decide) (fin hN h5 (E1.trans E5) (fun _ _ h=>by cases h))⟩
   ·have hv16:v<16:=by omega
    have hw:IntKind.i64.wrap (v:Int)=(v:Int):=IntWalk.i64_in _ (by omega)
    have hb:(((0:Int) == 0) && ((decide ((v:Int)≥16)) || ((IntKind.i64.wrap (v:Int):Int) == nt)))=false:=by
     rw [hw,decide_eq_false (show ¬ (v:Int)≥16 by omega),show ((v:Int) == nt)=false from beq_eq_false_iff_ne.2 (by omega)];rfl
    have hN:Sp.zP (bts x) nt i=.ok v j:=hN.trans (if_neg hh)
    exact ⟨0,vA h1.1,Br.f hb ⟨a,rfl,0,vA h1.1,Br.f rfl (fin hN h1 E1 (fun _ _ h=>by cases h;exact hw))⟩⟩
theorem jBM (c:Nat) (h:c<256):s_I (c:Int)=match Sp.tU c with | none=>-1 | some v=>(v:Int):=by
 have:∀c:Fin 256,s_I (c.val:Int)=match Sp.tU c.val with | none=>-1 | some v=>(v:Int):=by decide +kernel
 exact this ⟨c,h⟩
theorem jFQ (a:Addr) (x:ByteArray) (q:Sp.Rr Nat) (w0:World) (h:RSt w0 a x q) (hc:(bts x).length≤10000000) :
  Calls prog 71 #[.pointer (some a)] w0 (fun e w'=>∃m:Int,e=.returned (.int .i64 m)∧(RSt w' a x (q.bind fun n i=>(Sp.kT (bts x) i).bind fun _ j=>.ok n j)∧Ext (·=a.block) w0 w'∧∀n i v j,q=.ok n i→Sp.kT (bts x) i=.ok v j→m=(v:Int))):=by
 refine w_V1 (some a) w0 (fun m w'=>RSt w' a x (q.bind fun n i=>(Sp.kT (bts x) i).bind fun _ j=>.ok n j)∧Ext (·=a.block) w0 w'∧∀n i v j,q=.ok n i→Sp.kT (bts x) i=.ok v j→m=(v:Int)) ?_
 unfold m_V1
 have hl:=kO x
 cases q with
 | no er k =>
  obtain ⟨h0,i,n,hi,h1⟩:=h
  exact ⟨a,rfl,_,vA h1,Br.t (by simpa using h0) ⟨⟨h0,i,n,hi,h1⟩,Ext.refl _,fun _ _ _ _ e=>by cases e⟩⟩
 | ok n i =>
  obtain ⟨h1,hi,hn⟩:=h
  have no:∀b,¬ None b:=fun b hb=>hb
  have word:Sp.kT (bts x) i=.no (if i=(bts x).length then 3 else 60) i→∀(H1:NP) (w3:World),Hst w0 None w0 H1 w3→Calls prog 43 #[.pointer (some a)] w3 (fun e w10=>e=.returned (.tuple #[])∧Kept H1 w3 w10∧(RSt w10 a x ((Sp.Rr.ok n i).bind fun n i=>(Sp.kT (bts x) i).bind fun _ j=>.ok n j)∧Ext (·=a.block) w0 w10∧∀n' i' v j,Sp.Rr.ok n i=.ok n' i'→Sp.kT (bts x) i'=.ok v j→(0:Int)=(v:Int))):=fun e H1 w3 hs3=>by
   have E3:=hs3.first;have r3:=h1.pure E3;refine (yJ a x i n w3 ⟨r3,hi,hn⟩).mono ?_;rintro _ w4 ⟨rfl,h4,E4⟩;refine ⟨rfl,E4.kept (fun b hb e=>by have:=hs3.here.old _ hb;have:=h1.lt;have:a.block=b:=e.symm;omega),?_,E3.pure.trans E4,fun n' i' v j e1 e2=>?_⟩
   ·show RSt w4 a x ((Sp.kT (bts x) i).bind fun _ j=>.ok n j);rw [e];exact h4
   ·cases e1;rw [e] at e2;cases e2
  refine ⟨a,rfl,_,vA h1,Br.f rfl ⟨a,rfl,_,zD h1,no _,a,rfl,_,h1.cell0,no _,fun hlt=>?_,fun hlt=>word ?_⟩⟩
  ·have hlt:i<(bts x).length:=by have:=of_decide_eq_true hlt;omega
   have hg:=List.getElem?_eq_getElem hlt
   have hdg:=jBM (bts x)[i].toNat (UInt8.toNat_lt _)
   refine ⟨a,rfl,_,h1.cell0,no _,a,rfl,_,zD h1,no _,_,fun H' w' _=>qP x i hlt w',fun h0=>⟨a,rfl,fun H1 w3 hs3=>?_⟩,fun h0=>word ?_⟩
   ·have h0:=of_decide_eq_true h0
    obtain ⟨v,hv⟩:∃v,Sp.tU (bts x)[i].toNat=some v:=by
     cases hh:Sp.tU (bts x)[i].toNat with
     | none=>rw [hdg,hh] at h0;exact absurd h0 (by decide)
     | some v=>exact ⟨v,rfl⟩
    have hsp:Sp.kT (bts x) i=.ok v (i+1):=by
     unfold Sp.kT;rw [hg];simp only;rw [hv]
    have E3:=hs3.first
    have r3:=h1.pure E3
    have hn3:¬ H1 a.block:=fun hb=>by have:=hs3.here.old _ hb;have:=h1.lt;omega
    refine ⟨_,zD r3,a,rfl,r3.canW (i:=1) (by simp),hn3,?_⟩
    rintro w5 rfl
    rw [zV (show i≤(bts x).length by omega) (by omega)]
    have r5:=kM r3 (i+1)
    refine ⟨a,rfl,_,r5.cell0,hn3,a,rfl,_,zD r5,hn3,_,fun H' w' _=>by
     rw [show IntKind.i64.wrap (((i+1:Nat):Int) - 1)=(i:Int) by rw [IntWalk.i64_in _ (by omega)];omega];exact qP x i hlt w',fun H2 w8 hs8=>⟨?_,(E3.pure.trans kP).trans' hs8.ext (fun b hb hh=>by have:=hs8.here.old b hh;omega),fun n' i' v' j' e1 e2=>?_⟩⟩
    ·show RSt w8 a x ((Sp.kT (bts x) i).bind fun _ j=>.ok n j)
     rw [hsp]
     exact ⟨r5.ext hs8.ext (fun hb=>by have:=hs8.here.old _ hb;have:=h1.lt;omega),hlt,hn⟩
    ·cases e1
     rw [hsp] at e2
     cases e2
     rw [hdg,hv]
   ·have h0:=of_decide_eq_false h0
    unfold Sp.kT
    rw [hg]
    simp only
    cases hh:Sp.tU (bts x)[i].toNat with
    | none=>simp only;rw [if_neg (show ¬ i=(bts x).length by omega)]
    | some v=>rw [hdg,hh] at h0;simp only at h0;omega
  ·have hi:i=(bts x).length:=by have:=of_decide_eq_false hlt;omega
   unfold Sp.kT
   rw [List.getElem?_eq_none (by omega)]
   simp only
   rw [if_pos hi]
structure DD (w0 w:World) (H:NP) (a:Addr) (x:ByteArray) (q:Sp.Rr Nat) (b:Sl) (acc:List UInt8):Prop where
 ds:DS w0 w H a x q
 rows:Rws w 5 1 b (byr acc)
 own:∀k,b.blk k→w0.heap.size≤k∧k<w.heap.size∧¬ H k
section
variable {w0 w w':World} {H H':NP} {a:Addr} {x:ByteArray} {q q':Sp.Rr Nat} {b:Sl} {acc:List UInt8}
theorem DD.hst (h:DD w0 w H a x q b acc) (hs:Hst w0 H w H' w'):DD w0 w' H' a x q b acc:=by
 have hd:=hs.disj (G:=fun k=>w0.heap.size≤k∧k<w.heap.size∧¬ H k) (fun k hk=>⟨hk.2.1,hk.2.2⟩);exact ⟨h.ds.hst hs,h.rows.ext hs.ext (fun k hk=>hd k (h.own k hk)),fun k hk=>⟨(h.own k hk).1,by have:=(h.own k hk).2.1;have:=hs.ext.size;omega,hd k (h.own k hk)⟩⟩
theorem DD.to (h:DD w0 w H a x q b acc) (hr:RSt w' a x q') (E:Ext (·=a.block) w w'):Kept H w w'∧DD w0 w' H a x q' b acc:=by
 obtain ⟨k1,d1⟩:=h.ds.to hr E;exact ⟨k1,d1,h.rows.ext E (fun k hk e=>by have:=(h.own k hk).1;have:=h.ds.la;omega),fun k hk=>⟨(h.own k hk).1,by have:=(h.own k hk).2.1;have:=E.size;omega,(h.own k hk).2.2⟩⟩
theorem DD.app (h:DD w0 w H a x q b acc) {c:Int} {u:UInt8} (hu:c=(u.toNat:Int)) (hl:acc.length≤20000000) {p:Addr} {w1:World} (hn:New w (.cells #[.int .u8 c] 5) p w1) :
  ∃s w2,(Builtin.append_ #[49,49] 49 #[b.v,(Sl.mk (some p) 1 1).v]).run prog w1=.ok s.v w2∧Kept H w1 w2∧DD w0 w2 H a x q s (acc++[u]):=by
 subst hu
 have E1:Pure w w1:=Ext.new hn
 have z:=h.ds.ext.size
 have z1:=E1.size
 obtain ⟨k1,d1⟩:=h.to (h.ds.st.pure E1) E1.pure
 obtain ⟨s,w2,hr,R,X,o⟩:=d1.rows.append (P:=prog) (ty:=49) (c:=1) uI (r:=[.int .u8 (u.toNat:Int)]) (Box.of_new hn).row rfl rfl (by rw [zG];omega) (by rw [zG];simp [maxLen];omega)
 have z2:=X.size
 refine ⟨s,w2,hr,X.kept (fun k hk hb=>(d1.own k hb).2.2 hk),⟨d1.ds.st.ext X (fun hh=>by have:=(h.own _ hh).1;have:=h.ds.la;omega),d1.ds.ext.trans' X (fun k hk hh=>by have:=(h.own k hh).1;omega),h.ds.la,fun k hk=>⟨(d1.ds.oH k hk).1,by have:=(d1.ds.oH k hk).2;omega⟩,h.ds.few⟩,?_,fun k hk=>?_⟩
 ·rw [show byr (acc++[u])=byr acc++[[.int .u8 (u.toNat:Int)]] by simp [byr]];exact R
 ·have hlt:=R.lt hk
  rcases o k hk with h1 | h1
  ·exact ⟨(d1.own k h1).1,hlt,(d1.own k h1).2.2⟩
  ·exact ⟨by omega,hlt,fun hh=>by have:=(d1.ds.oH k hh).2;omega⟩
end
abbrev DatK (w0:World) (a:Addr) (x:ByteArray) (n j:Nat) (r:ByteArray) (w':World):Prop :=
 RSt w' a x ((Sp.qA (bts x) j).bind fun _ k=>.ok n k)∧Ext (·=a.block) w0 w'∧∀l k,Sp.qA (bts x) j=.ok l k→r=⟨l.toArray⟩
theorem jDF {w0 w':World} {a:Addr} {x:ByteArray} {n j:Nat} {r:ByteArray} {R:Sp.Rr (List UInt8)} (e:R=Sp.qA (bts x) j) (h:RSt w' a x (R.bind fun _ k=>.ok n k)) (E:Ext (·=a.block) w0 w') (hr:∀l k,R=.ok l k→r=⟨l.toArray⟩):DatK w0 a x n j r w':=by
 subst e;exact ⟨h,E,hr⟩
def DatI (w0:World) (a:Addr) (x:ByteArray) (n j:Nat) (b:Sl) (H:NP) (w:World):Prop :=
 (∃(f k:Nat) (acc:List UInt8),(bts x).length+1≤f+k∧acc.length≤k∧Sp.vR (bts x) j f k acc=Sp.qA (bts x) j∧DD w0 w H a x (.ok n k) b acc) ∨
 (∃(er:Int) (k:Nat) (acc:List UInt8),acc.length≤10000001∧Sp.qA (bts x) j=.no er k∧DD w0 w H a x (.no er k) b acc)
def uD (a:Addr) (x:ByteArray) (w:World):Nat:=match w.cell? (a.add 3),w.cell? (a.add 1) with | some (.int _ e),some (.int _ k)=>if e=0 then 1+((bts x).length - k.toNat) else 0 | _,_=>0
theorem jAM {a:Addr} {x:ByteArray} {w:World} {n k:Nat} (h:Rdr w a x k n 0 0):uD a x w=1+((bts x).length - k):=by
 unfold uD;rw [vA h,zD h];simp
theorem jEW {a:Addr} {x:ByteArray} {w:World} {er:Int} {k:Nat} (h:RSt w a x (.no er k)):uD a x w=0:=by
 obtain ⟨h0,i,n,_,h⟩:=h;unfold uD;rw [vA h,zD h];simp [h0]
set_option maxHeartbeats 2000000 in
theorem jHA (a:Addr) (x:ByteArray) (n j:Nat) (w0:World) (h:RSt w0 a x (.ok n (j+1))) (hc:(bts x).length≤10000000) :
  Calls prog 58 #[.pointer (some a)] w0 (fun e w'=>∃r:ByteArray,e=.returned (.string r)∧DatK w0 a x n j r w'):=by
 refine w_E (some a) w0 (fun r w'=>DatK w0 a x n j r w') ?_
 unfold m_E
 have hl:=kO x
 have hnil:∀b,¬ Sl.nil.blk b:=fun b hb=>by obtain ⟨a,h,_⟩:=hb;cases h
 refine ⟨a,rfl,_,zD h.1,DatI w0 a x n j,fun _ w=>uD a x w,.inl ⟨(bts x).length+1,j+1,[],by omega,by simp,rfl,DS.start h hc,Rws.nil _ _ _,fun k hk=>(hnil k hk).elim⟩,?_⟩
 intro b Hl wl hsl hI
 unfold m_E_l1
 have wj:IntKind.i64.wrap (((j+1:Nat):Int) - 1)=(j:Int):=by have:=h.2.1;rw [IntWalk.i64_in _ (by omega)];omega
 rw [wj]
 rcases hI with ⟨f,k,acc,hf,hal,hsp,D⟩ | ⟨er,k,acc,hal,hsp,D⟩
 rotate_left
 ·-- an error stands
  have st:=D.ds.st
  obtain ⟨h0,i',n',hi',r'⟩:=st
  have conv:=fun {w:World} {q} (D:DD w0 w Hl a x q b acc)=>xZ (P:=prog) underlying49 underlying5 underlying9 D.rows.lst
  refine ⟨a,rfl,_,vA r',Br.f (by simpa using h0) ⟨fun h64=>?_,fun h64=>⟨_,conv D,jDF hsp.symm D.ds.st D.ds.ext (fun _ _ h=>by cases h)⟩⟩⟩
  refine (vB a x 1 j (by decide) _ wl D.ds.st).mono ?_
  rintro _ w1 ⟨rfl,h1,E1⟩
  obtain ⟨k1,D1⟩:=D.to h1 E1
  exact ⟨rfl,k1,_,conv D1,jDF hsp.symm D1.ds.st D1.ds.ext (fun _ _ h=>by cases h)⟩
 ·obtain ⟨f,rfl⟩:∃g,f=g+1:=⟨f - 1,by have:=D.ds.st.2.1;omega⟩
  rw [Sp.vR] at hsp
  have hk:=D.ds.st.2.1
  have hn:=D.ds.st.2.2
  have mu:=jAM D.ds.st.1
  have again:∀{b':Sl} {H':NP} {w':World} {k':Nat} {acc':List UInt8},k<(bts x).length→k<k'→acc'.length≤k'→Sp.vR (bts x) j f k' acc'=Sp.qA (bts x) j→DD w0 w' H' a x (.ok n k') b' acc'→DatI w0 a x n j b' H' w'∧uD a x w'<uD a x wl:=fun h1 h2 h3 h4 D' =>
   ⟨.inl ⟨f,_,_,by omega,h3,h4,D'⟩,by rw [mu,jAM D'.ds.st.1];have:=D'.ds.st.2.1;omega⟩
  have stop:∀{b':Sl} {H':NP} {w':World} {er:Int} {k':Nat} {acc':List UInt8},acc'.length≤10000001→Sp.qA (bts x) j=.no er k'→DD w0 w' H' a x (.no er k') b' acc'→DatI w0 a x n j b' H' w'∧uD a x w'<uD a x wl:=fun h3 h4 D' =>
   ⟨.inr ⟨_,_,_,h3,h4,D'⟩,by rw [mu,jEW D'.ds.st];omega⟩
  have word2:∀{w:World},DD w0 w Hl a x (.ok n k) b acc→Sp.Rr.no (if k=(bts x).length then 3 else 60) k=Sp.qA (bts x) j→m_E_j2 (some a) ((j+1:Nat):Int) b true w0 Hl w (fun b' H' w'=>DatI w0 a x n j b' H' w'∧uD a x w'<uD a x wl) (fun r w'=>DatK w0 a x n j r w'):=fun {w} D' e=>by
   unfold m_E_j2;refine Br.t rfl ?_;refine (yJ a x k n w D'.ds.st).mono ?_;rintro _ w1 ⟨rfl,h1,E1⟩;obtain ⟨k1,D1⟩:=D'.to h1 E1;exact ⟨rfl,k1,jDF e D1.ds.st D1.ds.ext (fun _ _ h=>by cases h)⟩
  refine ⟨a,rfl,_,vA D.ds.st.1,Br.t rfl ⟨a,rfl,fun w21 hs21=>?_⟩⟩
  have D21:=D.hst hs21
  have r21:=D21.ds.st.1
  refine ⟨_,zD r21,a,rfl,_,r21.cell0,fun hlt=>?_,fun hlt=>?_⟩
  ·have hlt:k=(bts x).length:=by have:=of_decide_eq_true hlt;omega
   refine word2 D21 ?_
   rw [← hsp,List.getElem?_eq_none (by omega),if_pos hlt]
  have hlt:k<(bts x).length:=by have:=of_decide_eq_false hlt;omega
  have hg:=List.getElem?_eq_getElem hlt
  rw [hg] at hsp
  simp only at hsp
  obtain ⟨c,hcc⟩:∃c,(bts x)[k]=c:=⟨_,rfl⟩
  have ix:∀w,(Instr.index 9 (.string x) (.int .i64 (k:Int))).run prog w=.ok (.int .u8 (c.toNat:Int)) w:=fun w=>by rw [← hcc];exact qP x k hlt w
  rw [hcc] at hsp
  have hclt:=c.toNat_lt
  refine ⟨a,rfl,_,r21.cell0,a,rfl,_,zD r21,_,ix w21,fun h32=>?_,fun h32=>⟨a,rfl,_,r21.cell0,a,rfl,_,zD r21,_,ix w21,?_⟩⟩
  ·have h32:=of_decide_eq_true h32
   refine word2 D21 ?_
   rw [if_neg (show ¬ k=(bts x).length by omega),← hsp,if_pos (by omega)]
  have h32:=of_decide_eq_false h32
  by_cases h126:126<c.toNat
  ·rw [decide_eq_true (show (c.toNat:Int)>126 by omega)]
   refine word2 D21 ?_
   rw [if_neg (show ¬ k=(bts x).length by omega),← hsp,if_pos (by omega)]
  rw [decide_eq_false (show ¬ (c.toNat:Int)>126 by omega)]
  rw [if_neg (by omega)] at hsp
  unfold m_E_j2
  refine Br.f rfl ⟨a,rfl,fun w2 hs2=>?_⟩
  have D2:=D21.hst hs2
  have r2:=D2.ds.st.1
  refine ⟨_,r2.cell0,a,rfl,_,zD r2,_,ix w2,a,rfl,_,zD r2,a,rfl,r2.canW (i:=1) (by simp),D2.ds.nH,?_⟩
  rintro w3 rfl
  rw [zV (show k≤(bts x).length by omega) (by omega)]
  obtain ⟨_,D3⟩:=D2.to (q':=.ok n (k+1)) ⟨kM r2 (k+1),hlt,hn⟩ kP
  generalize w2.setCell (a.add 1) (.int .i64 ((k+1:Nat):Int))=w3 at *
  rw [wj]
  refine ⟨fun h34=>?_,fun h34=>?_⟩
  ·have h34:c.toNat=34:=by have:=beq_iff_eq.1 h34;omega
   rw [if_pos h34] at hsp
   have hbl:b.len=acc.length:=by rw [D3.rows.len,zG]
   have conv:=fun {w:World} {q} (D:DD w0 w Hl a x q b acc)=>xZ (P:=prog) underlying49 underlying5 underlying9 D.rows.lst
   refine ⟨fun h64=>?_,fun h64=>?_⟩
   ·rw [if_pos (by have:=of_decide_eq_true h64;omega)] at hsp
    refine (vB a x 1 j (by decide) _ w3 D3.ds.st).mono ?_
    rintro _ w4 ⟨rfl,h4,E4⟩
    obtain ⟨k4,D4⟩:=D3.to h4 E4
    exact ⟨rfl,k4,_,conv D4,jDF hsp D4.ds.st D4.ds.ext (fun _ _ h=>by cases h)⟩
   ·rw [if_neg (by have:=of_decide_eq_false h64;omega)] at hsp
    exact ⟨_,conv D3,jDF hsp D3.ds.st D3.ds.ext (fun _ _ h=>by cases h;rfl)⟩
  have h34:c.toNat≠34:=by have:=beq_eq_false_iff_ne.1 h34;omega
  rw [if_neg h34] at hsp
  refine ⟨fun h92=>?_,fun h92=>?_⟩
  rotate_left
  ·have h92:c.toNat≠92:=by have:=beq_eq_false_iff_ne.1 h92;omega
   rw [if_neg h92] at hsp
   intro p4 w19 n19
   obtain ⟨s4,w20,hr,k20,D20⟩:=D3.app rfl (by omega) n19
   exact ⟨s4,w20,hr,k20,again hlt (by omega) (by simp;omega) hsp D20⟩
  ·have h92:c.toNat=92:=by have:=beq_iff_eq.1 h92;omega
   rw [if_pos h92] at hsp
   refine ⟨a,rfl,fun w5 hs5=>?_⟩
   have D5:=D3.hst hs5
   have r5:=D5.ds.st.1
   have word3 : ∀ {w w6 : World} {H1 : NP} {d : Int} {u : UInt8}, d = (u.toNat : Int) → DD w0 w Hl a x (.ok n (k + 1)) b acc → Sp.Rr.no (if k + 1 = (bts x).length then 3 else 60) (k + 1) = Sp.qA (bts x) j → Hst w0 Hl w H1 w6 →
     Calls prog 43 #[.pointer (some a)] w6 (fun e w15=>e=.returned (.tuple #[])∧Kept H1 w6 w15∧∀(p3:Addr) (w16:World),New w15 (.cells #[.int .u8 d] 5) p3 w16→∃s3:Sl,∃w17:World,(Builtin.append_ #[49,49] 49 #[b.v,(Sl.mk (some p3) 1 1).v]).run prog w16=.ok s3.v w17∧Kept H1 w16 w17∧(DatI w0 a x n j s3 H1 w17∧uD a x w17<uD a x wl)):=fun {w w6 H1 d u} hd Dw e hs6=>by
    have D6:=Dw.hst hs6
    refine (yJ a x (k+1) n w6 D6.ds.st).mono ?_
    rintro _ w15 ⟨rfl,h15,E15⟩
    obtain ⟨k15,D15⟩:=D6.to h15 E15
    refine ⟨rfl,k15,fun p3 w16 n16=>?_⟩
    obtain ⟨s3,w17,hr,k17,D17⟩:=D15.app hd (by omega) n16
    exact ⟨s3,w17,hr,k17,stop (by simp;omega) e.symm D17⟩
   refine ⟨_,zD r5,a,rfl,_,r5.cell0,fun hlt2=>⟨a,rfl,fun w18 hs18=>?_⟩,fun hlt2=>?_⟩
   rotate_left
   ·have hlt2:k+1=(bts x).length:=by have:=of_decide_eq_false hlt2;omega
    unfold m_E_j3
    refine Br.f rfl (Br.f rfl (fun H1 w6 hs6=>word3 (u:=0) rfl D5 ?_ hs6))
    rw [if_pos hlt2,← hsp,List.getElem?_eq_none (by omega)]
   ·have hlt2:k+1<(bts x).length:=by have:=of_decide_eq_true hlt2;omega
    have hg2:=List.getElem?_eq_getElem hlt2
    have D18:=D5.hst hs18
    have r18:=D18.ds.st.1
    obtain ⟨d,hdd⟩:∃d,(bts x)[k+1]=d:=⟨_,rfl⟩
    have ix2:=qP x (k+1) hlt2 w18
    rw [hdd] at hg2 ix2
    rw [hg2] at hsp
    simp only at hsp
    refine ⟨_,r18.cell0,a,rfl,_,zD r18,_,ix2,?_⟩
    unfold m_E_j3
    by_cases hq:d.toNat=34∨d.toNat=92
    ·rw [if_neg (by omega),if_pos hq] at hsp
     refine Br.t (by rcases hq with hq | hq <;> rw [hq] <;> rfl) ⟨a,rfl,fun H1 w6 hs6=>?_⟩
     have D6:=D18.hst hs6
     have r6:=D6.ds.st.1
     refine ⟨_,zD r6,a,rfl,r6.canW (i:=1) (by simp),D6.ds.nH,?_⟩
     rintro w7 rfl
     rw [zV (show k+1≤(bts x).length by omega) (by omega)]
     obtain ⟨_,D7⟩:=D6.to (q':=.ok n (k+2)) ⟨kM r6 (k+1+1),hlt2,hn⟩ kP
     intro p1 w8 n8
     obtain ⟨s1,w9,hr,k9,D9⟩:=D7.app rfl (by omega) n8
     exact ⟨s1,w9,hr,k9,again hlt (by omega) (by simp;omega) hsp D9⟩
    ·have hqf : cond (((d.toNat : Int)) == 34) (((d.toNat : Int)) == 34) (((d.toNat : Int)) == 92) = false := by
      rw [show ((d.toNat:Int) == 34)=false from beq_eq_false_iff_ne.2 (by omega)];exact beq_eq_false_iff_ne.2 (by omega)
     refine Br.f hqf ?_
     by_cases h120:d.toNat=120
     rotate_left
     ·rw [if_neg h120,if_neg hq] at hsp
      refine Br.f (beq_eq_false_iff_ne.2 (by omega)) (fun H1 w6 hs6=>word3 rfl D18 ?_ hs6)
      rw [if_neg (by omega),hsp]
     ·rw [if_pos h120] at hsp
      refine Br.t (by rw [h120];rfl) ⟨a,rfl,fun H1 w6 hs6=>?_⟩
      have D6:=D18.hst hs6
      have r6:=D6.ds.st.1
      refine ⟨_,zD r6,a,rfl,r6.canW (i:=1) (by simp),D6.ds.nH,?_⟩
      rintro w10 rfl
      rw [zV (show k+1≤(bts x).length by omega) (by omega)]
      obtain ⟨_,D10⟩:=D6.to (q':=.ok n (k+2)) ⟨kM r6 (k+1+1),hlt2,hn⟩ kP
      generalize w6.setCell (a.add 1) (.int .i64 ((k+1+1:Nat):Int))=w10 at *
      refine (jFQ a x (.ok n (k+2)) w10 D10.ds.st hc).mono ?_
      rintro _ w11 ⟨m1,rfl,h11,E11,hm1⟩
      have hm1:=fun v i=>hm1 n (k+2) v i rfl
      have h11:RSt w11 a x ((Sp.kT (bts x) (k+2)).bind fun _ j=>.ok n j):=h11
      have hok1:=Sp.qT (bts x) (k+2)
      have hlt1:=@uS (bts x) (k+2)
      generalize Sp.kT (bts x) (k+2)=R1 at *
      obtain ⟨k11,D11⟩:=D10.to h11 E11
      refine ⟨_,rfl,k11,?_⟩
      refine (jFQ a x _ w11 D11.ds.st hc).mono ?_
      rintro _ w12 ⟨m2,rfl,h12,E12,hm2⟩
      obtain ⟨k12,D12⟩:=D11.to h12 E12
      refine ⟨_,rfl,k12,fun p2 w13 n13=>?_⟩
      have junk:∃u:UInt8,IntKind.u8.wrap (IntKind.i64.wrap ((IntKind.i64.wrap (16*m1))+m2))=(u.toNat:Int):=by
       refine ⟨UInt8.ofNat (IntKind.u8.wrap (IntKind.i64.wrap ((IntKind.i64.wrap (16*m1))+m2))).toNat,?_⟩;generalize IntKind.i64.wrap ((IntKind.i64.wrap (16*m1))+m2)=z;rw [UInt8.toNat_ofNat'];simp only [IntKind.wrap,IntKind.bits,IntKind.signed];simp;omega
      cases R1 with
      | no er at_ =>
       obtain ⟨u,hu⟩:=junk
       obtain ⟨s2,w14,hr,k14,D14⟩:=D12.app hu (by omega) n13
       exact ⟨s2,w14,hr,k14,stop (by simp;omega) hsp.symm D14⟩
      | ok hi j1 =>
       obtain rfl:=hm1 hi j1 rfl
       have hhi:=hlt1 rfl
       have hm2:=fun v i=>hm2 n j1 v i rfl
       have D12:DD w0 w12 H1 a x ((Sp.kT (bts x) j1).bind fun _ j=>.ok n j) b acc:=D12
       have hok2:=Sp.qT (bts x) j1
       have hlt2':=@uS (bts x) j1
       simp only [Sp.Rr.bind] at hsp
       generalize Sp.kT (bts x) j1=R2 at *
       obtain ⟨q1,q2⟩:=hok1 hi j1 rfl
       cases R2 with
       | no er at_ =>
        obtain ⟨u,hu⟩:=junk
        obtain ⟨s2,w14,hr,k14,D14⟩:=D12.app hu (by omega) n13
        exact ⟨s2,w14,hr,k14,stop (by simp;omega) hsp.symm D14⟩
       | ok lo j2 =>
        obtain rfl:=hm2 lo j2 rfl
        have hlo:=hlt2' rfl
        obtain ⟨q3,q4⟩:=hok2 lo j2 rfl
        have hu:IntKind.u8.wrap (IntKind.i64.wrap ((IntKind.i64.wrap (16*(hi:Int)))+(lo:Int)))=((UInt8.ofNat (16*hi+lo)).toNat:Int):=by
         rw [IntWalk.i64_in (16*(hi:Int)) (by omega),IntWalk.i64_in _ (by omega),UInt8.toNat_ofNat'];simp only [IntKind.wrap,IntKind.bits,IntKind.signed];simp
        obtain ⟨s2,w14,hr,k14,D14⟩:=D12.app hu (by omega) n13
        exact ⟨s2,w14,hr,k14,again hlt (by omega) (by simp;omega) hsp D14⟩
end Go.Proofs
end
section
open Go Go.SE
namespace Go.Sp
theorem Rr.bind_assoc {α β γ:Type} (r:Rr α) (f:α→Nat→Rr β) (g:β→Nat→Rr γ):(r.bind f).bind g=r.bind fun a i=>(f a i).bind g:=by cases r <;> rfl
theorem Rr.ok_bind {α β:Type} (a:α) (i:Nat) (f:α→Nat→Rr β):(Rr.ok a i).bind f=f a i:=rfl
abbrev nOf (r:Rt):Rr Nat:=r.bind fun t j=>.ok t.2 j
theorem jGE (B:List UInt8) (T:Nat→Nat→Rt) (q:Rr Nat) :
  (((q.bind fun n i=>(zU B 40 i).bind fun _ j=>.ok n j).bind fun n i=>nOf (T i n)).bind fun n i=>(zU B 41 i).bind fun _ j=>.ok n j)=q.bind fun n i=>nOf (kL B T n i):=by
 simp only [nOf,kL,Rr.bind_assoc,Rr.ok_bind]
end Go.Sp
namespace Go.Proofs
open Tryd
attribute [local irreducible] Calls
def tE (a:Addr) (x:ByteArray) (d:Nat):Prop:=∀(q:Sp.Rr Nat) (w0:World),RSt w0 a x q→Calls prog 25 #[.pointer (some a),.int .i64 (64 - (d:Int))] w0 (fun e w'=>∃(T:Sp.Tree) (s:Sl),e=.returned (.agg (vD T s).toArray) ∧
 RSt w' a x (q.bind fun n i=>Sp.nOf (Sp.jR (bts x) d i n))∧Ext (·=a.block) w0 w'∧∀n i t j,q=.ok n i→Sp.jR (bts x) d i n=.ok t j→T=t.1∧TreeAt (fun b=>w0.heap.size≤b∧b<w'.heap.size) w' s T)
section
variable (a:Addr) (x:ByteArray) (d:Nat) (hd:d<64) (hT:tE a x d) (hc:(bts x).length≤10000000)
include hd hT hc
theorem gR (k f to u:Int) (y:ByteArray) (s:Sl) (q:Sp.Rr Nat) (w0:World) (h:RSt w0 a x q) :
  Calls prog 60 #[.pointer (some a),.agg #[.int .i64 k,.int .i64 f,.int .i64 to,.int .u64 u,.string y,s.v],.int .i64 (64 - ((d+1:Nat):Int))] w0 (fun e w'=>∃(s':Sl) (Z:Sp.Tree),e=.returned (.agg #[.int .i64 k,.int .i64 f,.int .i64 to,.int .u64 u,.string y,s'.v]) ∧
   RSt w' a x (q.bind fun n i=>Sp.nOf (Sp.kL (bts x) (Sp.jR (bts x) d) n i))∧Ext (·=a.block) w0 w'∧∀n i t j,q=.ok n i→Sp.kL (bts x) (Sp.jR (bts x) d) n i=.ok t j→Z=t.1∧TreeAt (fun b=>w0.heap.size≤b∧b<w'.heap.size) w' s' (.mk k f to u y [Z])):=by
 refine (w_W1 (some a) k f to u y s (64 - ((d+1:Nat):Int)) w0 (fun k' f' to' u' y' s' w'=>k'=k∧f'=f∧to'=to∧u'=u∧y'=y∧∃Z:Sp.Tree,RSt w' a x (q.bind fun n i=>Sp.nOf (Sp.kL (bts x) (Sp.jR (bts x) d) n i))∧Ext (·=a.block) w0 w'∧∀n i t j,q=.ok n i→Sp.kL (bts x) (Sp.jR (bts x) d) n i=.ok t j→Z=t.1∧TreeAt (fun b=>w0.heap.size≤b∧b<w'.heap.size) w' s' (.mk k f to u y [Z])) ?_).mono ?_
 ·unfold m_W1
  rw [show IntKind.i64.wrap (64 - ((d+1:Nat):Int)+1)=64 - (d:Int) by rw [IntWalk.i64_in _ (by omega)];omega]
  intro H2 w2 hs2
  have D2:=(DS.start h hc).hst hs2
  have la:=h.lt
  refine (uW a x q w2 D2.st hc 40).mono ?_
  rintro _ w3 ⟨rfl,h3,E3⟩
  obtain ⟨k3,D3⟩:=D2.to h3 E3
  refine ⟨rfl,k3,?_⟩
  refine (hT _ w3 D3.st).mono ?_
  rintro _ w4 ⟨T,s1,rfl,h4,E4,hTr⟩
  obtain ⟨k4,D4⟩:=D3.to h4 E4
  obtain ⟨tk,tf,tt,tu,ty,tks⟩:=T
  refine ⟨tk,tf,tt,tu,ty,s1,rfl,k4,fun p3 w5 n5 w6 hs6=>?_⟩
  have E5:Pure w4 w5:=Ext.new n5
  obtain ⟨_,D5⟩:=D4.to (D4.st.pure E5) E5.pure
  have D6:=D5.hst hs6
  have hp:=n5.at_size
  have B5:=Box.of_new n5
  have l5:=B5.lt
  have z3:=D3.ext.size
  have z4:=E4.size
  have z5:=E5.size
  have np:¬ H2 p3.block:=fun hh=>by have:=(D4.oH _ hh).2;omega
  refine (uW a x _ w6 D6.st hc 41).mono ?_
  rintro _ w7 ⟨rfl,h7,E7⟩
  obtain ⟨k7,D7⟩:=D6.to h7 E7
  refine ⟨rfl,k7,fun w8 hs8=>⟨rfl,rfl,rfl,rfl,rfl,.mk tk tf tt tu ty tks,?_,(D7.hst hs8).ext,fun n i t j hq hb=>?_⟩⟩
  ·have:=(D7.hst hs8).st
   rwa [Sp.jGE] at this
  ·subst hq
   obtain ⟨_,i1,e1,hb⟩:=Sp.kF hb
   obtain ⟨t',i2,e2,hb⟩:=Sp.kF hb
   obtain ⟨_,i3,e3,hb⟩:=Sp.kF hb
   cases hb
   obtain ⟨he,T4⟩:=hTr n i1 t i2 (by simp only [Sp.Rr.bind];rw [e1]) e2
   have T4':TT w0 w4 H2 s1 (.mk tk tf tt tu ty tks):=T4.mono (fun b hb=>⟨by omega,hb.2,fun hh=>by have:=(D3.oH _ hh).2;omega⟩)
   have T5:TT w0 w5 H2 s1 (.mk tk tf tt tu ty tks):=(TreeAt.pure T4' E5).mono (fun b hb=>⟨hb.1,by omega,hb.2.2⟩)
   have TO:TT w0 w5 H2 (Sl.mk (some p3) 1 1) (.mk k f to u y [.mk tk tf tt tu ty tks]):=TreeAt.one (A:=.mk tk tf tt tu ty tks) (sa:=s1) B5 ⟨by omega,by omega,np⟩ T5
   exact ⟨he,(TT.hst (TT.ext (TT.hst TO hs6) E7 la) hs8).mono (fun b hb=>⟨hb.1,hb.2.1⟩)⟩
 ·rintro e w' ⟨k',f',to',u',y',s',rfl,rfl,rfl,rfl,rfl,rfl,Z,hh⟩
  exact ⟨s',Z,rfl,hh⟩
end
def TreK (w0:World) (a:Addr) (x:ByteArray) (R:Sp.Rt) (k f to u:Int) (y:ByteArray) (s:Sl) (w':World):Prop :=
 ∃ks,RSt w' a x (Sp.nOf R)∧Ext (·=a.block) w0 w'∧∀t m,R=.ok t m→Sp.Tree.mk k f to u y ks=t.1∧TreeAt (fun b=>w0.heap.size≤b∧b<w'.heap.size) w' s t.1
theorem jGD (B:List UInt8) (T:Nat→Nat→Sp.Rt) (n j:Nat) (r:Int) (k:Int) (h:∀v i,Sp.zP B (-1) (j+1)=.ok v i→r=(v:Int)) :
  (((((Sp.Rr.ok n (j+1):Sp.Rr Nat).bind fun n i=>(Sp.zP B (-1) i).bind fun _ j=>.ok n j).bind fun n i=>(Sp.zU B 62 i).bind fun _ j=>.ok n j).bind fun n i=>(Sp.zP B r i).bind fun _ j=>.ok n j).bind fun n i=>Sp.nOf (Sp.kL B T n i)) =
   Sp.nOf ((Sp.zP B (-1) (j+1)).bind fun v i=>(Sp.zU B 62 i).bind fun _ i1=>(Sp.zP B v i1).bind fun u i2=>(Sp.kL B T n i2).bind fun a i3=>.ok (Sp.tre k v u 0 [] [a.1],a.2) i3):=by
 simp only [Sp.nOf,Sp.Rr.bind_assoc,Sp.Rr.ok_bind]
 cases hn:Sp.zP B (-1) (j+1) with
 | no e i=>rfl
 | ok v i=>rw [h v i hn];rfl
section
variable (a:Addr) (x:ByteArray) (d:Nat) (hd:d<64) (hT:tE a x d) (hc:(bts x).length≤10000000)
include hd hT hc
set_option maxHeartbeats 2000000 in
theorem jGZ (c:Nat) (hk:Sp.kC c≠0) (n j:Nat) (w0:World) (h:RSt w0 a x (.ok n (j+1))) :
  Calls prog 44 #[.pointer (some a),.int .u8 (c:Int),.int .i64 (64 - ((d+1:Nat):Int))] w0 (fun e w'=>∃(k f to u:Int) (y:ByteArray) (s:Sl),e=.returned (.agg #[.int .i64 k,.int .i64 f,.int .i64 to,.int .u64 u,.string y,s.v])∧TreK w0 a x (Sp.kR (bts x) (Sp.jR (bts x) d) (Sp.kC c) n j) k f to u y s w'):=by
 refine w_X1 (some a) c (64 - ((d+1:Nat):Int)) w0 (fun k f to u y s w'=>TreK w0 a x (Sp.kR (bts x) (Sp.jR (bts x) d) (Sp.kC c) n j) k f to u y s w') ?_
 unfold m_X1
 rw [show IntKind.i64.wrap (64 - ((d+1:Nat):Int)+1)=64 - (d:Int) by rw [IntWalk.i64_in _ (by omega)];omega]
 have la:=h.lt
 have D1:∀{H1:NP} {w1:World},Hst w0 None w0 H1 w1→DS w0 w1 H1 a x (.ok n (j+1)):=fun hs1=>(DS.start h hc).hst hs1
 have hc9:c=110∨c=107∨c=35∨c=34∨c=40∨c=104∨c=115∨c=112∨c=102:=by
  unfold Sp.kC at hk;omega
 have named:∀(k:Int),(k=1∨k=6)→Sp.kC c=k→∀(H1:NP) (w1:World),Hst w0 None w0 H1 w1→Calls prog 56 #[.pointer (some a),.int .i64 (-1)] w1 (fun e w2=>∃r2:Int,e=.returned (.int .i64 r2)∧Kept H1 w1 w2∧∀w3,Hst w0 H1 w2 H1 w3→TreK w0 a x (Sp.kR (bts x) (Sp.jR (bts x) d) (Sp.kC c) n j) k r2 0 0 ⟨#[]⟩ Sl.nil w3):=fun k hk6 hkc H1 w1 hs1=>by
  have e:Sp.kR (bts x) (Sp.jR (bts x) d) (Sp.kC c) n j=(Sp.zP (bts x) (-1) (j+1)).bind fun v i=>.ok (Sp.tre k v 0 0 [] [],n) i:=by rw [hkc];unfold Sp.kR;rw [if_pos hk6]
  refine (lM a x (-1) _ w1 (D1 hs1).st hc).mono ?_;rintro _ w2 ⟨m,rfl,h2,E2,hm⟩;obtain ⟨k2,D2⟩:=(D1 hs1).to h2 E2;refine ⟨_,rfl,k2,fun w3 hs3=>⟨[],?_,(D2.hst hs3).ext,fun t i he=>?_⟩⟩
  ·rw [e];simpa only [Sp.nOf,Sp.Rr.bind_assoc,Sp.Rr.ok_bind] using (D2.hst hs3).st
  ·rw [e] at he;obtain ⟨v,i',hv,he⟩:=Sp.kF he;cases he;rw [hm n (j+1) _ _ rfl hv];exact ⟨rfl,TreeAt.leaf⟩
 rcases hc9 with rfl | rfl | rfl | rfl | rfl | rfl | rfl | rfl | rfl
 ·exact Br.t rfl (named 1 (.inl rfl) rfl)
 ·exact Br.f rfl (Br.t rfl (named 6 (.inr rfl) rfl))
 ·refine Br.f rfl (Br.f rfl (Br.t rfl (fun H1 w1 hs1=>?_)))
  have e:Sp.kR (bts x) (Sp.jR (bts x) d) (Sp.kC 35) n j=(Sp.vZ (bts x) (j+1)).bind fun v i=>.ok (Sp.tre 2 0 0 v [] [],n) i:=rfl
  refine (jFP a x _ w1 (D1 hs1).st hc).mono ?_
  rintro _ w2 ⟨m,f,rfl,h2,E2,hm⟩
  obtain ⟨k2,D2⟩:=(D1 hs1).to h2 E2
  refine ⟨_,_,rfl,k2,fun w3 hs3=>⟨[],?_,(D2.hst hs3).ext,fun t i he=>?_⟩⟩
  ·rw [e]
   simpa only [Sp.nOf,Sp.Rr.bind_assoc,Sp.Rr.ok_bind] using (D2.hst hs3).st
  ·rw [e] at he
   obtain ⟨v,i',hv,he⟩:=Sp.kF he
   cases he
   rw [(hm n (j+1) rfl).2 _ _ hv]
   exact ⟨rfl,TreeAt.leaf⟩
 ·refine Br.f rfl (Br.f rfl (Br.f rfl (Br.t rfl (fun H1 w1 hs1=>?_))))
  have e:Sp.kR (bts x) (Sp.jR (bts x) d) (Sp.kC 34) n j=(Sp.qA (bts x) j).bind fun v i=>.ok (Sp.tre 3 0 0 0 v [],n) i:=rfl
  refine (jHA a x n j w1 (D1 hs1).st hc).mono ?_
  rintro _ w2 ⟨r,rfl,h2,E2,hm⟩
  obtain ⟨k2,D2⟩:=(D1 hs1).to h2 E2
  refine ⟨_,rfl,k2,fun w3 hs3=>⟨[],?_,(D2.hst hs3).ext,fun t i he=>?_⟩⟩
  ·rw [e]
   simpa only [Sp.nOf,Sp.Rr.bind_assoc,Sp.Rr.ok_bind] using (D2.hst hs3).st
  ·rw [e] at he
   obtain ⟨v,i',hv,he⟩:=Sp.kF he
   cases he
   rw [hm _ _ hv]
   exact ⟨rfl,TreeAt.leaf⟩
 ·refine Br.f rfl (Br.f rfl (Br.f rfl (Br.f rfl (Br.t rfl (fun H1 w1 hs1=>?_)))))
  have e:Sp.kR (bts x) (Sp.jR (bts x) d) (Sp.kC 40) n j=(Sp.jR (bts x) d (j+1) n).bind fun a i1=>(Sp.jR (bts x) d i1 a.2).bind fun b i2=>(Sp.zU (bts x) 41 i2).bind fun _ i3=>.ok (Sp.tre 4 0 0 0 [] [a.1,b.1],b.2) i3:=rfl
  have d1:=D1 hs1
  refine (hT _ w1 d1.st).mono ?_
  rintro _ w2 ⟨T1,s1,rfl,h2,E2,g1⟩
  obtain ⟨k2,D2⟩:=d1.to h2 E2
  obtain ⟨ka,fa,ta,ua,ya,ksa⟩:=T1
  refine ⟨ka,fa,ta,ua,ya,s1,rfl,k2,fun H2 w3 hs3=>?_⟩
  have D3:=D2.hst hs3
  refine (hT _ w3 D3.st).mono ?_
  rintro _ w4 ⟨T2,s2,rfl,h4,E4,g2⟩
  obtain ⟨k4,D4⟩:=D3.to h4 E4
  obtain ⟨kb,fb,tb,ub,yb,ksb⟩:=T2
  refine ⟨kb,fb,tb,ub,yb,s2,rfl,k4,fun H3 w5 hs5=>?_⟩
  have D5:=D4.hst hs5
  refine (uW a x _ w5 D5.st hc 41).mono ?_
  rintro _ w6 ⟨rfl,h6,E6⟩
  obtain ⟨k6,D6⟩:=D5.to h6 E6
  refine ⟨rfl,k6,fun p4 w7 n7 w8 hs8=>?_⟩
  have E7:Pure w6 w7:=Ext.new n7
  obtain ⟨_,D7⟩:=D6.to (D6.st.pure E7) E7.pure
  have D8:=D7.hst hs8
  refine ⟨[.mk ka fa ta ua ya ksa,.mk kb fb tb ub yb ksb],?_,D8.ext,fun t i he=>?_⟩
  ·rw [e]
   simpa only [Sp.nOf,Sp.Rr.bind_assoc,Sp.Rr.ok_bind] using D8.st
  ·rw [e] at he
   obtain ⟨va,i1,hv1,he⟩:=Sp.kF he
   obtain ⟨vb,i2,hv2,he⟩:=Sp.kF he
   obtain ⟨_,i3,_,he⟩:=Sp.kF he
   cases he
   obtain ⟨e1,t1⟩:=g1 n (j+1) va i1 rfl hv1
   obtain ⟨e2,t2⟩:=g2 va.2 i1 vb i2 (by rw [Sp.Rr.ok_bind,Sp.nOf,hv1];rfl) hv2
   have z1:=d1.ext.size
   have z3:=D3.ext.size
   have z6:=D6.ext.size
   have hp:=n7.at_size
   have B7:=Box.of_new n7
   have l7:=B7.lt
   have A2:TT w0 w2 H1 s1 (.mk ka fa ta ua ya ksa):=t1.mono (fun b hb=>⟨by omega,hb.2,fun hh=>by have:=(d1.oH _ hh).2;omega⟩)
   have A7:=TreeAt.pure (TT.ext (TT.hst (TT.ext (TT.hst A2 hs3) E4 la) hs5) E6 la) E7
   have B4:TT w0 w4 H2 s2 (.mk kb fb tb ub yb ksb):=t2.mono (fun b hb=>⟨by omega,hb.2,fun hh=>by have:=(D3.oH _ hh).2;omega⟩)
   have B7':=TreeAt.pure (TT.ext (TT.hst B4 hs5) E6 la) E7
   have z7:=E7.size
   have up:∀b,(w0.heap.size≤b∧b<w6.heap.size∧¬ H3 b)→(w0.heap.size≤b∧b<w7.heap.size∧¬ H3 b):=fun b hb=>⟨hb.1,by omega,hb.2.2⟩
   have TO:TT w0 w7 H3 (Sl.mk (some p4) 2 2) (.mk 4 0 0 0 ⟨#[]⟩ [.mk ka fa ta ua ya ksa,.mk kb fb tb ub yb ksb]) :=
    TreeAt.pair (A:=.mk ka fa ta ua ya ksa) (B:=.mk kb fb tb ub yb ksb) (sa:=s1) (sb:=s2) B7 ⟨by omega,by omega,fun hh=>by have:=(D6.oH _ hh).2;omega⟩ (A7.mono up) (B7'.mono up)
   have TF:=(TT.hst TO hs8).mono (S':=fun b=>w0.heap.size≤b∧b<w8.heap.size) (fun b hb=>⟨hb.1,hb.2.1⟩)
   rw [e1,e2] at TF ⊢
   exact ⟨rfl,TF⟩
 ·refine Br.f rfl (Br.f rfl (Br.f rfl (Br.f rfl (Br.f rfl (Br.t rfl (fun H1 w1 hs1=>?_))))))
  have e:Sp.kR (bts x) (Sp.jR (bts x) d) (Sp.kC 104) n j=(Sp.kL (bts x) (Sp.jR (bts x) d) n (j+1)).bind fun a i=>.ok (Sp.tre 5 0 0 0 [] [a.1],a.2) i:=rfl
  have d1:=D1 hs1
  have z1:=d1.ext.size
  refine (gR a x d hd hT hc 5 0 0 0 ⟨#[]⟩ Sl.nil _ w1 d1.st).mono ?_
  rintro _ w2 ⟨s',Z,rfl,h2,E2,g⟩
  obtain ⟨k2,D2⟩:=d1.to h2 E2
  refine ⟨_,_,_,_,_,s',rfl,k2,fun w3 hs3=>⟨[Z],?_,(D2.hst hs3).ext,fun t i he=>?_⟩⟩
  ·rw [e]
   simpa only [Sp.nOf,Sp.Rr.bind_assoc,Sp.Rr.ok_bind] using (D2.hst hs3).st
  ·rw [e] at he
   obtain ⟨v,i',hv,he⟩:=Sp.kF he
   cases he
   obtain ⟨e1,t1⟩:=g n (j+1) _ _ rfl hv
   have A2:TT w0 w2 H1 s' (.mk 5 0 0 0 ⟨#[]⟩ [Z]):=t1.mono (fun b hb=>⟨by omega,hb.2,fun hh=>by have:=(d1.oH _ hh).2;omega⟩)
   have TF:=(TT.hst A2 hs3).mono (S':=fun b=>w0.heap.size≤b∧b<w3.heap.size) (fun b hb=>⟨hb.1,hb.2.1⟩)
   rw [e1] at TF ⊢
   exact ⟨rfl,TF⟩
 ·refine Br.f rfl (Br.f rfl (Br.f rfl (Br.f rfl (Br.f rfl (Br.f rfl (Br.t rfl (fun H1 w1 hs1=>?_)))))))
  have e:Sp.kR (bts x) (Sp.jR (bts x) d) (Sp.kC 115) n j=(Sp.zP (bts x) (-1) (j+1)).bind fun v i=>(Sp.kL (bts x) (Sp.jR (bts x) d) n i).bind fun a i2=>.ok (Sp.tre 7 v 0 0 [] [a.1],a.2) i2:=rfl
  have d1:=D1 hs1
  have z1:=d1.ext.size
  refine (lM a x (-1) _ w1 d1.st hc).mono ?_
  rintro _ w2 ⟨m,rfl,h2,E2,hm⟩
  obtain ⟨k2,D2⟩:=d1.to h2 E2
  have z2:=D2.ext.size
  refine ⟨m,rfl,k2,?_⟩
  refine (gR a x d hd hT hc 7 m 0 0 ⟨#[]⟩ Sl.nil _ w2 D2.st).mono ?_
  rintro _ w3 ⟨s',Z,rfl,h3,E3,g⟩
  obtain ⟨k3,D3⟩:=D2.to h3 E3
  refine ⟨_,_,_,_,_,s',rfl,k3,fun w4 hs4=>⟨[Z],?_,(D3.hst hs4).ext,fun t i he=>?_⟩⟩
  ·rw [e]
   simpa only [Sp.nOf,Sp.Rr.bind_assoc,Sp.Rr.ok_bind] using (D3.hst hs4).st
  ·rw [e] at he
   obtain ⟨v,i1,hv,he⟩:=Sp.kF he
   obtain ⟨vb,i2,hv2,he⟩:=Sp.kF he
   cases he
   obtain rfl:=hm n (j+1) v i1 rfl hv
   obtain ⟨e1,t1⟩:=g n i1 vb _ (by simp only [Sp.Rr.ok_bind,hv]) hv2
   have A3:TT w0 w3 H1 s' (.mk 7 v 0 0 ⟨#[]⟩ [Z]):=t1.mono (fun b hb=>⟨by omega,hb.2,fun hh=>by have:=(D2.oH _ hh).2;omega⟩)
   have TF:=(TT.hst A3 hs4).mono (S':=fun b=>w0.heap.size≤b∧b<w4.heap.size) (fun b hb=>⟨hb.1,hb.2.1⟩)
   rw [e1] at TF ⊢
   exact ⟨rfl,TF⟩
 all_goals
  refine Br.f rfl (Br.f rfl (Br.f rfl (Br.f rfl (Br.f rfl (Br.f rfl (Br.f rfl (fun H1 w1 hs1=>?_)))))))
  have d1:=D1 hs1
  have z1:=d1.ext.size
  refine (lM a x (-1) _ w1 d1.st hc).mono ?_
  rintro _ w2 ⟨m,rfl,h2,E2,hm⟩
  obtain ⟨k2,D2⟩:=d1.to h2 E2
  refine ⟨m,rfl,k2,fun H5 w3 hs3=>?_⟩
  have D3:=D2.hst hs3
  refine (uW a x _ w3 D3.st hc 62).mono ?_
  rintro _ w4 ⟨rfl,h4,E4⟩
  obtain ⟨k4,D4⟩:=D3.to h4 E4
  refine ⟨rfl,k4,?_⟩
  refine (lM a x m _ w4 D4.st hc).mono ?_
  rintro _ w5 ⟨m2,rfl,h5,E5,hm2⟩
  obtain ⟨k5,D5⟩:=D4.to h5 E5
  refine ⟨m2,rfl,k5,fun w6 hs6=>?_⟩
  have D6:=D5.hst hs6
  have z6:=D6.ext.size
  refine (gR a x d hd hT hc _ m m2 0 ⟨#[]⟩ Sl.nil _ w6 D6.st).mono ?_
  rintro _ w7 ⟨s',Z,rfl,h7,E7,g⟩
  obtain ⟨k7,D7⟩:=D6.to h7 E7
  refine ⟨_,_,_,_,_,s',rfl,k7,fun w8 hs8=>⟨[Z],?_,(D7.hst hs8).ext,fun t i he=>?_⟩⟩
  ·have:=(D7.hst hs8).st
   rw [jGD (bts x) (Sp.jR (bts x) d) n j m (Sp.kC _) (fun v i hv=>hm n (j+1) v i rfl hv)] at this
   exact this
  ·obtain ⟨v,i1,hv,he⟩:=Sp.kF he
   obtain ⟨_,i2,hv2,he⟩:=Sp.kF he
   obtain ⟨u,i3,hv3,he⟩:=Sp.kF he
   obtain ⟨vb,i4,hv4,he⟩:=Sp.kF he
   cases he
   obtain rfl:=hm n (j+1) v i1 rfl hv
   obtain rfl:=hm2 n i2 u i3 (by simp only [Sp.Rr.ok_bind,hv,hv2]) hv3
   obtain ⟨e1,t1⟩:=g n i3 vb _ (by simp only [Sp.Rr.ok_bind,hv,hv2,hv3]) hv4
   have A7:TT w0 w7 H5 s' _:=t1.mono (fun b hb=>⟨by omega,hb.2,fun hh=>by have:=(D6.oH _ hh).2;omega⟩)
   have TF:=(TT.hst A7 hs8).mono (S':=fun b=>w0.heap.size≤b∧b<w8.heap.size) (fun b hb=>⟨hb.1,hb.2.1⟩)
   rw [e1] at TF ⊢
   exact ⟨rfl,TF⟩
end
theorem jBH (c:UInt8):(!(((c.toNat:Int) == 110) || ((c.toNat:Int) == 35) || ((c.toNat:Int) == 107) || ((c.toNat:Int) == 34) || ((c.toNat:Int) == 40) || ((c.toNat:Int) == 104) || ((c.toNat:Int) == 115) || ((c.toNat:Int) == 112) || ((c.toNat:Int) == 102)))=decide (Sp.kC c.toNat=0):=by
 have:∀c:Fin 256,(!(((c.val:Int) == 110) || ((c.val:Int) == 35) || ((c.val:Int) == 107) || ((c.val:Int) == 34) || ((c.val:Int) == 40) || ((c.val:Int) == 104) || ((c.val:Int) == 115) || ((c.val:Int) == 112) || ((c.val:Int) == 102)))=decide (Sp.kC c.val=0):=by decide +kernel
 exact this ⟨c.toNat,c.toNat_lt⟩
section
variable (a:Addr) (x:ByteArray) (hc:(bts x).length≤10000000)
include hc
set_option maxHeartbeats 1000000 in
theorem jAR (D:Nat) (hD:D≤64) (hR:∀d,D=d+1→tE a x d):tE a x D:=by
 intro q w0 h;refine (w_T (some a) (64 - (D:Int)) w0 (fun k f to u y s w'=>TreK w0 a x (q.bind fun n i=>Sp.jR (bts x) D i n) k f to u y s w') ?_).mono ?_
 ·unfold m_T;have hl:=kO x;have la:=h.lt;have bad:∀{R:Sp.Rt} {er:Int} {k:Nat} {w w':World} {H:NP},R=.no er k→DS w0 w H a x (.no er k)→Hst w0 H w H w'→TreK w0 a x R 0 0 0 0 ⟨#[]⟩ Sl.nil w':=fun e Dw hs=>⟨[],by subst e;exact (Dw.hst hs).st,(Dw.hst hs).ext,fun t m he=>by rw [e] at he;cases he⟩;refine ⟨a,rfl,fun H1 w1 hs1=>?_⟩;have D1:=(DS.start h hc).hst hs1;cases q with
  | no er k =>
   have st:=D1.st
   obtain ⟨h0,i,n,hi,r1⟩:=st
   exact ⟨er,vA r1,Br.t (by simpa using h0) (fun w2 hs2=>bad rfl D1 hs2)⟩
  | ok n i =>
   have hi:=D1.st.2.1
   have hn:=D1.st.2.2
   refine ⟨0,vA D1.st.1,Br.f rfl ?_⟩
   refine (tA a x (.ok n i) w1 D1.st hc).mono ?_
   rintro _ w3 ⟨rfl,h3,E3⟩
   obtain ⟨k3,D3⟩:=D1.to h3 E3
   rw [Sp.Rr.ok_bind] at D3 ⊢
   refine ⟨rfl,k3,a,rfl,fun w4 hs4=>?_⟩
   have D4:=D3.hst hs4
   obtain ⟨j,hj⟩:∃j,Sp.jQ (bts x) i=j:=⟨_,rfl⟩
   rw [hj] at D4
   have r4:=D4.st.1
   have hjl:=D4.st.2.1
   refine ⟨_,zD r4,a,rfl,_,r4.cell0,fun hge=>?_,fun hlt=>⟨a,rfl,fun w7 hs7=>?_⟩⟩
   ·have hge:j=(bts x).length:=by have:=of_decide_eq_true hge;omega
    refine (yJ a x j n w4 D4.st).mono ?_
    rintro _ w5 ⟨rfl,h5,E5⟩
    obtain ⟨k5,D5⟩:=D4.to h5 E5
    refine ⟨rfl,k5,fun w6 hs6=>bad ?_ D5 hs6⟩
    rw [if_pos hge]
    cases D <;> (unfold Sp.jR;rw [hj,List.getElem?_eq_none (by omega)])
   have hlt:j<(bts x).length:=by have:=of_decide_eq_false hlt;omega
   have D7:=D4.hst hs7
   have r7:=D7.st.1
   have hg:=List.getElem?_eq_getElem hlt
   have ix:=qP x j hlt w7
   generalize (bts x)[j]=c at *
   refine ⟨_,r7.cell0,a,rfl,_,zD r7,_,ix,?_⟩
   rw [jBH]
   refine ⟨fun hk=>fun H10 w16 hs16=>?_,fun hk=>⟨a,rfl,fun H10 w16 hs16=>?_⟩⟩
   ·have hk:=of_decide_eq_true hk
    have D16:=D7.hst hs16
    refine (yJ a x j n w16 D16.st).mono ?_
    rintro _ w25 ⟨rfl,h25,E25⟩
    obtain ⟨k25,D25⟩:=D16.to h25 E25
    refine ⟨rfl,k25,fun w26 hs26=>bad ?_ D25 hs26⟩
    rw [if_neg (show ¬ j=(bts x).length by omega)]
    cases D <;> (unfold Sp.jR;rw [hj,hg];simp only;rw [if_pos hk])
   ·have hk:=of_decide_eq_false hk
    have D16:=D7.hst hs16
    refine ⟨_,rdr_n D16.st.1,fun H20 w36 hs36=>?_⟩
    have D36:=D16.hst hs36
    unfold m_T_j1
    have large:(D=0∨n=4096)→Sp.jR (bts x) D i n=.no 52 j:=fun hh=>by
     cases D with
     | zero=>unfold Sp.jR;rw [hj,hg];simp only;rw [if_neg hk]
     | succ d=>unfold Sp.jR;rw [hj,hg];simp only;rw [if_neg hk,if_pos (by omega)]
    refine ⟨fun hb=>⟨a,rfl,_,zD D36.st.1,?_⟩,fun hb=>?_⟩
    ·rw [Bool.or_eq_true,decide_eq_true_eq,decide_eq_true_eq] at hb
     refine (vB a x 52 j (by decide) _ w36 D36.st).mono ?_
     rintro _ w27 ⟨rfl,h27,E27⟩
     obtain ⟨k27,D27⟩:=D36.to h27 E27
     exact ⟨rfl,k27,fun w28 hs28=>bad (large (by omega)) D27 hs28⟩
    ·rw [Bool.or_eq_false_iff,decide_eq_false_iff_not,decide_eq_false_iff_not] at hb
     obtain ⟨d,rfl⟩:∃d,D=d+1:=⟨D - 1,by omega⟩
     have hn':n<4096:=by omega
     have r36:=D36.st.1
     refine ⟨a,rfl,_,rdr_n r36,a,rfl,r36.canW (i:=2) (by simp),D36.nH,?_⟩
     rintro w29 rfl
     rw [zV (show n≤4096 by omega) (by omega)]
     obtain ⟨_,D29⟩:=D36.to (q':=.ok (n+1) j) ⟨jEA r36 (n+1),hjl,by omega⟩ kP
     generalize w36.setCell (a.add 2) (.int .i64 ((n+1:Nat):Int))=w29 at *
     have r29:=D29.st.1
     refine ⟨a,rfl,_,zD r29,a,rfl,r29.canW (i:=1) (by simp),D29.nH,?_⟩
     rintro w30 rfl
     rw [zV (show j≤(bts x).length by omega) (by omega)]
     obtain ⟨_,D30⟩:=D29.to (q':=.ok (n+1) (j+1)) ⟨kM r29 (j+1),hlt,by omega⟩ kP
     generalize w29.setCell (a.add 1) (.int .i64 ((j+1:Nat):Int))=w30 at *
     refine (jGZ a x d (by omega) (hR d rfl) hc c.toNat hk (n+1) j w30 D30.st).mono ?_
     rintro _ w31 ⟨k,f,to,u,y,s,rfl,ks,h31,E31,g⟩
     obtain ⟨k31,D31⟩:=D30.to h31 E31
     have z30:=D30.ext.size
     refine ⟨k,f,to,u,y,s,rfl,k31,fun H19 w33 hs33=>?_⟩
     have D33:=D31.hst hs33
     refine (tA a x _ w33 D33.st hc).mono ?_
     rintro _ w34 ⟨rfl,h34,E34⟩
     obtain ⟨k34,D34⟩:=D33.to h34 E34
     refine ⟨rfl,k34,fun w35 hs35=>?_⟩
     have D35:=D34.hst hs35
     have hT:Sp.jR (bts x) (d+1) i n=(Sp.kR (bts x) (Sp.jR (bts x) d) (Sp.kC c.toNat) (n+1) j).bind fun t k=>.ok t (Sp.jQ (bts x) k):=by
      rw [Sp.jR];rw [hj,hg];simp only;rw [if_neg hk,if_neg (by omega)]
     refine ⟨ks,?_,D35.ext,fun t m he=>?_⟩
     ·rw [hT]
      simpa only [Sp.nOf,Sp.Rr.bind_assoc,Sp.Rr.ok_bind] using D35.st
     ·rw [hT] at he
      obtain ⟨t',m',h1,he⟩:=Sp.kF he
      cases he
      obtain ⟨e1,t1⟩:=g t m' h1
      have A31:TT w0 w31 H20 s t.1:=t1.mono (fun b hb=>⟨by omega,hb.2,fun hh=>by have:=(D30.oH _ hh).2;omega⟩)
      exact ⟨e1,(TT.hst (TT.ext (TT.hst A31 hs33) E34 la) hs35).mono (fun b hb=>⟨hb.1,hb.2.1⟩)⟩
 ·rintro e w' ⟨k,f,to,u,y,s,rfl,ks,h1,E1,g⟩;refine ⟨.mk k f to u y ks,s,rfl,by simpa only [Sp.nOf,Sp.Rr.bind_assoc] using h1,E1,fun n i t j hq ht=>?_⟩;subst hq;obtain ⟨e1,t1⟩:=g t j ht;exact ⟨e1,e1▸t1⟩
theorem jDL:∀d,d≤64→tE a x d
 | 0,h=>jAR a x hc 0 h (fun d e=>by omega)
 | d+1,h=>jAR a x hc (d+1) h (fun d' e=>by
  obtain rfl:d=d':=by omega
  exact jDL d (by omega))
end
end Go.Proofs
end
section
open Go Go.SE
namespace Go.Proofs
open Tryd
attribute [local irreducible] Calls
theorem jBQ (x:ByteArray) (w0:World):Calls prog 13 #[.string x] w0 (fun e w'=>tC w0 (Sp.qM (bts x)) e w'):=by
 refine (w_J x w0 (fun k f t u y s e1 e2 w'=>∃ks,Sp.Tree.mk k f t u y ks=(Sp.qM (bts x)).1∧e1=(Sp.qM (bts x)).2.1∧e2=(Sp.qM (bts x)).2.2∧TreeAt (fun b=>w0.heap.size≤b∧b<w'.heap.size) w' s (Sp.qM (bts x)).1∧Pure w0 w') ?_).mono ?_
 ·unfold m_J;have hl:=kO x;intro p1 w1 n1;have E1:Pure w0 w1:=Ext.new n1;have B1:=Box.of_new n1;have hp1:=n1.at_size;have own1:∀{w w':World} {vs:List Value},Pure w0 w→w'=storeRow w p1 vs→Pure w0 w':=fun E e=>by
   subst e;exact E.trans' (Ext.storeRow _ _ _) (fun b hb hh=>by omega)
  unfold Sp.qM;refine ⟨fun hbig=>?_,fun hbig=>?_⟩
  ·have hbig:1048576<(bts x).length:=by have:=of_decide_eq_true hbig;omega
   rw [if_pos hbig];refine ⟨fun j hj=>B1.canW (by simpa using hj),fun h=>h,?_⟩;intro w2 hw2;have B2:Box w2 p1 [(.int .i64 0),(.int .i64 0),(.int .i64 0),(.int .u64 0),(.string (⟨#[]⟩:ByteArray)),Sl.nil.v] 25:=by rw [hw2];exact B1.store rfl
   exact ⟨0,0,0,0,⟨#[]⟩,Sl.nil,B2.row,[],rfl,rfl,rfl,TreeAt.leaf,own1 E1 hw2⟩
  ·have hbig:¬ 1048576<(bts x).length:=by have:=of_decide_eq_false hbig;omega
   rw [if_neg hbig];intro p2 w3 n3;have E3:Pure w1 w3:=Ext.new n3;have E03:=E1.trans E3;have hp2:=n3.at_size;have z1:=E1.size;have l1:=B1.lt;have ne:p1.block≠p2.block:=by omega
   have R3:RSt w3 p2 x (.ok 0 0):=⟨Box.of_new n3,Nat.zero_le _,Nat.zero_le _⟩;have hT:=jDL p2 x (by omega) 64 (Nat.le_refl _) (.ok 0 0) w3 R3;refine Calls.mono hT ?_;rintro _ w4 ⟨T,s,rfl,h4,E4,g⟩;obtain ⟨tk,tf,tt,tu,ty,tks⟩:=T;refine ⟨tk,tf,tt,tu,ty,s,rfl,E4.kept (fun b hb=>hb.elim),fun H1 w6 hs6=>?_⟩;have g:=fun t j=>g 0 0 t j rfl;have h4:RSt w4 p2 x (Sp.nOf (Sp.jR (bts x) 64 0 0)):=h4;have E04:Pure w0 w4:=E03.trans' E4 (fun b hb hh=>by omega);have z3:=E3.size;have z4:=E4.size;have nH:∀b,b<w4.heap.size→¬ H1 b:=hs6.disj (G:=fun b=>b<w4.heap.size) (fun b hb=>⟨hb,fun h=>h⟩);have l2:=R3.lt;have E06:Pure w0 w6:=E04.hst hs6;have h6:=h4.ext hs6.ext (nH p2.block (by omega));have B6:=((B1.pure E3).ext E4 ne).ext hs6.ext (nH p1.block (by omega));have z6:=hs6.ext.size;unfold Sp.xV;have fin:∀{w:World} {k f t u:Int} {y:ByteArray} {s:Sl} {vs:List Value} {T:TypeId},Box w p1 vs T→vs.length=6→Pure w0 w→Box (storeRow w p1 [(.int .i64 k),(.int .i64 f),(.int .i64 t),(.int .u64 u),(.string y),s.v]) p1 [(.int .i64 k),(.int .i64 f),(.int .i64 t),(.int .u64 u),(.string y),s.v] T∧Pure w0 (storeRow w p1 [(.int .i64 k),(.int .i64 f),(.int .i64 t),(.int .u64 u),(.string y),s.v]):=fun B hv E=>⟨B.store (by simp [hv]),own1 E rfl⟩;have bad : ∀ {w : World} {er : Int} {k : Nat} {vs : List Value} {T : TypeId} {R : Sp.Tree × Int × Int}, R = (Sp.tQ, er, (k : Int)) → RSt w p2 x (.no er k) → Box w p1 vs T → vs.length = 6 → Pure w0 w →
     m_J_j2 p1 p2 tk tf tt tu ty s H1 w (fun k f t u y s e1 e2 w'=>∃ks,Sp.Tree.mk k f t u y ks=R.1∧e1=R.2.1∧e2=R.2.2∧TreeAt (fun b=>w0.heap.size≤b∧b<w'.heap.size) w' s R.1∧Pure w0 w'):=fun {w er k vs T R} e st B hv E=>by
    subst e
    obtain ⟨h0,i,n,hi,r⟩:=st
    unfold m_J_j2
    have rd:Rdr w.drew p2 x i n er k:=r.pure (Ext.drew w)
    refine ⟨er,vA r,Br.t (by simpa using h0) ⟨fun w'=>Rdr w' p2 x i n er k,rd,?_⟩⟩
    rintro w7 rfl
    have Ed:Pure w0 w.drew:=E.trans (Ext.drew w)
    have Bd:=B.pure (Ext.drew w)
    refine ⟨er,fun w' h=>vA h,(k:Int),fun w' h=>rdr_k h,fun j hj=>Bd.canW (by omega),nH _ (by omega),?_⟩
    rintro w8 rfl
    obtain ⟨B8,E8⟩:=fin (k:=0) (f:=0) (t:=0) (u:=0) (y:=⟨#[]⟩) (s:=Sl.nil) Bd hv Ed
    exact ⟨rd.ext (Ext.storeRow _ _ _) (fun e=>ne e.symm),0,0,0,0,⟨#[]⟩,Sl.nil,B8.row,[],rfl,rfl,rfl,TreeAt.leaf,E8⟩
   generalize Sp.jR (bts x) 64 0 0=R at *;cases R with
   | no er k =>
    have h6':=h6
    obtain ⟨h0,i,n,hi,r⟩:=h6'
    refine ⟨er,vA r,Br.f (by simpa using h0) ?_⟩
    unfold m_J_j1
    exact Br.f rfl (bad rfl h6 B6 rfl E06)
   | ok t i =>
    obtain ⟨e1,t1⟩:=g t i rfl
    have r6:Rdr w6 p2 x i t.2 0 0:=h6.1
    have hi:i≤(bts x).length:=h6.2.1
    refine ⟨0,vA r6,Br.t rfl ⟨_,zD r6,?_⟩⟩
    unfold m_J_j1
    by_cases hlt:i<(bts x).length
    ·rw [decide_eq_true (show (i:Int)<(x.size:Int) by omega)]
     refine Br.t rfl ⟨_,zD r6,?_⟩
     refine (vB p2 x 4 i (by decide) (.ok t.2 i) w6 h6).mono ?_
     rintro _ w10 ⟨rfl,h10,E10⟩
     exact ⟨rfl,E10.kept (fun b hb e=>nH p2.block (by omega) (e▸hb)),bad (by simp only;rw [if_pos hlt]) h10 (B6.ext E10 ne) rfl (E06.trans' E10 (fun b hb hh=>by omega))⟩
    ·rw [decide_eq_false (show ¬ (i:Int)<(x.size:Int) by omega)]
     refine Br.f rfl ?_
     unfold m_J_j2
     refine ⟨0,vA r6,Br.f rfl ⟨fun j hj=>B6.canW (by simpa using hj),nH _ (by omega),?_⟩⟩
     rintro w9 rfl
     obtain ⟨B9,E9⟩:=fin (k:=tk) (f:=tf) (t:=tt) (u:=tu) (y:=ty) (s:=s) B6 rfl E06
     refine ⟨tk,tf,tt,tu,ty,s,B9.row,tks,?_⟩
     simp only
     rw [if_neg hlt]
     refine ⟨e1,rfl,rfl,?_,E9⟩
     rw [← e1]
     have T6:TreeAt (fun b=>w3.heap.size≤b∧b<w4.heap.size) w6 s (.mk tk tf tt tu ty tks):=t1.ext hs6.ext (fun b hb=>nH b hb.2)
     have X9:Ext (·=p1.block) w6 (storeRow w6 p1 [(.int .i64 tk),(.int .i64 tf),(.int .i64 tt),(.int .u64 tu),(.string ty),s.v]):=Ext.storeRow _ _ _
     have z9:=X9.size
     exact (T6.ext X9 (fun b hb e=>by have:=hb.1;omega)).mono (fun b hb=>⟨Nat.le_trans (Nat.le_trans z1 z3) hb.1,Nat.lt_of_lt_of_le hb.2 (Nat.le_trans z6 z9)⟩)
 ·rintro e w' ⟨k,f,t,u,y,s,e1,e2,rfl,ks,h1,rfl,rfl,h2,h3⟩;refine ⟨s,?_,h2,h3⟩;rw [← h1];rfl
theorem yT (x:ByteArray) (w0:World) (ht:Pow w0) (hv:ErrV w0) :
  Calls prog 4 #[.string x] w0 (fun e w'=>∃r:Bool,e=.returned (.bool r)∧(r=true∧Pure w0 w')):=by
 have live:∀{H:NP} {w:World},Pure w0 w→Calls prog 8 #[] w (fun e w'=>∃r:Bool,e=.returned (.bool r)∧Kept H w w'∧(r=true∧Pure w0 w')):=fun {H w} E=>by
  refine (jGY w (yY ht E) (vV hv E)).mono ?_;rintro _ w' ⟨r,rfl,hr,E'⟩;exact ⟨r,rfl,E'.keptP,hr,E.trans E'⟩
 refine w_O x w0 (fun r w'=>r=true∧Pure w0 w') ?_
 unfold m_O
 refine ⟨fun _ H1 w1 hs1=>live hs1.first,fun _ H1 w1 hs1=>?_⟩
 have E1:=hs1.first
 refine (uV x w1 (vV hv E1)).mono ?_
 intro e w3 hR
 obtain ⟨k1,f1,t1,u1,y1,ks1,s1,hT1,rfl,T1,E3⟩:=hR.un
 have E03:=E1.trans E3
 have hH1:=hs1.here.lt
 have TT1:TT w0 w3 H1 s1 (.mk k1 f1 t1 u1 y1 ks1):=tN T1 E1 hH1
 refine ⟨_,_,_,_,_,s1,_,_,rfl,E3.keptP,fun H2 w5 hs5=>?_⟩
 have E5:=E03.hst hs5
 have A5:=TT.hst TT1 hs5
 have hH2:=hs5.here.lt
 refine (jBQ x w5).mono ?_
 intro e w6 hR2
 obtain ⟨k2,f2,t2,u2,y2,ks2,s2,hT2,rfl,T2,E6⟩:=hR2.un
 have E06:=E5.trans E6
 have TT2:TT w0 w6 H2 s2 (.mk k2 f2 t2 u2 y2 ks2):=tN T2 E5 hH2
 have A6:=yB A5 E6
 refine ⟨_,_,_,_,_,s2,_,_,rfl,E6.keptP,Br.t (by simp) (fun H4 w10 hs10=>?_)⟩
 have E10:=E06.hst hs10
 have A10:=TT.hst A6 hs10
 have B10:=TT.hst TT2 hs10
 refine (uK (S:=fun b=>b<w10.heap.size) (.mk k1 f1 t1 u1 y1 ks1) (.mk k2 f2 t2 u2 y2 ks2) s1 s2 w10 (A10.mono (fun b hb=>hb.2.1)) (B10.mono (fun b hb=>hb.2.1)) (fun b hb=>hb)).mono ?_
 rintro _ w12 ⟨r7,rfl,hr7,E12⟩
 have he:r7=true:=by rw [hr7,Sp.jDV,← hT1,← hT2]
 subst he
 refine ⟨_,rfl,E12.keptP,?_⟩
 unfold m_O_j1
 exact Br.t rfl (live (E10.trans E12))
end Go.Proofs
end
section
namespace Go.SE
open Go.ChangeShapes Go.WideShapes Go.ChangeAt Go.RowKit
section
variable {H:Type} {enc:TypeId×Value→H} {P:Program}
theorem yV (hl:laidOutB P=true) {W W':World} (hb:Below W.heap.size W W'):∀(ts:List TypeId) (vs:List Value) (ds:List (DataW H)) (ps:List MemPlace),(ts.all fun t=>P.readableRec t && decide (t<P.types.size))=true →
  DataW.TrodAll enc P W 0 (fun _=>true) true ts vs ds ps→(∀x∈ps,x.block<W.heap.size)→DataW.TrodAll enc P W' 0 (fun b=>decide (b<W.heap.size)) true ts vs ds ps
 | [],_,_,_,_,h,_=>by
  obtain ⟨rfl,rfl,rfl⟩:=trodAll_nil h;exact h
 | t :: ts,_,_,_,hr,h,hlt=>by
  obtain ⟨v,vs1,d,ds1,a,b,rfl,rfl,rfl,h1,h2⟩:=trodAll_cons h;simp only [List.all_cons,Bool.and_eq_true,decide_eq_true_eq] at hr;exact ⟨a,b,Below.trod hl hr.1.1 hr.1.2 h1 hb (fun x hx=>hlt x (by simp [hx])),yV hl hb ts vs1 ds1 b (by simpa using hr.2) h2 (fun x hx=>hlt x (by simp [hx])),rfl⟩
theorem jEQ {f:Func} {s:ChangeSpec} {W W':World} {args:Array Value} {ds gs:List (DataW H)} {before:List MemPlace} {t:TypeId} (hl:laidOutB P=true)
  (hv:s.vars=[]) (hf:∀ds:List (DataW H),ds.length=f.params.size→s.fn H ds={ results:=[.lit (.bool true)],args:=ds }) (hrt:f.resultTypes=#[t]) (ht:P.underlying t=some .bool)
  (hr:(f.params.toList.all fun t=>P.readableRec t && decide (t<P.types.size))=true)
  (hW:DataW.Whole enc P f.params.toList s.vars false W args.toList ds gs before) (E:Pure W W') :
  s.post enc P f false true false false W args (.bool true) W':=by
 have hW':=hW
 obtain ⟨p,q,hA,hV,rfl,hfz,hnd⟩:=hW
 rw [hv] at hV
 obtain ⟨rfl,rfl⟩:=trodVars_none hV
 have hlen:ds.length=f.params.size:=by
  have:∀(ts:List TypeId) (vs:List Value) (ds:List (DataW H)) (ps:List MemPlace),DataW.TrodAll enc P W 0 (fun _=>true) true ts vs ds ps→ds.length=ts.length:=by
   intro ts;induction ts with
   | nil=>intro vs ds ps h;obtain ⟨_,rfl,_⟩:=trodAll_nil h;rfl
   | cons t ts ih =>
    intro vs ds ps h
    obtain ⟨v,vs1,d,ds1,a,b,_,rfl,_,_,h2⟩:=trodAll_cons h
    simp [ih _ _ _ h2]
  simpa using this _ _ _ _ hA
 have hfn:=hf ds hlen
 have hfn':s.fn H (ds++[])={ results:=[.lit (.bool true)],args:=ds }:=by rw [List.append_nil];exact hfn
 have hlt:∀x∈p,x.block<W.heap.size:=fun x hx=>by simpa using hW'.lt x (by simp [hx])
 have bel:=E.below
 refine ⟨ds,[],p++[],[],p,[],hW',?_,?_,?_,bel.frame _,fun h=>by cases h⟩
 ·rw [hfn',hrt];exact trodAll_mk1 (shut_bool ht _)
 ·rw [hfn'];exact yV hl bel _ _ _ _ hr hA hlt
 ·rw [hfn',hv];exact hV
end
end Go.SE
namespace Go.SE
open Go.ChangeShapes Go.WideShapes Go.ChangeAt Go.RowKit
section
variable {P:Program} {W:World} {r:Reach} {b0:Nat} {t:TypeId} {v:Value}
theorem lK (ht:P.underlying t=some .string) (h:Cell.okWide P W r b0 t v):∃x,v=.string x:=by
 have:Value.okWide P W r b0 t v:=by unfold Value.okWide;rw [ht];exact h
 unfold Cell.okWide at h;rw [ht] at h;cases v <;> simp [Cell.ok,ht] at h;exact ⟨_,rfl⟩
end
end Go.SE
end
section
open Go Go.SE
namespace Go.Proofs
section
variable {H:Type} {enc:TypeId×Value→H} {P:Program} {W:World} {base:Nat} {sp:Nat→Bool} {held:Bool}
end
theorem jBA {P:Program} {W:World} {r:Reach} {b0:Nat} {t:TypeId} {v:Value} (ht:P.underlying t=some .string) (h:Value.okWide P W r b0 t v):∃x,v=.string x :=
 lK ht (by unfold Value.okWide at h;rw [ht] at h;exact h)
end Go.Proofs
end
