import Derived.Test.YtbfdlpbchhjhoaaGreatPa5
import Derived.Test.YtbfdlpbchhjhoaaGreatPa1
import Derived.Test.YtbfdlpbchhjhoaaGreatPa2
import Derived.Test.YtbfdlpbchhjhoaaGreatPa4
import Derived.Test.YtbfdlpbchhjhoaaGreatPa3
import Derived.Test.YtbfdlpbchhjhoaaGreatProg
import Derived.KernelRfl
import Derived.Test.YtbfdlpbchhjhoaaGreatPa0
import Derived.ProofKit
import Derived.Carry
import Derived.OpenShut
import Derived.Stop.Joined
section
open Go Go.SE
namespace Go.Sp
def yI (L:Pool) (t kind:Int):Node×Bool:=if inP L t=true∧(nodeOf L t).kind=kind then (nodeOf L t,false) else (jNC,true)
def uV (L:Pool) (t:Int):(ByteArray×Int)×Bool :=
 (((yI L (yI L t 4).1.a 3).1.text,(yI L t 4).1.b),(yI L t 4).2 || (yI L (yI L t 4).1.a 3).2)
def tV (L:Pool) (t:Int):(Int×ByteArray)×Bool :=
 let g:=uV L t
 let n:=yI L g.1.2 4
 (((yI L n.1.a 2).1.num,(yI L n.1.b 3).1.text),g.2 || n.2 || !decide (g.1.1=jPU) || (yI L n.1.a 2).2 || (yI L n.1.b 3).2)
end Go.Sp
namespace Go.Proofs
attribute [local irreducible] Calls
def jIC (w:World) (q:Option Addr) (L:Sp.Pool) (F:NP):Prop:=match q with
 | some p=>zR w p L F
 | none=>L=[]∧∀b,¬ F b
theorem jIC.ext {G:NP} {w w':World} {p:Option Addr} {L:Sp.Pool} {F:NP} (h:jIC w p L F) (hE:Ext G w w') (hd:∀b,F b→¬ G b):jIC w' p L F:=by
 cases p with
 | none=>exact h
 | some p=>exact zR.ext h hE hd
theorem jIC.pure {w w':World} {p:Option Addr} {L:Sp.Pool} {F:NP} (h:jIC w p L F) (hE:Pure w w'):jIC w' p L F:=h.ext hE (fun _ _ h=>h)
theorem jIC.lt {w:World} {p:Option Addr} {L:Sp.Pool} {F:NP} (h:jIC w p L F) {b:Nat} (hb:F b):b<w.heap.size:=by
 cases p with
 | none=>exact absurd hb (h.2 b)
 | some p=>exact zR.lt h hb
structure ReaderAt (w:World) (r:Addr) (p:Option Addr) (bad:Bool) (L:Sp.Pool) (F:NP):Prop where
 box:Box w r [.pointer p,.bool bad] 215
 pool:jIC w p L F
 ok:Sp.Ok L
 out:¬ F r.block
theorem ReaderAt.pure {w w':World} {r:Addr} {p:Option Addr} {bad:Bool} {L:Sp.Pool} {F:NP} (h:ReaderAt w r p bad L F) (E:Pure w w'):ReaderAt w' r p bad L F:=⟨h.box.pure E,h.pool.pure E,h.ok,h.out⟩
end Go.Proofs
end
section
open Go Go.SE
namespace Go.Sp
def tU (L:Pool) (t:Int):Letter×Bool :=
 let n:=nodeOf L t
 if (n.kind≠8∧n.kind≠9)∨1<n.frm∨n.to≠IntKind.i64.wrap (1 - n.frm) then (jHI,true)
 else (⟨1,n.frm,(tV L n.a).1.1,(tV L n.a).1.2,n.kind == 9⟩,(tV L n.a).2)
end Go.Sp
namespace Go.Proofs
attribute [local irreducible] Calls
end Go.Proofs
end
section
open Go Go.SE
namespace Go.Sp
def jBT (L:Pool) (who n:Int):Letter×Bool :=
 let m:=yI L n 4
 let a:=tU L m.1.a
 let b:=tU L m.1.b
 (⟨4,who,a.1.c,a.1.text,a.1.fake || b.1.fake⟩,m.2 || a.2 || b.2 || a.1.frm != 0 || b.1.frm != 1 || a.1.c != b.1.c || !decide (a.1.text=b.1.text))
def jAG (L:Pool) (who body:Int):Letter×Bool :=
 let g:=uV L body
 if g.1.1=jFT∧who=0 then (⟨3,0,(yI L g.1.2 2).1.num,⟨#[]⟩,false⟩,g.2 || (yI L g.1.2 2).2)
 else if g.1.1=jAC∧who=2 then (⟨5,0,(yI L g.1.2 2).1.num,⟨#[]⟩,false⟩,g.2 || (yI L g.1.2 2).2)
 else if g.1.1=jAB∧who=2 then (⟨6,0,(tV L g.1.2).1.1,(tV L g.1.2).1.2,false⟩,g.2 || (tV L g.1.2).2)
 else if g.1.1=jPU∧who≤1 then (⟨2,who,(tV L body).1.1,(tV L body).1.2,false⟩,g.2 || (tV L body).2)
 else if g.1.1=tE∧who≤1 then ((jBT L who g.1.2).1,g.2 || (jBT L who g.1.2).2)
 else (jHI,true)
end Go.Sp
namespace Go.Proofs
attribute [local irreducible] Calls
end Go.Proofs
end
section
open Go Go.SE
namespace Go.Sp
def jIT (L:Pool) (t:Int):Letter×Bool :=
 let n:=nodeOf L t
 if n.kind=7 then jAG L n.frm n.a else if n.kind=8∨n.kind=9 then tU L t
 else if ((uV L t).2 || !decide ((uV L t).1.1=jPT))=true then (jHI,true)
 else (⟨7,0,(yI L (uV L t).1.2 2).1.num,⟨#[]⟩,false⟩,(yI L (uV L t).1.2 2).2)
end Go.Sp
namespace Go.Proofs
attribute [local irreducible] Calls
end Go.Proofs
end
section
open Go Go.SE
namespace Go.Proofs
attribute [local irreducible] Calls
end Go.Proofs
end
section
open Go Go.SE
namespace Go.SE
theorem Rws.lit {w w':World} {p:Addr} {cs:Array Value} {e:TypeId} {sz:Nat} {rs:List (List Value)} (hn:New w (.cells cs e) p w') (hc:cs.toList=rs.flatten) (hl:∀r∈rs,r.length=sz) (hm:rs.length≤maxLen):Rws w' e sz ⟨some p,rs.length,rs.length⟩ rs:=by
 obtain ⟨hp,hw⟩:=hn;have hsz:cs.size=rs.length*sz:=by rw [← vN hl,← hc,Array.length_toList]
 refine ⟨hl,rfl,.inr ⟨w.heap.size,cs,by rw [hp],?_,Nat.le_refl _,hm,hsz,?_⟩⟩
 ·rw [hw];exact heap_alloc_new w _
 ·rw [hc,List.take_of_length_le (by rw [vN hl];exact Nat.le_refl _)]
end Go.SE
namespace Go.Proofs
def jVZ (l:Sp.Letter):List Value:=[.int .i64 l.kind,.int .i64 l.frm,.int .u64 l.c,.string l.text,.bool l.fake]
end Go.Proofs
end
section
open Go Go.SE
namespace Go.Proofs
open Tryz
attribute [local irreducible] Calls
theorem jKG (l:Sp.Letter) (hl:Sp.uO l.c) (w0:World) :
  Calls prog 12 #[.agg #[.int .i64 l.kind,.int .i64 l.frm,.int .u64 l.c,.string l.text,.bool l.fake]] w0 (fun e w'=>∃r:ByteArray,e=.returned (.string r)∧(r=Sp.jQG l∧Pure w0 w')):=by
 refine w_Z4 _ _ _ _ _ w0 (fun r w'=>r=Sp.jQG l∧Pure w0 w') ?_
 unfold m_Z4
 intro H1 w1 hs
 refine (jKE l hl w1).mono ?_
 rintro _ w2 ⟨r1,r2,rfl,_,hR⟩
 refine ⟨_,_,rfl,hR.pure.keptP,_,jQH underlying65 underlying5 underlying9 hR.rows.lst,rfl,hs.first.trans hR.pure⟩
theorem jFO (who c:Int) (x:ByteArray) (w0:World) :
  Calls prog 110 #[.agg #[.int .i64 who,.int .u64 c,.string x]] w0 (fun e w'=>∃r:Sl,e=.returned r.v∧RetO w0 30 5 ((Sp.evs who c x).map jVZ) r w'):=by
 refine w_K2 _ _ _ w0 (fun r w'=>RetO w0 30 5 ((Sp.evs who c x).map jVZ) r w') ?_
 unfold m_K2
 intro H1 w1 hs p2 w2 h2
 have E1:=hs.first
 have hp:=h2.at_size
 have z1:=E1.size
 exact ⟨Rws.lit (rs:=(Sp.evs who c x).map jVZ) h2 rfl (by intro q hq;obtain ⟨t,_,rfl⟩:=List.mem_map.1 hq;rfl) (by simp [Sp.evs,maxLen]),fun b hb=>(by obtain ⟨a,ha,e⟩:=hb;cases ha;omega),E1.trans (Ext.new h2)⟩
def jVB (P:Program) (fq:FuncId) (fs cs:Array Value):Prop:=(∀args w,(callFunc fq args).run P w=.ok (.enter fq args) w)∧∀(t:Int) (w:World),Calls P fq (fs++#[(.int .i64 t)]++cs) w (fun e w'=>e=.returned (.bool true)∧Pure w w')
def tM (w0:World) (F0 X H:NP) (w:World) (f:Addr) (L:Sp.Pool) (G:List Int) (a b:Bool):Prop :=
 ∃F,jAM w f L G a b F∧Ext F0 w0 w∧(∀y,F y→(F0 y∨w0.heap.size≤y)∧¬ H y∧¬ X y)∧(∀y,X y→y<w.heap.size∧¬ H y)∧∀y,H y→y<w.heap.size
section
variable {w0 w w' wv:World} {F0 F F' X H H' Hv:NP} {f:Addr} {L L':Sp.Pool} {G G':List Int} {a b a' b':Bool}
theorem tM.hst (h:tM w0 F0 X H w f L G a b) (hs:Hst w0 H w H' w'):tM w0 F0 X H' w' f L G a b:=by
 obtain ⟨F,hF,E,h1,h2,_⟩:=h;have d1:=hs.disj (G:=F) (fun y hy=>⟨hF.lt hy,(h1 y hy).2.1⟩);have d2:=hs.disj (G:=X) h2;exact ⟨F,hF.ext hs.ext d1,E.hst hs,fun y hy=>⟨(h1 y hy).1,d1 y hy,(h1 y hy).2.2⟩,fun y hy=>⟨Nat.lt_of_lt_of_le (h2 y hy).1 hs.ext.size,d2 y hy⟩,hs.lt⟩
theorem tM.pureE (h:tM w0 F0 X H w f L G a b) (E:Pure w w'):tM w0 F0 X H w' f L G a b:=by
 obtain ⟨F,hF,E0,h1,h2,h3⟩:=h;exact ⟨F,hF.pure E,E0.thenPure E,h1,fun y hy=>⟨Nat.lt_of_lt_of_le (h2 y hy).1 E.size,(h2 y hy).2⟩,fun y hy=>Nat.lt_of_lt_of_le (h3 y hy) E.size⟩
theorem tM.step (h1:∀y,F y→(F0 y∨w0.heap.size≤y)∧¬ H y∧¬ X y) (h2:∀y,X y→y<w.heap.size∧¬ H y) (h3:∀y,H y→y<w.heap.size) (E0:Ext F0 w0 w) (hF:jAM w' f L' G' a' b' F') (E:Ext F w w') (hn:∀y,F' y→F y∨w.heap.size≤y) :
  tM w0 F0 X H w' f L' G' a' b'∧Kept H w w':=by
 have hb:=E0.size
 refine ⟨⟨F',hF,E0.trans' E (fun i hi hf=>by
  rcases (h1 i hf).1 with h | h
  ·exact h
  ·omega),fun y hy=>?_,fun y hy=>⟨Nat.lt_of_lt_of_le (h2 y hy).1 E.size,(h2 y hy).2⟩,fun y hy=>Nat.lt_of_lt_of_le (h3 y hy) E.size⟩,E.kept (fun y hy hf=>(h1 y hf).2.1 hy)⟩
 rcases hn y hy with h | h
 ·exact h1 y h
 ·exact ⟨.inr (Nat.le_trans hb h),fun hh=>by have:=h3 y hh;omega,fun hx=>by have:=(h2 y hx).1;omega⟩
theorem tM.start (h:jAM w f L G a b F) (E:Pure w0 w) (hF:∀y,F y→y<w0.heap.size) (hH:∀y,H y→w0.heap.size≤y∧y<w.heap.size) (hX:∀y,X y→w0.heap.size≤y∧y<w.heap.size∧¬ H y):tM w0 F X H w f L G a b :=
 ⟨F,h,Ext.pure E,fun y hy=>⟨.inl hy,fun hh=>by have:=(hH y hh).1;have:=hF y hy;omega,fun hx=>by have:=(hX y hx).1;have:=hF y hy;omega⟩,fun y hy=>(hX y hy).2,fun y hy=>(hH y hy).2⟩
theorem tM.done (h:tM w0 F0 X H w f L G a b):∃F',jAM w f L G a b F'∧Ext F0 w0 w∧∀y,F' y→F0 y∨w0.heap.size≤y:=by
 obtain ⟨F,hF,E,h1,_⟩:=h;exact ⟨F,hF,E,fun y hy=>(h1 y hy).1⟩
theorem tM.wf (h:tM w0 F0 X H w f L G a b):Sp.Wf L:=by obtain ⟨F,hF,_⟩:=h;exact hF.wf
end
theorem jMF (f:Addr) (who c:Int) (x:ByteArray) (fq:FuncId) (fs cs:Array Value) (hq:jVB prog fq fs cs) (w0:World) {L:Sp.Pool} {G:List Int} {a b:Bool} {F:NP} (h:jAM w0 f L G a b F) :
  Calls prog 51 #[.pointer (some f),.agg #[.int .i64 who,.int .u64 c,.string x],.func (.func fq) fs cs] w0 (fun e w'=>∃r:Int,e=.returned (.int .i64 r)∧(r=(Sp.uZ L G who c x).1∧∃F',jAM w' f (Sp.uZ L G who c x).2 G a b F'∧Ext F w0 w'∧∀y,F' y→F y∨w0.heap.size≤y)):=by
 suffices key:∀K:Int→WP,(∀w',(∃F',jAM w' f (Sp.uZ L G who c x).2 G a b F'∧Ext F w0 w'∧∀y,F' y→F y∨w0.heap.size≤y)→K (Sp.uZ L G who c x).1 w')→m_R (some f) who c x (.func (.func fq) fs cs) w0 K from
  w_R _ _ _ _ _ w0 _ (key _ (fun _ h=>⟨rfl,h⟩))
 intro K hK
 unfold m_R
 refine ⟨fun hc=>?_,fun hc=>?_⟩
 ·intro H2 w3 hs
  have e:Sp.uZ L G who c x=(0,L):=by
   unfold Sp.uZ Sp.uM;rw [if_neg (by simpa using hc)]
  rw [e] at hK
  exact hK w3 ⟨F,h.pure hs.first,Ext.pure hs.first,fun y hy=>.inl hy⟩
 intro H2 w3 hs
 have hp:Sp.uM who=true:=by
  unfold Sp.uM;simp at hc ⊢;omega
 have e:Sp.uZ L G who c x=Sp.yT G (Sp.evs who c x) L:=by unfold Sp.uZ;rw [if_pos hp]
 rw [e] at hK
 have E1:=hs.first
 refine (jFO who c x w3).mono ?_
 rintro _ w5 ⟨r1,rfl,hR⟩
 refine ⟨_,rfl,hR.pure.keptP,?_⟩
 have E05:=E1.trans hR.pure
 have hrl:r1.len=2:=by rw [hR.rows.len];rfl
 have hFlt:∀y,F y→y<w0.heap.size:=fun y hy=>h.lt hy
 have hlen:(Sp.evs who c x).length=2:=rfl
 have hrows:=hR.rows
 have hFH:tM w0 F r1.blk H2 w5 f L G a b:=tM.start (h.pure E05) E05 hFlt (fun y hy=>⟨hs.old y hy,Nat.lt_of_lt_of_le (hs.lt y hy) hR.pure.size⟩) (fun y hy=>⟨by have:=hR.own y hy;have:=E1.size;omega,hrows.lt hy,fun hh=>by have:=hR.own y hy;have:=hs.lt y hh;omega⟩)
 generalize Sp.evs who c x=ls at *
 refine ⟨fun i H w=>∃n:Nat,i=n∧n≤ls.length∧∃L',tM w0 F r1.blk H w f L' G a b∧Sp.yT G ls L=Sp.yT G (ls.drop n) L'∧Own H w 30 5 r1 (ls.map jVZ),fun i _=>((ls.length:Int) - i).toNat,⟨0,rfl,Nat.zero_le _,L,hFH,by simp,hrows,fun y hy hh=>by have:=hR.own y hy;have:=hs.lt y hh;omega⟩,?_⟩
 rintro _ Hl wl hsl ⟨n,rfl,hn,L',hF',hre,ho⟩
 unfold m_R_l1
 refine ⟨fun hlt=>?_,fun hlt=>?_⟩
 ·have hlt:n<ls.length:=by have:=of_decide_eq_true hlt;omega
  obtain ⟨a1,hat,hrow⟩:=ho.nth hlt
  have hd:ls.drop n=ls[n] :: ls.drop (n+1):=List.drop_eq_getElem_cons hlt
  rw [hd] at hre
  generalize hl:ls[n]=l at *
  obtain ⟨lk,lf,lc,lx,lg⟩:=l
  refine ⟨a1,hat,lk,lf,lc,lx,lg,hrow,fun H3 w7 hs7=>⟨fun _=>True,trivial,?_⟩⟩
  rintro w8 rfl
  have hs8:=(hs7.here).drew
  have hF8:=(hF'.hst hs7).pureE (Ext.drew w7)
  have ho8:=(ho.hst hs7).pure (Ext.drew w7)
  have hs8:Hst w0 H3 w7.drew H3 w7.drew:=hs8.here
  clear hs7 hF' ho hsl
  generalize w7.drew=w8 at *
  obtain ⟨F1,hF1,E8,d1,d2,d3⟩:=hF8
  obtain ⟨k,p,S,FK,FP,hA,hF⟩:=hF1
  refine ⟨f,rfl,some p,hA.box.cell rfl,?_⟩
  refine (jWO p ⟨lk,lf,lc,lx,lg⟩ w8 hA.pool hA.wf.ok).mono ?_
  rintro _ w9 ⟨r2,r3,rfl,e2,e3,FP',hP9,E9,hF9⟩
  obtain ⟨M,hM⟩:=Sp.jAK hA.wf.ok ⟨lk,lf,lc,lx,lg⟩
  have hW9:=Sp.uQ hA.wf ⟨lk,lf,lc,lx,lg⟩
  have hM':=hM
  rw [hM] at hP9 hW9
  have hA9:=hA.grown hP9 hW9 E9 hF9
  obtain ⟨hF9',hk9⟩:=tM.step (F:=F1) (X:=r1.blk) d1 d2 d3 E8 ⟨k,p,S,FK,FP',hA9,fun _=>Iff.rfl⟩ (E9.mono (fun y _ hy=>(hF y).2 (.inr (.inr hy)))) (by
   rintro y (rfl | hy | hy)
   ·exact .inl ((hF _).2 (.inl rfl))
   ·exact .inl ((hF y).2 (.inr (.inl hy)))
   ·exact (hF9 y hy).imp (fun h=>(hF y).2 (.inr (.inr h))) id)
  have ho9:Own H3 w9 30 5 r1 (ls.map jVZ):=ho8.ext (E9.mono (fun y _ hy=>(hF y).2 (.inr (.inr hy)))) (fun y hy hf=>(d1 y hf).2.2 hy)
  have hs9:=hs8.again hk9
  refine ⟨r2,r3,rfl,trivial,hk9,?_⟩
  rw [← hM'] at hF9' hA9 hW9
  have hdrv:Sp.Drv (zU L' ⟨lk,lf,lc,lx,lg⟩).2.2 (fun y=>y∈Sp.zO S) r2↔Sp.Drv (zU L' ⟨lk,lf,lc,lx,lg⟩).2.2 (Sp.Seen (zU L' ⟨lk,lf,lc,lx,lg⟩).2.2 G) r2 :=
   ⟨Sp.Drv.mono (fun t ht=>(hA9.ok.seen_iff t).1 ht),Sp.Drv.mono (fun t ht=>(hA9.ok.seen_iff t).2 ht)⟩
  rw [Sp.yT] at hre
  have next : ∀ w, tM w0 F r1.blk H3 w f (zU L' ⟨lk, lf, lc, lx, lg⟩).2.2 G a b → Own H3 w 30 5 r1 (ls.map jVZ) → ¬ ((zU L' ⟨lk, lf, lc, lx, lg⟩).2.1 = 0 ∧ Sp.Drv (zU L' ⟨lk, lf, lc, lx, lg⟩).2.2 (Sp.Seen (zU L' ⟨lk, lf, lc, lx, lg⟩).2.2 G) (zU L' ⟨lk, lf, lc, lx, lg⟩).1) →
    (∃m:Nat,IntKind.i64.wrap ((n:Int)+1)=m∧m≤ls.length∧∃L',tM w0 F r1.blk H3 w f L' G a b∧Sp.yT G ls L=Sp.yT G (ls.drop m) L'∧Own H3 w 30 5 r1 (ls.map jVZ))∧((ls.length:Int) - IntKind.i64.wrap ((n:Int)+1)).toNat<((ls.length:Int) - (n:Int)).toNat:=by
   intro w h1 h2 h3
   rw [vV hlt (by omega)]
   refine ⟨⟨n+1,rfl,hlt,_,h1,?_,h2⟩,jCC hlt⟩
   rw [hre,if_neg h3]
  refine ⟨fun hc=>?_,fun hc=>?_⟩
  ·have hc:r3=0:=beq_iff_eq.1 hc
   refine ⟨f,rfl,some k,hA9.box.cell0,?_⟩
   refine (jHY k p r2 w9 hA9.wf hA9.ok hA9.know hA9.pool).mono ?_
   rintro _ w11 ⟨r5,rfl,hr5,E11⟩
   refine ⟨_,rfl,E11.keptP,?_⟩
   have hF11:=hF9'.pureE E11
   have ho11:=ho9.pure E11
   unfold m_R_j2
   refine ⟨fun h5=>?_,fun h5=>?_⟩
   ·refine ⟨fq,fs,cs,rfl,hq.1,(hq.2 r2 w11).mono ?_⟩
    rintro _ w10 ⟨rfl,E10⟩
    refine ⟨true,rfl,E10.keptP,fun _=>?_,fun h=>by cases h⟩
    rw [hre,if_pos ⟨by rw [← e3];exact hc,by rw [← e2];exact hdrv.1 (hr5.1 h5)⟩] at hK
    rw [e2]
    exact hK _ (hF11.pureE E10).done
   ·exact next _ hF11 ho11 (fun h => by
     have:=hr5.2 (hdrv.2 (by rw [e2];exact h.2));rw [h5] at this;cases this)
  ·have hc:¬ r3=0:=fun h=>by rw [h] at hc;cases hc
   unfold m_R_j2
   refine ⟨fun h=>(by cases h),fun _=>?_⟩
   exact next _ hF9' ho9 (fun h=>hc (by rw [e3];exact h.1))
 ·have:n=ls.length:=by have:=of_decide_eq_false hlt;omega
  subst this
  rw [List.drop_length] at hre
  rw [hre] at hK
  exact hK wl hF'.done
theorem jMM:jVB prog 52 #[] #[]:=⟨call52,fun t w=>(p_R2 t w).mono (fun e w' h=>h)⟩
theorem jMG (f:Addr) (who c:Int) (x:ByteArray) (w0:World) {L:Sp.Pool} {G:List Int} {a b:Bool} {F:NP} (h:jAM w0 f L G a b F) :
  Calls prog 14 #[.pointer (some f),.agg #[.int .i64 who,.int .u64 c,.string x]] w0 (fun e w'=>∃r:Bool,e=.returned (.bool r)∧((r=true↔(Sp.uZ L G who c x).1≠0)∧∃F',jAM w' f (Sp.uZ L G who c x).2 G a b F'∧Ext F w0 w'∧∀y,F' y→F y∨w0.heap.size≤y)):=by
 refine w_Y1 _ _ _ _ w0 (fun r w'=>(r=true↔(Sp.uZ L G who c x).1≠0)∧∃F',jAM w' f (Sp.uZ L G who c x).2 G a b F'∧Ext F w0 w'∧∀y,F' y→F y∨w0.heap.size≤y) ?_
 unfold m_Y1
 intro H1 w1 hs
 have E1:=hs.first
 refine (jMF f who c x _ #[] #[] jMM w1 (h.pure E1)).mono ?_
 rintro _ w2 ⟨r,rfl,rfl,F',hF',E2,hn⟩
 have z1:=E1.size
 exact ⟨_,rfl,E2.kept0 hs.here (fun y hy=>h.lt hy),by simp,F',hF',(Ext.pure E1).trans E2,fun y hy=>(hn y hy).imp id (fun h=>by omega)⟩
theorem jCI (f:Addr) (who:Int) (w0:World) {L:Sp.Pool} {G:List Int} {a b:Bool} {F:NP} (h:jAM w0 f L G a b F) :
  Calls prog 53 #[.pointer (some f),.int .i64 who] w0 (fun e w'=>∃r:Bool,e=.returned (.bool r)∧(r=Sp.keyS L G who∧Pure w0 w')):=by
 refine w_L2 _ _ w0 (fun r w'=>r=Sp.keyS L G who∧Pure w0 w') ?_
 unfold m_L2
 obtain ⟨k,p,S,FK,FP,h,hF⟩:=h
 refine ⟨f,rfl,some p,h.box.cell rfl,?_⟩
 refine (jWM p (Sp.vL who) w0 h.pool h.wf.ok).mono ?_
 rintro _ w1 ⟨r1,r2,rfl,hr,E1⟩
 have h1:=h.ext E1 (fun _ _ h=>h)
 refine ⟨r1,r2,rfl,?_⟩
 unfold Sp.keyS
 split at hr
 ·rename_i i hi
  obtain ⟨rfl,rfl⟩:=hr
  refine ⟨fun _=>?_,fun h=>(by cases h)⟩
  refine ⟨f,rfl,some k,h1.box.cell0,?_⟩
  refine (jGM k p ((i:Int)+1) w1 h1.know).mono ?_
  rintro _ w2 ⟨r3,rfl,rfl,E2⟩
  refine ⟨_,rfl,?_,E1.trans E2⟩
  rw [hi]
  classical
  exact decide_eq_decide.2 (h1.ok.seen_iff _)
 ·rename_i hi
  obtain ⟨rfl,rfl⟩:=hr
  refine ⟨fun h=>(by cases h),fun _=>⟨?_,E1⟩⟩
  rw [hi]
theorem jPF (f:Addr) (who:Int) (w0:World) {L:Sp.Pool} {G:List Int} {a b:Bool} {F:NP} (h:jAM w0 f L G a b F) :
  Calls prog 15 #[.pointer (some f),.int .i64 who] w0 (fun e w'=>∃r:Bool,e=.returned (.bool r)∧(r=Sp.jFJ L G who∧Pure w0 w')):=by
 refine w_Z1 _ _ w0 (fun r w'=>r=Sp.jFJ L G who∧Pure w0 w') ?_
 unfold m_Z1
 refine ⟨fun hc=>?_,fun hc=>?_⟩
 ·intro H1 w2 hs
  have hp:Sp.uM who=true:=by unfold Sp.uM;simpa using hc
  have E1:=hs.first
  refine (jCI f who w2 (h.pure E1)).mono ?_
  rintro _ w4 ⟨r1,rfl,e1,E2⟩
  refine ⟨_,rfl,E2.keptP,fun h1=>?_,fun h1=>?_⟩
  ·refine ⟨?_,E1.trans E2⟩
   unfold Sp.jFJ;rw [hp,← e1,h1];rfl
  ·refine (jCI f 2 w4 ((h.pure E1).pure E2)).mono ?_
   rintro _ w5 ⟨r2,rfl,e2,E3⟩
   refine ⟨_,rfl,E3.keptP,?_,(E1.trans E2).trans E3⟩
   unfold Sp.jFJ;rw [hp,← e1,h1,e2];rfl
 ·intro H1 w2 hs
  refine ⟨?_,hs.first⟩
  have hp:Sp.uM who=false:=by unfold Sp.uM;simpa using hc
  unfold Sp.jFJ;rw [hp];rfl
section
variable {w0 w:World} {F0 X H:NP} {f:Addr} {L:Sp.Pool} {G:List Int} {a b:Bool}
theorem tM.binds (h:tM w0 F0 X H w f L G a b) (who c:Int) (x:ByteArray):Calls prog 14 #[.pointer (some f),.agg #[.int .i64 who,.int .u64 c,.string x]] w (fun e w'=>∃r:Bool,e=.returned (.bool r)∧(r=true↔(Sp.uZ L G who c x).1≠0)∧tM w0 F0 X H w' f (Sp.uZ L G who c x).2 G a b∧Kept H w w'):=by
 obtain ⟨F,hF,E,d1,d2,d3⟩:=h;refine (jMG f who c x w hF).mono ?_;rintro _ w' ⟨r,rfl,hr,F',hF',E',hn⟩;obtain ⟨k1,k2⟩:=tM.step d1 d2 d3 E hF' E' hn;exact ⟨r,rfl,hr,k1,k2⟩
theorem tM.hear (h:tM w0 F0 X H w f L G a b) (body:ByteArray):Calls prog 11 #[.pointer (some f),.string body] w (fun e w'=>∃r:Bool,e=.returned (.bool r)∧r=(Sp.xQ L G body.data.toList).2.2∧tM w0 F0 X H w' f (Sp.xQ L G body.data.toList).1 (Sp.xQ L G body.data.toList).2.1 a b∧Kept H w w'):=by
 obtain ⟨F,hF,E,d1,d2,d3⟩:=h;refine (jPE f body w hF).mono ?_;rintro _ w' ⟨r,rfl,hr,F',hF',E',hn⟩;obtain ⟨k1,k2⟩:=tM.step d1 d2 d3 E hF' E' hn;exact ⟨r,rfl,hr,k1,k2⟩
theorem tM.corrupt (h:tM w0 F0 X H w f L G a b) (who:Int):Calls prog 13 #[.pointer (some f),.int .i64 who] w (fun e w'=>∃r:Int,e=.returned (.int .i64 r)∧r=(Sp.vT L G a b who).1∧tM w0 F0 X H w' f (Sp.vT L G a b who).2.1 (Sp.vT L G a b who).2.2.1 (Sp.vT L G a b who).2.2.2.1 (Sp.vT L G a b who).2.2.2.2∧Kept H w w'):=by
 obtain ⟨F,hF,E,d1,d2,d3⟩:=h;refine (jHX f who w hF).mono ?_;rintro _ w' ⟨r,rfl,hr,F',hF',E',hn⟩;obtain ⟨k1,k2⟩:=tM.step d1 d2 d3 E hF' E' hn;exact ⟨r,rfl,hr,k1,k2⟩
theorem tM.free (h:tM w0 F0 X H w f L G a b) (who:Int):Calls prog 15 #[.pointer (some f),.int .i64 who] w (fun e w'=>∃r:Bool,e=.returned (.bool r)∧r=Sp.jFJ L G who∧tM w0 F0 X H w' f L G a b∧Kept H w w'):=by
 have h0:=h;obtain ⟨F,hF,_⟩:=h;refine (jPF f who w hF).mono ?_;rintro _ w' ⟨r,rfl,hr,E'⟩;exact ⟨r,rfl,hr,h0.pureE E',E'.keptP⟩
end
theorem tM.new (w:World):Calls prog 10 #[] w (fun e w'=>∃r:Option Addr,e=.returned (.pointer r)∧∃f F,r=some f∧jAM w' f [] [] false false F∧Pure w w'∧∀x,F x→w.heap.size≤x):=jKH w
end Go.Proofs
end
section
namespace Go.Sp
theorem jRF (L:Pool) (n:Node):(make L n).2.2.length≤L.length+1:=by
 rcases jCB L n with e | ⟨_,e⟩ <;> rw [e] <;> simp
end Go.Sp
end
section
open Go Go.SE
namespace Go.Sp
theorem jHT {L:Pool} {n:Node} (hp:zZ n=0) (ha:(shapeOf n.kind).kids<1→n.a=0) (hb:(shapeOf n.kind).kids<2→n.b=0) (hf:zY (shapeOf n.kind) n=0) (hk:∀k∈zG n,inP L k=true) :
  check L n=if 1+((zG n).map (sizeOf L)).sum>4096∨(zG n).foldl (fun d t=>max d (depthOf L t)) 0+1>64 then (0,0,52) else (1+((zG n).map (sizeOf L)).sum,(zG n).foldl (fun d t=>max d (depthOf L t)) 0+1,0):=by
 unfold check
 simp only
 rw [if_neg (by simp [hp]),if_neg (fun h=>?_),if_neg (by simp [hf]),if_neg (fun h=>?_)]
 ·obtain ⟨k,hk1,hk2⟩:=List.any_eq_true.1 h
  rw [hk k hk1] at hk2;cases hk2
 ·rw [Bool.or_eq_true,Bool.and_eq_true,Bool.and_eq_true] at h
  rcases h with ⟨h1,h2⟩ | ⟨h1,h2⟩
  ·rw [ha (of_decide_eq_true h1)] at h2;simp at h2
  ·rw [hb (of_decide_eq_true h1)] at h2;simp at h2
theorem mk_ok {L:Pool} {n:Node} (hW:Wf L) (hl:L.length<65536) (hp:zZ n=0) (ha:(shapeOf n.kind).kids<1→n.a=0) (hb:(shapeOf n.kind).kids<2→n.b=0) (hf:zY (shapeOf n.kind) n=0) (hk:∀k∈zG n,inP L k=true)
  {sz d:Int} (hs:1+((zG n).map (sizeOf L)).sum=sz) (hd:(zG n).foldl (fun d t=>max d (depthOf L t)) 0+1=d) :
  ((sz>4096∨d>64)→(make L n).2.1=52)∧(¬ (sz>4096∨d>64)→∃r M,make L n=(r,0,L++M)∧inP (L++M) r=true∧nodeOf (L++M) r=n∧Wf (L++M)∧sizeOf (L++M) r=sz∧depthOf (L++M) r=d∧(L++M).length≤L.length+1):=by
 have hc:=jHT hp ha hb hf hk
 rw [hs,hd] at hc
 refine ⟨fun h=>?_,fun h=>?_⟩
 ·rw [if_pos h] at hc
  unfold make;simp only [hc];rfl
 ·rw [if_neg h] at hc
  have h0:(make L n).2.1=0:=by
   unfold make;simp only [hc];rw [if_neg (by simp)];split
   ·rfl
   ·rw [if_neg (by omega)]
  obtain ⟨M,e⟩:=lD L n
  obtain ⟨m1,m2,_⟩:=lQ h0
  have hw:=lJ hW n
  have hfew:=jRF L n
  rw [e] at m1 m2 hw hfew
  refine ⟨(make L n).1,M,by rw [← e,← h0],m1,m2,hw,?_,?_,hfew⟩
  ·rw [(hw.node m1).2.2.2.2.2.1,m2,← hs]
   congr 2
   exact List.map_congr_left (fun k hk'=>jCO (hk k hk'))
  ·rw [(hw.node m1).2.2.2.2.2.2,m2,← hd]
   congr 1
   have:∀(l:List Int) (d:Int),(∀k∈l,inP L k=true)→l.foldl (fun d k=>max d (depthOf (L++M) k)) d=l.foldl (fun d k=>max d (depthOf L k)) d:=by
    intro l;induction l with
    | nil=>intro d _;rfl
    | cons a l ih=>intro d hh;simp only [List.foldl_cons];rw [jBA (hh a (by simp))];exact ih _ (fun k hk=>hh k (by simp [hk]))
   exact this _ _ hk
theorem make_old {L:Pool} (hW:Wf L) {t:Int} (ht:inP L t=true):make L (nodeOf L t)=(t,0,L):=by
 obtain ⟨h1,h2,h3,h4,h5,h6,h7⟩:=hW.node ht;have hc:=jHT h1 h2 h3 h4 (fun k hk=>(h5 k hk).1);rw [← h6,← h7] at hc;obtain ⟨i,hi,rfl⟩:=tA ht;have hsz:=hW.ok.size L[i] (List.getElem_mem hi);have hdp:=hW.ok.depth L[i] (List.getElem_mem hi);have e1:sizeOf L ((i:Int)+1)=L[i].size:=by simp [sizeOf,jDH hi]
 have e2:depthOf L ((i:Int)+1)=L[i].depth:=by simp [depthOf,jDH hi]
 rw [if_neg (by omega)] at hc;have hfd:find L (nodeOf L ((i:Int)+1))=some i:=by rw [qB hi];exact Go.Proofs.jFC hW.ok (List.getElem?_eq_getElem hi)
 unfold make;simp only [hc,hfd];rw [if_neg (by simp)]
theorem jGH (k:Int):(shapeOf k).kids=0∨(shapeOf k).kids=1∨(shapeOf k).kids=2:=by
 unfold shapeOf noShape
 repeat' split
 all_goals simp
theorem jUB {L:Pool} (hW:Wf L):∀(m:Nat) (t:Int),t.toNat=m→inP L t=true→grow L (zD L t)=(t,0,L):=by
 intro m;induction m using Nat.strongRecOn with
 | _ m ih =>
 intro t hm ht;have hmk:=make_old hW ht;obtain ⟨h1,h2,h3,h4,h5,h6,h7⟩:=hW.node ht;have hpos:=(zX.1 ht).1;have kid:∀k∈zG (nodeOf L t),grow L (zD L k)=(k,0,L):=fun k hk=>by
  have:=zX.1 (h5 k hk).1;exact ih k.toNat (by have:=(h5 k hk).2;omega) k rfl (h5 k hk).1
 rw [vS hW ht,grow];generalize nodeOf L t=n at *;obtain ⟨k,f,t',u,x,a,b⟩:=n;unfold zG at kid ⊢;simp only at *;rcases jGH k with h | h | h
 ·rw [h] at kid ⊢;have ea:=h2 (by omega);have eb:=h3 (by omega);subst ea;subst eb;simpa [vB] using hmk
 ·rw [h] at kid ⊢;have eb:=h3 (by omega);subst eb;have k1:=kid a (by simp);simpa [vB,k1] using hmk
 ·rw [h] at kid ⊢;have k1:=kid a (by simp);have k2:=kid b (by simp);simpa [vB,k1,k2] using hmk
structure LP (T:Tree) (sz d:Int):Prop where
 s1:1≤sz
 d1:1≤d
 yes:∀i s,0≤i→0≤s→s+sz≤4096→i+d≤64→qC i s T=(0,s+sz)
 no:∀i s,0≤i→0≤s→(4096<s+sz∨64<i+d)→(qC i s T).1=52
theorem LP0 {k f t u:Int} {x:ByteArray} (h:qT ⟨k,f,t,u,x,0,0⟩ 0=0):LP (.mk k f t u x []) 1 1:=by
 refine ⟨by omega,by omega,fun i s hi hs h1 h2=>?_,fun i s hi hs h1=>?_⟩
 ·rw [qC,if_neg (by omega),if_neg (by omega)];simp [vG,h]
 ·rw [qC];split
  ·rfl
  ·rw [if_pos (by omega)]
theorem LP1 {k f t u:Int} {x:ByteArray} {A:Tree} {sa da:Int} (h:qT ⟨k,f,t,u,x,0,0⟩ 1=0) (hA:LP A sa da):LP (.mk k f t u x [A]) (1+sa) (da+1):=by
 have a1:=hA.s1;have a2:=hA.d1;refine ⟨by omega,by omega,fun i s hi hs h1 h2=>?_,fun i s hi hs h1=>?_⟩
 ·rw [qC,if_neg (by omega),if_neg (by omega)];simp only [List.length_cons,List.length_nil,vG,h,if_pos,hA.yes (i+1) (s+1) (by omega) (by omega) (by omega) (by omega)];simp;omega
 ·rw [qC];split
  ·rfl
  ·split
   ·rfl
   ·simp only [List.length_cons,List.length_nil,vG,h,if_pos];simpa using hA.no (i+1) (s+1) (by omega) (by omega) (by omega)
theorem LP2 {k f t u:Int} {x:ByteArray} {A B:Tree} {sa da sb db:Int} (h:qT ⟨k,f,t,u,x,0,0⟩ 2=0) (hA:LP A sa da) (hB:LP B sb db):LP (.mk k f t u x [A,B]) (1+(sa+sb)) (max da db+1):=by
 have a1:=hA.s1;have a2:=hA.d1;have b1:=hB.s1;have b2:=hB.d1;refine ⟨by omega,by omega,fun i s hi hs h1 h2=>?_,fun i s hi hs h1=>?_⟩
 ·rw [qC,if_neg (by omega),if_neg (by omega)];simp only [List.length_cons,List.length_nil,vG,h,if_pos,hA.yes (i+1) (s+1) (by omega) (by omega) (by omega) (by omega),hB.yes (i+1) (s+1+sa) (by omega) (by omega) (by omega) (by omega)];simp;omega
 ·rw [qC];split
  ·rfl
  ·split
   ·rfl
   ·simp only [List.length_cons,List.length_nil,vG,h,if_pos];by_cases hc:s+1+sa≤4096∧i+1+da≤64
    ·rw [hA.yes (i+1) (s+1) (by omega) (by omega) hc.1 hc.2];simpa using hB.no (i+1) (s+1+sa) (by omega) (by omega) (by omega)
    ·have:=hA.no (i+1) (s+1) (by omega) (by omega) (by omega);rw [this];simp
theorem jRG {L:Pool} (hW:Wf L):∀(m:Nat) (t:Int),t.toNat=m→inP L t=true→LP (zD L t) (sizeOf L t) (depthOf L t):=by
 intro m;induction m using Nat.strongRecOn with
 | _ m ih =>
 intro t hm ht;obtain ⟨h1,h2,h3,h4,h5,h6,h7⟩:=hW.node ht;have hpos:=(zX.1 ht).1;have kid:∀k∈zG (nodeOf L t),LP (zD L k) (sizeOf L k) (depthOf L k):=fun k hk=>by
  have:=zX.1 (h5 k hk).1;exact ih k.toNat (by have:=(h5 k hk).2;omega) k rfl (h5 k hk).1
 have own:∀len:Nat,(len:Int)=(shapeOf (nodeOf L t).kind).kids→qT ⟨(nodeOf L t).kind,(nodeOf L t).frm,(nodeOf L t).to,(nodeOf L t).num,(nodeOf L t).text,0,0⟩ len=0:=fun len hl=>by
  have e1:zZ ⟨(nodeOf L t).kind,(nodeOf L t).frm,(nodeOf L t).to,(nodeOf L t).num,(nodeOf L t).text,0,0⟩=0:=h1;have e2:zY (shapeOf (nodeOf L t).kind) ⟨(nodeOf L t).kind,(nodeOf L t).frm,(nodeOf L t).to,(nodeOf L t).num,(nodeOf L t).text,0,0⟩=0:=h4;unfold qT;simp only [e1];simp [hl,e2]
 rw [vS hW ht,h6,h7];generalize nodeOf L t=n at *;obtain ⟨k,f,t',u,x,a,b⟩:=n;unfold zG at kid ⊢;simp only at *;rcases jGH k with h | h | h
 ·rw [h];simpa using LP0 (own 0 (by omega))
 ·rw [h] at kid ⊢;have k1:=kid a (by simp);have:=LP1 (own 1 (by omega)) k1;have e:=k1.d1;simpa [Int.max_eq_right (show 0≤depthOf L a by omega)] using this
 ·rw [h] at kid ⊢;have k1:=kid a (by simp);have k2:=kid b (by simp);have:=LP2 (own 2 (by omega)) k1 k2;have e:=k1.d1;simpa [Int.max_eq_right (show 0≤depthOf L a by omega)] using this
end Go.Sp
end
section
namespace Go.Sp
theorem xP {L:Pool} {t k:Int} (h:inP L t=true) (hk:(nodeOf L t).kind=k):yI L t k=(nodeOf L t,false):=by unfold yI;rw [if_pos ⟨h,hk⟩]
section
variable {L:Pool} (hW:Wf L) {t:Int} (ht:inP L t=true)
include hW ht
theorem nd4 (hk:(nodeOf L t).kind=4):inP L (nodeOf L t).a=true∧inP L (nodeOf L t).b=true∧zD L t=qJ (zD L (nodeOf L t).a) (zD L (nodeOf L t).b):=by
 have h:=(hW.node ht).1;have hp:=(hW.node ht).2.2.2.2.1;have hkk:zG (nodeOf L t)=[(nodeOf L t).a,(nodeOf L t).b]:=by unfold zG;rw [hk];rfl
 rw [hkk] at hp;refine ⟨(hp _ (by simp)).1,(hp _ (by simp)).1,?_⟩;rw [vS hW ht,hk,qJ,hkk];unfold zZ at h;rw [hk] at h;simp [shapeOf,isKind] at h;simp [h]
theorem nd7 (hk:(nodeOf L t).kind=7):inP L (nodeOf L t).a=true∧0≤(nodeOf L t).frm∧zD L t=yH (nodeOf L t).frm (zD L (nodeOf L t).a):=by
 have h:=(hW.node ht).1;have hf:=(hW.node ht).2.2.2.1;have hp:=(hW.node ht).2.2.2.2.1;have hkk:zG (nodeOf L t)=[(nodeOf L t).a]:=by unfold zG;rw [hk];rfl
 rw [hkk] at hp;refine ⟨(hp _ (by simp)).1,?_,?_⟩
 ·unfold zY at hf;rw [hk] at hf;split at hf
  ·cases hf
  ·rename_i hh;simp [shapeOf,lE] at hh;omega
 rw [vS hW ht,hk,yH,hkk];unfold zZ at h;rw [hk] at h;simp [shapeOf,isKind] at h;simp [h]
theorem nd89 (hk:(nodeOf L t).kind=8∨(nodeOf L t).kind=9):inP L (nodeOf L t).a=true∧0≤(nodeOf L t).frm∧(nodeOf L t).frm<16∧((nodeOf L t).to=1 - (nodeOf L t).frm→zD L t=qZ (nodeOf L t).frm (zD L (nodeOf L t).a) ((nodeOf L t).kind == 9)):=by
 have h:=(hW.node ht).1;have hf:=(hW.node ht).2.2.2.1;have hp:=(hW.node ht).2.2.2.2.1;have hkk:zG (nodeOf L t)=[(nodeOf L t).a]:=by unfold zG;rcases hk with hk | hk <;> (rw [hk];rfl)
 rw [hkk] at hp;have hff:0≤(nodeOf L t).frm∧(nodeOf L t).frm<16:=by
  unfold zY at hf;rcases hk with hk | hk <;>
  ·rw [hk] at hf;split at hf
   ·cases hf
   ·rename_i hh;simp [shapeOf,lE] at hh;omega
 refine ⟨(hp _ (by simp)).1,hff.1,hff.2,fun hto=>?_⟩;rw [vS hW ht,qZ,hkk,← hto];unfold zZ at h;rcases hk with hk | hk <;>
 ·rw [hk] at h ⊢;simp [shapeOf,isKind] at h;simp [h]
theorem yK {k f t' u:Int} {x:ByteArray} {ks:List Tree} (h:zD L t=.mk k f t' u x ks):(nodeOf L t).kind=k∧(nodeOf L t).frm=f∧(nodeOf L t).to=t'∧(nodeOf L t).num=u∧(nodeOf L t).text=x:=by
 rw [vS hW ht] at h;injection h with h1 h2 h3 h4 h5 h6;exact ⟨h1,h2,h3,h4,h5⟩
end
theorem jNS {n:Int} (h:0≤n∧n<16):IntKind.i64.wrap (1 - n)=1 - n:=IntWalk.i64_in _ (by omega)
section
variable {L:Pool} (hW:Wf L) {t:Int}
include hW
theorem jAS (ht:inP L t=true) {g:ByteArray} {y:Tree} (h:zD L t=qJ (qG g) y):∃n,uV L t=((g,n),false)∧inP L n=true∧zD L n=y:=by
 have hk:=(yK hW ht (h.trans rfl)).1;obtain ⟨h1,h2,h3⟩:=nd4 hW ht hk;rw [h] at h3;have e1:qG g=zD L (nodeOf L t).a:=by simpa [qJ] using (Tree.mk.inj h3).2.2.2.2.2 |> fun e=>(List.cons.inj e).1
 have e2:y=zD L (nodeOf L t).b:=by have:=(Tree.mk.inj h3).2.2.2.2.2;exact (List.cons.inj (List.cons.inj this).2).1
 have hka:=yK hW h1 (e1.symm.trans rfl);refine ⟨(nodeOf L t).b,?_,h2,e2.symm⟩;unfold uV;rw [xP ht hk];simp only;rw [xP h1 hka.1];simp [hka.2.2.2.2]
theorem jEQ (ht:inP L t=true) {c:Int} {x:ByteArray} (h:zD L t=qF c x):tV L t=((c,x),false):=by
 obtain ⟨n,e1,hn,e⟩:=jAS hW ht h;have hk:=(yK hW hn (e.trans rfl)).1;obtain ⟨h1,h2,h3⟩:=nd4 hW hn hk;rw [e] at h3;have q1:jAT c=zD L (nodeOf L n).a:=(List.cons.inj (Tree.mk.inj h3).2.2.2.2.2).1;have q2:qG x=zD L (nodeOf L n).b:=(List.cons.inj (List.cons.inj (Tree.mk.inj h3).2.2.2.2.2).2).1;have k1:=yK hW h1 (q1.symm.trans rfl);have k2:=yK hW h2 (q2.symm.trans rfl);unfold tV;rw [e1];simp only;rw [xP hn hk];simp only;rw [xP h1 k1.1,xP h2 k2.1];simp [k1.2.2.2.1,k2.2.2.2.2]
theorem jHD (ht:inP L t=true) {c:Int} (h:zD L t=jAT c):(yI L t 2).1.num=c∧(yI L t 2).2=false:=by
 have k:=yK hW ht (h.trans rfl);rw [xP ht k.1];exact ⟨k.2.2.2.1,rfl⟩
theorem tT (ht:inP L t=true) {n c:Int} {x:ByteArray} {g:Bool} (hn:n=0∨n=1) (h:zD L t=qZ n (qF c x) g):tU L t=(⟨1,n,c,x,g⟩,false):=by
 have k:=yK hW ht (h.trans rfl);have hk:(nodeOf L t).kind=8∨(nodeOf L t).kind=9:=by rw [k.1];cases g <;> simp
 obtain ⟨ha,h0,h16,hT⟩:=nd89 hW ht hk;have:=hT (by rw [k.2.2.1,k.2.1]);rw [h,k.2.1] at this;have q1:qF c x=zD L (nodeOf L t).a:=(List.cons.inj (Tree.mk.inj this).2.2.2.2.2).1;unfold tU;simp only;rw [if_neg,jEQ hW ha q1.symm,k.1,k.2.1]
 ·cases g <;> rfl
 ·simp only [not_or,not_and,Classical.not_not];refine ⟨fun h8=>hk.resolve_left h8,by rw [k.2.1];omega,?_⟩;rw [k.2.2.1,jNS ⟨h0,h16⟩,k.2.1]
end
def IsL (x:Tree) (l:Letter):Prop:=vW l=0∧∃a b:Bool,(l.kind=4→l.fake=(a || b))∧x=vA l a b
theorem jGF {k f c:Int} {x:ByteArray} {g:Bool} (h:vW ⟨k,f,c,x,g⟩=0):(k=1∨k=2∨k=3∨k=4∨k=5∨k=6∨k=7)∧(f=0∨f=1)∧(qI k=false→f=0)∧(qR k=false→x=⟨#[]⟩)∧(g=true→k=1∨k=4)∧x.size≤64:=by
 unfold vW at h;simp only at h;split at h
 ·cases h
 rename_i hh;split at h
 ·cases h
 simp only [not_or,not_and,Classical.not_not] at hh;obtain ⟨h1,h2,h3,h4,h5,h6⟩:=hh;refine ⟨by omega,?_,h4,h5,?_,by omega⟩
 ·by_cases h0:f=0
  ·exact .inl h0
  ·exact .inr (h3 h0)
 ·intro hg;by_cases h1:k=1
  ·exact .inl h1
  ·exact .inr (h6 hg h1)
theorem jRJ {k f c:Int} {x:ByteArray} {g:Bool} (hk:1≤k∧k≤7) (hf:f=0∨f=1) (h1:qI k=false→f=0) (h2:qR k=false→x=⟨#[]⟩) (h3:g=true→k=1∨k=4) (hx:x.size≤64):vW ⟨k,f,c,x,g⟩=0:=by
 unfold vW;simp only;rw [if_neg,if_neg (by omega)];simp only [not_or,not_and,Classical.not_not];refine ⟨by omega,by omega,fun h0=>hf.resolve_left h0,h1,h2,fun hg h1=>(h3 hg).resolve_left h1⟩
section
variable {L:Pool} (hW:Wf L) {t:Int}
include hW
theorem jIV (ht:inP L t=true) {who c:Int} {x:ByteArray} {a b:Bool} (h:zD L t=qJ (qZ 0 (qF c x) a) (qZ 1 (qF c x) b)):jBT L who t=(⟨4,who,c,x,a || b⟩,false):=by
 have hk:=(yK hW ht (h.trans rfl)).1;obtain ⟨h1,h2,h3⟩:=nd4 hW ht hk;rw [h] at h3;have q1:=(List.cons.inj (Tree.mk.inj h3).2.2.2.2.2).1;have q2:=(List.cons.inj (List.cons.inj (Tree.mk.inj h3).2.2.2.2.2).2).1;unfold jBT;simp only;rw [xP ht hk];simp only;rw [tT hW h1 (.inl rfl) q1.symm,tT hW h2 (.inr rfl) q2.symm];simp
theorem jMW (ht:inP L t=true) {l:Letter} (h:IsL (zD L t) l):jIT L t=(l,false):=by
 obtain ⟨k,f,c,x,g⟩:=l;obtain ⟨h1,a,b,h4,hT⟩:=h;obtain ⟨hk,hf,hs,hx,hg,_⟩:=jGF h1;have tagged:∀{who:Int} {gg:ByteArray} {y:Tree},zD L t=yH who (qJ (qG gg) y)→(nodeOf L t).kind=7∧(nodeOf L t).frm=who∧inP L (nodeOf L t).a=true∧zD L (nodeOf L t).a=qJ (qG gg) y∧∃n,uV L (nodeOf L t).a=((gg,n),false)∧inP L n=true∧zD L n=y:=by
  intro who gg y e;have k:=yK hW ht (e.trans rfl);obtain ⟨q1,_,q3⟩:=nd7 hW ht k.1;rw [e] at q3;have q:=(List.cons.inj (Tree.mk.inj q3).2.2.2.2.2).1;exact ⟨k.1,k.2.1,q1,q.symm,jAS hW q1 q.symm⟩
 rcases hk with rfl | rfl | rfl | rfl | rfl | rfl | rfl
 ·have e:zD L t=qZ f (qF c x) g:=hT;have k:=yK hW ht (e.trans rfl);unfold jIT;simp only;rw [if_neg (by rw [k.1];cases g <;> decide),if_pos (by rw [k.1];cases g <;> decide),tT hW ht hf e]
 ·have e:zD L t=yH f (qF c x):=hT;have:g=false:=by cases g with
   | false=>rfl
   | true=>exact absurd (hg rfl) (by omega)
  subst this;obtain ⟨k,kf,h1,h2,n,e1,hn,e2⟩:=tagged e;unfold jIT jAG;simp only;rw [if_pos k,e1,kf];simp only;rw [if_neg (fun q=>absurd q.1 (by decide)),if_neg (fun q=>absurd q.1 (by decide)),if_neg (fun q=>absurd q.1 (by decide)),if_pos ⟨trivial,by omega⟩,jEQ hW h1 h2];rfl
 ·obtain rfl:f=0:=hs rfl;obtain rfl:x=⟨#[]⟩:=hx rfl;have:g=false:=by cases g with
   | false=>rfl
   | true=>exact absurd (hg rfl) (by omega)
  subst this;have e:zD L t=yH 0 (qJ (qG jFT) (jAT c)):=hT;obtain ⟨k,kf,h1,h2,n,e1,hn,e2⟩:=tagged e;obtain ⟨u1,u2⟩:=jHD hW hn e2;unfold jIT jAG;simp only;rw [if_pos k,e1,kf];simp only;rw [if_pos ⟨trivial,trivial⟩,u1,u2];rfl
 ·have e:zD L t=yH f (qJ (qG tE) (qJ (qZ 0 (qF c x) (g && a)) (qZ 1 (qF c x) (g && b)))):=hT;obtain ⟨k,kf,h1,h2,n,e1,hn,e2⟩:=tagged e;have hgg:((g && a) || (g && b))=g:=by
   have:=h4 rfl;simp only at this;subst this;cases a <;> cases b <;> rfl
  unfold jIT jAG;simp only;rw [if_pos k,e1,kf];simp only;rw [if_neg (fun q=>absurd q.1 (by decide)),if_neg (fun q=>absurd q.1 (by decide)),if_neg (fun q=>absurd q.1 (by decide)),if_neg (fun q=>absurd q.1 (by decide)),if_pos ⟨trivial,by omega⟩,jIV hW hn e2,hgg];rfl
 ·obtain rfl:f=0:=hs rfl;obtain rfl:x=⟨#[]⟩:=hx rfl;have:g=false:=by cases g with
   | false=>rfl
   | true=>exact absurd (hg rfl) (by omega)
  subst this;have e:zD L t=yH 2 (qJ (qG jAC) (jAT c)):=hT;obtain ⟨k,kf,h1,h2,n,e1,hn,e2⟩:=tagged e;obtain ⟨u1,u2⟩:=jHD hW hn e2;unfold jIT jAG;simp only;rw [if_pos k,e1,kf];simp only;rw [if_neg (fun q=>absurd q.1 (by decide)),if_pos ⟨trivial,trivial⟩,u1,u2];rfl
 ·obtain rfl:f=0:=hs rfl;have:g=false:=by cases g with
   | false=>rfl
   | true=>exact absurd (hg rfl) (by omega)
  subst this;have e:zD L t=yH 2 (qJ (qG jAB) (qF c x)):=hT;obtain ⟨k,kf,h1,h2,n,e1,hn,e2⟩:=tagged e;unfold jIT jAG;simp only;rw [if_pos k,e1,kf];simp only;rw [if_neg (fun q=>absurd q.1 (by decide)),if_neg (fun q=>absurd q.1 (by decide)),if_pos ⟨trivial,trivial⟩,jEQ hW hn e2];rfl
 ·obtain rfl:f=0:=hs rfl;obtain rfl:x=⟨#[]⟩:=hx rfl;have:g=false:=by cases g with
   | false=>rfl
   | true=>exact absurd (hg rfl) (by omega)
  subst this;have e:zD L t=qJ (qG jPT) (jAT c):=hT;have k:=yK hW ht (e.trans rfl);obtain ⟨n,e1,hn,e2⟩:=jAS hW ht e;obtain ⟨u1,u2⟩:=jHD hW hn e2;unfold jIT;simp only;rw [if_neg (by rw [k.1];decide),if_neg (by rw [k.1];decide),e1];simp only;rw [if_neg (by simp),u1,u2]
end
end Go.Sp
end
section
open Go Go.SE
namespace Go.Sp
open Go.Proofs
inductive In (T:Tree):Tree→Prop
 | refl:In T T
 | fst {f t u:Int} {x:ByteArray} {a b:Tree}:In T (.mk 4 f t u x [a,b])→In T a
 | snd {f t u:Int} {x:ByteArray} {a b:Tree}:In T (.mk 4 f t u x [a,b])→In T b
 | shows {k f t u:Int} {x:ByteArray} {a:Tree}:uF k=true→In T (.mk k f t u x [a])→In T a
theorem In.trans {T y z:Tree} (h:In T y) (h2:In y z):In T z:=by
 induction h2 with
 | refl=>exact h
 | fst _ ih=>exact .fst ih
 | snd _ ih=>exact .snd ih
 | shows hk _ ih=>exact .shows hk ih
def Tree.kd:Tree→Int | .mk k _ _ _ _ _=>k
def Lo (y:Tree):Prop:=∀z,In y z→z.kd≠7∧z.kd≠6
theorem jWC {T:Tree} (h4:∀f t u x a b,T=.mk 4 f t u x [a,b]→Lo a∧Lo b) (h7:∀k f t u x a,T=.mk k f t u x [a]→Lo a) {y:Tree} (h:In T y):y=T∨Lo y:=by
 induction h with
 | refl=>exact .inl rfl
 | fst _ ih =>
  rcases ih with e | e
  ·exact .inr (h4 _ _ _ _ _ _ e.symm).1
  ·exact .inr (fun z hz=>e z ((In.fst .refl).trans hz))
 | snd _ ih =>
  rcases ih with e | e
  ·exact .inr (h4 _ _ _ _ _ _ e.symm).2
  ·exact .inr (fun z hz=>e z ((In.snd .refl).trans hz))
 | shows hk _ ih =>
  rcases ih with e | e
  ·exact .inr (h7 _ _ _ _ _ _ e.symm)
  ·exact .inr (fun z hz=>e z ((In.shows hk .refl).trans hz))
theorem jTV {T:Tree} (h0:T.kd≠7∧T.kd≠6) (h4:∀f t u x a b,T=.mk 4 f t u x [a,b]→Lo a∧Lo b) (h7:∀k f t u x a,T=.mk k f t u x [a]→Lo a):Lo T:=fun z hz=>by
 rcases jWC h4 h7 hz with rfl | h
 ·exact h0
 ·exact h z .refl
theorem jAV (x:ByteArray):Lo (qG x):=jTV ⟨by simp [qG,Tree.kd],by simp [qG,Tree.kd]⟩ (fun _ _ _ _ _ _ h=>by simp [qG] at h) (fun _ _ _ _ _ _ h=>by simp [qG] at h)
theorem jND (c:Int):Lo (jAT c):=jTV ⟨by simp [jAT,Tree.kd],by simp [jAT,Tree.kd]⟩ (fun _ _ _ _ _ _ h=>by simp [jAT] at h) (fun _ _ _ _ _ _ h=>by simp [jAT] at h)
theorem tW {a b:Tree} (ha:Lo a) (hb:Lo b):Lo (qJ a b):=jTV ⟨by simp [qJ,Tree.kd],by simp [qJ,Tree.kd]⟩ (fun _ _ _ _ _ _ h=>by simp [qJ] at h;obtain ⟨_,_,_,_,rfl,rfl⟩:=h;exact ⟨ha,hb⟩) (fun _ _ _ _ _ _ h=>by simp [qJ] at h)
theorem jLR {n:Int} {a:Tree} {g:Bool} (ha:Lo a):Lo (qZ n a g):=jTV ⟨by cases g <;> simp [qZ,Tree.kd],by cases g <;> simp [qZ,Tree.kd]⟩ (fun _ _ _ _ _ _ h=>by simp [qZ] at h) (fun _ _ _ _ _ _ h=>by simp [qZ] at h;obtain ⟨_,_,_,_,_,rfl⟩:=h;exact ha)
theorem jEX (c:Int) (x:ByteArray):Lo (qF c x):=tW (jAV _) (tW (jND _) (jAV _))
theorem jEZ {n:Int} {a y:Tree} (ha:Lo a) (h:In (yH n a) y):y=yH n a∨Lo y:=jWC (fun _ _ _ _ _ _ h=>by simp [yH] at h) (fun _ _ _ _ _ _ h=>by simp [yH] at h;obtain ⟨_,_,_,_,_,rfl⟩:=h;exact ha) h
theorem jJJ (l:Letter) (a b:Bool) {y:Tree} (h:In (vA l a b) y):y=vA l a b∨Lo y:=by
 unfold vA at h ⊢;split at h
 ·rename_i e;rw [if_pos e];exact .inr (fun z hz=>jLR (jEX _ _) z (h.trans hz))
 rename_i e;rw [if_neg e];split at h
 ·rename_i e;rw [if_pos e];exact jEZ (jEX _ _) h
 rename_i e;rw [if_neg e];split at h
 ·rename_i e;rw [if_pos e];exact jEZ (tW (jAV _) (jND _)) h
 rename_i e;rw [if_neg e];split at h
 ·rename_i e;rw [if_pos e];exact jEZ (tW (jAV _) (tW (jLR (jEX _ _)) (jLR (jEX _ _)))) h
 rename_i e;rw [if_neg e];split at h
 ·rename_i e;rw [if_pos e];exact jEZ (tW (jAV _) (jND _)) h
 rename_i e;rw [if_neg e];split at h
 ·rename_i e;rw [if_pos e];exact jEZ (tW (jAV _) (jEX _ _)) h
 rename_i e;rw [if_neg e];exact .inr (fun z hz=>tW (jAV _) (jND _) z (h.trans hz))
def jID (n:Int):Tree:=.mk 6 n 0 0 ⟨#[]⟩ []
theorem jUU {n:Int} {y:Tree} (h:In (jID n) y):y=jID n:=by
 have top:∀z,In (jID n) z→z=jID n∨Lo z:=fun z hz=>jWC (fun _ _ _ _ _ _ h=>by simp [jID] at h) (fun _ _ _ _ _ _ h=>by simp [jID] at h) hz;rcases top y h with h | h'
 ·exact h
 ·induction h with
  | refl=>rfl
  | fst h ih =>
   rcases top _ h with e | e
   ·simp [jID] at e
   ·exact absurd (ih e) (by simp [jID])
  | snd h ih =>
   rcases top _ h with e | e
   ·simp [jID] at e
   ·exact absurd (ih e) (by simp [jID])
  | shows hk h ih =>
   rcases top _ h with e | e
   ·simp [jID] at e
   ·exact absurd (ih e) (by simp [jID])
theorem jQD {L:Pool} {G:List Int} (hW:Wf L) (hG:∀g∈G,inP L g=true) {t:Int} (h:Seen L G t):inP L t=true∧∃g∈G,In (zD L g) (zD L t):=by
 induction h with
 | given hg=>exact ⟨hG _ hg,_,hg,.refl⟩
 | «from» _ ha ih =>
  rename_i r u t _
  obtain ⟨hu,g,hg,hi⟩:=ih
  refine ⟨(ha.inp hW hu).1,g,hg,?_⟩
  rw [vS hW hu] at hi
  rcases ha with ⟨_,hk,rfl⟩ | ⟨_,hk,rfl⟩ | ⟨_,hk,rfl⟩
  ·rw [hk,show zG (nodeOf L u)=[(nodeOf L u).a,(nodeOf L u).b] by simp [zG,hk,shapeOf]] at hi
   exact .fst hi
  ·rw [hk,show zG (nodeOf L u)=[(nodeOf L u).a,(nodeOf L u).b] by simp [zG,hk,shapeOf]] at hi
   exact .snd hi
  ·rw [show zG (nodeOf L u) = [(nodeOf L u).a] by
    simp only [uF,Bool.or_eq_true,beq_iff_eq] at hk;rcases hk with (hk | hk) | hk <;> simp [zG,hk,shapeOf]] at hi
   exact .shows hk hi
theorem jGJ {l:Letter} (h:vW l=0):IsL (vA l true true) l:=⟨h,l.fake,l.fake,fun _=>by simp,by unfold vA;simp⟩
theorem jOT {L:Pool} (hW:Wf L) {t:Int} (ht:inP L t=true) {l m:Letter} (hl:vW l=0) (hm:vW m=0) (h1:zD L t=vA l true true) (h2:zD L t=vA m true true):l=m:=by
 have a:=jMW hW ht (l:=l) (by rw [h1];exact jGJ hl);have b:=jMW hW ht (l:=m) (by rw [h2];exact jGJ hm);exact (Prod.mk.inj (a.symm.trans b)).1
theorem jMP {A M:Pool} (hW:Wf (A++M)) {v:Int} (h:inP A v=true):zD (A++M) v=zD A v:=lL hW _ v rfl h
theorem of_old {L:Pool} (hW:Wf L) {t:Int} (ht:inP L t=true):of L (zD L t)=(t,0,L):=by
 have h:=jRG hW _ t rfl ht;obtain ⟨i,hi,rfl⟩:=tA ht;have hsz:=hW.ok.size L[i] (List.getElem_mem hi);have hdp:=hW.ok.depth L[i] (List.getElem_mem hi);have e1:sizeOf L ((i:Int)+1)=L[i].size:=by simp [sizeOf,jDH hi]
 have e2:depthOf L ((i:Int)+1)=L[i].depth:=by simp [depthOf,jDH hi]
 have:=h.yes 0 0 (by omega) (by omega) (by omega) (by omega);unfold of;rw [this,if_neg (by simp),jUB hW _ _ rfl ht];simp
theorem jAE:(vQ []).1=none:=by unfold vQ;simp
theorem jLS {L:Pool} {G:List Int} (hW:Wf L) (hN:uI L) {l:Letter} (hl:uO l.c) :
  ∃M,(xQ L G (yU l).1).1=L++M∧Wf (L++M)∧uI (L++M)∧(((xQ L G (yU l).1).2.2=false∧(xQ L G (yU l).1).2.1=G) ∨
   ((xQ L G (yU l).1).2.2=true∧vW l=0∧∃t,(xQ L G (yU l).1).2.1=jGP G t∧inP (L++M) t=true∧zD (L++M) t=vA l true true)):=by
 obtain ⟨M,hM⟩:=jNL L (yU l).1
 have w1:=jRU hW (yU l).1
 have n1:=jRV hN (yU l).1
 rw [hM] at w1 n1
 refine ⟨M,?_⟩
 unfold xQ
 by_cases h0:(lK L (yU l).1).2.1≠0
 ·rw [if_pos h0];exact ⟨hM,w1,n1,.inl ⟨rfl,rfl⟩⟩
 rw [if_neg h0]
 have h0:(lK L (yU l).1).2.1=0:=Classical.byContradiction h0
 refine ⟨hM,w1,n1,.inr ⟨rfl,?_⟩⟩
 obtain ⟨d1,d2,d3,d4⟩:=jWG hW h0
 by_cases he:(zU [] l).2.1≠0
 ·have e:(yU l).1=[]:=by unfold yU;rw [if_pos he]
  rw [e] at h0
  have:(lK L []).2.1=(vQ []).2.1:=by unfold lK;rw [jAE]
  rw [this] at h0
  exact absurd h0 (lO jAE)
 have he:(zU [] l).2.1=0:=Classical.byContradiction he
 have hle:vW l=0:=by
  unfold zU at he;split at he
  ·exact he
  ·rename_i h;exact Classical.byContradiction h
 have hb:zU [] l=of [] (vA l true true):=by unfold zU;rw [if_neg (by omega)]
 obtain ⟨t1,t2,_⟩:=jQX Wf.nil (by rw [← hb];exact he)
 have hw0:=uQ Wf.nil l
 have hn0:=tG uI.nil hl
 rw [← hb] at t1 t2
 have e:yU l=jKW (zU [] l).2.2 (zU [] l).1:=by unfold yU;rw [if_neg (by omega)]
 have el:jKW (zU [] l).2.2 (zU [] l).1=(yV (zU [] l).2.2 (zU [] l).1,0):=by
  unfold jKW;rw [if_pos t1];split
  ·rename_i hlong;exfalso;have:(yU l).1=[]:=by rw [e];unfold jKW;rw [if_pos t1,if_pos hlong]
   rw [this] at h0;have:(lK L []).2.1=(vQ []).2.1:=by unfold lK;rw [jAE]
   rw [this] at h0;exact absurd h0 (lO jAE)
  ·rfl
 have et:(yU l).1=yV (zU [] l).2.2 (zU [] l).1:=by rw [e,el]
 obtain ⟨q,q1,q2,q3,q4⟩:=jOG hw0 hn0 t1 (by rw [← et];exact d4)
 rw [← et] at q1
 have ed:lK L (yU l).1=((qX L q q.length).1,(qX L q q.length).2.1,0,(qX L q q.length).2.2):=by unfold lK;rw [q1]
 rw [ed] at h0
 obtain ⟨c1,c2,c3⟩:=jHS hW q2 q3 h0
 rw [ed] at hM d2
 simp only at hM d2
 refine ⟨hle,(qX L q q.length).1,?_,by rw [← hM];exact d2,by rw [← hM,c3,q4,t2]⟩
 rw [ed];simp only
 exact jNG d2
structure Hon (L:Pool) (G:List Int) (ls:List Letter) (K:Int→Prop):Prop where
 wf:Wf L
 nums:uI L
 inp:∀g∈G,inP L g=true
 of:∀g∈G,(∃l∈ls,vW l=0∧zD L g=vA l true true)∨∃n,K n∧zD L g=jID n
 all:∀l∈ls,∃g∈G,vW l=0∧zD L g=vA l true true
theorem Hon.nil:Hon [] [] [] (fun _=>False):=⟨Wf.nil,uI.nil,by simp,by simp,by simp⟩
section
variable {L M:Pool} {G:List Int} {ls:List Letter} {K:Int→Prop}
theorem Hon.app (h:Hon L G ls K) (w:Wf (L++M)) (n:uI (L++M)):Hon (L++M) G ls K :=
 ⟨w,n,fun g hg=>jAX (h.inp g hg),fun g hg=>by rw [jMP w (h.inp g hg)];exact h.of g hg,fun l hl=>by
  obtain ⟨g,hg,h1,h2⟩:=h.all l hl;exact ⟨g,hg,h1,by rw [jMP w (h.inp g hg)];exact h2⟩⟩
theorem Hon.give (h:Hon L G ls K) {l:Letter} {t:Int} (hl:vW l=0) (ht:inP L t=true) (e:zD L t=vA l true true):Hon L (jGP G t) (ls++[l]) K:=by
 refine ⟨h.wf,h.nums,fun g hg=>?_,fun g hg=>?_,fun m hm=>?_⟩
 ·rcases yP.1 hg with hg | rfl
  ·exact h.inp g hg
  ·exact ht
 ·rcases yP.1 hg with hg | rfl
  ·rcases h.of g hg with ⟨m,hm,h1⟩ | h1
   ·exact .inl ⟨m,by simp [hm],h1⟩
   ·exact .inr h1
  ·exact .inl ⟨l,by simp,hl,e⟩
 ·rcases List.mem_append.1 hm with hm | hm
  ·obtain ⟨g,hg,h1⟩:=h.all m hm;exact ⟨g,yP.2 (.inl hg),h1⟩
  ·simp at hm;subst hm;exact ⟨t,yP.2 (.inr rfl),hl,e⟩
theorem Hon.key (h:Hon L G ls K) {n t:Int} (ht:inP L t=true) (e:zD L t=jID n):Hon L (jGP G t) ls (fun x=>K x∨x=n):=by
 refine ⟨h.wf,h.nums,fun g hg=>?_,fun g hg=>?_,fun m hm=>?_⟩
 ·rcases yP.1 hg with hg | rfl
  ·exact h.inp g hg
  ·exact ht
 ·rcases yP.1 hg with hg | rfl
  ·rcases h.of g hg with h1 | ⟨m,hm,h1⟩
   ·exact .inl h1
   ·exact .inr ⟨m,.inl hm,h1⟩
  ·exact .inr ⟨n,.inr rfl,e⟩
 ·obtain ⟨g,hg,h1⟩:=h.all m hm;exact ⟨g,yP.2 (.inl hg),h1⟩
theorem Hon.seen_key (h:Hon L G ls K) {t n:Int} (hs:Seen L G t) (e:zD L t=jID n):K n:=by
 obtain ⟨_,g,hg,hi⟩:=jQD h.wf h.inp hs;rcases h.of g hg with ⟨l,_,_,e2⟩ | ⟨m,hm,e2⟩
 ·rw [e2,e] at hi;rcases jJJ l _ _ hi with h1 | h1
  ·exfalso;unfold vA at h1
   repeat' split at h1
   all_goals simp [jID,qZ,yH,qJ] at h1
   all_goals (split at h1 <;> omega)
  ·exact absurd rfl (h1 _ .refl).2
 ·rw [e2,e] at hi;have:=jUU hi;injection this with _ h2;rw [h2];exact hm
theorem Hon.seen_sign (h:Hon L G ls K) {t n:Int} {D:Tree} (hs:Seen L G t) (e:zD L t=yH n D) {l:Letter} (hl:vW l=0) (el:yH n D=vA l true true):l∈ls:=by
 obtain ⟨ht,g,hg,hi⟩:=jQD h.wf h.inp hs;rcases h.of g hg with ⟨m,hm,he,e2⟩ | ⟨m,hm,e2⟩
 ·rw [e2,e] at hi;rcases jJJ m _ _ hi with h1 | h1
  ·rw [jOT h.wf ht hl he (e.trans el) (e.trans h1)];exact hm
  ·exact absurd rfl (h1 _ .refl).1
 ·rw [e2,e] at hi;have:=jUU hi;simp [jID,yH] at this
theorem Hon.drv_sign (h:Hon L G ls K) {t n:Int} {D:Tree} (hs:Drv L (Seen L G) t) (ht:inP L t=true) (e:zD L t=yH n D) (hn:¬ K n) {l:Letter} (hl:vW l=0) (el:yH n D=vA l true true):l∈ls:=by
 obtain ⟨k1,k2,_⟩:=yK h.wf ht (e.trans rfl);rcases hs.inv with h1 | h1 | ⟨h1,_⟩ | ⟨h1,_⟩ | ⟨_,_,h2,h3⟩
 ·exact h.seen_sign h1 e hl el
 ·rw [k1] at h1;cases h1
 ·rw [k1] at h1;cases h1
 ·rw [k1] at h1;cases h1
 ·exfalso;obtain ⟨o1,o2,_⟩:=jHK h2;have:xK (nodeOf L t)=n:=by unfold xK;rw [if_neg (by rw [k1];decide),k2]
  rw [this] at o1 o2 h3;refine hn (h.seen_key h3 ?_);rw [vS h.wf o1,o2];rfl
theorem jKL {l:Letter} (h:(zU L l).2.1=0) (hW:Wf L):vW l=0∧inP (zU L l).2.2 (zU L l).1=true∧zD (zU L l).2.2 (zU L l).1=vA l true true:=by
 have hle:vW l=0:=by
  unfold zU at h;split at h
  ·exact h
  ·rename_i h2;exact Classical.byContradiction h2
 have hb:zU L l=of L (vA l true true):=by unfold zU;rw [if_neg (by omega)]
 obtain ⟨t1,t2,_⟩:=jQX hW (by rw [← hb];exact h);rw [← hb] at t1 t2;exact ⟨hle,t1,t2⟩
theorem Hon.reach (hn:∀n,K n→n≠2):∀(es:List Letter) (L:Pool),Hon L G ls K→(∀l∈es,uO l.c)→(∀l∈es,∃n D,¬ K n∧vA l true true=yH n D)→((yT G es L).1≠0↔∃l∈es,l∈ls)
 | [],L,h,_,_=>by simp [yT]
 | l :: es,L,h,hc,hs=>by
  obtain ⟨M,hM⟩:=jAK h.wf.ok l;have w1:=uQ h.wf l;have n1:=tG h.nums (hc l (by simp));rw [yT];have ih:=Hon.reach hn es (zU L l).2.2 (by rw [hM] at w1 n1 ⊢;exact h.app w1 n1) (fun m hm=>hc m (by simp [hm])) (fun m hm=>hs m (by simp [hm]));split
  ·rename_i hcond;obtain ⟨b1,b2,b3⟩:=jKL hcond.1 h.wf;refine iff_of_true ?_ ⟨l,by simp,?_⟩
   ·have:=(zX.1 b2).1;simp only;omega
   ·obtain ⟨n,D,hk,e⟩:=hs l (by simp);have h':Hon (zU L l).2.2 G ls K:=by rw [hM] at w1 n1 ⊢;exact h.app w1 n1
    exact h'.drv_sign hcond.2 b2 (b3.trans e) hk b1 e.symm
  ·rename_i hcond;rw [ih];constructor
   ·rintro ⟨m,hm,hm2⟩;exact ⟨m,by simp [hm],hm2⟩
   ·rintro ⟨m,hm,hm2⟩;rcases List.mem_cons.1 hm with rfl | hm
    ·exfalso;obtain ⟨g,hg,hle,e⟩:=h.all m hm2;have hb:zU L m=(g,0,L):=by
      unfold zU;rw [if_neg (by omega),← e];exact of_old h.wf (h.inp g hg)
     rw [hb] at hcond;exact hcond ⟨rfl,.seen (.given hg)⟩
    ·exact ⟨m,hm,hm2⟩
theorem Hon.binds (h:Hon L G ls K) {who c:Int} {x:ByteArray} (hw:who=0∨who=1) (hc:uO c) (hk:¬ K who) (hk2:¬ K 2):((uZ L G who c x).1≠0↔⟨2,who,c,x,false⟩∈ls∨⟨6,0,c,x,false⟩∈ls):=by
 unfold uZ uM;rw [if_pos (by rcases hw with rfl | rfl <;> rfl),Hon.reach (K:=K) (ls:=ls) (fun n hn e=>hk2 (e▸hn)) _ _ h (by intro l hl;simp [evs] at hl;rcases hl with rfl | rfl <;> exact hc) (by
  intro l hl;simp [evs] at hl;rcases hl with rfl | rfl
  ·exact ⟨who,_,hk,rfl⟩
  ·exact ⟨2,_,hk2,rfl⟩)]
 simp [evs]
theorem Hon.keyS (h:Hon L G ls K) {n:Int} (hk:¬ K n):keyS L G n=false:=by
 unfold Sp.keyS;split
 ·rename_i i hi;obtain ⟨h1,h2⟩:=jJO hi
  classical
  refine decide_eq_false fun hs=>hk (h.seen_key hs ?_);rw [vS h.wf (zX.2 ⟨by omega,by omega⟩),h2];rfl
 ·rfl
theorem Hon.free (h:Hon L G ls K) {who:Int} (hk:¬ K who) (hk2:¬ K 2):jFJ L G who=false:=by
 unfold jFJ;rw [h.keyS hk,h.keyS hk2];simp
end
theorem jET {k f t u:Int} {x:ByteArray} {len:Nat} (h:qT ⟨k,f,t,u,x,0,0⟩ len=0):zZ ⟨k,f,t,u,x,0,0⟩=0∧(len:Int)=(shapeOf k).kids∧zY (shapeOf k) ⟨k,f,t,u,x,0,0⟩=0:=by
 unfold qT at h;simp only at h;by_cases h1:zZ ⟨k,f,t,u,x,0,0⟩=0
 ·rw [if_pos h1] at h;by_cases h2:(len:Int)≠(shapeOf k).kids
  ·rw [if_pos h2] at h;simp at h
  ·rw [if_neg h2] at h;exact ⟨h1,Classical.byContradiction h2,by simpa using h⟩
 ·rw [if_neg h1] at h;rw [if_neg h1] at h;exact absurd h h1
theorem jTU {L:Pool} {n:Node} (hW:Wf L) (hp:zZ n=0) (ha:(shapeOf n.kind).kids<1→n.a=0) (hb:(shapeOf n.kind).kids<2→n.b=0) (hf:zY (shapeOf n.kind) n=0) (hk:∀k∈zG n,inP L k=true)
  {sz d:Int} (hs:1+((zG n).map (sizeOf L)).sum=sz) (hd:(zG n).foldl (fun d t=>max d (depthOf L t)) 0+1=d) (h:¬ (sz>4096∨d>64)) :
  (∃r M,make L n=(r,0,L++M)∧inP (L++M) r=true∧nodeOf (L++M) r=n∧Wf (L++M)∧sizeOf (L++M) r=sz∧depthOf (L++M) r=d∧(L++M).length≤L.length+1)∨((make L n).2.1=6∧65536≤L.length):=by
 by_cases hl:L.length<65536
 ·exact .inl ((mk_ok hW hl hp ha hb hf hk hs hd).2 h)
 have hc:=jHT hp ha hb hf hk
 rw [hs,hd,if_neg h] at hc
 cases hfd:find L n with
 | none =>
  right
  unfold make;simp only [hc,hfd]
  rw [if_neg (by simp),if_pos (by omega)]
  exact ⟨rfl,by omega⟩
 | some i =>
  left
  obtain ⟨hi,e⟩:=jCF hfd
  have hm:make L n=((i:Int)+1,0,L):=by unfold make;simp only [hc,hfd];rw [if_neg (by simp)]
  have hin:inP L ((i:Int)+1)=true:=zX.2 ⟨by omega,by omega⟩
  have hn:nodeOf L ((i:Int)+1)=n:=by rw [qB hi,e]
  have hw:=hW.node hin
  rw [hn] at hw
  refine ⟨_,[],by rw [hm,List.append_nil],by rw [List.append_nil];exact hin,by rw [List.append_nil];exact hn,by rw [List.append_nil];exact hW,?_,?_,by simp⟩
  ·rw [List.append_nil,← hs,hw.2.2.2.2.2.1]
  ·rw [List.append_nil,← hd,hw.2.2.2.2.2.2]
abbrev Grown (L:Pool) (T:Tree) (sz d:Int) (q:Int×Int×Pool):Prop:=(∃r M,q=(r,0,L++M)∧inP (L++M) r=true∧Wf (L++M)∧sizeOf (L++M) r=sz∧depthOf (L++M) r=d∧((L++M).length:Int)≤L.length+sz)∨(q.2.1=6∧65536<L.length+sz)
structure GP (T:Tree) (sz d:Int):Prop extends LP T sz d where
 grw:∀L,Wf L→sz≤4096→d≤64→Grown L T sz d (grow L T)
theorem GP0 {k f t u:Int} {x:ByteArray} (h:qT ⟨k,f,t,u,x,0,0⟩ 0=0):GP (.mk k f t u x []) 1 1:=by
 refine ⟨LP0 h,fun L hW h1 h2=>?_⟩;obtain ⟨o1,o2,o3⟩:=jET h;have hk:zG ⟨k,f,t,u,x,0,0⟩=[]:=by simp [zG,← o2]
 rw [grow,vB];rcases jTU (n:=⟨k,f,t,u,x,0,0⟩) hW o1 (fun _=>rfl) (fun _=>rfl) o3 (by rw [hk];simp) (sz:=1) (d:=1) (by rw [hk];rfl) (by rw [hk];rfl) (by omega) with ⟨r,M,e,i,_,w,s,dd,l⟩ | ⟨e,l⟩
 ·exact .inl ⟨r,M,e,i,w,s,dd,by omega⟩
 ·exact .inr ⟨e,by omega⟩
theorem GP1 {k f t u:Int} {x:ByteArray} {A:Tree} {sa da:Int} (h:qT ⟨k,f,t,u,x,0,0⟩ 1=0) (hA:GP A sa da):GP (.mk k f t u x [A]) (1+sa) (da+1):=by
 refine ⟨LP1 h hA.toLP,fun L hW h1 h2=>?_⟩;obtain ⟨o1,o2,o3⟩:=jET h;have s1:=hA.s1;have d1:=hA.d1;rw [grow];rcases hA.grw L hW (by omega) (by omega) with ⟨r,M,e,i,w,s,dd,l⟩ | ⟨e,l⟩
 ·rw [vB,e,if_neg (by simp),if_pos rfl,vB];have hk:zG ⟨k,f,t,u,x,r,0⟩=[r]:=by simp [zG,← o2]
  rcases jTU (n:=⟨k,f,t,u,x,r,0⟩) w o1 (fun hh=>by simp only at hh;omega) (fun _=>rfl) o3 (by rw [hk];intro k hk;simp at hk;rw [hk];exact i) (sz:=1+sa) (d:=da+1) (by rw [hk];simp [s]) (by rw [hk];simp [dd];omega) (by omega) with ⟨r',M',e',i',_,w',s',dd',l'⟩ | ⟨e',l'⟩
  ·exact .inl ⟨r',M++M',by rw [← List.append_assoc];exact e',by rw [← List.append_assoc];exact i',by rw [← List.append_assoc];exact w',by rw [← List.append_assoc];exact s',by rw [← List.append_assoc];exact dd',by rw [← List.append_assoc];omega⟩
  ·exact .inr ⟨e',by omega⟩
 ·rw [vB,if_pos (by rw [e];decide)];exact .inr ⟨e,by omega⟩
theorem GP2 {k f t u:Int} {x:ByteArray} {A B:Tree} {sa da sb db:Int} (h:qT ⟨k,f,t,u,x,0,0⟩ 2=0) (hA:GP A sa da) (hB:GP B sb db):GP (.mk k f t u x [A,B]) (1+(sa+sb)) (max da db+1):=by
 refine ⟨LP2 h hA.toLP hB.toLP,fun L hW h1 h2=>?_⟩;obtain ⟨o1,o2,o3⟩:=jET h;have s1:=hA.s1;have d1:=hA.d1;have s2:=hB.s1;have d2:=hB.d1;rw [grow];rcases hA.grw L hW (by omega) (by omega) with ⟨r,M,e,i,w,s,dd,l⟩ | ⟨e,l⟩
 ·rw [vB,e,if_neg (by simp),if_pos rfl];simp only;rcases hB.grw (L++M) w (by omega) (by omega) with ⟨r2,M2,e2,i2,w2,ss2,dd2,l2⟩ | ⟨e2,l2⟩
  ·rw [vB,e2,if_neg (by simp),if_neg (by omega),vB];have hk:zG ⟨k,f,t,u,x,r,r2⟩=[r,r2]:=by simp [zG,← o2]
   rcases jTU (n:=⟨k,f,t,u,x,r,r2⟩) w2 o1 (fun hh=>by simp only at hh;omega) (fun hh=>by simp only at hh;omega) o3 (by rw [hk];intro k hk;simp at hk;rcases hk with rfl | rfl;exact jAX i;exact i2) (sz:=1+(sa+sb)) (d:=max da db+1) (by rw [hk];simp [-List.append_assoc,jCO i,s,ss2]) (by rw [hk];simp [-List.append_assoc,jBA i,dd,dd2];omega) (by omega) with ⟨r',M',e',i',_,w',s',dd',l'⟩ | ⟨e',l'⟩
   ·exact .inl ⟨r',M++M2++M',by rw [← List.append_assoc,← List.append_assoc];exact e',by rw [← List.append_assoc,← List.append_assoc];exact i',by rw [← List.append_assoc,← List.append_assoc];exact w',by rw [← List.append_assoc,← List.append_assoc];exact s',by rw [← List.append_assoc,← List.append_assoc];exact dd',by rw [← List.append_assoc,← List.append_assoc];omega⟩
   ·exact .inr ⟨e',by omega⟩
  ·rw [vB,if_pos (by rw [e2];decide)];exact .inr ⟨e2,by omega⟩
 ·rw [vB,if_pos (by rw [e];decide)];exact .inr ⟨e,by omega⟩
theorem GP.of {T:Tree} {sz d:Int} (h:GP T sz d) (hs:sz≤4096) (hd:d≤64) {L:Pool} (hW:Wf L):(Sp.of L T).2.1=0∨(Sp.of L T=(0,6,L)∧65536<L.length+sz):=by
 unfold Sp.of;rw [h.yes 0 0 (by omega) (by omega) (by omega) (by omega),if_neg (by simp)];rcases h.grw L hW hs hd with ⟨r,M,e,_⟩ | ⟨e,l⟩
 ·rw [e];simp
 ·rw [if_pos (by rw [e];decide),e];exact .inr ⟨rfl,l⟩
theorem jAY {x:ByteArray} (h:x.size≤64):GP (qG x) 1 1:=GP0 (by
 have e1:zZ ⟨3,0,0,0,x,0,0⟩=0:=by kernel_rfl
 have e2:zY (shapeOf 3) ⟨3,0,0,0,x,0,0⟩=0:=by show (if false=true then (50:Int) else if x.size>64 then 1 else 0)=0;rw [if_neg (by simp),if_neg (by omega)]
 unfold qT;simp only [e1];simpa [shapeOf] using e2)
theorem jNF (c:Int):GP (jAT c) 1 1:=GP0 (by kernel_rfl)
theorem tX {a b:Tree} {sa da sb db:Int} (ha:GP a sa da) (hb:GP b sb db):GP (qJ a b) (1+(sa+sb)) (max da db+1):=GP2 (by kernel_rfl) ha hb
theorem jFB {n:Int} (hn:n=0∨n=1∨n=2) {a:Tree} {sa da:Int} (ha:GP a sa da):GP (yH n a) (1+sa) (da+1):=GP1 (by rcases hn with rfl | rfl | rfl <;> kernel_rfl) ha
theorem jLT {n:Int} (hn:n=0∨n=1) {a:Tree} {g:Bool} {sa da:Int} (ha:GP a sa da):GP (qZ n a g) (1+sa) (da+1):=by
 unfold qZ;cases g
 ·exact GP1 (by rcases hn with rfl | rfl <;> kernel_rfl) ha
 ·exact GP1 (by rcases hn with rfl | rfl <;> kernel_rfl) ha
theorem jWD (c:Int) {x:ByteArray} (h:x.size≤64):GP (qF c x) 5 3:=tX (jAY (by decide)) (tX (jNF c) (jAY h))
theorem jJK {l:Letter} (hf:l.frm=0∨l.frm=1) (hx:l.text.size≤64) (a b:Bool):∃sz d,GP (vA l a b) sz d∧sz≤40∧d≤20:=by
 unfold vA;have hd:=jWD l.c hx;split;· exact ⟨_,_,jLT hf hd,by omega,by omega⟩
 split;· exact ⟨_,_,jFB (hf.imp id .inl) hd,by omega,by omega⟩
 split;· exact ⟨_,_,jFB (.inl rfl) (tX (jAY (by decide)) (jNF _)),by omega,by omega⟩
 split;· exact ⟨_,_,jFB (hf.imp id .inl) (tX (jAY (by decide)) (tX (jLT (.inl rfl) hd) (jLT (.inr rfl) hd))),by omega,by omega⟩
 split;· exact ⟨_,_,jFB (.inr (.inr rfl)) (tX (jAY (by decide)) (jNF _)),by omega,by omega⟩
 split;· exact ⟨_,_,jFB (.inr (.inr rfl)) (tX (jAY (by decide)) hd),by omega,by omega⟩
 exact ⟨_,_,tX (jAY (by decide)) (jNF _),by omega,by omega⟩
section
variable {L M:Pool} {G:List Int} {ls:List Letter} {K:Int→Prop}
theorem jGA:∀(es:List Letter) (L:Pool),Wf L→∃M,(yT G es L).2=L++M
 | [],L,_=>⟨[],(List.append_nil L).symm⟩
 | l :: es,L,hW=>by
  obtain ⟨M,hM⟩:=jAK hW.ok l;rw [yT];split
  ·exact ⟨M,hM⟩
  ·obtain ⟨M2,h2⟩:=jGA es (zU L l).2.2 (uQ hW l);exact ⟨M++M2,by rw [h2,hM,List.append_assoc]⟩
theorem jEO:∀(es:List Letter) (L:Pool),Wf L→uI L→(∀l∈es,uO l.c)→Wf (yT G es L).2∧uI (yT G es L).2
 | [],L,hW,hN,_=>⟨hW,hN⟩
 | l :: es,L,hW,hN,hc=>by
  have w1:=uQ hW l;have n1:=tG hN (hc l (by simp));rw [yT];split
  ·exact ⟨w1,n1⟩
  ·exact jEO es _ w1 n1 (fun m hm=>hc m (by simp [hm]))
theorem Hon.bound (h:Hon L G ls K) (who:Int) {c:Int} (x:ByteArray) (hc:uO c):Hon (uZ L G who c x).2 G ls K:=by
 unfold uZ;split
 ·obtain ⟨M,hM⟩:=jGA (G:=G) (evs who c x) L h.wf;obtain ⟨w1,n1⟩:=jEO (G:=G) (evs who c x) L h.wf h.nums (by intro l hl;simp [evs] at hl;rcases hl with rfl | rfl <;> exact hc);rw [hM] at w1 n1 ⊢;exact h.app w1 n1
 ·exact h
theorem gp_len {T:Tree} {sz d:Int} (h:GP T sz d) (hs:sz≤4096) (hd:d≤64) (hW:Wf L):((of L T).2.2.length:Int)≤L.length+sz:=by
 have:=h.s1;unfold of;rw [h.yes 0 0 (by omega) (by omega) (by omega) (by omega),if_neg (by simp)];rcases h.grw L hW hs hd with ⟨r,M,e,_,_,_,_,l⟩ | ⟨e,l⟩
 ·rw [e];simpa using l
 ·rw [if_pos (by rw [e];decide)];simp only;omega
theorem jPI (hW:Wf L) (l:Letter):(zU L l).2.2.length≤L.length+40:=by
 unfold zU;split
 ·simp
 ·rename_i h;have h:vW l=0:=Classical.byContradiction h;obtain ⟨k,f,c,x,g⟩:=l;obtain ⟨_,hf,_,_,_,hx⟩:=jGF h;obtain ⟨sz,d,hg,hs,hd⟩:=jJK (l:=⟨k,f,c,x,g⟩) hf hx true true;have:=gp_len hg (by omega) (by omega) hW;omega
theorem jFZ:∀(es:List Letter) (L:Pool),Wf L→(yT G es L).2.length≤L.length+40*es.length
 | [],L,_=>by simp [yT]
 | l :: es,L,hW=>by
  have h1:=jPI hW l;have h2:=jFZ es _ (uQ hW l);rw [yT];split
  ·simp only [List.length_cons];omega
  ·simp only [List.length_cons];omega
theorem jKN (hW:Wf L) (who c:Int) (x:ByteArray):(uZ L G who c x).2.length≤L.length+80:=by
 unfold uZ;split
 ·have:=jFZ (G:=G) (evs who c x) L hW;simpa [evs] using this
 ·simp
theorem jUA (hW:Wf L) (hl:L.length<65536) {n:Int} (hn:n=0∨n=1∨n=2):(make L (vL n)).2.1=0∧(make L (vL n)).2.2.length≤L.length+1:=by
 have hk:zG (vL n)=[]:=rfl;rcases jTU (n:=vL n) hW (by rcases hn with rfl | rfl | rfl <;> kernel_rfl) (fun _=>rfl) (fun _=>rfl) (by rcases hn with rfl | rfl | rfl <;> kernel_rfl) (by rw [hk];simp) (sz:=1) (d:=1) (by rw [hk];rfl) (by rw [hk];rfl) (by omega) with ⟨r,M,e,_,_,_,_,_,l⟩ | ⟨_,l⟩
 ·rw [e];exact ⟨rfl,l⟩
 ·omega
theorem jTZ (hW:Wf L) {k n:Int} (hk:inP L k=true) (e:nodeOf L k=vL n):zD L k=jID n:=by
 rw [vS hW hk,e];rfl
theorem Hon.corrupt (h:Hon L G ls K) (hl:L.length<65536) (a b:Bool) {who:Int} (hw:who=0∨who=1) :
  ∃M k,vT L G a b who=(0,L++M,jGP G k,a || (who == 0),b || (who == 1))∧Hon (L++M) (jGP G k) ls (fun x=>K x∨x=who)∧inP (L++M) k=true∧nodeOf (L++M) k=vL who∧(L++M).length≤L.length+1:=by
 obtain ⟨m0,ml⟩:=jUA h.wf hl (n:=who) (by omega)
 obtain ⟨M,hM⟩:=lD L (vL who)
 obtain ⟨m1,m2,_⟩:=lQ m0
 have w1:=lJ h.wf (vL who)
 have n1:uI (make L (vL who)).2.2:=h.nums.make jDX
 rw [hM] at m1 m2 w1 n1 ml
 refine ⟨M,(make L (vL who)).1,?_,(h.app w1 n1).key m1 (jTZ w1 m1 m2),m1,m2,ml⟩
 unfold vT
 rw [if_neg (by unfold uM;rcases hw with rfl | rfl <;> simp),if_neg (by rw [m0];simp),hM,jNG m1]
theorem jWB (hW:Wf L) {k n:Int} (hk:inP L k=true) (e:nodeOf L k=vL n) (hG:k∈G):keyS L G n=true:=by
 obtain ⟨i,hi,rfl⟩:=tA hk;have hfd:find L (vL n)=some i:=by rw [← e,qB hi];exact jFC hW.ok (List.getElem?_eq_getElem hi)
 unfold keyS;rw [hfd]
 classical
 exact decide_eq_true (.given hG)
theorem jHR {X:Int→Prop} (hW:Wf L):∀(n:Nat) (t:Int),inP L t=true→(∃y,zD L t=qG y)∨(∃y,zD L t=jAT y)→Drv L X t
 | _,t,ht,h=>.free (by
  rcases h with ⟨y,e⟩ | ⟨y,e⟩
  ·rw [(yK hW ht (e.trans rfl)).1];rfl
  ·rw [(yK hW ht (e.trans rfl)).1];rfl)
theorem jNK {X:Int→Prop} (hW:Wf L) {t:Int} (ht:inP L t=true) {A B:Tree} (e:zD L t=qJ A B):∃a b,inP L a=true∧inP L b=true∧zD L a=A∧zD L b=B∧(Drv L X a→Drv L X b→Drv L X t):=by
 have hk:=(yK hW ht (e.trans rfl)).1;obtain ⟨i1,i2,e2⟩:=nd4 hW ht hk;rw [e] at e2;unfold qJ at e2;simp only [Tree.mk.injEq,List.cons.injEq,and_true,true_and] at e2;exact ⟨_,_,i1,i2,e2.1.symm,e2.2.symm,fun h1 h2=>.pair hk h1 h2⟩
theorem jUF {X:Int→Prop} (hW:Wf L) {t c:Int} {x:ByteArray} (ht:inP L t=true) (e:zD L t=qF c x):Drv L X t:=by
 obtain ⟨a,b,ia,ib,ea,eb,h⟩:=jNK (X:=X) hW ht (e.trans rfl);obtain ⟨a2,b2,ia2,ib2,ea2,eb2,h2⟩:=jNK (X:=X) hW ib eb;exact h (jHR hW 0 _ ia (.inl ⟨_,ea⟩)) (h2 (jHR hW 0 _ ia2 (.inr ⟨_,ea2⟩)) (jHR hW 0 _ ib2 (.inl ⟨_,eb2⟩)))
theorem jRM (hW:Wf L) (hl:L.length<65000) {k who c:Int} {x:ByteArray} (hw:who=0∨who=1) (hx:x.size≤64) (hk:inP L k=true) (e:nodeOf L k=vL who) (hG:k∈G):(uZ L G who c x).1≠0:=by
 have hle:vW ⟨2,who,c,x,false⟩=0:=jRJ (by omega) hw (by simp [qI]) (by simp [qR,qI]) (by simp) hx;obtain ⟨sz,d,hg,hs,hd⟩:=jJK (l:=⟨2,who,c,x,false⟩) hw hx true true;have hb:zU L ⟨2,who,c,x,false⟩=of L (vA ⟨2,who,c,x,false⟩ true true):=by unfold zU;rw [if_neg (by omega)]
 have h0:(zU L ⟨2,who,c,x,false⟩).2.1=0:=by
  rw [hb];rcases hg.of (by omega) (by omega) hW with h | ⟨_,h⟩
  ·exact h
  ·omega
 obtain ⟨_,b2,b3⟩:=jKL h0 hW;have w1:=uQ hW ⟨2,who,c,x,false⟩;obtain ⟨M,hM⟩:=jAK hW.ok ⟨2,who,c,x,false⟩;unfold uZ;rw [if_pos (by unfold uM;rcases hw with rfl | rfl <;> rfl)];unfold evs;rw [yT,if_pos]
 ·have:=(zX.1 b2).1;simp only;omega
 refine ⟨h0,?_⟩;rw [hM] at b2 b3 w1 ⊢;obtain ⟨k1,k2,_⟩:=yK w1 b2 (b3.trans rfl);obtain ⟨i7,_,e7⟩:=nd7 w1 b2 k1;rw [k2,b3] at e7;have e7:yH who (qF c x)=yH who (zD (L++M) (nodeOf (L++M) (zU L ⟨2,who,c,x,false⟩).1).a):=e7;unfold yH at e7;simp only [Tree.mk.injEq,List.cons.injEq,and_true,true_and] at e7;obtain ⟨i,hi,rfl⟩:=tA hk;have hfd:find (L++M) (vL who)=some i:=by
  have e':nodeOf (L++M) ((i:Int)+1)=vL who:=by rw [jCQ hk];exact e
  have hi':i<(L++M).length:=by simp;omega
  rw [← e',qB hi'];exact jFC w1.ok (List.getElem?_eq_getElem hi')
 refine .sign (i:=i) (by rw [k1];rfl) (jUF w1 i7 e7.symm) ?_ (.given hG);rw [show xK (nodeOf (L++M) (zU L ⟨2,who,c,x,false⟩).1)=who by unfold xK;rw [if_neg (by rw [k1];decide),k2]];exact hfd
end
def f23:Letter:=⟨2,1,7,⟨#[116]⟩,false⟩
theorem jRS:(xQ [] [] (yU f23).1).2.2=true∧(xQ [] [] (yU f23).1).1.length≤100:=by
 refine ⟨by kernel_rfl,of_decide_eq_true (by kernel_rfl)⟩
theorem hear_x (L:Pool) (G:List Int):xQ L G [120]=(L,G,false):=by
 have h0:(vQ [120]).1=none:=by kernel_rfl
 have:(vQ [120]).2.1≠0:=lO h0;unfold xQ lK;rw [h0];simp only;rw [if_pos this]
theorem jRT:∃L G,xQ [] [] (yU f23).1=(L,G,true)∧Hon L G [f23] (fun _=>False)∧L.length≤100:=by
 obtain ⟨h1,h2⟩:=jRS;obtain ⟨M,e1,w1,n1,h | ⟨_,hle,t,e2,ht,htr⟩⟩:=jLS (G:=[]) Wf.nil uI.nil (l:=f23) ⟨by decide,by decide⟩
 ·rw [h1] at h;cases h.1
 ·have:=((Hon.nil.app w1 n1).give hle ht htr);rw [List.nil_append] at this e1;exact ⟨M,jGP [] t,Prod.ext e1 (Prod.ext e2 h1),this,by rw [e1] at h2;exact h2⟩
end Go.Sp
end
section
open Go Go.SE
namespace Go.Proofs
open Tryz
attribute [local irreducible] Calls
theorem jFX (l:Sp.Letter):(Sp.jQG l).data.toList=(Sp.yU l).1:=by unfold Sp.jQG;simp
theorem jDL (w0:World):Calls prog 9 #[] w0 (fun e w'=>∃r:Bool,e=.returned (.bool r)∧(r=true∧Pure w0 w')):=by
 refine w_I w0 (fun r w'=>r=true∧Pure w0 w') ?_;unfold m_I;refine (jKH w0).mono ?_;rintro _ w1 ⟨_,rfl,f,F,rfl,hF,E1,hn⟩;refine ⟨some f,rfl,E1.keptP,fun h=>(by cases h),fun _=>?_⟩;have h1:tM w0 None None None w1 f [] [] false false:=⟨F,hF,E1,fun y hy=>⟨.inr (hn y hy),id,id⟩,fun y hy=>hy.elim,fun y hy=>hy.elim⟩;clear hF hn;refine (jKG Sp.f23 ⟨by decide,by decide⟩ w1).mono ?_;rintro _ w11 ⟨_,rfl,rfl,E2⟩;refine ⟨_,rfl,E2.keptP,?_⟩;refine ((h1.pureE E2).hear (Sp.jQG Sp.f23)).mono ?_;rintro _ w12 ⟨_,rfl,rfl,h3,k3⟩;obtain ⟨L,G,e,hon,hl⟩:=Sp.jRT;rw [jFX,e] at h3;refine ⟨_,rfl,k3,fun h=>?_,fun _=>?_⟩
 ·rw [jFX,e] at h;cases h
 clear k3 h1 E1 E2;refine (h3.hear ⟨#[120]⟩).mono ?_;rintro _ w13 ⟨_,rfl,rfl,h4,k4⟩;have ex:Sp.xQ L G (ByteArray.mk #[120]).data.toList=(L,G,false):=Sp.hear_x L G;rw [ex] at h4;refine ⟨_,rfl,k4,?_⟩;rw [ex];clear k4 h3;unfold m_I_j1;refine ⟨fun h=>(by cases h),fun _=>?_⟩;have hk:¬ (fun _:Int=>False) 0:=id;refine (h4.binds 1 7 ⟨#[116]⟩).mono ?_;rintro _ w8 ⟨r6,rfl,hr6,h5,k5⟩;have b1:=hon.binds (who:=1) (c:=7) (x:=⟨#[116]⟩) (.inr rfl) ⟨by decide,by decide⟩ id id;have hon2:=hon.bound 1 (c:=7) ⟨#[116]⟩ ⟨by decide,by decide⟩;have hl2:=Sp.jKN (G:=G) hon.wf 1 7 ⟨#[116]⟩;have t6:r6=true:=hr6.2 (b1.2 (.inl (by simp [Sp.f23])));subst t6;refine ⟨_,rfl,k5,fun _=>?_,fun h=>(by cases h)⟩;generalize (Sp.uZ L G 1 7 ⟨#[116]⟩).2=L2 at *;refine (h5.binds 0 7 ⟨#[116]⟩).mono ?_;rintro _ w10 ⟨r8,rfl,hr8,h6,k6⟩;have b2:=hon2.binds (who:=0) (c:=7) (x:=⟨#[116]⟩) (.inl rfl) ⟨by decide,by decide⟩ id id;have hon3:=hon2.bound 0 (c:=7) ⟨#[116]⟩ ⟨by decide,by decide⟩;have hl3:=Sp.jKN (G:=G) hon2.wf 0 7 ⟨#[116]⟩;have t8:r8=false:=Bool.eq_false_iff.2 (fun h=>by
  have:=b2.1 (hr8.1 h);simp [Sp.f23] at this)
 subst t8;refine ⟨_,rfl,k6,?_⟩;generalize (Sp.uZ L2 G 0 7 ⟨#[116]⟩).2=L3 at *;unfold m_I_j6;refine ⟨fun _=>?_,fun h=>(by cases h)⟩;refine (h6.free 1).mono ?_;rintro _ w9 ⟨_,rfl,rfl,h7,k7⟩;refine ⟨_,rfl,k7,?_⟩;rw [hon3.free (who:=1) id id];unfold m_I_j2;refine ⟨fun _=>?_,fun h=>(by cases h)⟩;obtain ⟨M,k,ec,hon4,ik,nk,hl4⟩:=hon3.corrupt (by omega) false false (who:=0) (.inl rfl);refine (h7.corrupt 0).mono ?_;rintro _ w6 ⟨_,rfl,rfl,h8,k8⟩;rw [ec] at h8;refine ⟨_,rfl,k8,fun w7 hs7=>?_⟩;have h9:=h8.hst hs7;rw [ec];unfold m_I_j3;refine ⟨fun _=>?_,fun h=>(by cases h)⟩;refine (h9.corrupt 2).mono ?_;rintro _ w4 ⟨_,rfl,rfl,h10,k10⟩;have e2:∀a b,Sp.vT (L3++M) (Sp.jGP G k) a b 2=(2,L3++M,Sp.jGP G k,a,b):=fun a b=>by unfold Sp.vT;rw [if_pos (by decide)]
 rw [e2] at h10;refine ⟨_,rfl,k10,fun w5 hs5=>?_⟩;have h11:=h10.hst hs5;rw [e2];unfold m_I_j4;refine ⟨fun _=>?_,fun h=>(by cases h)⟩;refine (h11.free 0).mono ?_;rintro _ w3 ⟨_,rfl,rfl,h12,k12⟩;refine ⟨_,rfl,k12,?_⟩;have hf:Sp.jFJ (L3++M) (Sp.jGP G k) 0=true:=by
  unfold Sp.jFJ;rw [Sp.jWB hon4.wf ik nk (Sp.yP.2 (.inr rfl))];rfl
 rw [hf];unfold m_I_j5;refine ⟨fun _=>?_,fun h=>(by cases h)⟩;refine (h12.binds 0 9 ⟨#[120]⟩).mono ?_;rintro _ w2 ⟨r2,rfl,hr2,h13,k13⟩;refine ⟨_,rfl,k13,hr2.2 (Sp.jRM hon4.wf (by omega) (.inl rfl) (by decide) ik nk (Sp.yP.2 (.inr rfl))),?_⟩;obtain ⟨_,_,E,_⟩:=h13.done;exact E
end Go.Proofs
end
section
open Go Go.SE
namespace Go.Sp
structure Op where
 code:Int
 a:Int
 b:Int
 num:Int
 text:ByteArray
deriving DecidableEq
section
variable {L:Pool} {G M:List Int} {o:Op}
end
end Go.Sp
end
section
open Go Go.SE
namespace Go.Proofs
set_option maxRecDepth 100000
set_option maxHeartbeats 4000000
attribute [local irreducible] wpL wpX opE wpE Calls
end Go.Proofs
end
section
open Go Go.SE
namespace Go.Proofs
attribute [local irreducible] Calls
section
variable (p:Addr) (w0:World) {L:Sp.Pool} {F:NP} (hP:zR w0 p L F) (hok:Sp.Ok L)
include hP hok
end
def jON (o:Sp.Op):List Value:=[.int .i64 o.code,.int .i64 o.a,.int .i64 o.b,.int .u64 o.num,.string o.text]
structure CookS (w:World) (c p:Addr) (sg sm:Sl) (G M:List Int):Prop where
 box:Box w c [.pointer (some p),sg.v,sm.v] 253
 giv:Rws w 78 1 sg (tmr G)
 made:Rws w 78 1 sm (tmr M)
def CookF (c:Addr) (sg sm:Sl) (b:Nat):Prop:=b=c.block∨sg.blk b∨sm.blk b
section
variable {w w':World} {c p:Addr} {sg sm:Sl} {G M:List Int}
theorem CookS.ext {X:NP} (h:CookS w c p sg sm G M) (hE:Ext X w w') (hd:∀b,CookF c sg sm b→¬ X b):CookS w' c p sg sm G M :=
 ⟨h.box.ext hE (hd _ (.inl rfl)),h.giv.ext hE (fun b hb=>hd _ (.inr (.inl hb))),h.made.ext hE (fun b hb=>hd _ (.inr (.inr hb)))⟩
theorem CookS.pure (h:CookS w c p sg sm G M) (hE:Pure w w'):CookS w' c p sg sm G M:=h.ext hE (fun _ _ h=>h)
theorem CookS.lt (h:CookS w c p sg sm G M) {b:Nat} (hb:CookF c sg sm b):b<w.heap.size:=by
 rcases hb with rfl | hb | hb
 ·exact h.box.lt
 ·exact h.giv.lt hb
 ·exact h.made.lt hb
end
section
variable {w0:World} {c p:Addr} {sg sm:Sl} {G M:List Int} (hC:CookS w0 c p sg sm G M)
include hC
variable {L:Sp.Pool} {F:NP} (hP:zR w0 p L F) (hok:Sp.Ok L)
include hP hok
end
end Go.Proofs
end
section
open Go Go.SE
open Go.IntKind renaming i64 → q6
namespace Go.Proofs
open Tryz
set_option maxRecDepth 100000
set_option maxHeartbeats 4000000
attribute [local irreducible] wpL wpX opE wpE Calls
def m_E1_l2 (s1 s2:Sl) (k2 k21:Int) (w0:World) (Hl2:NP) (wl2:World) (Kc2:Int→Int→NP→WP) (K:Sl→WP):Prop :=Br (decide (k21<(s2.len:Int))) (∃a3:Addr,At s2 k21 1 a3∧∀(w2:World),Hst w0 Hl2 wl2 Hl2 w2→∃v3:ByteArray,w2.cell? a3=some (vs v3)∧∃a4:Addr,At s2 (q6.wrap (k21 - 1)) 1 a4∧∃v4:ByteArray,w2.cell? a4=some (vs v4)∧Br (!(decide (v3=v4))) (∃a5:Addr,At s2 k21 1 a5∧∃v5:ByteArray,w2.cell? a5=some (vs v5)∧∃a6:Addr,At s1 k2 1 a6∧CanW w2 a6∧¬ Hl2 a6.block∧∀w3:World,w3=w2.setCell a6 (vs v5)→Kc2 (q6.wrap (k2+1)) (q6.wrap (k21+1)) Hl2 w3) (Kc2 k2 (q6.wrap (k21+1)) Hl2 w2)) (∃s3:Sl,(Instr.sliceAt 82 s1.v (some (vi k2)) none none).run prog wl2=.ok s3.v wl2∧∃w4:World,(Builtin.clear_ #[82] 0 #[s3.v]).run prog wl2=.ok (.tuple #[]) w4∧Kept Hl2 wl2 w4∧∃s4:Sl,(Instr.sliceAt 82 s1.v none (some (vi k2)) none).run prog w4=.ok s4.v w4∧K s4 w4)
def m_E1_l1 (s1:Sl) (k1:Int) (w0:World) (Hl1:NP) (wl1:World) (Kc1:Int→NP→WP) (K:Sl→WP):Prop :=Br (decide (k1<(s1.len:Int))) (∃a1:Addr,At s1 k1 1 a1∧∀(w1:World),Hst w0 Hl1 wl1 Hl1 w1→∃v1:ByteArray,w1.cell? a1=some (vs v1)∧∃a2:Addr,At s1 (q6.wrap (k1 - 1)) 1 a2∧∃v2:ByteArray,w1.cell? a2=some (vs v2)∧Br (decide (v1=v2)) (∃s2:Sl,(Instr.sliceAt 82 s1.v (some (vi k1)) none none).run prog w1=.ok s2.v w1∧∃(I2:Int→Int→NP→WP) (mu2:Int→Int→World→Nat),I2 k1 1 Hl1 w1∧∀(k2 k21:Int) (Hl2:NP) (wl2:World),Hst w0 Hl2 wl2 Hl2 wl2→I2 k2 k21 Hl2 wl2→m_E1_l2 s1 s2 k2 k21 w0 Hl2 wl2 (fun y'0 y'1 H' w'=>I2 y'0 y'1 H' w'∧mu2 y'0 y'1 w'<mu2 k2 k21 wl2) K) (Kc1 (q6.wrap (k1+1)) Hl1 w1)) (K s1 wl1)
def m_E1 (s1:Sl) (w0:World) (K:Sl→WP):Prop :=Br (decide ((s1.len:Int)<2)) (K s1 w0) (∃(I1:Int→NP→WP) (mu1:Int→World→Nat),I1 1 None w0∧∀(k1:Int) (Hl1:NP) (wl1:World),Hst w0 Hl1 wl1 Hl1 wl1→I1 k1 Hl1 wl1→m_E1_l1 s1 k1 w0 Hl1 wl1 (fun y'0 H' w'=>I1 y'0 H' w'∧mu1 y'0 w'<mu1 k1 wl1) K)
theorem w_E1 (s1:Sl) (w0:World) (K:Sl→WP) (h:m_E1 s1 w0 K) :
  Calls prog 93 #[s1.v] w0 (fun e w'=>∃r1:Sl,e=.returned r1.v∧K r1 w'):=by
 refine cw (args:=[s1.v]) func93 ntmps93 ?_
 obtain ⟨hs,hb⟩:=st0 w0
 refine eg (q (ln (zA (eg (qc (zB ?_))))))
 refine zK ?_
 refine cbr h ?_ ?_<;>intro h
 refine eg (qb (ln (er (vF (rs1 results93 ⟨s1,rfl,h⟩)))))
 refine zC (zK (zA (eg (q (ln (zJ ?_))))))
 obtain ⟨I1,mu1,h0,hr⟩:=h
 refine vP (σ:=Int×NP×World) (fun s ρ w=>w=s.2.2∧Has ρ [(0,s1.v),(3,(vi s.1))]∧Hst w0 s.2.1 w s.2.1 w∧HB s.2.1 w []∧I1 s.1 s.2.1 s.2.2) (fun s=>mu1 s.1 s.2.2) (1,None,w0) ⟨rfl,hm,hs,hb,h0⟩ ?_
 rintro ⟨k1,Hl1,wl1⟩ ρ w ⟨hw,hH,hs,hb,hI⟩
 dsimp only at hw hH hs hb;subst w
 have h:=hr k1 Hl1 wl1 hs hI
 refine zW hH ?_
 refine zA (eg (qd (ln ?_)))
 refine cbr h ?_ ?_<;>intro h
 refine zC (zK (zA (zJ (zA (qE (by kernel_rfl) (by kernel_rfl) (by kernel_rfl) (by kernel_rfl) ?_)))))
 intro w1 hw1
 have hs:Hst w0 Hl1 wl1 Hl1 w1:=by rw [hw1];exact hs.drew
 have hb:HB Hl1 w1 []:=by rw [hw1];exact hb.drew
 refine qq 0 s1.v Kp0 (qq 1 (vi k1) Kp1 (qg 2 ?_))
 obtain ⟨a1,hv15,h⟩:=h
 refine sxQ Kp2 (zL rfl) rfl (xi (runUnderlying82 _) (sizeOf9 _) hv15) (qg 3 ?_)
 have ⟨h,hs⟩:=hs.hr (h w1)
 obtain ⟨v1,hv14,h⟩:=h
 refine sxQ Kp3 (zL rfl) rfl (xl (isAgg9 _) hv14) (qq 4 s1.v Kp4 (qq 5 (vi k1) Kp5 (qq 6 (vi (q6.wrap (k1 - 1))) Kp6 (qg 7 ?_))))
 obtain ⟨a2,hv13,h⟩:=h
 refine sxQ Kp7 (zL rfl) rfl (xi (runUnderlying82 _) (sizeOf9 _) hv13) (qg 8 ?_)
 obtain ⟨v2,hv12,h⟩:=h
 refine sxQ Kp8 (zL rfl) rfl (xl (isAgg9 _) hv12) (qr 9 (vb (decide (v1=v2))) Kp9 (jKX (by kernel_rfl) (by kernel_rfl)) (wn (zK ?_)))
 refine cbr h ?_ ?_<;>intro h
 refine eg (qb ?_)
 obtain ⟨s2,hv11,h⟩:=h
 refine q2 s2.v (xI (by kernel_rfl) (by kernel_rfl) (by kernel_rfl) (by kernel_rfl) hv11) (q (ln (zA (eg (q (ln (zJ ?_)))))))
 obtain ⟨I2,mu2,h0,hr⟩:=h
 refine vP (σ:=Int×Int×NP×World) (fun s ρ w=>w=s.2.2.2∧Has ρ [(0,s1.v),(3,(vi s.1)),(4,s2.v),(5,(vi s.2.1))]∧Hst w0 s.2.2.1 w s.2.2.1 w∧HB s.2.2.1 w []∧I2 s.1 s.2.1 s.2.2.1 s.2.2.2) (fun s=>mu2 s.1 s.2.1 s.2.2.2) (k1,1,Hl1,w1) ⟨rfl,hm,hs,hb,h0⟩ ?_
 rintro ⟨k2,k21,Hl2,wl2⟩ ρ w ⟨hw,hH,hs,hb,hI⟩
 dsimp only at hw hH hs hb;subst w
 have h:=hr k2 k21 Hl2 wl2 hs hI
 refine zW hH ?_
 refine zA (eg (qd (ln ?_)))
 refine cbr h ?_ ?_<;>intro h
 refine zC (zK (zA (zJ (zA (qE (by kernel_rfl) (by kernel_rfl) (by kernel_rfl) (by kernel_rfl) ?_)))))
 intro w2 hw2
 have hs:Hst w0 Hl2 wl2 Hl2 w2:=by rw [hw2];exact hs.drew
 have hb:HB Hl2 w2 []:=by rw [hw2];exact hb.drew
 refine qq 0 s2.v Kp0 (qq 1 (vi k21) Kp1 (qg 2 ?_))
 obtain ⟨a3,hv7,h⟩:=h
 refine sxQ Kp2 (zL rfl) rfl (xi (runUnderlying82 _) (sizeOf9 _) hv7) (qg 3 ?_)
 have ⟨h,hs⟩:=hs.hr (h w2)
 obtain ⟨v3,hv6,h⟩:=h
 refine sxQ Kp3 (zL rfl) rfl (xl (isAgg9 _) hv6) (qq 4 s2.v Kp4 (qq 5 (vi k21) Kp5 (qq 6 (vi (q6.wrap (k21 - 1))) Kp6 (qg 7 ?_))))
 obtain ⟨a4,hv5,h⟩:=h
 refine sxQ Kp7 (zL rfl) rfl (xi (runUnderlying82 _) (sizeOf9 _) hv5) (qg 8 ?_)
 obtain ⟨v4,hv4,h⟩:=h
 refine sxQ Kp8 (zL rfl) rfl (xl (isAgg9 _) hv4) (qr 9 (vb (!(decide (v3=v4)))) Kp9 (jDQ (by kernel_rfl) (by kernel_rfl)) (wn (zK ?_)))
 refine cbr h ?_ ?_<;>intro h
 refine eg (qd ?_)
 refine qi (runUnderlying82 _) (sizeOf9 _) h fun a5 h=>?_
 refine ql (isAgg9 _) h fun v5 h=>?_
 refine qi (runUnderlying82 _) (sizeOf9 _) h fun a6 h=>?_
 refine st2 (sizeOf9 _) hs hb h fun w3 hs hb h=>?_
 refine ln (rg (qc (zB (xW (zK (rg (qb ?_)))))))
 refine q (ln ?_)
 exact ⟨((q6.wrap (k2+1)),(q6.wrap (k21+1)),Hl2,w3),⟨rfl,hm,hs,hb,h.1⟩,h.2⟩
 refine zC (xW (zK (rg (qc (ln ?_)))))
 exact ⟨(k2,(q6.wrap (k21+1)),Hl2,w2),⟨rfl,hm,hs,hb,h.1⟩,h.2⟩
 refine vO (uU (uU (uY (zK (eg (q0 s1.v (q0 (vi k2) ?_)))))))
 obtain ⟨s3,hv10,h⟩:=h
 refine q2 s3.v (xI (by kernel_rfl) (by kernel_rfl) (by kernel_rfl) (by kernel_rfl) hv10) ?_
 obtain ⟨w4,hv9,hk,h⟩:=h
 refine st (v:=(.tuple #[])) (zL rfl) (vI (args:=#[s3.v]) (by kernel_rfl) (fun _=>rfl) hv9) ?_
 obtain ⟨hs,hb⟩:=hk.hh hs hb
 refine ln (eg (qb ?_))
 obtain ⟨s4,hv8,h⟩:=h
 refine q2 s4.v (xI (by kernel_rfl) (by kernel_rfl) (by kernel_rfl) (by kernel_rfl) hv8) (q (ln (er (uC (vF (vF (uC (vF (rs1 results93 ⟨s4,rfl,h⟩)))))))))
 refine zC (xW (zK (rg (qc (ln ?_)))))
 exact ⟨((q6.wrap (k1+1)),Hl1,w1),⟨rfl,hm,hs,hb,h.1⟩,h.2⟩
 refine vO (uU (uU (uY (zK (eg (q0 s1.v (q0 s1.v (ln (er ?_)))))))))
 refine rs1 results93 ⟨s1,rfl,h⟩
end Go.Proofs
end
section
open Go Go.SE
namespace Go.Proofs
open Tryz
attribute [local irreducible] Calls
theorem n_Hear (x:ByteArray) (w0:World):Calls prog 11 #[.pointer none,.string x] w0 (fun e w'=>∃r:Bool,e=.returned (.bool r)∧(r=false∧w'=w0)) :=
 w_W1 none x w0 _ (by unfold m_W1;exact ⟨fun _=>⟨rfl,rfl⟩,fun h=>(by cases h)⟩)
theorem jRB (n:Int) (w0:World):Calls prog 13 #[.pointer none,.int .i64 n] w0 (fun e w'=>∃r:Int,e=.returned (.int .i64 r)∧(r=7∧w'=w0)) :=
 w_X1 none n w0 _ (by unfold m_X1;exact ⟨fun _=>⟨rfl,rfl⟩,fun h=>(by cases h)⟩)
theorem n_Say (s:Sl) (w0:World):Calls prog 20 #[.pointer none,s.v] w0 (fun e w'=>∃r1:ByteArray,∃r2 r3:Int,e=.returned (.tuple #[.string r1,.int .i64 r2,.int .i64 r3])∧((r1=⟨#[]⟩∧r2=7∧r3=0)∧w'=w0)) :=
 w_N2 none s w0 (fun r1 r2 r3 w'=>(r1=⟨#[]⟩∧r2=7∧r3=0)∧w'=w0) (by unfold m_N2;exact ⟨fun _=>⟨⟨rfl,rfl,rfl⟩,rfl⟩,fun h=>(by cases h)⟩)
theorem jVW (k f t u:Int) (x:ByteArray) (s:Sl) (w0:World):Calls prog 25 #[.pointer none,.agg #[.int .i64 k,.int .i64 f,.int .i64 t,.int .u64 u,.string x,s.v]] w0 (fun e w'=>∃r:Bool,e=.returned (.bool r)∧(r=false∧Pure w0 w')) :=
 w_O2 none k f t u x s w0 _ (by unfold m_O2;exact ⟨fun _ H1 w1 hs=>⟨rfl,hs.first⟩,fun h=>(by cases h)⟩)
theorem jRA (who c:Int) (x:ByteArray) (how:Value) (w0:World):Calls prog 51 #[.pointer none,.agg #[.int .i64 who,.int .u64 c,.string x],how] w0 (fun e w'=>∃r:Int,e=.returned (.int .i64 r)∧(r=0∧Pure w0 w')) :=
 w_R none who c x how w0 _ (by unfold m_R;exact ⟨fun _ H1 w1 hs=>⟨rfl,hs.first⟩,fun h=>(by simp at h)⟩)
theorem jVY (who c:Int) (x:ByteArray) (w0:World):Calls prog 14 #[.pointer none,.agg #[.int .i64 who,.int .u64 c,.string x]] w0 (fun e w'=>∃r:Bool,e=.returned (.bool r)∧(r=false∧Pure w0 w')):=by
 refine w_Y1 none who c x w0 (fun r w'=>r=false∧Pure w0 w') ?_;unfold m_Y1;intro H1 w1 hs;refine (jRA who c x _ w1).mono ?_;rintro _ w2 ⟨_,rfl,rfl,E⟩;exact ⟨_,rfl,E.keptP,rfl,hs.first.trans E⟩
theorem n_Free (n:Int) (w0:World):Calls prog 15 #[.pointer none,.int .i64 n] w0 (fun e w'=>∃r:Bool,e=.returned (.bool r)∧(r=false∧Pure w0 w')) :=
 w_Z1 none n w0 _ (by unfold m_Z1;exact ⟨fun h=>(by simp at h),fun _ H1 w1 hs=>⟨rfl,hs.first⟩⟩)
theorem jLO (n:Int) (w0:World):Calls prog 34 #[.pointer none,.int .i64 n] w0 (fun e w'=>∃r:Bool,e=.returned (.bool r)∧(r=false∧Pure w0 w')) :=
 w_Q2 none n w0 _ (by unfold m_Q2;exact ⟨fun h=>(by simp at h),fun _ H1 w1 hs=>⟨rfl,hs.first⟩⟩)
theorem jTT (who c:Int) (x:ByteArray) (w0:World):Calls prog 19 #[.pointer none,.agg #[.int .i64 who,.int .u64 c,.string x]] w0 (fun e w'=>∃s:Sl,∃r:Bool,e=.returned (.tuple #[s.v,.bool r])∧((s=Sl.nil∧r=false)∧Pure w0 w')):=by
 refine w_M2 none who c x w0 (fun s r w'=>(s=Sl.nil∧r=false)∧Pure w0 w') ?_;unfold m_M2;intro p1 w1 n1 H1 w2 hs p3 w3 n3;have E1:Pure w0 w1:=Ext.new n1;have E2:Pure w1 w2:=⟨hs.ext.os,hs.ext.tape,hs.ext.output,hs.ext.drawn,hs.ext.size,fun b hb _=>hs.ext.keep b hb (fun hh=>(hs.new b hh).elim id (fun h=>by omega))⟩;have E3:Pure w2 w3:=Ext.new n3;refine ⟨none,(((Box.of_new n1).pure E2).pure E3).cell0,?_⟩;refine (jRA who c x _ w3).mono ?_;rintro _ w4 ⟨_,rfl,rfl,E4⟩;exact ⟨_,rfl,E4.keptP,fun _=>⟨⟨rfl,rfl⟩,((E1.trans E2).trans E3).trans E4⟩,fun h=>(by cases h)⟩
theorem jJE (w0:World):Calls prog 28 #[.pointer none] w0 (fun e w'=>∃s:Sl,e=.returned s.v∧(s=Sl.nil∧w'=w0)) :=
 w_U1 none w0 _ (by unfold m_U1;exact ⟨fun _=>⟨rfl,rfl⟩,fun h=>(by cases h)⟩)
theorem jVX (w0:World):Calls prog 32 #[.pointer none] w0 (fun e w'=>∃r:Int,e=.returned (.int .i64 r)∧(r=0∧w'=w0)) :=
 w_P2 none w0 _ (by unfold m_P2;exact ⟨fun _=>⟨rfl,rfl⟩,fun h=>(by cases h)⟩)
theorem n_Copy (w0:World):Calls prog 27 #[.pointer none] w0 (fun e w'=>∃r:Option Addr,e=.returned (.pointer r)∧(r=none∧w'=w0)) :=
 w_T1 none w0 _ (by unfold m_T1;exact ⟨fun _=>⟨rfl,rfl⟩,fun h=>(by cases h)⟩)
theorem jRC (w0:World):Calls prog 93 #[Sl.nil.v] w0 (fun e w'=>∃s:Sl,e=.returned s.v∧(s=Sl.nil∧w'=w0)) :=
 w_E1 Sl.nil w0 _ (by unfold m_E1;exact ⟨fun _=>⟨rfl,rfl⟩,fun h=>(by cases h)⟩)
theorem jVV (n c:Int) (w0:World):Calls prog 30 #[.pointer none,.int .i64 n,.int .u64 c] w0 (fun e w'=>∃s:Sl,e=.returned s.v∧(s=Sl.nil∧Pure w0 w')):=by
 refine w_O1 none n c w0 (fun s w'=>s=Sl.nil∧Pure w0 w') ?_;unfold m_O1;refine ⟨fun _ w1 hs=>⟨rfl,hs.first⟩,fun _ w1 hs=>?_⟩;refine (jJE w1).mono ?_;rintro _ w2 ⟨_,rfl,rfl,rfl⟩;refine ⟨Sl.nil,rfl,Kept.refl _,fun o i H w=>o=Sl.nil∧i=0∧Pure w0 w,fun _ _ _=>0,⟨rfl,rfl,hs.first⟩,?_⟩;rintro _ _ Hl wl hsl ⟨rfl,rfl,El⟩;unfold m_O1_l1;refine ⟨fun h=>(by cases h),fun _=>?_⟩;refine (show Calls prog 92 #[Sl.nil.v] wl _ from AnyG.slices_Sort_string_none sortSt none 0 wl).mono ?_;rintro _ w' ⟨rfl,rfl⟩;refine ⟨rfl,Kept.refl _,?_⟩;refine (jRC _).mono ?_;rintro _ w2 ⟨_,rfl,rfl,rfl⟩;exact ⟨_,rfl,Kept.refl _,rfl,El⟩
def jEU (s:Sl):List Value:=[.int .i64 0,.string ⟨#[]⟩,.int .i64 0,.int .i64 0,.int .u64 0,.string ⟨#[]⟩,.bool false,.int .i64 0,s.v]
theorem jPD {S S2:NP} (sa so:Sl) (ops:List Sp.Op) (w0:World) (hL:Lst S w0 9 sa [jEU so]) (hO:Lst S2 w0 5 so (ops.map jON)) :
  Calls prog 16 #[sa.v] w0 (fun e w'=>∃r:Bool,e=.returned (.bool r)∧Pure w0 w'):=by
 refine w_M sa w0 (fun r w'=>Pure w0 w') ?_
 unfold m_M
 have hl1:sa.len=1:=by rw [hL.len];rfl
 have hol:so.len=ops.length:=by rw [hO.len];simp
 refine ⟨fun n i H w=>∃j:Nat,i=j∧j≤1∧Pure w0 w,fun _ i _=>(1 - i).toNat,⟨0,rfl,by omega,Ext.refl _⟩,?_⟩
 rintro n1 _ Hl wl hsl ⟨j,rfl,hj,El⟩
 unfold m_M_l1
 refine ⟨fun hc=>?_,fun _ H4 w5 hs=>El.hst hs⟩
 have hj0:j=0:=by
  simp only [Bool.and_eq_true,decide_eq_true_eq] at hc;omega
 subst hj0
 have rowA:∀w,Pure w0 w→∃a,At sa 0 9 a∧Row w a (jEU so):=fun w E=>by
  obtain ⟨a,h1,_,h2⟩:=(hL.pure E).at_ 0 (by simp);exact ⟨a,h1,h2⟩
 obtain ⟨a,hat,hrow⟩:=rowA wl El
 have one:∀w b,Pure w0 w→At sa 0 9 b→Row w b (jEU so):=fun w b E hb=>by
  obtain ⟨a2,h1,h2⟩:=rowA w E;obtain ⟨_,_,x,hx,rfl⟩:=hb;obtain ⟨_,_,x',hx',rfl⟩:=h1;rw [hx] at hx';cases hx';exact h2
 refine ⟨a,hat,fun H1 w2 hs2=>?_⟩
 have E2:=El.hst hs2
 have r2:=one w2 a E2 hat
 refine ⟨⟨#[]⟩,r2 1 (by simp [jEU]),a,hat,⟨#[]⟩,by rw [yZ];exact r2 5 (by simp [jEU]),a,hat,so,r2 8 (by simp [jEU]),?_⟩
 refine ⟨fun n k H w=>∃j:Nat,k=j∧j≤ops.length∧Pure w0 w,fun _ k _=>((ops.length:Int) - k).toNat,⟨0,rfl,Nat.zero_le _,E2⟩,?_⟩
 rintro n3 _ Hl2 wl2 hsl2 ⟨k,rfl,hk,El2⟩
 unfold m_M_l3
 refine ⟨a,hat,so,one wl2 a El2 hat 8 (by simp [jEU]),fun H2 w3 hs3=>?_⟩
 have E3:=El2.hst hs3
 unfold m_M_j4
 refine ⟨fun hc2=>?_,fun hc2=>?_⟩
 ·have hlt : k < ops.length := by
   simp only [Bool.and_eq_true,decide_eq_true_eq] at hc2;omega
  have hk2:k≤256:=by
   simp only [Bool.and_eq_true,decide_eq_true_eq] at hc2;omega
  obtain ⟨a6,hat6,_,hr6⟩:=(hO.pure E3).nth hlt
  refine ⟨a,hat,so,one w3 a E3 hat 8 (by simp [jEU]),a6,hat6,ops[k].text,hr6 4 (by simp [jON]),?_⟩
  have:IntKind.i64.wrap ((k:Int)+1)=((k+1:Nat):Int):=by rw [IntWalk.i64_in _ (by omega)];omega
  rw [this]
  exact ⟨⟨k+1,rfl,hlt,E3⟩,jCC hlt⟩
 ·unfold m_M_j2
  refine ⟨a,hat,so,one w3 a E3 hat 8 (by simp [jEU]),fun _=>E3,fun _=>?_⟩
  exact ⟨⟨1,rfl,Nat.le_refl _,E3⟩,by show (1 - IntKind.i64.wrap (((0:Nat):Int)+1)).toNat<(1 - ((0:Nat):Int)).toNat;decide⟩
theorem jFN {S:NP} (body:ByteArray) (who:Int) (so:Sl) (ops:List Sp.Op) (cw c:Int) (x:ByteArray) (w0:World) (hO:Lst S w0 5 so (ops.map jON)) :
  Calls prog 8 #[.string body,.int .i64 who,so.v,.agg #[.int .i64 cw,.int .u64 c,.string x]] w0 (fun e w'=>∃r:Bool,e=.returned (.bool r)∧(r=true∧Pure w0 w')):=by
 refine w_B _ _ _ _ _ _ w0 (fun r w'=>r=true∧Pure w0 w') ?_
 unfold m_B
 have j1:∀b H w,Pure w0 w→m_B_j1 body who so cw c x b w0 H w (fun r w'=>r=true∧Pure w0 w'):=by
  intro b H w E;unfold m_B_j1;refine ⟨fun _=>?_,fun _=>?_⟩
  ·refine (jDL w).mono ?_;rintro _ w5 ⟨_,rfl,rfl,E5⟩;exact ⟨_,rfl,E5.keptP,rfl,E.trans E5⟩
  refine (n_Say so w).mono ?_;rintro _ _ ⟨_,_,_,rfl,⟨rfl,rfl,rfl⟩,rfl⟩;refine ⟨_,_,_,rfl,Kept.refl _,?_⟩;refine (jTT cw c x _).mono ?_;rintro _ w4 ⟨_,_,rfl,⟨rfl,rfl⟩,E4⟩;refine ⟨_,_,rfl,E4.keptP,?_⟩;replace E:=E.trans E4;clear E4;refine (n_Hear body _).mono ?_;rintro _ _ ⟨_,rfl,rfl,rfl⟩;refine ⟨_,rfl,Kept.refl _,fun _=>?_,fun h=>(by cases h)⟩;refine (jRB who _).mono ?_;rintro _ _ ⟨_,rfl,rfl,rfl⟩;refine ⟨_,rfl,Kept.refl _,fun w23 hs=>?_⟩;replace E:=E.hst hs;unfold m_B_j2;refine ⟨fun _=>?_,fun h=>(by cases h)⟩;refine (jLO who _).mono ?_;rintro _ w21 ⟨_,rfl,rfl,E2⟩;refine ⟨_,rfl,E2.keptP,?_⟩;replace E:=E.trans E2;unfold m_B_j3;refine ⟨fun _ H4 w10 hs4=>?_,fun h=>(by simp at h)⟩;replace E:=E.hst hs4;refine (jVW _ _ _ _ _ _ _).mono ?_;rintro _ w20 ⟨_,rfl,rfl,E3⟩;refine ⟨_,rfl,E3.keptP,?_⟩;replace E:=E.trans E3;unfold m_B_j4;refine ⟨fun _=>?_,fun h=>(by cases h)⟩;refine (jVY _ _ _ _).mono ?_;rintro _ w19 ⟨_,rfl,rfl,E5⟩;refine ⟨_,rfl,E5.keptP,?_⟩;replace E:=E.trans E5;unfold m_B_j5;refine ⟨fun _=>?_,fun h=>(by cases h)⟩;refine (n_Free _ _).mono ?_;rintro _ w18 ⟨_,rfl,rfl,E6⟩;refine ⟨_,rfl,E6.keptP,?_⟩;replace E:=E.trans E6;unfold m_B_j6;refine ⟨fun _=>?_,fun h=>(by cases h)⟩;refine (jVV _ _ _).mono ?_;rintro _ w17 ⟨_,rfl,rfl,E7⟩;refine ⟨_,rfl,E7.keptP,?_⟩;replace E:=E.trans E7;unfold m_B_j7;refine ⟨fun _ H6 w12 hs6=>?_,fun h=>(by simp [Sl.nil] at h)⟩;replace E:=E.hst hs6;refine (jJE _).mono ?_;rintro _ _ ⟨_,rfl,rfl,rfl⟩;refine ⟨_,rfl,Kept.refl _,?_⟩;unfold m_B_j8;refine ⟨fun _=>?_,fun h=>(by simp [Sl.nil] at h)⟩;refine (jVX _).mono ?_;rintro _ _ ⟨_,rfl,rfl,rfl⟩;refine ⟨_,rfl,Kept.refl _,?_⟩;unfold m_B_j9;refine ⟨fun _=>?_,fun h=>(by cases h)⟩;refine (n_Copy _).mono ?_;rintro _ _ ⟨_,rfl,rfl,rfl⟩;refine ⟨_,rfl,Kept.refl _,?_⟩;unfold m_B_j10;refine ⟨fun _=>?_,fun h=>(by cases h)⟩;refine (jDL _).mono ?_;rintro _ w5 ⟨_,rfl,rfl,E8⟩;exact ⟨_,rfl,E8.keptP,rfl,E.trans E8⟩
 refine ⟨fun _ H1 w1 hs=>j1 true H1 w1 hs.first,fun _ H1 w1 hs p2 w24 n2=>?_⟩
 have E1:=hs.first
 have E2:Pure w0 w24:=E1.trans (Ext.new n2)
 have R:Rws w24 46 9 ⟨some p2,1,1⟩ [jEU so]:=Rws.lit (rs:=[jEU so]) n2 rfl (by intro r hr;simp at hr;subst hr;rfl) (by simp [maxLen])
 refine (jPD _ so ops w24 R.lst (hO.pure E2)).mono ?_
 rintro _ w25 ⟨r,rfl,E3⟩
 exact ⟨_,rfl,E3.keptP,j1 r H1 w25 (E2.trans E3)⟩
end Go.Proofs
end
section
namespace Go.SE
open Go.ChangeShapes Go.WideShapes Go.ChangeAt Go.RowKit
section
variable {H:Type} {enc:TypeId×Value→H} {P:Program}
theorem jCJ (hl:laidOutB P=true) {W W':World} (hb:Below W.heap.size W W'):∀(ts:List TypeId) (vs:List Value) (ds:List (DataW H)) (ps:List MemPlace),(ts.all fun t=>P.readableRec t && decide (t<P.types.size))=true →
  DataW.TrodAll enc P W 0 (fun _=>true) true ts vs ds ps→(∀x∈ps,x.block<W.heap.size)→DataW.TrodAll enc P W' 0 (fun b=>decide (b<W.heap.size)) true ts vs ds ps
 | [],_,_,_,_,h,_=>by
  obtain ⟨rfl,rfl,rfl⟩:=trodAll_nil h;exact h
 | t :: ts,_,_,_,hr,h,hlt=>by
  obtain ⟨v,vs1,d,ds1,a,b,rfl,rfl,rfl,h1,h2⟩:=trodAll_cons h;simp only [List.all_cons,Bool.and_eq_true,decide_eq_true_eq] at hr;exact ⟨a,b,Below.trod hl hr.1.1 hr.1.2 h1 hb (fun x hx=>hlt x (by simp [hx])),jCJ hl hb ts vs1 ds1 b (by simpa using hr.2) h2 (fun x hx=>hlt x (by simp [hx])),rfl⟩
theorem jTW {f:Func} {s:ChangeSpec} {W W':World} {args:Array Value} {ds gs:List (DataW H)} {before:List MemPlace} {t:TypeId} (hl:laidOutB P=true)
  (hv:s.vars=[]) (hf:∀ds:List (DataW H),ds.length=f.params.size→s.fn H ds={ results:=[.lit (.bool true)],args:=ds }) (hrt:f.resultTypes=#[t]) (ht:P.underlying t=some .bool)
  (hr:(f.params.toList.all fun t=>P.readableRec t && decide (t<P.types.size))=true)
  (hW:DataW.Whole enc P f.params.toList s.vars false W args.toList ds gs before) (E:Pure W W') :
  s.post enc P f false true false false W args (.bool true) W':=by
 have hW':=hW
 obtain ⟨p,q,hA,hV,rfl,hfz,hnd⟩:=hW
 rw [hv] at hV
 obtain ⟨rfl,rfl⟩:=trodVars_none hV
 have hlen:ds.length=f.params.size:=by
  have:∀(ts:List TypeId) (vs:List Value) (ds:List (DataW H)) (ps:List MemPlace),DataW.TrodAll enc P W 0 (fun _=>true) true ts vs ds ps→ds.length=ts.length:=by
   intro ts;induction ts with
   | nil=>intro vs ds ps h;obtain ⟨_,rfl,_⟩:=trodAll_nil h;rfl
   | cons t ts ih =>
    intro vs ds ps h
    obtain ⟨v,vs1,d,ds1,a,b,_,rfl,_,_,h2⟩:=trodAll_cons h
    simp [ih _ _ _ h2]
  simpa using this _ _ _ _ hA
 have hfn:=hf ds hlen
 have hfn':s.fn H (ds++[])={ results:=[.lit (.bool true)],args:=ds }:=by rw [List.append_nil];exact hfn
 have hlt:∀x∈p,x.block<W.heap.size:=fun x hx=>by simpa using hW'.lt x (by simp [hx])
 have bel:=E.below
 refine ⟨ds,[],p++[],[],p,[],hW',?_,?_,?_,bel.frame _,fun h=>by cases h⟩
 ·rw [hfn',hrt];exact trodAll_mk1 (shut_bool ht _)
 ·rw [hfn'];exact jCJ hl bel _ _ _ _ hr hA hlt
 ·rw [hfn',hv];exact hV
theorem jOU {C:Checked} {os:Os} {f:FuncId} {fn:Func} {s:ChangeSpec} {t:TypeId} (hl:laidOutB C.prog=true)
  (hv:s.vars=[]) (hf:∀ds:List (DataW H),ds.length=fn.params.size→s.fn H ds={ results:=[.lit (.bool true)],args:=ds }) (hrt:fn.resultTypes=#[t]) (ht:C.prog.underlying t=some .bool)
  (hr:(fn.params.toList.all fun t=>C.prog.readableRec t && decide (t<C.prog.types.size))=true)
  (own:ownKnob C.prog.godebug=none) (started:os.Started) (noInit:C.prog.inits.idxOf? f=none) (hfn:C.prog.funcs[f]?=some fn)
  (witness:∃(w:World) (tape:Tape) (i:Input),w.os=os∧(w.forCall tape i).Shaped C.prog∧i.vars=[]∧Input.okWide C.prog (w.forCall tape i) .any w.heap.size f i ∧
   s.pre6 enc C.prog fn [] false (w.forCall tape i).memory i.args∧({}:Assume).holds C.prog (lone (Frame.enter C.prog f i.args .normal) [] (w.forCall tape i)))
  (contract:∀(W:World) (base:Nat) (args:Array Value) (ds:List (DataW H)) (p:List MemPlace),
   (∀(j:Nat) t v,fn.params[j]?=some t→args[j]?=some v→Value.okWide C.prog W .any base t v) →
   DataW.TrodAll enc C.prog W 0 (fun _=>true) true fn.params.toList args.toList ds p→(∀x∈p,x.block<W.heap.size) →
   Calls C.prog f args W (fun e W'=>∃r:Bool,e=.returned (.bool r)∧(r=true∧Pure W W'))) :
  ReturnsInHanded {} C os f .any (s.pre6 enc C.prog fn [] false) (s.post enc C.prog fn false true false false):=by
 refine returnsInHanded_of_change own started noInit hfn witness ?_
 intro W base args ds gs before hval hW _ _
 have hW':=hW
 obtain ⟨p,q,hA,hV,rfl,hfz,hnd⟩:=hW
 refine (contract W base args ds p hval hA (fun x hx=>by simpa using hW'.lt x (by simp [hx]))).mono fun e W' ⟨r,he,h1,h2⟩=>?_
 subst h1
 exact ⟨_,he,jTW hl hv hf hrt ht hr hW' h2⟩
end
end Go.SE
namespace Go.SE
open Go.ChangeShapes Go.WideShapes Go.ChangeAt Go.RowKit
section
variable {P:Program} {W:World} {r:Reach} {b0:Nat} {t:TypeId} {v:Value}
theorem jJB {fs:Array Field} {ts:List TypeId} (ht:P.underlying t=some (.struct fs)) (hc:P.cellTypes P.depth t=some ts) (hn:P.cellsOf t=ts.length) (h:Value.okWide P W r b0 t v) :
  ∃cs:Array Value,v=.agg cs∧cs.size=ts.length∧∀(i:Nat) (u:TypeId) (c:Value),ts[i]?=some u→cs[i]?=some c→Cell.okWide P W r b0 u c:=by
 unfold Value.okWide at h
 rw [ht] at h
 obtain ⟨cs,rfl,hs,ts',hts,_,hall⟩:=h
 rw [hc] at hts
 cases hts
 refine ⟨cs,rfl,hs.trans hn,fun i u c hu hcs=>?_⟩
 obtain ⟨u',hu',hok⟩:=hall i c hcs
 have hlt:i<ts.length:=(List.getElem?_eq_some_iff.1 hu).1
 rw [Nat.mod_eq_of_lt hlt,hu] at hu'
 cases hu'
 exact hok
theorem jHU (ht:P.underlying t=some .string) (h:Cell.okWide P W r b0 t v):∃x,v=.string x:=by
 have:Value.okWide P W r b0 t v:=by unfold Value.okWide;rw [ht];exact h
 unfold Cell.okWide at h;rw [ht] at h;cases v <;> simp [Cell.ok,ht] at h;exact ⟨_,rfl⟩
theorem jQW {e:TypeId} (ht:P.underlying t=some (.slice e)) (h:Value.okWide P W r b0 t v):∃a n c,v=.slice a n c:=by
 unfold Value.okWide at h;rw [ht] at h;simp only at h;unfold Cell.okWide at h;rw [ht] at h;cases v <;> simp [Cell.ok,ht] at h;exact ⟨_,_,_,rfl⟩
end
end Go.SE
end
section
open Go Go.SE
namespace Go.Proofs
theorem jCR {α β:Type} {f:α→Option β}:∀{l:List α} {r:List β},l.mapM f=some r→r.length=l.length∧∀(i:Nat) (a:α),l[i]?=some a→∃b,f a=some b∧r[i]?=some b
 | [],r,h=>by
  have:r=[]:=by simpa using h.symm
  subst this;exact ⟨rfl,fun i a h=>by simp at h⟩
 | x :: xs,r,h=>by
  rw [List.mapM_cons] at h;cases hx:f x with
  | none=>simp [hx] at h
  | some y =>
   cases hxs:xs.mapM f with
   | none=>simp [hx,hxs] at h
   | some ys =>
    have:r=y :: ys:=by simpa [hx,hxs] using h.symm
    subst this
    obtain ⟨h1,h2⟩:=jCR hxs
    refine ⟨by simp [h1],fun i a ha=>?_⟩
    cases i with
    | zero=>cases ha;exact ⟨y,hx,rfl⟩
    | succ i=>exact h2 i a (by simpa using ha)
theorem jSA {w:World} {base:Nat} {a:Addr} {n:Nat} {cs:List Value} (h:w.cells? base a n=some cs):cs.length=n∧Row w a cs:=by
 obtain ⟨_,h1,h2⟩:=World.cells?_some h;exact ⟨h1,fun j hj=>h2 j (by omega)⟩
section
variable {H:Type} {enc:TypeId×Value→H} {P:Program} {W:World} {base:Nat} {sp:Nat→Bool} {held:Bool}
theorem tP {t:TypeId} {k:IntKind} (ht:P.underlying t=some (.int k)) {n:Nat} {c:Value} {x:DataW H×List MemPlace} (h:DataW.trod enc P W base sp held n t [c]=some x):∃m,c=.int k m:=by
 cases n with
 | zero=>cases h
 | succ n =>
  rw [DataW.trod_step] at h
  unfold DataW.trodStep at h
  rw [ht] at h
  cases c <;> simp at h
  obtain ⟨⟨rfl,_⟩,_⟩:=h
  exact ⟨_,rfl⟩
theorem jSU {t:TypeId} (ht:P.underlying t=some (.int .u64)) {n:Nat} {c:Value} {x:DataW H×List MemPlace} (h:DataW.trod enc P W base sp held n t [c]=some x):∃m,c=.int .u64 m∧Sp.uO m:=by
 cases n with
 | zero=>cases h
 | succ n =>
  rw [DataW.trod_step] at h
  unfold DataW.trodStep at h
  rw [ht] at h
  cases c with
  | int k z =>
   simp only at h
   split at h
   ·rename_i hw
    obtain ⟨rfl,hw⟩:=hw
    have h1:IntKind.u64.min=0:=by rfl
    have h2:IntKind.u64.max=18446744073709551615:=by rfl
    simp only [Lit.wf,Bool.and_eq_true,decide_eq_true_eq,h1,h2] at hw
    exact ⟨z,rfl,by omega,by omega⟩
   ·cases h
  | _=>simp at h
theorem jIL {t:TypeId} (ht:P.underlying t=some .string) {n:Nat} {c:Value} {x:DataW H×List MemPlace} (h:DataW.trod enc P W base sp held n t [c]=some x):∃m,c=.string m:=by
 cases n with
 | zero=>cases h
 | succ n =>
  rw [DataW.trod_step] at h
  unfold DataW.trodStep at h
  rw [ht] at h
  cases c <;> simp at h
  exact ⟨_,rfl⟩
theorem jLC {t e:TypeId} (ht:P.underlying t=some (.slice e)) {n:Nat} {c:Value} {x:DataW H×List MemPlace} (h:DataW.trod enc P W base sp held (n+1) t [c]=some x) :
  c=.slice none 0 0∨∃a len cap,c=.slice (some a) len cap∧len≤cap∧cap≤maxLen∧∀i,i<len→∃cs y,W.cells? base (a.add (i*P.cellsOf e)) (P.cellsOf e)=some cs∧DataW.trod enc P W base sp held n e cs=some y:=by
 rw [DataW.trod_step] at h
 unfold DataW.trodStep at h
 rw [ht] at h
 cases c with
 | slice a len cap =>
  cases a with
  | none =>
   cases len with
   | zero=>cases cap with
    | zero=>exact .inl rfl
    | succ c=>simp at h
   | succ l=>simp at h
  | some a =>
   right
   simp only at h
   split at h
   ·rename_i hc
    refine ⟨a,len,cap,rfl,hc.2.1,hc.2.2,fun i hi=>?_⟩
    cases hm:(List.range len).mapM fun i=>(W.cells? base (a.add (i*P.cellsOf e)) (P.cellsOf e)).bind (DataW.trod enc P W base sp held n e) with
    | none=>rw [hm] at h;cases h
    | some r =>
     obtain ⟨b,hb,_⟩:=(jCR hm).2 i i (by simp [hi])
     obtain ⟨cs,h1,h2⟩:=Option.bind_eq_some_iff.1 hb
     exact ⟨cs,b,h1,h2⟩
   ·cases h
 | _=>simp at h
end
section
variable {H:Type} {enc:TypeId×Value→H} {P:Program} {W:World} {base:Nat} {sp:Nat→Bool} {held:Bool}
theorem row_lt {a:Addr} {v:Value} {vs:List Value} (h:Row W a (v :: vs)):a.block<W.heap.size:=by
 have:=h 0 (by simp);have:=World.block_lt_of_cell? W (a.add 0) this;rwa [zV] at this
theorem jJH {α:Type} {tS e:TypeId} {sz:Nat} {f:α→List Value} (hS:P.underlying tS=some (.slice e)) (hc:P.cellsOf e=sz) (hf:∀a,∃v vs,f a=v :: vs) (x0:α)
  (hel:∀(n:Nat) (cs:List Value) (x:DataW H×List MemPlace),DataW.trod enc P W base sp held n e cs=some x→∃a,cs=f a) {n:Nat} {c:Value} {x:DataW H×List MemPlace} (h:DataW.trod enc P W base sp held n tS [c]=some x) :
  ∃s:Sl,∃xs:List α,c=s.v∧Lst (fun b=>b<W.heap.size) W sz s (xs.map f):=by
 cases n with
 | zero=>cases h
 | succ n =>
  rcases jLC hS h with rfl | ⟨a,len,cap,rfl,hle,hcm,hall⟩
  ·exact ⟨Sl.nil,[],rfl,⟨rfl,fun i hi=>by simp at hi⟩⟩
  ·rw [hc] at hall
   have hex:∀i,∃q:α,i<len→Row W (a.add (i*sz)) (f q):=by
    intro i;by_cases hi:i<len
    ·obtain ⟨cs,y,h1,h2⟩:=hall i hi;obtain ⟨q,rfl⟩:=hel n cs y h2;exact ⟨q,fun _=>(jSA h1).2⟩
    ·exact ⟨x0,fun h=>absurd h hi⟩
   obtain ⟨q,hq⟩:=Classical.axiomOfChoice hex
   refine ⟨⟨some a,len,cap⟩,(List.range len).map q,rfl,⟨by simp,fun i hi=>?_⟩⟩
   have hi:i<len:=by simpa using hi
   have hr:=hq i hi
   obtain ⟨v,vs,e⟩:=hf (q i)
   refine ⟨a.add (i*sz),⟨by omega,by simpa using hi,a,rfl,by simp⟩,?_,by simpa using hr⟩
   rw [e] at hr;exact row_lt hr
theorem jEH {t:TypeId} {fs:Array Field} (ht:P.underlying t=some (.struct fs)) {n:Nat} {cs:List Value} {x:DataW H×List MemPlace} (h:DataW.trod enc P W base sp held n t cs=some x) :
  ∃m,cs.length=P.cellsOf t∧∀(i:Nat) (f:Field),fs.toList[i]?=some f→∃y,DataW.trod enc P W base sp held m f.type ((cs.drop f.offset).take (P.cellsOf f.type))=some y:=by
 cases n with
 | zero=>cases h
 | succ n =>
  rw [DataW.trod_step] at h
  unfold DataW.trodStep at h
  rw [ht] at h
  simp only at h
  split at h
  ·rename_i hl
   cases hm:fs.toList.mapM (fun f=>DataW.trod enc P W base sp held n f.type ((cs.drop f.offset).take (P.cellsOf f.type))) with
   | none=>rw [hm] at h;cases h
   | some r =>
    refine ⟨n,hl,fun i f hf=>?_⟩
    obtain ⟨b,hb,_⟩:=(jCR hm).2 i f hf
    exact ⟨b,hb⟩
  ·cases h
end
section
variable {H:Type} {enc:TypeId×Value→H} {W:World} {base:Nat} {sp:Nat→Bool} {held:Bool}
end
end Go.Proofs
end
section
open Go Go.SE
namespace Go.Proofs
open Tryz
section
variable {H:Type} {enc:TypeId×Value→H} {P:Program} {W:World} {base:Nat} {sp:Nat→Bool} {held:Bool}
end
theorem jHH {P:Program} {W:World} {r:Reach} {b0:Nat} {t:TypeId} {v:Value} (ht:P.underlying t=some .string) (h:Value.okWide P W r b0 t v):∃x,v=.string x :=
 jHU ht (by unfold Value.okWide at h;rw [ht] at h;exact h)
set_option maxRecDepth 100000 in
theorem jUG {H:Type} {enc:TypeId×Value→H} {W:World} {base:Nat} {sp:Nat→Bool} {held:Bool} {n:Nat} {cs:List Value} {x:DataW H×List MemPlace} (h:DataW.trod enc prog W base sp held n 25 cs=some x):∃who c:Int,∃y:ByteArray,cs=[.int .i64 who,.int .u64 c,.string y]∧Sp.uO c:=by
 obtain ⟨m,hl,hf⟩:=jEH underlying25 h;rw [show (prog.cellsOf 25)=3 by kernel_rfl] at hl;match cs,hl with
 | [c0,c1,c2],_ =>
  obtain ⟨_,h0⟩:=hf 0 _ rfl
  obtain ⟨_,h1⟩:=hf 1 _ rfl
  obtain ⟨_,h2⟩:=hf 2 _ rfl
  simp only [show (prog.cellsOf 3)=1 by kernel_rfl,show (prog.cellsOf 23)=1 by kernel_rfl,show (prog.cellsOf 9)=1 by kernel_rfl] at h0 h1 h2
  obtain ⟨m0,rfl⟩:=tP underlying3 h0
  obtain ⟨m1,rfl,hm⟩:=jSU underlying23 h1
  obtain ⟨m2,rfl⟩:=jIL underlying9 h2
  exact ⟨m0,m1,m2,rfl,hm⟩
set_option maxRecDepth 100000 in
theorem jOO {H:Type} {enc:TypeId×Value→H} {W:World} {base:Nat} {sp:Nat→Bool} {held:Bool} {n:Nat} {cs:List Value} {x:DataW H×List MemPlace} (h:DataW.trod enc prog W base sp held n 109 cs=some x):∃s,cs=jON s:=by
 obtain ⟨m,hl,hf⟩:=jEH underlying109 h;rw [show (prog.cellsOf 109)=5 by kernel_rfl] at hl;match cs,hl with
 | [c0,c1,c2,c3,c4],_ =>
  obtain ⟨_,h0⟩:=hf 0 _ rfl
  obtain ⟨_,h1⟩:=hf 1 _ rfl
  obtain ⟨_,h2⟩:=hf 2 _ rfl
  obtain ⟨_,h3⟩:=hf 3 _ rfl
  obtain ⟨_,h4⟩:=hf 4 _ rfl
  simp only [show (prog.cellsOf 3)=1 by kernel_rfl,show (prog.cellsOf 23)=1 by kernel_rfl,show (prog.cellsOf 9)=1 by kernel_rfl] at h0 h1 h2 h3 h4
  obtain ⟨m0,rfl⟩:=tP underlying3 h0
  obtain ⟨m1,rfl⟩:=tP underlying3 h1
  obtain ⟨m2,rfl⟩:=tP underlying3 h2
  obtain ⟨m3,rfl⟩:=tP underlying23 h3
  obtain ⟨m4,rfl⟩:=jIL underlying9 h4
  exact ⟨⟨m0,m1,m2,m3,m4⟩,rfl⟩
set_option maxRecDepth 100000 in
theorem ops_in {H:Type} {enc:TypeId×Value→H} {W:World} {base:Nat} {sp:Nat→Bool} {held:Bool} {n:Nat} {c:Value} {x:DataW H×List MemPlace} (h:DataW.trod enc prog W base sp held n 44 [c]=some x):∃s:Sl,∃l:List Sp.Op,c=s.v∧Lst (fun b=>b<W.heap.size) W 5 s (l.map jON) :=
 jJH (sz:=5) (f:=jON) underlying44 (by kernel_rfl) (fun a=>⟨_,_,rfl⟩) ⟨0,0,0,0,⟨#[]⟩⟩ (fun _ _ _ h=>jOO h) h
end Go.Proofs
end
